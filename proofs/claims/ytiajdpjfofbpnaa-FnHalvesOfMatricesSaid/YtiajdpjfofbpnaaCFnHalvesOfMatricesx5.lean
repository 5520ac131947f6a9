-- Written by a program of this session (wip/xprint.py) that drives the kit's print; the contracts of what it does not take are this session's own.
import Derived.Test.YtiajdpjfofbpnaaCFnHalvesOfMatricesx0
import Derived.Test.YtiajdpjfofbpnaaCFnHalvesOfMatricesx1
import Derived.Test.YtiajdpjfofbpnaaCFnHalvesOfMatricesx2
import Derived.Test.YtiajdpjfofbpnaaCFnHalvesOfMatricesx3
import Derived.Test.YtiajdpjfofbpnaaCFnHalvesOfMatricesx4
namespace Go.Proofs.Ytiajdpjfofbpnaa.X
open Go.RowKit Go.Proofs.YtiajdpjfofbpnaaW.PrintWords Go.Proofs.YtiajdpjfofbpnaaW.PrintLast Go.Proofs.YtiajdpjfofbpnaaW.PrintMore
attribute [local go_sem] max2_int min2_int max_two min_two max_three min_three max_four min_four   -- for this text's walks alone
set_option linter.unusedVariables false
set_option linter.unusedSimpArgs false

/-! ### laws_uSame: function 43 -/
def laws_uSame.l0 : Nat → List Int → List Int → Int → Int → Option (Bool)
 | 0, _, _, _, _ => none
 | k + 1, x0, x1, x12, x13 => if x13 < x12 then (if 0 ≤ x13 then (if x13 < (x0.length : Int) then (if x13 < (x1.length : Int) then (if (rd x0 x13) = (rd x1 x13) then (laws_uSame.l0 k x0 x1 x12 (wrap64 (x13 + 1))) else (some false)) else (none)) else (none)) else (none)) else (some true)
def laws_uSame.f (k : Nat) (l0 : List Int) (l1 : List Int) : Option (Bool) := if (l0.length : Int) = (l1.length : Int) then (laws_uSame.l0 k l0 l1 (l0.length : Int) 0) else (some false)
set_option maxHeartbeats 8000000 in
set_option maxRecDepth 100000 in
theorem laws_uSame.calls (k : Nat) (A0 : Option Addr) (c0 : Nat) (l0 : List Int) (A1 : Option Addr) (c1 : Nat) (l1 : List Int) (r : Bool) (w : World) (hr0 : Kd.C (Kd.int .i64) w A0 l0.length l0) (hc0 : l0.length ≤ c0) (hr1 : Kd.C (Kd.int .i64) w A1 l1.length l1) (hc1 : l1.length ≤ c1) (h : laws_uSame.f k l0 l1 = some r) :
  Calls Try.prog 43 #[.slice A0 l0.length c0, .slice A1 l1.length c1] w fun e w' => e = .returned (.bool r) ∧ Drawn0 w w' := by
 have HR0 := am_ hr0
 have HC0 := am_ hc0
 clear hr0 hc0
 have HR1 := am_ hr1
 have HC1 := am_ hc1
 clear hr1 hc1
 have H : (if (l0.length : Int) = (l1.length : Int) then (laws_uSame.l0 k l0 l1 (l0.length : Int) 0) else (some false)) = some r := h
 clear h
 by_cases c3 : (l0.length : Int) = (l1.length : Int)
 ·rw [if_pos c3] at H
  have c3b0 : ((l0.length : Int) == (l1.length : Int)) = true := beq_iff_eq.mpr c3
  have c3b1 : ((l0.length : Int) != (l1.length : Int)) = false := bne_eq_false_iff_eq.mpr c3
  have c3b2 : (l0.length == l1.length) = true := by first | simpa using c3 | (simp at c3 ⊢; omega)
  clear c3
  have H' := am_ H
  clear H
  go_enter Try.func43, Try.ntmps43
  go_wp2
  repeat (go_quiet (fail); try go_wp2)
  go_loopg [13] k (fun kq v13 w' => ∃ (x13_1 : Int), v13 = .int .i64 x13_1 ∧ Aside0 (laws_uSame.l0 kq l0 l1 (l0.length : Int) x13_1 = some r) ∧ Aside0 (kq ≤ k) ∧ Drawn0 w w')
  case atStart => exact ⟨(0), tc9_, H', ⟨Nat.le_refl _⟩, by repeat (first | exact Drawn0.refl _ | apply Drawn0.step)⟩
  case round =>
   clear H'
   try clear c1
   try clear p2
   try clear c3
   try clear c3b0
   try clear c3b1
   try clear c3b2
   obtain ⟨x13_1, rfl, HA, HK1, ⟨m1, rfl⟩⟩ := hrel
   cases gk with
   | zero => exact absurd HA.out (by simp [laws_uSame.l0])
   | succ k1 =>
    have H := HA.out
    clear HA
    simp only [laws_uSame.l0] at H
    by_cases c4 : x13_1 < (l0.length : Int)
    ·rw [if_pos c4] at H
     have c4b0 : decide (x13_1 < (l0.length : Int)) = true := decide_eq_true c4
     clear c4
     by_cases c5 : 0 ≤ x13_1
     ·rw [if_pos c5] at H
      have c5b0 : decide (0 ≤ x13_1) = true := decide_eq_true c5
      clear c5
      by_cases c6 : x13_1 < (l0.length : Int)
      ·rw [if_pos c6] at H
       have c6b0 : decide (x13_1 < (l0.length : Int)) = true := decide_eq_true c6
       clear c6
       by_cases c7 : x13_1 < (l1.length : Int)
       ·rw [if_pos c7] at H
        have c7b0 : decide (x13_1 < (l1.length : Int)) = true := decide_eq_true c7
        clear c7
        by_cases c8 : (rd l0 x13_1) = (rd l1 x13_1)
        ·rw [if_pos c8] at H
         have c8b0 : ((rd l0 x13_1) == (rd l1 x13_1)) = true := beq_iff_eq.mpr c8
         have c8b1 : ((rd l0 x13_1) != (rd l1 x13_1)) = false := bne_eq_false_iff_eq.mpr c8
         clear c8
         have H' := am_ H
         clear H
         have p101 : 0 ≤ (x13_1 : Int) := of_decide_eq_true tc2_
         have q101 : x13_1 < (l0.length : Int) := of_decide_eq_true tc2_
         obtain ⟨ad101, e101, hx101_0⟩ := Kd.at_int HR0.out x13_1 p101 q101
         cases e101
         replace p101 := eq_true p101
         replace q101 := eq_true q101
         have p102 : 0 ≤ (x13_1 : Int) := of_decide_eq_true tc2_
         have q102 : x13_1 < (l1.length : Int) := of_decide_eq_true tc2_
         obtain ⟨ad102, e102, hx102_0⟩ := Kd.at_int HR1.out x13_1 p102 q102
         cases e102
         replace p102 := eq_true p102
         replace q102 := eq_true q102
         go_wp2
         repeat (go_quiet (fail); try go_wp2)
         go_roundg k1
         case measure => have := HK1.out; omega
         case rel => exact ⟨(wrap64 (x13_1 + 1)), tc9_, H', ⟨by have := HK1.out; omega⟩, by repeat (first | exact Drawn0.refl _ | apply Drawn0.step)⟩
        ·rw [if_neg c8] at H
         have c8b0 : ((rd l0 x13_1) == (rd l1 x13_1)) = false := beq_eq_false_iff_ne.mpr c8
         have c8b1 : ((rd l0 x13_1) != (rd l1 x13_1)) = true := bne_iff_ne.mpr c8
         obtain rfl := Option.some.inj H
         have p101 : 0 ≤ (x13_1 : Int) := of_decide_eq_true tc2_
         have q101 : x13_1 < (l0.length : Int) := of_decide_eq_true tc2_
         obtain ⟨ad101, e101, hx101_0⟩ := Kd.at_int HR0.out x13_1 p101 q101
         cases e101
         replace p101 := eq_true p101
         replace q101 := eq_true q101
         have p102 : 0 ≤ (x13_1 : Int) := of_decide_eq_true tc2_
         have q102 : x13_1 < (l1.length : Int) := of_decide_eq_true tc2_
         obtain ⟨ad102, e102, hx102_0⟩ := Kd.at_int HR1.out x13_1 p102 q102
         cases e102
         replace p102 := eq_true p102
         replace q102 := eq_true q102
         go_wp2
         repeat (go_quiet (fail); try go_wp2)
         go_ret
         exact ⟨by first | rfl | (simp; done) | (simp [*]; done), by repeat (first | exact Drawn0.refl _ | apply Drawn0.step)⟩
       ·rw [if_neg c7] at H
        exact absurd H (by simp)
      ·rw [if_neg c6] at H
       exact absurd H (by simp)
     ·rw [if_neg c5] at H
      exact absurd H (by simp)
    ·rw [if_neg c4] at H
     have c4b0 : decide (x13_1 < (l0.length : Int)) = false := decide_eq_false c4
     clear c4
     obtain rfl := Option.some.inj H
     go_wp2
     repeat (go_quiet (fail); try go_wp2)
     go_ret
     exact ⟨by first | rfl | (simp; done) | (simp [*]; done), by repeat (first | exact Drawn0.refl _ | apply Drawn0.step)⟩
 ·rw [if_neg c3] at H
  have c3b0 : ((l0.length : Int) == (l1.length : Int)) = false := beq_eq_false_iff_ne.mpr c3
  have c3b1 : ((l0.length : Int) != (l1.length : Int)) = true := bne_iff_ne.mpr c3
  have c3b2 : (l0.length == l1.length) = false := by first | simpa using c3 | (simp at c3 ⊢; omega)
  obtain rfl := Option.some.inj H
  go_enter Try.func43, Try.ntmps43
  go_wp2
  repeat (go_quiet (fail); try go_wp2)
  go_ret
  exact ⟨by first | rfl | (simp; done) | (simp [*]; done), by repeat (first | exact Drawn0.refl _ | apply Drawn0.step)⟩

/-! ### laws_uSameRows: function 42 -/
def laws_uSameRows.l0 : Nat → List (List Int) → List (List Int) → Int → Int → Option (Bool)
 | 0, _, _, _, _ => none
 | k + 1, x0, x1, x12, x13 => if x13 < x12 then (if 0 ≤ x13 then (if x13 < (x0.length : Int) then (if x13 < (x1.length : Int) then ((laws_uSame.f k (rd_L3 x0 x13) (rd_L3 x1 x13)).bind fun t103 => (if t103 = true then (laws_uSameRows.l0 k x0 x1 x12 (wrap64 (x13 + 1))) else (some false))) else (none)) else (none)) else (none)) else (some true)
def laws_uSameRows.f (k : Nat) (l0 : List (List Int)) (l1 : List (List Int)) : Option (Bool) := if (l0.length : Int) = (l1.length : Int) then (laws_uSameRows.l0 k l0 l1 (l0.length : Int) 0) else (some false)
set_option maxHeartbeats 8000000 in
set_option maxRecDepth 100000 in
theorem laws_uSameRows.calls (k : Nat) (A0 : Option Addr) (c0 : Nat) (l0 : List (List Int)) (A1 : Option Addr) (c1 : Nat) (l1 : List (List Int)) (r : Bool) (w : World) (hr0 : Kd.C (Kd.slice 3 (Kd.int .i64)) w A0 l0.length l0) (hc0 : l0.length ≤ c0) (hr1 : Kd.C (Kd.slice 3 (Kd.int .i64)) w A1 l1.length l1) (hc1 : l1.length ≤ c1) (h : laws_uSameRows.f k l0 l1 = some r) :
  Calls Try.prog 42 #[.slice A0 l0.length c0, .slice A1 l1.length c1] w fun e w' => e = .returned (.bool r) ∧ Drawn0 w w' := by
 have HR0 := am_ hr0
 have HC0 := am_ hc0
 clear hr0 hc0
 have HR1 := am_ hr1
 have HC1 := am_ hc1
 clear hr1 hc1
 have H : (if (l0.length : Int) = (l1.length : Int) then (laws_uSameRows.l0 k l0 l1 (l0.length : Int) 0) else (some false)) = some r := h
 clear h
 by_cases c3 : (l0.length : Int) = (l1.length : Int)
 ·rw [if_pos c3] at H
  have c3b0 : ((l0.length : Int) == (l1.length : Int)) = true := beq_iff_eq.mpr c3
  have c3b1 : ((l0.length : Int) != (l1.length : Int)) = false := bne_eq_false_iff_eq.mpr c3
  have c3b2 : (l0.length == l1.length) = true := by first | simpa using c3 | (simp at c3 ⊢; omega)
  clear c3
  have H' := am_ H
  clear H
  go_enter Try.func42, Try.ntmps42
  go_wp2
  repeat (go_quiet (fail); try go_wp2)
  go_loopg [13] k (fun kq v13 w' => ∃ (x13_1 : Int), v13 = .int .i64 x13_1 ∧ Aside0 (laws_uSameRows.l0 kq l0 l1 (l0.length : Int) x13_1 = some r) ∧ Aside0 (kq ≤ k) ∧ Drawn0 w w')
  case atStart => exact ⟨(0), tc9_, H', ⟨Nat.le_refl _⟩, by repeat (first | exact Drawn0.refl _ | apply Drawn0.step)⟩
  case round =>
   clear H'
   try clear c1
   try clear p2
   try clear c3
   try clear c3b0
   try clear c3b1
   try clear c3b2
   obtain ⟨x13_1, rfl, HA, HK1, ⟨m1, rfl⟩⟩ := hrel
   cases gk with
   | zero => exact absurd HA.out (by simp [laws_uSameRows.l0])
   | succ k1 =>
    have H := HA.out
    clear HA
    simp only [laws_uSameRows.l0] at H
    by_cases c4 : x13_1 < (l0.length : Int)
    ·rw [if_pos c4] at H
     have c4b0 : decide (x13_1 < (l0.length : Int)) = true := decide_eq_true c4
     clear c4
     by_cases c5 : 0 ≤ x13_1
     ·rw [if_pos c5] at H
      have c5b0 : decide (0 ≤ x13_1) = true := decide_eq_true c5
      clear c5
      by_cases c6 : x13_1 < (l0.length : Int)
      ·rw [if_pos c6] at H
       have c6b0 : decide (x13_1 < (l0.length : Int)) = true := decide_eq_true c6
       clear c6
       by_cases c7 : x13_1 < (l1.length : Int)
       ·rw [if_pos c7] at H
        have c7b0 : decide (x13_1 < (l1.length : Int)) = true := decide_eq_true c7
        clear c7
        replace H := Option.bind_eq_some_iff.mp H
        obtain ⟨t103, A80, H⟩ := H
        replace H : (if t103 = true then (laws_uSameRows.l0 k1 l0 l1 (l0.length : Int) (wrap64 (x13_1 + 1))) else (some false)) = some r := H
        have A8 := am_ A80
        clear A80
        by_cases c9 : t103 = true
        ·subst c9
         have H1 : (laws_uSameRows.l0 k1 l0 l1 (l0.length : Int) (wrap64 (x13_1 + 1))) = some r := by rw [if_pos rfl] at H; exact H
         clear H
         have H := H1
         clear H1
         have H' := am_ H
         clear H
         have p101 : 0 ≤ (x13_1 : Int) := of_decide_eq_true tc2_
         have q101 : x13_1 < (l0.length : Int) := of_decide_eq_true tc2_
         obtain ⟨ad101, A101_0, c101_0, e101, hx101_0, hl101_0, hi101_0⟩ := at_L3 HR0.out x13_1 p101 q101
         cases e101
         have HR101_0 := am_ hi101_0
         have HC101_0 := am_ hl101_0
         clear hi101_0 hl101_0
         replace p101 := eq_true p101
         replace q101 := eq_true q101
         have p102 : 0 ≤ (x13_1 : Int) := of_decide_eq_true tc2_
         have q102 : x13_1 < (l1.length : Int) := of_decide_eq_true tc2_
         obtain ⟨ad102, A102_0, c102_0, e102, hx102_0, hl102_0, hi102_0⟩ := at_L3 HR1.out x13_1 p102 q102
         cases e102
         have HR102_0 := am_ hi102_0
         have HC102_0 := am_ hl102_0
         clear hi102_0 hl102_0
         replace p102 := eq_true p102
         replace q102 := eq_true q102
         go_wp2_with (first | (go_at_call 43; (with_reducible refine (laws_uSame.calls k1 _ _ (rd_L3 l0 x13_1) _ _ (rd_L3 l1 x13_1) true _ ?side1 ?side2 ?side3 ?side4 A8.out).mono ?_); (case side1 => exact tc28_); (case side2 => exact HC101_0.out); (case side3 => exact tc29_); (case side4 => exact HC102_0.out); rintro e w' ⟨rfl, ⟨nd, rfl⟩⟩; (try first | exact ⟨rfl, _, World.drewN_drewN _ _ _⟩ | exact ⟨rfl, _, Eq.trans (World.drewN_drewN _ _ _) (congrArg (World.drewN _) (Nat.add_assoc _ _ _))⟩)))
         repeat (go_quiet (first | (go_at_call 43; (with_reducible refine (laws_uSame.calls k1 _ _ (rd_L3 l0 x13_1) _ _ (rd_L3 l1 x13_1) true _ ?side1 ?side2 ?side3 ?side4 A8.out).mono ?_); (case side1 => exact tc28_); (case side2 => exact HC101_0.out); (case side3 => exact tc29_); (case side4 => exact HC102_0.out); rintro e w' ⟨rfl, ⟨nd, rfl⟩⟩; (try first | exact ⟨rfl, _, World.drewN_drewN _ _ _⟩ | exact ⟨rfl, _, Eq.trans (World.drewN_drewN _ _ _) (congrArg (World.drewN _) (Nat.add_assoc _ _ _))⟩))); try go_wp2_with (first | (go_at_call 43; (with_reducible refine (laws_uSame.calls k1 _ _ (rd_L3 l0 x13_1) _ _ (rd_L3 l1 x13_1) true _ ?side1 ?side2 ?side3 ?side4 A8.out).mono ?_); (case side1 => exact tc28_); (case side2 => exact HC101_0.out); (case side3 => exact tc29_); (case side4 => exact HC102_0.out); rintro e w' ⟨rfl, ⟨nd, rfl⟩⟩; (try first | exact ⟨rfl, _, World.drewN_drewN _ _ _⟩ | exact ⟨rfl, _, Eq.trans (World.drewN_drewN _ _ _) (congrArg (World.drewN _) (Nat.add_assoc _ _ _))⟩))))
         go_roundg k1
         case measure => have := HK1.out; omega
         case rel => exact ⟨(wrap64 (x13_1 + 1)), tc9_, H', ⟨by have := HK1.out; omega⟩, by repeat (first | exact Drawn0.refl _ | apply Drawn0.step)⟩
        ·replace c9 := Bool.eq_false_iff.mpr c9
         subst c9
         have H1 : (some false) = some r := by rw [if_neg (show ¬ (false = true) by decide)] at H; exact H
         clear H
         have H := H1
         clear H1
         obtain rfl := Option.some.inj H
         have p101 : 0 ≤ (x13_1 : Int) := of_decide_eq_true tc2_
         have q101 : x13_1 < (l0.length : Int) := of_decide_eq_true tc2_
         obtain ⟨ad101, A101_0, c101_0, e101, hx101_0, hl101_0, hi101_0⟩ := at_L3 HR0.out x13_1 p101 q101
         cases e101
         have HR101_0 := am_ hi101_0
         have HC101_0 := am_ hl101_0
         clear hi101_0 hl101_0
         replace p101 := eq_true p101
         replace q101 := eq_true q101
         have p102 : 0 ≤ (x13_1 : Int) := of_decide_eq_true tc2_
         have q102 : x13_1 < (l1.length : Int) := of_decide_eq_true tc2_
         obtain ⟨ad102, A102_0, c102_0, e102, hx102_0, hl102_0, hi102_0⟩ := at_L3 HR1.out x13_1 p102 q102
         cases e102
         have HR102_0 := am_ hi102_0
         have HC102_0 := am_ hl102_0
         clear hi102_0 hl102_0
         replace p102 := eq_true p102
         replace q102 := eq_true q102
         go_wp2_with (first | (go_at_call 43; (with_reducible refine (laws_uSame.calls k1 _ _ (rd_L3 l0 x13_1) _ _ (rd_L3 l1 x13_1) false _ ?side1 ?side2 ?side3 ?side4 A8.out).mono ?_); (case side1 => exact tc28_); (case side2 => exact HC101_0.out); (case side3 => exact tc29_); (case side4 => exact HC102_0.out); rintro e w' ⟨rfl, ⟨nd, rfl⟩⟩; (try first | exact ⟨rfl, _, World.drewN_drewN _ _ _⟩ | exact ⟨rfl, _, Eq.trans (World.drewN_drewN _ _ _) (congrArg (World.drewN _) (Nat.add_assoc _ _ _))⟩)))
         repeat (go_quiet (first | (go_at_call 43; (with_reducible refine (laws_uSame.calls k1 _ _ (rd_L3 l0 x13_1) _ _ (rd_L3 l1 x13_1) false _ ?side1 ?side2 ?side3 ?side4 A8.out).mono ?_); (case side1 => exact tc28_); (case side2 => exact HC101_0.out); (case side3 => exact tc29_); (case side4 => exact HC102_0.out); rintro e w' ⟨rfl, ⟨nd, rfl⟩⟩; (try first | exact ⟨rfl, _, World.drewN_drewN _ _ _⟩ | exact ⟨rfl, _, Eq.trans (World.drewN_drewN _ _ _) (congrArg (World.drewN _) (Nat.add_assoc _ _ _))⟩))); try go_wp2_with (first | (go_at_call 43; (with_reducible refine (laws_uSame.calls k1 _ _ (rd_L3 l0 x13_1) _ _ (rd_L3 l1 x13_1) false _ ?side1 ?side2 ?side3 ?side4 A8.out).mono ?_); (case side1 => exact tc28_); (case side2 => exact HC101_0.out); (case side3 => exact tc29_); (case side4 => exact HC102_0.out); rintro e w' ⟨rfl, ⟨nd, rfl⟩⟩; (try first | exact ⟨rfl, _, World.drewN_drewN _ _ _⟩ | exact ⟨rfl, _, Eq.trans (World.drewN_drewN _ _ _) (congrArg (World.drewN _) (Nat.add_assoc _ _ _))⟩))))
         go_ret
         exact ⟨by first | rfl | (simp; done) | (simp [*]; done), by repeat (first | exact Drawn0.refl _ | apply Drawn0.step)⟩
       ·rw [if_neg c7] at H
        exact absurd H (by simp)
      ·rw [if_neg c6] at H
       exact absurd H (by simp)
     ·rw [if_neg c5] at H
      exact absurd H (by simp)
    ·rw [if_neg c4] at H
     have c4b0 : decide (x13_1 < (l0.length : Int)) = false := decide_eq_false c4
     clear c4
     obtain rfl := Option.some.inj H
     go_wp2
     repeat (go_quiet (fail); try go_wp2)
     go_ret
     exact ⟨by first | rfl | (simp; done) | (simp [*]; done), by repeat (first | exact Drawn0.refl _ | apply Drawn0.step)⟩
 ·rw [if_neg c3] at H
  have c3b0 : ((l0.length : Int) == (l1.length : Int)) = false := beq_eq_false_iff_ne.mpr c3
  have c3b1 : ((l0.length : Int) != (l1.length : Int)) = true := bne_iff_ne.mpr c3
  have c3b2 : (l0.length == l1.length) = false := by first | simpa using c3 | (simp at c3 ⊢; omega)
  obtain rfl := Option.some.inj H
  go_enter Try.func42, Try.ntmps42
  go_wp2
  repeat (go_quiet (fail); try go_wp2)
  go_ret
  exact ⟨by first | rfl | (simp; done) | (simp [*]; done), by repeat (first | exact Drawn0.refl _ | apply Drawn0.step)⟩

/-! ### impl_FromLeftHalf_1: function 90 -/
def impl_FromLeftHalf_1.f (l0 : List Int) (a1_0 : Int) : Option (Bool) := some ((l0.length : Int) != (wrap64 (Int.tdiv a1_0 2)))
set_option maxHeartbeats 8000000 in
set_option maxRecDepth 100000 in
theorem impl_FromLeftHalf_1.calls (A0 : Option Addr) (c0 : Nat) (l0 : List Int) (B1 : Nat) (a1_0 : Int) (r : Bool) (w : World) (hr0 : Kd.C (Kd.int .i64) w A0 l0.length l0) (hc0 : l0.length ≤ c0) (hb1 : w.heap[B1]? = some (.cells #[.int .i64 a1_0] 3 (0, 0))) (h : impl_FromLeftHalf_1.f l0 a1_0 = some r) :
  Calls Try.prog 90 #[.slice A0 l0.length c0, .pointer (some ⟨B1, 0, none⟩)] w fun e w' => e = .returned (.bool r) ∧ Drawn0 w w' := by
 have HR0 := am_ hr0
 have HC0 := am_ hc0
 clear hr0 hc0
 have BK61 := am_ hb1
 clear hb1
 have H : (some ((l0.length : Int) != (wrap64 (Int.tdiv a1_0 2)))) = some r := h
 clear h
 obtain rfl := Option.some.inj H
 have hcz3_0 : w.cell? ⟨B1, 0, none⟩ = some (.int .i64 a1_0) := (blk_cell BK61.out 0).trans rfl
 have hfz3_0 := blk_frozen BK61.out 0
 go_enter Try.func90, Try.ntmps90
 go_wp2
 go_ret
 exact ⟨by first | rfl | (simp; done) | (simp [*]; done), by repeat (first | exact Drawn0.refl _ | apply Drawn0.step)⟩

/-! ### impl_FromLeftHalf_2: function 91 -/
def impl_FromLeftHalf_2.f (a0 : Int) (a1 : Int) (a2_0 : Int) (l3_0 : List (List Int)) : Option (Int) := if a1 < (wrap64 (Int.tdiv a2_0 2)) then (if 0 ≤ a0 then (if a0 < (l3_0.length : Int) then (if 0 ≤ a1 then (if a1 < ((rd_L3 l3_0 a0).length : Int) then (some (rd (rd_L3 l3_0 a0) a1)) else (none)) else (none)) else (none)) else (none)) else (if a1 > (wrap64 (Int.tdiv a2_0 2)) then (if 0 ≤ a0 then (if a0 < (l3_0.length : Int) then (if 0 ≤ (wrap64 ((wrap64 (a2_0 - 1)) - a1)) then (if (wrap64 ((wrap64 (a2_0 - 1)) - a1)) < ((rd_L3 l3_0 a0).length : Int) then (some (rd (rd_L3 l3_0 a0) (wrap64 ((wrap64 (a2_0 - 1)) - a1)))) else (none)) else (none)) else (none)) else (none)) else (some (wrap64 (1 - (wrap64 ((Int.tmod a0 2) * 2))))))
set_option maxHeartbeats 8000000 in
set_option maxRecDepth 100000 in
theorem impl_FromLeftHalf_2.calls (a0 : Int) (a1 : Int) (B2 : Nat) (a2_0 : Int) (B3 : Nat) (A3_0 : Option Addr) (c3_0 : Nat) (l3_0 : List (List Int)) (r : Int) (w : World) (hb2 : w.heap[B2]? = some (.cells #[.int .i64 a2_0] 3 (0, 0))) (hb3 : w.heap[B3]? = some (.cells #[.slice A3_0 l3_0.length c3_0] 28 (0, 0))) (hr3_0 : Kd.C (Kd.slice 3 (Kd.int .i64)) w A3_0 l3_0.length l3_0) (hc3_0 : l3_0.length ≤ c3_0) (h : impl_FromLeftHalf_2.f a0 a1 a2_0 l3_0 = some r) :
  Calls Try.prog 91 #[.int .i64 a0, .int .i64 a1, .pointer (some ⟨B2, 0, none⟩), .pointer (some ⟨B3, 0, none⟩)] w fun e w' => e = .returned (.int .i64 r) ∧ Drawn0 w w' := by
 have HR3_0 := am_ hr3_0
 have HC3_0 := am_ hc3_0
 clear hr3_0 hc3_0
 have BK62 := am_ hb2
 clear hb2
 have BK63 := am_ hb3
 clear hb3
 have H : (if a1 < (wrap64 (Int.tdiv a2_0 2)) then (if 0 ≤ a0 then (if a0 < (l3_0.length : Int) then (if 0 ≤ a1 then (if a1 < ((rd_L3 l3_0 a0).length : Int) then (some (rd (rd_L3 l3_0 a0) a1)) else (none)) else (none)) else (none)) else (none)) else (if a1 > (wrap64 (Int.tdiv a2_0 2)) then (if 0 ≤ a0 then (if a0 < (l3_0.length : Int) then (if 0 ≤ (wrap64 ((wrap64 (a2_0 - 1)) - a1)) then (if (wrap64 ((wrap64 (a2_0 - 1)) - a1)) < ((rd_L3 l3_0 a0).length : Int) then (some (rd (rd_L3 l3_0 a0) (wrap64 ((wrap64 (a2_0 - 1)) - a1)))) else (none)) else (none)) else (none)) else (none)) else (some (wrap64 (1 - (wrap64 ((Int.tmod a0 2) * 2))))))) = some r := h
 clear h
 by_cases c5 : a1 < (wrap64 (Int.tdiv a2_0 2))
 ·rw [if_pos c5] at H
  have c5b0 : decide (a1 < (wrap64 (Int.tdiv a2_0 2))) = true := decide_eq_true c5
  clear c5
  by_cases c6 : 0 ≤ a0
  ·rw [if_pos c6] at H
   have c6b0 : decide (0 ≤ a0) = true := decide_eq_true c6
   clear c6
   by_cases c7 : a0 < (l3_0.length : Int)
   ·rw [if_pos c7] at H
    have c7b0 : decide (a0 < (l3_0.length : Int)) = true := decide_eq_true c7
    clear c7
    by_cases c8 : 0 ≤ a1
    ·rw [if_pos c8] at H
     have c8b0 : decide (0 ≤ a1) = true := decide_eq_true c8
     clear c8
     by_cases c9 : a1 < ((rd_L3 l3_0 a0).length : Int)
     ·rw [if_pos c9] at H
      have c9b0 : decide (a1 < ((rd_L3 l3_0 a0).length : Int)) = true := decide_eq_true c9
      clear c9
      obtain rfl := Option.some.inj H
      have hcz10_0 : w.cell? ⟨B2, 0, none⟩ = some (.int .i64 a2_0) := (blk_cell BK62.out 0).trans rfl
      have hfz10_0 := blk_frozen BK62.out 0
      have hcz11_0 : w.cell? ⟨B3, 0, none⟩ = some (.slice A3_0 l3_0.length c3_0) := (blk_cell BK63.out 0).trans rfl
      have hfz11_0 := blk_frozen BK63.out 0
      have p101 : 0 ≤ (a0 : Int) := of_decide_eq_true tc2_
      have q101 : a0 < (l3_0.length : Int) := of_decide_eq_true tc2_
      obtain ⟨ad101, A101_0, c101_0, e101, hx101_0, hl101_0, hi101_0⟩ := at_L3 HR3_0.out a0 p101 q101
      cases e101
      have HR101_0 := am_ hi101_0
      have HC101_0 := am_ hl101_0
      clear hi101_0 hl101_0
      replace p101 := eq_true p101
      replace q101 := eq_true q101
      have p102 : 0 ≤ (a1 : Int) := of_decide_eq_true tc2_
      have q102 : a1 < ((rd_L3 l3_0 a0).length : Int) := of_decide_eq_true tc2_
      obtain ⟨ad102, e102, hx102_0⟩ := Kd.at_int HR101_0.out a1 p102 q102
      cases e102
      replace p102 := eq_true p102
      replace q102 := eq_true q102
      go_enter Try.func91, Try.ntmps91
      go_wp2
      repeat (go_quiet (fail); try go_wp2)
      go_ret
      exact ⟨by first | rfl | (simp; done) | (simp [*]; done), by repeat (first | exact Drawn0.refl _ | apply Drawn0.step)⟩
     ·rw [if_neg c9] at H
      exact absurd H (by simp)
    ·rw [if_neg c8] at H
     exact absurd H (by simp)
   ·rw [if_neg c7] at H
    exact absurd H (by simp)
  ·rw [if_neg c6] at H
   exact absurd H (by simp)
 ·rw [if_neg c5] at H
  have c5b0 : decide (a1 < (wrap64 (Int.tdiv a2_0 2))) = false := decide_eq_false c5
  clear c5
  by_cases c12 : a1 > (wrap64 (Int.tdiv a2_0 2))
  ·rw [if_pos c12] at H
   have c12b0 : decide ((wrap64 (Int.tdiv a2_0 2)) < a1) = true := decide_eq_true c12
   clear c12
   by_cases c13 : 0 ≤ a0
   ·rw [if_pos c13] at H
    have c13b0 : decide (0 ≤ a0) = true := decide_eq_true c13
    clear c13
    by_cases c14 : a0 < (l3_0.length : Int)
    ·rw [if_pos c14] at H
     have c14b0 : decide (a0 < (l3_0.length : Int)) = true := decide_eq_true c14
     clear c14
     obtain ⟨ji15, hji15⟩ : ∃ j_ : Int, (wrap64 ((wrap64 (a2_0 - 1)) - a1)) = j_ := ⟨_, rfl⟩
     replace H : (if 0 ≤ (ji15) then (if (ji15) < ((rd_L3 l3_0 a0).length : Int) then (some (rd (rd_L3 l3_0 a0) (ji15))) else (none)) else (none)) = some r := by first | (rw [hji15] at H; exact H) | (simp only [hji15] at H ⊢; exact H)
     have hji15w : (IntKind.i64.wrap ((wrap64 (a2_0 - 1)) - a1)) = ji15 := (i64_w _).trans hji15
     by_cases c16 : 0 ≤ (ji15)
     ·rw [if_pos c16] at H
      have c16b0 : decide (0 ≤ (ji15)) = true := decide_eq_true c16
      clear c16
      by_cases c17 : (ji15) < ((rd_L3 l3_0 a0).length : Int)
      ·rw [if_pos c17] at H
       have c17b0 : decide ((ji15) < ((rd_L3 l3_0 a0).length : Int)) = true := decide_eq_true c17
       clear c17
       obtain rfl := Option.some.inj H
       have hcz18_0 : w.cell? ⟨B2, 0, none⟩ = some (.int .i64 a2_0) := (blk_cell BK62.out 0).trans rfl
       have hfz18_0 := blk_frozen BK62.out 0
       have hcz19_0 : w.cell? ⟨B3, 0, none⟩ = some (.slice A3_0 l3_0.length c3_0) := (blk_cell BK63.out 0).trans rfl
       have hfz19_0 := blk_frozen BK63.out 0
       have p103 : 0 ≤ (a0 : Int) := of_decide_eq_true tc2_
       have q103 : a0 < (l3_0.length : Int) := of_decide_eq_true tc2_
       obtain ⟨ad103, A103_0, c103_0, e103, hx103_0, hl103_0, hi103_0⟩ := at_L3 HR3_0.out a0 p103 q103
       cases e103
       have HR103_0 := am_ hi103_0
       have HC103_0 := am_ hl103_0
       clear hi103_0 hl103_0
       replace p103 := eq_true p103
       replace q103 := eq_true q103
       have p104 : 0 ≤ ((ji15) : Int) := of_decide_eq_true tc2_
       have q104 : (ji15) < ((rd_L3 l3_0 a0).length : Int) := of_decide_eq_true tc2_
       obtain ⟨ad104, e104, hx104_0⟩ := Kd.at_int HR103_0.out (ji15) p104 q104
       cases e104
       replace p104 := eq_true p104
       replace q104 := eq_true q104
       go_enter Try.func91, Try.ntmps91
       go_wp2
       repeat (go_quiet (fail); try go_wp2)
       go_ret
       exact ⟨by first | rfl | (simp; done) | (simp only [← hji15] <;> (first | rfl | simp)) | (simp [*]; done), by repeat (first | exact Drawn0.refl _ | apply Drawn0.step)⟩
      ·rw [if_neg c17] at H
       exact absurd H (by simp)
     ·rw [if_neg c16] at H
      exact absurd H (by simp)
    ·rw [if_neg c14] at H
     exact absurd H (by simp)
   ·rw [if_neg c13] at H
    exact absurd H (by simp)
  ·rw [if_neg c12] at H
   have c12b0 : decide ((wrap64 (Int.tdiv a2_0 2)) < a1) = false := decide_eq_false c12
   clear c12
   obtain rfl := Option.some.inj H
   have hcz20_0 : w.cell? ⟨B2, 0, none⟩ = some (.int .i64 a2_0) := (blk_cell BK62.out 0).trans rfl
   have hfz20_0 := blk_frozen BK62.out 0
   go_enter Try.func91, Try.ntmps91
   go_wp2
   repeat (go_quiet (fail); try go_wp2)
   go_ret
   exact ⟨by first | rfl | (simp; done) | (simp [*]; done), by repeat (first | exact Drawn0.refl _ | apply Drawn0.step)⟩

/-! ### impl_FromLeftHalf: function 44 -/
def impl_FromLeftHalf.j0 : Nat → Bool → List (List Int) → Int → Option ((List (List Int)) × Bool)
 | 0, _, _, _ => none
 | k + 1, x25, x102000, x103000 => if x25 = true then (some (([] : List (List Int)), false)) else ((impl_table.f k x103000 x103000 (fun x0_ x1_ => impl_FromLeftHalf_2.f x0_ x1_ x103000 x102000)).bind fun t105 => ((impl_IsSignMatrix.f k t105).bind fun t108 => (if t108 = true then (some (t105, true)) else (some (([] : List (List Int)), false)))))
def impl_FromLeftHalf.f (k : Nat) (l0 : List (List Int)) : Option ((List (List Int)) × Bool) := (impl_isSide.f (l0.length : Int)).bind fun t103 => (if t103 = true then (if ((l0.length : Int) % 2) = 0 then (impl_FromLeftHalf.j0 k true l0 (l0.length : Int)) else (if (wrap64 ((l0.length : Int) / 2)) > 2 then (impl_FromLeftHalf.j0 k true l0 (l0.length : Int)) else ((slices_ContainsFunc_int_int.f k l0 (fun x0_ => impl_FromLeftHalf_1.f x0_ (l0.length : Int))).bind fun t104 => (impl_FromLeftHalf.j0 k t104 l0 (l0.length : Int))))) else (impl_FromLeftHalf.j0 k true l0 (l0.length : Int)))
set_option maxHeartbeats 8000000 in
set_option maxRecDepth 100000 in
theorem impl_FromLeftHalf.calls (k : Nat) (A0 : Option Addr) (c0 : Nat) (l0 : List (List Int)) (r1 : List (List Int)) (r2 : Bool) (w : World) (hr0 : Kd.C (Kd.slice 3 (Kd.int .i64)) w A0 l0.length l0) (hc0 : l0.length ≤ c0) (h : impl_FromLeftHalf.f k l0 = some (r1, r2)) :
  Calls Try.prog 44 #[.slice A0 l0.length c0] w fun e w' => ∃ v0_ : Value, e = .returned (.tuple #[v0_, .bool r2]) ∧ Kd.S (Kd.slice 3 (Kd.int .i64)) 24 w' w.heap.size (fun _ => True) v0_ r1 ∧ Below w.heap.size w w' := by
 have HR0 := am_ hr0
 have HC0 := am_ hc0
 clear hr0 hc0
 have HB := am_ (Below.refl w.heap.size w)
 have H : ((impl_isSide.f (l0.length : Int)).bind fun t103 => (if t103 = true then (if ((l0.length : Int) % 2) = 0 then (impl_FromLeftHalf.j0 k true l0 (l0.length : Int)) else (if (wrap64 ((l0.length : Int) / 2)) > 2 then (impl_FromLeftHalf.j0 k true l0 (l0.length : Int)) else ((slices_ContainsFunc_int_int.f k l0 (fun x0_ => impl_FromLeftHalf_1.f x0_ (l0.length : Int))).bind fun t104 => (impl_FromLeftHalf.j0 k t104 l0 (l0.length : Int))))) else (impl_FromLeftHalf.j0 k true l0 (l0.length : Int)))) = some (r1, r2) := h
 clear h
 have HC2 := am_ H
 clear H
 go_enter Try.func44, Try.ntmps44
 go_upto_region 2 with (first | ((with_reducible refine gate_dst (N := 1) rfl ?_); refine box_event ?hg (N := 1) ?hd (cs := #[.slice A0 l0.length c0]) (t := 28) ?hr ?_; (case hd => rfl); (case hg => rfl); (case hr => exact tc22_); intro gb101 hg w3 hbox hb; have n0_ := am_ (below_step tc0_ hb); have n1_ := am_ (hbox); have n2_ := am_ ((by rw [hg]; exact (below_size tc0_) : w.heap.size ≤ gb101)); have n3_ := am_ ((by rw [hg]; exact (below_size tc0_) : w.heap.size ≤ gb101)); clear HB; have HB := n0_; have BK101 := n1_; have GW101 := n2_; have GE101 := n3_; clear n0_ n1_ n2_ n3_; clear hb hbox hg; have hcz4_0 : w3.cell? ⟨gb101, 0, none⟩ = some (.slice A0 l0.length c0) := (blk_cell BK101.out 0).trans rfl; have hfz4_0 := blk_frozen BK101.out 0) | ((with_reducible refine gate_dst (N := 4) rfl ?_); refine box_event ?hg (N := 4) ?hd (cs := #[.int .i64 0]) (t := 3) ?hr ?_; (case hd => rfl); (case hg => rfl); (case hr => exact tc22_); intro gb102 hg w5 hbox hb; have n0_ := am_ (blk_below (g := gb101) (o := .cells #[.slice A0 l0.length c0] 28 (0, 0)) tc8_ hb); have n1_ := am_ (below_step tc7_ hb); have n2_ := am_ (hbox); have n3_ := am_ ((by rw [hg]; exact (below_size tc7_) : w.heap.size ≤ gb102)); have n4_ := am_ ((by rw [hg]; exact (below_size tc7_) : w.heap.size ≤ gb102)); have n5_ := am_ ((by rw [hg]; exact Nat.ne_of_lt (blk_lt (g := gb101) (o := .cells #[.slice A0 l0.length c0] 28 (0, 0)) tc8_) : gb101 ≠ gb102)); have n6_ := am_ ((by rw [hg]; exact Nat.ne_of_gt (blk_lt (g := gb101) (o := .cells #[.slice A0 l0.length c0] 28 (0, 0)) tc8_) : gb102 ≠ gb101)); clear BK101 HB; have BK101 := n0_; have HB := n1_; have BK102 := n2_; have GW102 := n3_; have GE102 := n4_; have NB101_102 := n5_; have NB102_101 := n6_; clear n0_ n1_ n2_ n3_ n4_ n5_ n6_; clear hb hbox hg; have hnb6 := NB102_101.out; have hnc6 := NB101_102.out; have hcz7_0 : w5.cell? ⟨gb102, 0, none⟩ = some (.int .i64 0) := (blk_cell BK102.out 0).trans rfl; have hfz7_0 := blk_frozen BK102.out 0))
 (try simp only [Act.put, List.setIfInBounds_toArray, List.set_cons_zero, List.set_cons_succ])
 go_cut [25] (fun v25 wc => ∃ (kq : Nat) (x25_1 : Bool), v25 = .bool x25_1 ∧ Aside0 (impl_FromLeftHalf.j0 kq x25_1 l0 (l0.length : Int) = some (r1, r2)) ∧ Aside0 (kq ≤ k) ∧ Aside0 (wc.heap[gb101]? = some (.cells #[(.slice A0 l0.length c0)] 28 (0, 0))) ∧ Aside0 (wc.heap[gb102]? = some (.cells #[.int .i64 (l0.length : Int)] 3 (0, 0))) ∧ Aside0 (Below w.heap.size w wc))
 case first =>
  have H := HC2.out
  clear HC2
  replace H := Option.bind_eq_some_iff.mp H
  obtain ⟨t103, A80, H⟩ := H
  replace H : (if t103 = true then (if ((l0.length : Int) % 2) = 0 then (impl_FromLeftHalf.j0 k true l0 (l0.length : Int)) else (if (wrap64 ((l0.length : Int) / 2)) > 2 then (impl_FromLeftHalf.j0 k true l0 (l0.length : Int)) else ((slices_ContainsFunc_int_int.f k l0 (fun x0_ => impl_FromLeftHalf_1.f x0_ (l0.length : Int))).bind fun t104 => (impl_FromLeftHalf.j0 k t104 l0 (l0.length : Int))))) else (impl_FromLeftHalf.j0 k true l0 (l0.length : Int))) = some (r1, r2) := H
  have A8 := am_ A80
  clear A80
  by_cases c9 : t103 = true
  ·subst c9
   have H1 : (if ((l0.length : Int) % 2) = 0 then (impl_FromLeftHalf.j0 k true l0 (l0.length : Int)) else (if (wrap64 ((l0.length : Int) / 2)) > 2 then (impl_FromLeftHalf.j0 k true l0 (l0.length : Int)) else ((slices_ContainsFunc_int_int.f k l0 (fun x0_ => impl_FromLeftHalf_1.f x0_ (l0.length : Int))).bind fun t104 => (impl_FromLeftHalf.j0 k t104 l0 (l0.length : Int))))) = some (r1, r2) := by rw [if_pos rfl] at H; exact H
   clear H
   have H := H1
   clear H1
   by_cases c10 : ((l0.length : Int) % 2) = 0
   ·rw [if_pos c10] at H
    have c10b0 : (((l0.length : Int) % 2) == 0) = true := beq_iff_eq.mpr c10
    have c10b1 : (((l0.length : Int) % 2) != 0) = false := bne_eq_false_iff_eq.mpr c10
    clear c10
    (first | rw [c10b0] | (simp only [i64_w, i32_w]; rw [c10b0]) | skip)
    have H' := am_ H
    clear H
    have hnb11 := NB102_101.out
    have hnc11 := NB101_102.out
    have hcz12_0 : w5.cell? ⟨gb102, 0, none⟩ = some (.int .i64 0) := (blk_cell BK102.out 0).trans rfl
    have hfz12_0 := blk_frozen BK102.out 0
    go_wp2_with (first | ((with_reducible refine gate_callee (f := 63) rfl ?_); refine goesL_ (some 9) rfl rfl Try.func63 (by kernel_rfl) rfl #[.int .i64 (l0.length : Int)] rfl tc1_ ?_; (with_reducible refine (impl_isSide.calls (l0.length : Int) true _ A8.out).mono ?_); rintro e w' ⟨rfl, ⟨nd, rfl⟩⟩; refine ⟨_, rfl, ?_⟩))
    go_meet
    case rel => exact ⟨_, (true), tc9_, H', ⟨by first | omega | exact Nat.le_refl _⟩, ⟨by (with_reducible repeat (first | refine blk_drewN ?_ _ | refine blk_drew ?_ | refine blk_alloc ?_ _)); refine blk_far ?_ NB101_102.out _; (with_reducible repeat (first | refine blk_drewN ?_ _ | refine blk_drew ?_ | refine blk_alloc ?_ _)); exact BK101.out⟩, ⟨by (with_reducible repeat (first | refine blk_drewN ?_ _ | refine blk_drew ?_ | refine blk_alloc ?_ _)); refine blk_put (cs := #[.int .i64 0]) ?_ 0 _ rfl; (with_reducible repeat (first | refine blk_drewN ?_ _ | refine blk_drew ?_ | refine blk_alloc ?_ _)); exact BK102.out⟩, ⟨by repeat (first | (with_reducible first | exact HB.out | apply below_alloc | apply pw_below_drewN | apply below_drew1 | refine below_set ?_ GE101.out | refine below_set ?_ GE102.out) | exact HB.out)⟩⟩
   ·rw [if_neg c10] at H
    have c10b0 : (((l0.length : Int) % 2) == 0) = false := beq_eq_false_iff_ne.mpr c10
    have c10b1 : (((l0.length : Int) % 2) != 0) = true := bne_iff_ne.mpr c10
    (first | rw [c10b0] | (simp only [i64_w, i32_w]; rw [c10b0]) | skip)
    by_cases c13 : (wrap64 ((l0.length : Int) / 2)) > 2
    ·rw [if_pos c13] at H
     have c13b0 : decide (2 < (wrap64 ((l0.length : Int) / 2))) = true := decide_eq_true c13
     clear c13
     have H' := am_ H
     clear H
     have hnb14 := NB102_101.out
     have hnc14 := NB101_102.out
     have hcz15_0 : w5.cell? ⟨gb102, 0, none⟩ = some (.int .i64 0) := (blk_cell BK102.out 0).trans rfl
     have hfz15_0 := blk_frozen BK102.out 0
     go_wp2_with (first | ((with_reducible refine gate_callee (f := 63) rfl ?_); refine goesL_ (some 9) rfl rfl Try.func63 (by kernel_rfl) rfl #[.int .i64 (l0.length : Int)] rfl tc1_ ?_; (with_reducible refine (impl_isSide.calls (l0.length : Int) true _ A8.out).mono ?_); rintro e w' ⟨rfl, ⟨nd, rfl⟩⟩; refine ⟨_, rfl, ?_⟩))
     go_meet
     case rel => exact ⟨_, (true), tc9_, H', ⟨by first | omega | exact Nat.le_refl _⟩, ⟨by (with_reducible repeat (first | refine blk_drewN ?_ _ | refine blk_drew ?_ | refine blk_alloc ?_ _)); refine blk_far ?_ NB101_102.out _; (with_reducible repeat (first | refine blk_drewN ?_ _ | refine blk_drew ?_ | refine blk_alloc ?_ _)); exact BK101.out⟩, ⟨by (with_reducible repeat (first | refine blk_drewN ?_ _ | refine blk_drew ?_ | refine blk_alloc ?_ _)); refine blk_put (cs := #[.int .i64 0]) ?_ 0 _ rfl; (with_reducible repeat (first | refine blk_drewN ?_ _ | refine blk_drew ?_ | refine blk_alloc ?_ _)); exact BK102.out⟩, ⟨by repeat (first | (with_reducible first | exact HB.out | apply below_alloc | apply pw_below_drewN | apply below_drew1 | refine below_set ?_ GE101.out | refine below_set ?_ GE102.out) | exact HB.out)⟩⟩
    ·rw [if_neg c13] at H
     have c13b0 : decide (2 < (wrap64 ((l0.length : Int) / 2))) = false := decide_eq_false c13
     clear c13
     replace H := Option.bind_eq_some_iff.mp H
     obtain ⟨t104, A160, H⟩ := H
     replace H : (impl_FromLeftHalf.j0 k t104 l0 (l0.length : Int)) = some (r1, r2) := H
     have A16 := am_ A160
     clear A160
     have H' := am_ H
     clear H
     have hnb17 := NB102_101.out
     have hnc17 := NB101_102.out
     have hcz18_0 : w5.cell? ⟨gb102, 0, none⟩ = some (.int .i64 0) := (blk_cell BK102.out 0).trans rfl
     have hfz18_0 := blk_frozen BK102.out 0
     go_wp2_with (first | ((with_reducible refine gate_callee (f := 63) rfl ?_); refine goesL_ (some 9) rfl rfl Try.func63 (by kernel_rfl) rfl #[.int .i64 (l0.length : Int)] rfl tc1_ ?_; (with_reducible refine (impl_isSide.calls (l0.length : Int) true _ A8.out).mono ?_); rintro e w' ⟨rfl, ⟨nd, rfl⟩⟩; refine ⟨_, rfl, ?_⟩; have hcz19_0 : w5.cell? ⟨gb101, 0, none⟩ = some (.slice A0 l0.length c0) := (blk_cell BK101.out 0).trans rfl; have hfz19_0 := blk_frozen BK101.out 0) | (go_at_call 89; (with_reducible refine (slices_ContainsFunc_int_int.calls k _ _ l0 _ _ (fun x0_ => impl_FromLeftHalf_1.f x0_ (l0.length : Int)) t104 _ ?side1 ?side2 ?side3 A16.out).mono ?_); (case side1 => exact Kd.C_below HR0.out tc13_); (case side2 => exact HC0.out); (case side3 => refine ⟨enters_of Try.func90 (by kernel_rfl) rfl, fun W_ hW_ x0_ v0_ hK0_ r_ hr_ => ?_⟩; obtain ⟨A0_, c0_, e0_, hl0_, hC0_⟩ := hK0_; cases e0_; refine (impl_FromLeftHalf_1.calls A0_ c0_ x0_ _ (l0.length : Int) r_ W_ hC0_ hl0_ ?cb1 hr_).mono ?_; (case cb1 => exact tc31_); exact fun _ _ h_ => ⟨h_.1, h_.2.below⟩); rintro e w20 ⟨rfl, hb⟩; have n0_ := am_ (blk_below (g := gb101) (o := .cells #[.slice A0 l0.length c0] 28 (0, 0)) tc24_ hb); have n1_ := am_ (blk_below (g := gb102) (o := .cells #[.int .i64 (l0.length : Int)] 3 (0, 0)) tc17_ hb); have n2_ := am_ (below_step tc13_ hb); clear BK101 BK102 HB; have BK101 := n0_; have BK102 := n1_; have HB := n2_; clear n0_ n1_ n2_; (try clear hb)))
     go_meet
     case rel => exact ⟨_, (t104), tc9_, H', ⟨by first | omega | exact Nat.le_refl _⟩, ⟨by (with_reducible repeat (first | refine blk_drewN ?_ _ | refine blk_drew ?_ | refine blk_alloc ?_ _)); exact BK101.out⟩, ⟨by (with_reducible repeat (first | refine blk_drewN ?_ _ | refine blk_drew ?_ | refine blk_alloc ?_ _)); exact BK102.out⟩, ⟨by repeat (first | (with_reducible first | exact HB.out | apply below_alloc | apply pw_below_drewN | apply below_drew1 | refine below_set ?_ GE101.out | refine below_set ?_ GE102.out) | exact HB.out)⟩⟩
  ·replace c9 := Bool.eq_false_iff.mpr c9
   subst c9
   have H1 : (impl_FromLeftHalf.j0 k true l0 (l0.length : Int)) = some (r1, r2) := by rw [if_neg (show ¬ (false = true) by decide)] at H; exact H
   clear H
   have H := H1
   clear H1
   have H' := am_ H
   clear H
   have hnb21 := NB102_101.out
   have hnc21 := NB101_102.out
   have hcz22_0 : w5.cell? ⟨gb102, 0, none⟩ = some (.int .i64 0) := (blk_cell BK102.out 0).trans rfl
   have hfz22_0 := blk_frozen BK102.out 0
   go_wp2_with (first | ((with_reducible refine gate_callee (f := 63) rfl ?_); refine goesL_ (some 9) rfl rfl Try.func63 (by kernel_rfl) rfl #[.int .i64 (l0.length : Int)] rfl tc1_ ?_; (with_reducible refine (impl_isSide.calls (l0.length : Int) false _ A8.out).mono ?_); rintro e w' ⟨rfl, ⟨nd, rfl⟩⟩; refine ⟨_, rfl, ?_⟩))
   go_meet
   case rel => exact ⟨_, (true), tc9_, H', ⟨by first | omega | exact Nat.le_refl _⟩, ⟨by (with_reducible repeat (first | refine blk_drewN ?_ _ | refine blk_drew ?_ | refine blk_alloc ?_ _)); refine blk_far ?_ NB101_102.out _; (with_reducible repeat (first | refine blk_drewN ?_ _ | refine blk_drew ?_ | refine blk_alloc ?_ _)); exact BK101.out⟩, ⟨by (with_reducible repeat (first | refine blk_drewN ?_ _ | refine blk_drew ?_ | refine blk_alloc ?_ _)); refine blk_put (cs := #[.int .i64 0]) ?_ 0 _ rfl; (with_reducible repeat (first | refine blk_drewN ?_ _ | refine blk_drew ?_ | refine blk_alloc ?_ _)); exact BK102.out⟩, ⟨by repeat (first | (with_reducible first | exact HB.out | apply below_alloc | apply pw_below_drewN | apply below_drew1 | refine below_set ?_ GE101.out | refine below_set ?_ GE102.out) | exact HB.out)⟩⟩
 case rest =>
  clear HC2
  try clear c1
  try clear c2
  try clear p2
  try clear c4
  try clear c6
  try clear p6
  try clear c9
  try clear c10
  try clear c10b0
  try clear c10b1
  try clear c11
  try clear c13
  try clear c13b0
  try clear c14
  try clear c17
  try clear c21
  try clear hcz12_0
  try clear hcz15_0
  try clear hcz18_0
  try clear hcz19_0
  try clear hcz22_0
  try clear hcz4_0
  try clear hcz7_0
  try clear hfz12_0
  try clear hfz15_0
  try clear hfz18_0
  try clear hfz19_0
  try clear hfz22_0
  try clear hfz4_0
  try clear hfz7_0
  obtain ⟨kq, x25_1, rfl, HA, HJ1, BK101, BK102, HB⟩ := hcut
  cases kq with
  | zero => exact absurd HA.out (by simp [impl_FromLeftHalf.j0])
  | succ kj1 =>
   have H := HA.out
   clear HA
   simp only [impl_FromLeftHalf.j0] at H
   by_cases c23 : x25_1 = true
   ·subst c23
    have H1 : (some (([] : List (List Int)), false)) = some (r1, r2) := by rw [if_pos rfl] at H; exact H
    clear H
    have H := H1
    clear H1
    simp only [Option.some.injEq, Prod.mk.injEq] at H
    obtain ⟨rfl, rfl⟩ := H
    go_wp2
    go_ret2
    exact ⟨_, by first | rfl | (simp [errW_none, errW_some] <;> rfl) | (simp [*, errW_none, errW_some] <;> rfl), by first | exact Kd.S_nil _ _ _ _ _ | exact Kd.N_nil _ _ _ _ _ | exact Kd.V_nil _ _ _ _ _ | exact Kd.Q_nil _ _ _ _ _ | exact Kd.R_nil _ _ _ _ _, by repeat (first | (with_reducible first | exact HB.out | apply below_alloc | apply pw_below_drewN | apply below_drew1 | refine below_set ?_ GE101.out | refine below_set ?_ GE102.out) | exact HB.out)⟩
   ·replace c23 := Bool.eq_false_iff.mpr c23
    subst c23
    have H1 : ((impl_table.f kj1 (l0.length : Int) (l0.length : Int) (fun x0_ x1_ => impl_FromLeftHalf_2.f x0_ x1_ (l0.length : Int) l0)).bind fun t105 => ((impl_IsSignMatrix.f kj1 t105).bind fun t108 => (if t108 = true then (some (t105, true)) else (some (([] : List (List Int)), false))))) = some (r1, r2) := by rw [if_neg (show ¬ (false = true) by decide)] at H; exact H
    clear H
    have H := H1
    clear H1
    replace H := Option.bind_eq_some_iff.mp H
    obtain ⟨t105, A240, H⟩ := H
    replace H : ((impl_IsSignMatrix.f kj1 t105).bind fun t108 => (if t108 = true then (some (t105, true)) else (some (([] : List (List Int)), false)))) = some (r1, r2) := H
    have A24 := am_ A240
    clear A240
    replace H := Option.bind_eq_some_iff.mp H
    obtain ⟨t108, A250, H⟩ := H
    replace H : (if t108 = true then (some (t105, true)) else (some (([] : List (List Int)), false))) = some (r1, r2) := H
    have A25 := am_ A250
    clear A250
    by_cases c26 : t108 = true
    ·subst c26
     have H1 : (some (t105, true)) = some (r1, r2) := by rw [if_pos rfl] at H; exact H
     clear H
     have H := H1
     clear H1
     simp only [Option.some.injEq, Prod.mk.injEq] at H
     obtain ⟨rfl, rfl⟩ := H
     have hnb27 := NB102_101.out
     have hnc27 := NB101_102.out
     have hcz28_0 : wc.cell? ⟨gb102, 0, none⟩ = some (.int .i64 (l0.length : Int)) := (blk_cell BK102.out 0).trans rfl
     have hfz28_0 := blk_frozen BK102.out 0
     go_wp2_with (first | ((with_reducible refine gate_callee (f := 84) rfl ?_); refine goesL_ (some 29) rfl rfl Try.func84 (by kernel_rfl) rfl #[.int .i64 (l0.length : Int), .int .i64 (l0.length : Int), .func (.func 91) #[] #[.pointer (some ⟨gb102, 0, none⟩), .pointer (some ⟨gb101, 0, none⟩)]] rfl tc1_ ?_; (with_reducible refine (impl_table.calls kj1 (l0.length : Int) (l0.length : Int) _ _ (fun x0_ x1_ => impl_FromLeftHalf_2.f x0_ x1_ (l0.length : Int) l0) t105 _ ?side1 A24.out).mono ?_); (case side1 => refine ⟨enters_of Try.func91 (by kernel_rfl) rfl, fun W_ hW_ x0_ v0_ hK0_ x1_ v1_ hK1_ r_ hr_ => ?_⟩; cases (show v0_ = .int .i64 x0_ from tc60_); cases (show v1_ = .int .i64 x1_ from tc61_); refine (impl_FromLeftHalf_2.calls x0_ x1_ _ (l0.length : Int) _ A0 c0 l0 r_ W_ ?cb1 ?cb2 ?cb3 ?cb4 hr_).mono ?_; (case cb1 => exact tc54_); (case cb2 => exact tc34_); (case cb3 => exact tc25_); (case cb4 => exact HC0.out); exact fun _ _ h_ => ⟨h_.1, h_.2.below⟩); rintro e w29 ⟨v106, rfl, ho0, hb⟩; refine ⟨_, rfl, ?_⟩; have n0_ := am_ (Kd.S_lower (Kd.S_newB ho0 (g := gb102) (o := .cells #[.int .i64 (l0.length : Int)] 3 (0, 0)) tc19_) (below_size tc13_)); have n1_ := am_ (blk_below (g := gb101) (o := .cells #[.slice A0 l0.length c0] 28 (0, 0)) tc8_ hb); have n2_ := am_ (blk_below (g := gb102) (o := .cells #[.int .i64 (l0.length : Int)] 3 (0, 0)) tc19_ hb); have n3_ := am_ (below_step tc13_ hb); clear BK101 BK102 HB; have HO107 := n0_; have BK101 := n1_; have BK102 := n2_; have HB := n3_; clear n0_ n1_ n2_ n3_; (try clear hb ho0); obtain ⟨Ao30, co30, eo30⟩ := Kd.S_slice HO107.out; subst eo30) | ((with_reducible refine gate_callee (f := 73) rfl ?_); refine goesL_ (some 31) rfl rfl Try.func73 (by kernel_rfl) rfl #[.slice Ao30 t105.length co30] rfl tc1_ ?_; (with_reducible refine (impl_IsSignMatrix.calls kj1 _ _ t105 true _ ?side1 ?side2 A25.out).mono ?_); (case side1 => exact tc47_); (case side2 => exact (Kd.S_reads' HO107.out).2.1); rintro e w31 ⟨rfl, hb⟩; refine ⟨_, rfl, ?_⟩; have n0_ := am_ (Kd.S_below tc64_ hb); have n1_ := am_ (blk_below (g := gb101) (o := .cells #[.slice A0 l0.length c0] 28 (0, 0)) tc8_ hb); have n2_ := am_ (blk_below (g := gb102) (o := .cells #[.int .i64 (l0.length : Int)] 3 (0, 0)) tc19_ hb); have n3_ := am_ (below_step tc13_ hb); clear HO107 BK101; clear BK102 HB; have HO107 := n0_; have BK101 := n1_; have BK102 := n2_; have HB := n3_; clear n0_ n1_ n2_ n3_; (try clear hb)))
     go_ret2
     exact ⟨_, by first | rfl | (simp [errW_none, errW_some] <;> rfl) | (simp [*, errW_none, errW_some] <;> rfl), by (with_reducible repeat (first | apply Kd.S_alloc | apply Kd.S_drewN | apply Kd.S_drew)); exact Kd.S_mono HO107.out (fun _ hk => trivial), by repeat (first | (with_reducible first | exact HB.out | apply below_alloc | apply pw_below_drewN | apply below_drew1 | refine below_set ?_ GE101.out | refine below_set ?_ GE102.out) | exact HB.out)⟩
    ·replace c26 := Bool.eq_false_iff.mpr c26
     subst c26
     have H1 : (some (([] : List (List Int)), false)) = some (r1, r2) := by rw [if_neg (show ¬ (false = true) by decide)] at H; exact H
     clear H
     have H := H1
     clear H1
     simp only [Option.some.injEq, Prod.mk.injEq] at H
     obtain ⟨rfl, rfl⟩ := H
     have hnb32 := NB102_101.out
     have hnc32 := NB101_102.out
     have hcz33_0 : wc.cell? ⟨gb102, 0, none⟩ = some (.int .i64 (l0.length : Int)) := (blk_cell BK102.out 0).trans rfl
     have hfz33_0 := blk_frozen BK102.out 0
     go_wp2_with (first | ((with_reducible refine gate_callee (f := 84) rfl ?_); refine goesL_ (some 29) rfl rfl Try.func84 (by kernel_rfl) rfl #[.int .i64 (l0.length : Int), .int .i64 (l0.length : Int), .func (.func 91) #[] #[.pointer (some ⟨gb102, 0, none⟩), .pointer (some ⟨gb101, 0, none⟩)]] rfl tc1_ ?_; (with_reducible refine (impl_table.calls kj1 (l0.length : Int) (l0.length : Int) _ _ (fun x0_ x1_ => impl_FromLeftHalf_2.f x0_ x1_ (l0.length : Int) l0) t105 _ ?side1 A24.out).mono ?_); (case side1 => refine ⟨enters_of Try.func91 (by kernel_rfl) rfl, fun W_ hW_ x0_ v0_ hK0_ x1_ v1_ hK1_ r_ hr_ => ?_⟩; cases (show v0_ = .int .i64 x0_ from tc60_); cases (show v1_ = .int .i64 x1_ from tc61_); refine (impl_FromLeftHalf_2.calls x0_ x1_ _ (l0.length : Int) _ A0 c0 l0 r_ W_ ?cb1 ?cb2 ?cb3 ?cb4 hr_).mono ?_; (case cb1 => exact tc54_); (case cb2 => exact tc34_); (case cb3 => exact tc25_); (case cb4 => exact HC0.out); exact fun _ _ h_ => ⟨h_.1, h_.2.below⟩); rintro e w34 ⟨v106, rfl, ho0, hb⟩; refine ⟨_, rfl, ?_⟩; have n0_ := am_ (Kd.S_lower (Kd.S_newB ho0 (g := gb102) (o := .cells #[.int .i64 (l0.length : Int)] 3 (0, 0)) tc19_) (below_size tc13_)); have n1_ := am_ (blk_below (g := gb101) (o := .cells #[.slice A0 l0.length c0] 28 (0, 0)) tc8_ hb); have n2_ := am_ (blk_below (g := gb102) (o := .cells #[.int .i64 (l0.length : Int)] 3 (0, 0)) tc19_ hb); have n3_ := am_ (below_step tc13_ hb); clear BK101 BK102 HB; have HO107 := n0_; have BK101 := n1_; have BK102 := n2_; have HB := n3_; clear n0_ n1_ n2_ n3_; (try clear hb ho0); obtain ⟨Ao35, co35, eo35⟩ := Kd.S_slice HO107.out; subst eo35) | ((with_reducible refine gate_callee (f := 73) rfl ?_); refine goesL_ (some 31) rfl rfl Try.func73 (by kernel_rfl) rfl #[.slice Ao35 t105.length co35] rfl tc1_ ?_; (with_reducible refine (impl_IsSignMatrix.calls kj1 _ _ t105 false _ ?side1 ?side2 A25.out).mono ?_); (case side1 => exact tc47_); (case side2 => exact (Kd.S_reads' HO107.out).2.1); rintro e w36 ⟨rfl, hb⟩; refine ⟨_, rfl, ?_⟩; have n0_ := am_ (Kd.S_below tc64_ hb); have n1_ := am_ (blk_below (g := gb101) (o := .cells #[.slice A0 l0.length c0] 28 (0, 0)) tc8_ hb); have n2_ := am_ (blk_below (g := gb102) (o := .cells #[.int .i64 (l0.length : Int)] 3 (0, 0)) tc19_ hb); have n3_ := am_ (below_step tc13_ hb); clear HO107 BK101; clear BK102 HB; have HO107 := n0_; have BK101 := n1_; have BK102 := n2_; have HB := n3_; clear n0_ n1_ n2_ n3_; (try clear hb)))
     go_ret2
     exact ⟨_, by first | rfl | (simp [errW_none, errW_some] <;> rfl) | (simp [*, errW_none, errW_some] <;> rfl), by first | exact Kd.S_nil _ _ _ _ _ | exact Kd.N_nil _ _ _ _ _ | exact Kd.V_nil _ _ _ _ _ | exact Kd.Q_nil _ _ _ _ _ | exact Kd.R_nil _ _ _ _ _, by repeat (first | (with_reducible first | exact HB.out | apply below_alloc | apply pw_below_drewN | apply below_drew1 | refine below_set ?_ GE101.out | refine below_set ?_ GE102.out) | exact HB.out)⟩

/-! ### impl_FromUpperHalf_1: function 92 -/
def impl_FromUpperHalf_1.f (l0 : List Int) (a1_0 : Int) : Option (Bool) := some ((l0.length : Int) != a1_0)
set_option maxHeartbeats 8000000 in
set_option maxRecDepth 100000 in
theorem impl_FromUpperHalf_1.calls (A0 : Option Addr) (c0 : Nat) (l0 : List Int) (B1 : Nat) (a1_0 : Int) (r : Bool) (w : World) (hr0 : Kd.C (Kd.int .i64) w A0 l0.length l0) (hc0 : l0.length ≤ c0) (hb1 : w.heap[B1]? = some (.cells #[.int .i64 a1_0] 3 (0, 0))) (h : impl_FromUpperHalf_1.f l0 a1_0 = some r) :
  Calls Try.prog 92 #[.slice A0 l0.length c0, .pointer (some ⟨B1, 0, none⟩)] w fun e w' => e = .returned (.bool r) ∧ Drawn0 w w' := by
 have HR0 := am_ hr0
 have HC0 := am_ hc0
 clear hr0 hc0
 have BK61 := am_ hb1
 clear hb1
 have H : (some ((l0.length : Int) != a1_0)) = some r := h
 clear h
 obtain rfl := Option.some.inj H
 have hcz3_0 : w.cell? ⟨B1, 0, none⟩ = some (.int .i64 a1_0) := (blk_cell BK61.out 0).trans rfl
 have hfz3_0 := blk_frozen BK61.out 0
 go_enter Try.func92, Try.ntmps92
 go_wp2
 go_ret
 exact ⟨by first | rfl | (simp; done) | (simp [*]; done), by repeat (first | exact Drawn0.refl _ | apply Drawn0.step)⟩

/-! ### impl_FromUpperHalf_2: function 93 -/
def impl_FromUpperHalf_2.f (a0 : Int) (a1 : Int) (a2_0 : Int) (l3_0 : List (List Int)) : Option (Int) := if a0 < (wrap64 (Int.tdiv a2_0 2)) then (if 0 ≤ a0 then (if a0 < (l3_0.length : Int) then (if 0 ≤ a1 then (if a1 < ((rd_L3 l3_0 a0).length : Int) then (some (rd (rd_L3 l3_0 a0) a1)) else (none)) else (none)) else (none)) else (none)) else (if 0 ≤ (wrap64 ((wrap64 (a2_0 - 1)) - a0)) then (if (wrap64 ((wrap64 (a2_0 - 1)) - a0)) < (l3_0.length : Int) then (if 0 ≤ (wrap64 ((wrap64 (a2_0 - 1)) - a1)) then (if (wrap64 ((wrap64 (a2_0 - 1)) - a1)) < ((rd_L3 l3_0 (wrap64 ((wrap64 (a2_0 - 1)) - a0))).length : Int) then (some (rd (rd_L3 l3_0 (wrap64 ((wrap64 (a2_0 - 1)) - a0))) (wrap64 ((wrap64 (a2_0 - 1)) - a1)))) else (none)) else (none)) else (none)) else (none))
set_option maxHeartbeats 8000000 in
set_option maxRecDepth 100000 in
theorem impl_FromUpperHalf_2.calls (a0 : Int) (a1 : Int) (B2 : Nat) (a2_0 : Int) (B3 : Nat) (A3_0 : Option Addr) (c3_0 : Nat) (l3_0 : List (List Int)) (r : Int) (w : World) (hb2 : w.heap[B2]? = some (.cells #[.int .i64 a2_0] 3 (0, 0))) (hb3 : w.heap[B3]? = some (.cells #[.slice A3_0 l3_0.length c3_0] 28 (0, 0))) (hr3_0 : Kd.C (Kd.slice 3 (Kd.int .i64)) w A3_0 l3_0.length l3_0) (hc3_0 : l3_0.length ≤ c3_0) (h : impl_FromUpperHalf_2.f a0 a1 a2_0 l3_0 = some r) :
  Calls Try.prog 93 #[.int .i64 a0, .int .i64 a1, .pointer (some ⟨B2, 0, none⟩), .pointer (some ⟨B3, 0, none⟩)] w fun e w' => e = .returned (.int .i64 r) ∧ Drawn0 w w' := by
 have HR3_0 := am_ hr3_0
 have HC3_0 := am_ hc3_0
 clear hr3_0 hc3_0
 have BK62 := am_ hb2
 clear hb2
 have BK63 := am_ hb3
 clear hb3
 have H : (if a0 < (wrap64 (Int.tdiv a2_0 2)) then (if 0 ≤ a0 then (if a0 < (l3_0.length : Int) then (if 0 ≤ a1 then (if a1 < ((rd_L3 l3_0 a0).length : Int) then (some (rd (rd_L3 l3_0 a0) a1)) else (none)) else (none)) else (none)) else (none)) else (if 0 ≤ (wrap64 ((wrap64 (a2_0 - 1)) - a0)) then (if (wrap64 ((wrap64 (a2_0 - 1)) - a0)) < (l3_0.length : Int) then (if 0 ≤ (wrap64 ((wrap64 (a2_0 - 1)) - a1)) then (if (wrap64 ((wrap64 (a2_0 - 1)) - a1)) < ((rd_L3 l3_0 (wrap64 ((wrap64 (a2_0 - 1)) - a0))).length : Int) then (some (rd (rd_L3 l3_0 (wrap64 ((wrap64 (a2_0 - 1)) - a0))) (wrap64 ((wrap64 (a2_0 - 1)) - a1)))) else (none)) else (none)) else (none)) else (none))) = some r := h
 clear h
 by_cases c5 : a0 < (wrap64 (Int.tdiv a2_0 2))
 ·rw [if_pos c5] at H
  have c5b0 : decide (a0 < (wrap64 (Int.tdiv a2_0 2))) = true := decide_eq_true c5
  clear c5
  by_cases c6 : 0 ≤ a0
  ·rw [if_pos c6] at H
   have c6b0 : decide (0 ≤ a0) = true := decide_eq_true c6
   clear c6
   by_cases c7 : a0 < (l3_0.length : Int)
   ·rw [if_pos c7] at H
    have c7b0 : decide (a0 < (l3_0.length : Int)) = true := decide_eq_true c7
    clear c7
    by_cases c8 : 0 ≤ a1
    ·rw [if_pos c8] at H
     have c8b0 : decide (0 ≤ a1) = true := decide_eq_true c8
     clear c8
     by_cases c9 : a1 < ((rd_L3 l3_0 a0).length : Int)
     ·rw [if_pos c9] at H
      have c9b0 : decide (a1 < ((rd_L3 l3_0 a0).length : Int)) = true := decide_eq_true c9
      clear c9
      obtain rfl := Option.some.inj H
      have hcz10_0 : w.cell? ⟨B2, 0, none⟩ = some (.int .i64 a2_0) := (blk_cell BK62.out 0).trans rfl
      have hfz10_0 := blk_frozen BK62.out 0
      have hcz11_0 : w.cell? ⟨B3, 0, none⟩ = some (.slice A3_0 l3_0.length c3_0) := (blk_cell BK63.out 0).trans rfl
      have hfz11_0 := blk_frozen BK63.out 0
      have p101 : 0 ≤ (a0 : Int) := of_decide_eq_true tc2_
      have q101 : a0 < (l3_0.length : Int) := of_decide_eq_true tc2_
      obtain ⟨ad101, A101_0, c101_0, e101, hx101_0, hl101_0, hi101_0⟩ := at_L3 HR3_0.out a0 p101 q101
      cases e101
      have HR101_0 := am_ hi101_0
      have HC101_0 := am_ hl101_0
      clear hi101_0 hl101_0
      replace p101 := eq_true p101
      replace q101 := eq_true q101
      have p102 : 0 ≤ (a1 : Int) := of_decide_eq_true tc2_
      have q102 : a1 < ((rd_L3 l3_0 a0).length : Int) := of_decide_eq_true tc2_
      obtain ⟨ad102, e102, hx102_0⟩ := Kd.at_int HR101_0.out a1 p102 q102
      cases e102
      replace p102 := eq_true p102
      replace q102 := eq_true q102
      go_enter Try.func93, Try.ntmps93
      go_wp2
      repeat (go_quiet (fail); try go_wp2)
      go_ret
      exact ⟨by first | rfl | (simp; done) | (simp [*]; done), by repeat (first | exact Drawn0.refl _ | apply Drawn0.step)⟩
     ·rw [if_neg c9] at H
      exact absurd H (by simp)
    ·rw [if_neg c8] at H
     exact absurd H (by simp)
   ·rw [if_neg c7] at H
    exact absurd H (by simp)
  ·rw [if_neg c6] at H
   exact absurd H (by simp)
 ·rw [if_neg c5] at H
  have c5b0 : decide (a0 < (wrap64 (Int.tdiv a2_0 2))) = false := decide_eq_false c5
  clear c5
  obtain ⟨ji12, hji12⟩ : ∃ j_ : Int, (wrap64 ((wrap64 (a2_0 - 1)) - a0)) = j_ := ⟨_, rfl⟩
  replace H : (if 0 ≤ (ji12) then (if (ji12) < (l3_0.length : Int) then (if 0 ≤ (wrap64 ((wrap64 (a2_0 - 1)) - a1)) then (if (wrap64 ((wrap64 (a2_0 - 1)) - a1)) < ((rd_L3 l3_0 (ji12)).length : Int) then (some (rd (rd_L3 l3_0 (ji12)) (wrap64 ((wrap64 (a2_0 - 1)) - a1)))) else (none)) else (none)) else (none)) else (none)) = some r := by first | (rw [hji12] at H; exact H) | (simp only [hji12] at H ⊢; exact H)
  have hji12w : (IntKind.i64.wrap ((wrap64 (a2_0 - 1)) - a0)) = ji12 := (i64_w _).trans hji12
  by_cases c13 : 0 ≤ (ji12)
  ·rw [if_pos c13] at H
   have c13b0 : decide (0 ≤ (ji12)) = true := decide_eq_true c13
   clear c13
   by_cases c14 : (ji12) < (l3_0.length : Int)
   ·rw [if_pos c14] at H
    have c14b0 : decide ((ji12) < (l3_0.length : Int)) = true := decide_eq_true c14
    clear c14
    obtain ⟨ji15, hji15⟩ : ∃ j_ : Int, (wrap64 ((wrap64 (a2_0 - 1)) - a1)) = j_ := ⟨_, rfl⟩
    replace H : (if 0 ≤ (ji15) then (if (ji15) < ((rd_L3 l3_0 (ji12)).length : Int) then (some (rd (rd_L3 l3_0 (ji12)) (ji15))) else (none)) else (none)) = some r := by first | (rw [hji15] at H; exact H) | (simp only [hji15] at H ⊢; exact H)
    have hji15w : (IntKind.i64.wrap ((wrap64 (a2_0 - 1)) - a1)) = ji15 := (i64_w _).trans hji15
    by_cases c16 : 0 ≤ (ji15)
    ·rw [if_pos c16] at H
     have c16b0 : decide (0 ≤ (ji15)) = true := decide_eq_true c16
     clear c16
     by_cases c17 : (ji15) < ((rd_L3 l3_0 (ji12)).length : Int)
     ·rw [if_pos c17] at H
      have c17b0 : decide ((ji15) < ((rd_L3 l3_0 (ji12)).length : Int)) = true := decide_eq_true c17
      clear c17
      obtain rfl := Option.some.inj H
      have hcz18_0 : w.cell? ⟨B2, 0, none⟩ = some (.int .i64 a2_0) := (blk_cell BK62.out 0).trans rfl
      have hfz18_0 := blk_frozen BK62.out 0
      have hcz19_0 : w.cell? ⟨B3, 0, none⟩ = some (.slice A3_0 l3_0.length c3_0) := (blk_cell BK63.out 0).trans rfl
      have hfz19_0 := blk_frozen BK63.out 0
      have p103 : 0 ≤ ((ji12) : Int) := of_decide_eq_true tc2_
      have q103 : (ji12) < (l3_0.length : Int) := of_decide_eq_true tc2_
      obtain ⟨ad103, A103_0, c103_0, e103, hx103_0, hl103_0, hi103_0⟩ := at_L3 HR3_0.out (ji12) p103 q103
      cases e103
      have HR103_0 := am_ hi103_0
      have HC103_0 := am_ hl103_0
      clear hi103_0 hl103_0
      replace p103 := eq_true p103
      replace q103 := eq_true q103
      have p104 : 0 ≤ ((ji15) : Int) := of_decide_eq_true tc2_
      have q104 : (ji15) < ((rd_L3 l3_0 (ji12)).length : Int) := of_decide_eq_true tc2_
      obtain ⟨ad104, e104, hx104_0⟩ := Kd.at_int HR103_0.out (ji15) p104 q104
      cases e104
      replace p104 := eq_true p104
      replace q104 := eq_true q104
      go_enter Try.func93, Try.ntmps93
      go_wp2
      repeat (go_quiet (fail); try go_wp2)
      go_ret
      exact ⟨by first | rfl | (simp; done) | (simp only [← hji12, ← hji15] <;> (first | rfl | simp)) | (simp [*]; done), by repeat (first | exact Drawn0.refl _ | apply Drawn0.step)⟩
     ·rw [if_neg c17] at H
      exact absurd H (by simp)
    ·rw [if_neg c16] at H
     exact absurd H (by simp)
   ·rw [if_neg c14] at H
    exact absurd H (by simp)
  ·rw [if_neg c13] at H
   exact absurd H (by simp)

/-! ### impl_FromUpperHalf: function 45 -/
def impl_FromUpperHalf.j0 : Nat → Bool → List (List Int) → Int → Option ((List (List Int)) × Bool)
 | 0, _, _, _ => none
 | k + 1, x16, x102000, x103000 => if x16 = true then (some (([] : List (List Int)), false)) else ((impl_table.f k x103000 x103000 (fun x0_ x1_ => impl_FromUpperHalf_2.f x0_ x1_ x103000 x102000)).bind fun t105 => ((impl_IsSignMatrix.f k t105).bind fun t108 => (if t108 = true then (some (t105, true)) else (some (([] : List (List Int)), false)))))
def impl_FromUpperHalf.f (k : Nat) (l0 : List (List Int)) : Option ((List (List Int)) × Bool) := (impl_isSide.f (wrap64 (2 * (l0.length : Int)))).bind fun t103 => (if t103 = true then ((slices_ContainsFunc_int_int.f k l0 (fun x0_ => impl_FromUpperHalf_1.f x0_ (wrap64 (2 * (l0.length : Int))))).bind fun t104 => (impl_FromUpperHalf.j0 k t104 l0 (wrap64 (2 * (l0.length : Int))))) else (impl_FromUpperHalf.j0 k true l0 (wrap64 (2 * (l0.length : Int)))))
set_option maxHeartbeats 8000000 in
set_option maxRecDepth 100000 in
theorem impl_FromUpperHalf.calls (k : Nat) (A0 : Option Addr) (c0 : Nat) (l0 : List (List Int)) (r1 : List (List Int)) (r2 : Bool) (w : World) (hr0 : Kd.C (Kd.slice 3 (Kd.int .i64)) w A0 l0.length l0) (hc0 : l0.length ≤ c0) (h : impl_FromUpperHalf.f k l0 = some (r1, r2)) :
  Calls Try.prog 45 #[.slice A0 l0.length c0] w fun e w' => ∃ v0_ : Value, e = .returned (.tuple #[v0_, .bool r2]) ∧ Kd.S (Kd.slice 3 (Kd.int .i64)) 24 w' w.heap.size (fun _ => True) v0_ r1 ∧ Below w.heap.size w w' := by
 have HR0 := am_ hr0
 have HC0 := am_ hc0
 clear hr0 hc0
 have HB := am_ (Below.refl w.heap.size w)
 have H : ((impl_isSide.f (wrap64 (2 * (l0.length : Int)))).bind fun t103 => (if t103 = true then ((slices_ContainsFunc_int_int.f k l0 (fun x0_ => impl_FromUpperHalf_1.f x0_ (wrap64 (2 * (l0.length : Int))))).bind fun t104 => (impl_FromUpperHalf.j0 k t104 l0 (wrap64 (2 * (l0.length : Int))))) else (impl_FromUpperHalf.j0 k true l0 (wrap64 (2 * (l0.length : Int)))))) = some (r1, r2) := h
 clear h
 have HC2 := am_ H
 clear H
 go_enter Try.func45, Try.ntmps45
 go_upto_region 2 with (first | ((with_reducible refine gate_dst (N := 1) rfl ?_); refine box_event ?hg (N := 1) ?hd (cs := #[.slice A0 l0.length c0]) (t := 28) ?hr ?_; (case hd => rfl); (case hg => rfl); (case hr => exact tc22_); intro gb101 hg w3 hbox hb; have n0_ := am_ (below_step tc0_ hb); have n1_ := am_ (hbox); have n2_ := am_ ((by rw [hg]; exact (below_size tc0_) : w.heap.size ≤ gb101)); have n3_ := am_ ((by rw [hg]; exact (below_size tc0_) : w.heap.size ≤ gb101)); clear HB; have HB := n0_; have BK101 := n1_; have GW101 := n2_; have GE101 := n3_; clear n0_ n1_ n2_ n3_; clear hb hbox hg; have hcz4_0 : w3.cell? ⟨gb101, 0, none⟩ = some (.slice A0 l0.length c0) := (blk_cell BK101.out 0).trans rfl; have hfz4_0 := blk_frozen BK101.out 0) | ((with_reducible refine gate_dst (N := 4) rfl ?_); refine box_event ?hg (N := 4) ?hd (cs := #[.int .i64 0]) (t := 3) ?hr ?_; (case hd => rfl); (case hg => rfl); (case hr => exact tc22_); intro gb102 hg w5 hbox hb; have n0_ := am_ (blk_below (g := gb101) (o := .cells #[.slice A0 l0.length c0] 28 (0, 0)) tc8_ hb); have n1_ := am_ (below_step tc7_ hb); have n2_ := am_ (hbox); have n3_ := am_ ((by rw [hg]; exact (below_size tc7_) : w.heap.size ≤ gb102)); have n4_ := am_ ((by rw [hg]; exact (below_size tc7_) : w.heap.size ≤ gb102)); have n5_ := am_ ((by rw [hg]; exact Nat.ne_of_lt (blk_lt (g := gb101) (o := .cells #[.slice A0 l0.length c0] 28 (0, 0)) tc8_) : gb101 ≠ gb102)); have n6_ := am_ ((by rw [hg]; exact Nat.ne_of_gt (blk_lt (g := gb101) (o := .cells #[.slice A0 l0.length c0] 28 (0, 0)) tc8_) : gb102 ≠ gb101)); clear BK101 HB; have BK101 := n0_; have HB := n1_; have BK102 := n2_; have GW102 := n3_; have GE102 := n4_; have NB101_102 := n5_; have NB102_101 := n6_; clear n0_ n1_ n2_ n3_ n4_ n5_ n6_; clear hb hbox hg; have hnb6 := NB102_101.out; have hnc6 := NB101_102.out; have hcz7_0 : w5.cell? ⟨gb102, 0, none⟩ = some (.int .i64 0) := (blk_cell BK102.out 0).trans rfl; have hfz7_0 := blk_frozen BK102.out 0))
 (try simp only [Act.put, List.setIfInBounds_toArray, List.set_cons_zero, List.set_cons_succ])
 go_cut [16] (fun v16 wc => ∃ (kq : Nat) (x16_1 : Bool), v16 = .bool x16_1 ∧ Aside0 (impl_FromUpperHalf.j0 kq x16_1 l0 (wrap64 (2 * (l0.length : Int))) = some (r1, r2)) ∧ Aside0 (kq ≤ k) ∧ Aside0 (wc.heap[gb101]? = some (.cells #[(.slice A0 l0.length c0)] 28 (0, 0))) ∧ Aside0 (wc.heap[gb102]? = some (.cells #[.int .i64 (wrap64 (2 * (l0.length : Int)))] 3 (0, 0))) ∧ Aside0 (Below w.heap.size w wc))
 case first =>
  have H := HC2.out
  clear HC2
  replace H := Option.bind_eq_some_iff.mp H
  obtain ⟨t103, A80, H⟩ := H
  replace H : (if t103 = true then ((slices_ContainsFunc_int_int.f k l0 (fun x0_ => impl_FromUpperHalf_1.f x0_ (wrap64 (2 * (l0.length : Int))))).bind fun t104 => (impl_FromUpperHalf.j0 k t104 l0 (wrap64 (2 * (l0.length : Int))))) else (impl_FromUpperHalf.j0 k true l0 (wrap64 (2 * (l0.length : Int))))) = some (r1, r2) := H
  have A8 := am_ A80
  clear A80
  by_cases c9 : t103 = true
  ·subst c9
   have H1 : ((slices_ContainsFunc_int_int.f k l0 (fun x0_ => impl_FromUpperHalf_1.f x0_ (wrap64 (2 * (l0.length : Int))))).bind fun t104 => (impl_FromUpperHalf.j0 k t104 l0 (wrap64 (2 * (l0.length : Int))))) = some (r1, r2) := by rw [if_pos rfl] at H; exact H
   clear H
   have H := H1
   clear H1
   replace H := Option.bind_eq_some_iff.mp H
   obtain ⟨t104, A100, H⟩ := H
   replace H : (impl_FromUpperHalf.j0 k t104 l0 (wrap64 (2 * (l0.length : Int)))) = some (r1, r2) := H
   have A10 := am_ A100
   clear A100
   have H' := am_ H
   clear H
   have hnb11 := NB102_101.out
   have hnc11 := NB101_102.out
   have hcz12_0 : w5.cell? ⟨gb102, 0, none⟩ = some (.int .i64 0) := (blk_cell BK102.out 0).trans rfl
   have hfz12_0 := blk_frozen BK102.out 0
   go_wp2_with (first | ((with_reducible refine gate_callee (f := 63) rfl ?_); refine goesL_ (some 10) rfl rfl Try.func63 (by kernel_rfl) rfl #[.int .i64 (wrap64 (2 * (l0.length : Int)))] rfl tc1_ ?_; (with_reducible refine (impl_isSide.calls (wrap64 (2 * (l0.length : Int))) true _ A8.out).mono ?_); rintro e w' ⟨rfl, ⟨nd, rfl⟩⟩; refine ⟨_, rfl, ?_⟩; have hcz13_0 : w5.cell? ⟨gb101, 0, none⟩ = some (.slice A0 l0.length c0) := (blk_cell BK101.out 0).trans rfl; have hfz13_0 := blk_frozen BK101.out 0) | (go_at_call 89; (with_reducible refine (slices_ContainsFunc_int_int.calls k _ _ l0 _ _ (fun x0_ => impl_FromUpperHalf_1.f x0_ (wrap64 (2 * (l0.length : Int)))) t104 _ ?side1 ?side2 ?side3 A10.out).mono ?_); (case side1 => exact Kd.C_below HR0.out tc13_); (case side2 => exact HC0.out); (case side3 => refine ⟨enters_of Try.func92 (by kernel_rfl) rfl, fun W_ hW_ x0_ v0_ hK0_ r_ hr_ => ?_⟩; obtain ⟨A0_, c0_, e0_, hl0_, hC0_⟩ := hK0_; cases e0_; refine (impl_FromUpperHalf_1.calls A0_ c0_ x0_ _ (wrap64 (2 * (l0.length : Int))) r_ W_ hC0_ hl0_ ?cb1 hr_).mono ?_; (case cb1 => exact tc31_); exact fun _ _ h_ => ⟨h_.1, h_.2.below⟩); rintro e w14 ⟨rfl, hb⟩; have n0_ := am_ (blk_below (g := gb101) (o := .cells #[.slice A0 l0.length c0] 28 (0, 0)) tc24_ hb); have n1_ := am_ (blk_below (g := gb102) (o := .cells #[.int .i64 (wrap64 (2 * (l0.length : Int)))] 3 (0, 0)) tc17_ hb); have n2_ := am_ (below_step tc13_ hb); clear BK101 BK102 HB; have BK101 := n0_; have BK102 := n1_; have HB := n2_; clear n0_ n1_ n2_; (try clear hb)))
   go_meet
   case rel => exact ⟨_, (t104), tc9_, H', ⟨by first | omega | exact Nat.le_refl _⟩, ⟨by (with_reducible repeat (first | refine blk_drewN ?_ _ | refine blk_drew ?_ | refine blk_alloc ?_ _)); exact BK101.out⟩, ⟨by (with_reducible repeat (first | refine blk_drewN ?_ _ | refine blk_drew ?_ | refine blk_alloc ?_ _)); exact BK102.out⟩, ⟨by repeat (first | (with_reducible first | exact HB.out | apply below_alloc | apply pw_below_drewN | apply below_drew1 | refine below_set ?_ GE101.out | refine below_set ?_ GE102.out) | exact HB.out)⟩⟩
  ·replace c9 := Bool.eq_false_iff.mpr c9
   subst c9
   have H1 : (impl_FromUpperHalf.j0 k true l0 (wrap64 (2 * (l0.length : Int)))) = some (r1, r2) := by rw [if_neg (show ¬ (false = true) by decide)] at H; exact H
   clear H
   have H := H1
   clear H1
   have H' := am_ H
   clear H
   have hnb15 := NB102_101.out
   have hnc15 := NB101_102.out
   have hcz16_0 : w5.cell? ⟨gb102, 0, none⟩ = some (.int .i64 0) := (blk_cell BK102.out 0).trans rfl
   have hfz16_0 := blk_frozen BK102.out 0
   go_wp2_with (first | ((with_reducible refine gate_callee (f := 63) rfl ?_); refine goesL_ (some 10) rfl rfl Try.func63 (by kernel_rfl) rfl #[.int .i64 (wrap64 (2 * (l0.length : Int)))] rfl tc1_ ?_; (with_reducible refine (impl_isSide.calls (wrap64 (2 * (l0.length : Int))) false _ A8.out).mono ?_); rintro e w' ⟨rfl, ⟨nd, rfl⟩⟩; refine ⟨_, rfl, ?_⟩))
   go_meet
   case rel => exact ⟨_, (true), tc9_, H', ⟨by first | omega | exact Nat.le_refl _⟩, ⟨by (with_reducible repeat (first | refine blk_drewN ?_ _ | refine blk_drew ?_ | refine blk_alloc ?_ _)); refine blk_far ?_ NB101_102.out _; (with_reducible repeat (first | refine blk_drewN ?_ _ | refine blk_drew ?_ | refine blk_alloc ?_ _)); exact BK101.out⟩, ⟨by (with_reducible repeat (first | refine blk_drewN ?_ _ | refine blk_drew ?_ | refine blk_alloc ?_ _)); refine blk_put (cs := #[.int .i64 0]) ?_ 0 _ rfl; (with_reducible repeat (first | refine blk_drewN ?_ _ | refine blk_drew ?_ | refine blk_alloc ?_ _)); exact BK102.out⟩, ⟨by repeat (first | (with_reducible first | exact HB.out | apply below_alloc | apply pw_below_drewN | apply below_drew1 | refine below_set ?_ GE101.out | refine below_set ?_ GE102.out) | exact HB.out)⟩⟩
 case rest =>
  clear HC2
  try clear c1
  try clear p2
  try clear c4
  try clear c6
  try clear p6
  try clear c9
  try clear c11
  try clear c15
  try clear hcz12_0
  try clear hcz13_0
  try clear hcz16_0
  try clear hcz4_0
  try clear hcz7_0
  try clear hfz12_0
  try clear hfz13_0
  try clear hfz16_0
  try clear hfz4_0
  try clear hfz7_0
  obtain ⟨kq, x16_1, rfl, HA, HJ1, BK101, BK102, HB⟩ := hcut
  cases kq with
  | zero => exact absurd HA.out (by simp [impl_FromUpperHalf.j0])
  | succ kj1 =>
   have H := HA.out
   clear HA
   simp only [impl_FromUpperHalf.j0] at H
   by_cases c17 : x16_1 = true
   ·subst c17
    have H1 : (some (([] : List (List Int)), false)) = some (r1, r2) := by rw [if_pos rfl] at H; exact H
    clear H
    have H := H1
    clear H1
    simp only [Option.some.injEq, Prod.mk.injEq] at H
    obtain ⟨rfl, rfl⟩ := H
    go_wp2
    go_ret2
    exact ⟨_, by first | rfl | (simp [errW_none, errW_some] <;> rfl) | (simp [*, errW_none, errW_some] <;> rfl), by first | exact Kd.S_nil _ _ _ _ _ | exact Kd.N_nil _ _ _ _ _ | exact Kd.V_nil _ _ _ _ _ | exact Kd.Q_nil _ _ _ _ _ | exact Kd.R_nil _ _ _ _ _, by repeat (first | (with_reducible first | exact HB.out | apply below_alloc | apply pw_below_drewN | apply below_drew1 | refine below_set ?_ GE101.out | refine below_set ?_ GE102.out) | exact HB.out)⟩
   ·replace c17 := Bool.eq_false_iff.mpr c17
    subst c17
    have H1 : ((impl_table.f kj1 (wrap64 (2 * (l0.length : Int))) (wrap64 (2 * (l0.length : Int))) (fun x0_ x1_ => impl_FromUpperHalf_2.f x0_ x1_ (wrap64 (2 * (l0.length : Int))) l0)).bind fun t105 => ((impl_IsSignMatrix.f kj1 t105).bind fun t108 => (if t108 = true then (some (t105, true)) else (some (([] : List (List Int)), false))))) = some (r1, r2) := by rw [if_neg (show ¬ (false = true) by decide)] at H; exact H
    clear H
    have H := H1
    clear H1
    replace H := Option.bind_eq_some_iff.mp H
    obtain ⟨t105, A180, H⟩ := H
    replace H : ((impl_IsSignMatrix.f kj1 t105).bind fun t108 => (if t108 = true then (some (t105, true)) else (some (([] : List (List Int)), false)))) = some (r1, r2) := H
    have A18 := am_ A180
    clear A180
    replace H := Option.bind_eq_some_iff.mp H
    obtain ⟨t108, A190, H⟩ := H
    replace H : (if t108 = true then (some (t105, true)) else (some (([] : List (List Int)), false))) = some (r1, r2) := H
    have A19 := am_ A190
    clear A190
    by_cases c20 : t108 = true
    ·subst c20
     have H1 : (some (t105, true)) = some (r1, r2) := by rw [if_pos rfl] at H; exact H
     clear H
     have H := H1
     clear H1
     simp only [Option.some.injEq, Prod.mk.injEq] at H
     obtain ⟨rfl, rfl⟩ := H
     have hnb21 := NB102_101.out
     have hnc21 := NB101_102.out
     have hcz22_0 : wc.cell? ⟨gb102, 0, none⟩ = some (.int .i64 (wrap64 (2 * (l0.length : Int)))) := (blk_cell BK102.out 0).trans rfl
     have hfz22_0 := blk_frozen BK102.out 0
     go_wp2_with (first | ((with_reducible refine gate_callee (f := 84) rfl ?_); refine goesL_ (some 20) rfl rfl Try.func84 (by kernel_rfl) rfl #[.int .i64 (wrap64 (2 * (l0.length : Int))), .int .i64 (wrap64 (2 * (l0.length : Int))), .func (.func 93) #[] #[.pointer (some ⟨gb102, 0, none⟩), .pointer (some ⟨gb101, 0, none⟩)]] rfl tc1_ ?_; (with_reducible refine (impl_table.calls kj1 (wrap64 (2 * (l0.length : Int))) (wrap64 (2 * (l0.length : Int))) _ _ (fun x0_ x1_ => impl_FromUpperHalf_2.f x0_ x1_ (wrap64 (2 * (l0.length : Int))) l0) t105 _ ?side1 A18.out).mono ?_); (case side1 => refine ⟨enters_of Try.func93 (by kernel_rfl) rfl, fun W_ hW_ x0_ v0_ hK0_ x1_ v1_ hK1_ r_ hr_ => ?_⟩; cases (show v0_ = .int .i64 x0_ from tc60_); cases (show v1_ = .int .i64 x1_ from tc61_); refine (impl_FromUpperHalf_2.calls x0_ x1_ _ (wrap64 (2 * (l0.length : Int))) _ A0 c0 l0 r_ W_ ?cb1 ?cb2 ?cb3 ?cb4 hr_).mono ?_; (case cb1 => exact tc54_); (case cb2 => exact tc34_); (case cb3 => exact tc25_); (case cb4 => exact HC0.out); exact fun _ _ h_ => ⟨h_.1, h_.2.below⟩); rintro e w23 ⟨v106, rfl, ho0, hb⟩; refine ⟨_, rfl, ?_⟩; have n0_ := am_ (Kd.S_lower (Kd.S_newB ho0 (g := gb102) (o := .cells #[.int .i64 (wrap64 (2 * (l0.length : Int)))] 3 (0, 0)) tc19_) (below_size tc13_)); have n1_ := am_ (blk_below (g := gb101) (o := .cells #[.slice A0 l0.length c0] 28 (0, 0)) tc8_ hb); have n2_ := am_ (blk_below (g := gb102) (o := .cells #[.int .i64 (wrap64 (2 * (l0.length : Int)))] 3 (0, 0)) tc19_ hb); have n3_ := am_ (below_step tc13_ hb); clear BK101 BK102 HB; have HO107 := n0_; have BK101 := n1_; have BK102 := n2_; have HB := n3_; clear n0_ n1_ n2_ n3_; (try clear hb ho0); obtain ⟨Ao24, co24, eo24⟩ := Kd.S_slice HO107.out; subst eo24) | ((with_reducible refine gate_callee (f := 73) rfl ?_); refine goesL_ (some 22) rfl rfl Try.func73 (by kernel_rfl) rfl #[.slice Ao24 t105.length co24] rfl tc1_ ?_; (with_reducible refine (impl_IsSignMatrix.calls kj1 _ _ t105 true _ ?side1 ?side2 A19.out).mono ?_); (case side1 => exact tc47_); (case side2 => exact (Kd.S_reads' HO107.out).2.1); rintro e w25 ⟨rfl, hb⟩; refine ⟨_, rfl, ?_⟩; have n0_ := am_ (Kd.S_below tc64_ hb); have n1_ := am_ (blk_below (g := gb101) (o := .cells #[.slice A0 l0.length c0] 28 (0, 0)) tc8_ hb); have n2_ := am_ (blk_below (g := gb102) (o := .cells #[.int .i64 (wrap64 (2 * (l0.length : Int)))] 3 (0, 0)) tc19_ hb); have n3_ := am_ (below_step tc13_ hb); clear HO107 BK101; clear BK102 HB; have HO107 := n0_; have BK101 := n1_; have BK102 := n2_; have HB := n3_; clear n0_ n1_ n2_ n3_; (try clear hb)))
     go_ret2
     exact ⟨_, by first | rfl | (simp [errW_none, errW_some] <;> rfl) | (simp [*, errW_none, errW_some] <;> rfl), by (with_reducible repeat (first | apply Kd.S_alloc | apply Kd.S_drewN | apply Kd.S_drew)); exact Kd.S_mono HO107.out (fun _ hk => trivial), by repeat (first | (with_reducible first | exact HB.out | apply below_alloc | apply pw_below_drewN | apply below_drew1 | refine below_set ?_ GE101.out | refine below_set ?_ GE102.out) | exact HB.out)⟩
    ·replace c20 := Bool.eq_false_iff.mpr c20
     subst c20
     have H1 : (some (([] : List (List Int)), false)) = some (r1, r2) := by rw [if_neg (show ¬ (false = true) by decide)] at H; exact H
     clear H
     have H := H1
     clear H1
     simp only [Option.some.injEq, Prod.mk.injEq] at H
     obtain ⟨rfl, rfl⟩ := H
     have hnb26 := NB102_101.out
     have hnc26 := NB101_102.out
     have hcz27_0 : wc.cell? ⟨gb102, 0, none⟩ = some (.int .i64 (wrap64 (2 * (l0.length : Int)))) := (blk_cell BK102.out 0).trans rfl
     have hfz27_0 := blk_frozen BK102.out 0
     go_wp2_with (first | ((with_reducible refine gate_callee (f := 84) rfl ?_); refine goesL_ (some 20) rfl rfl Try.func84 (by kernel_rfl) rfl #[.int .i64 (wrap64 (2 * (l0.length : Int))), .int .i64 (wrap64 (2 * (l0.length : Int))), .func (.func 93) #[] #[.pointer (some ⟨gb102, 0, none⟩), .pointer (some ⟨gb101, 0, none⟩)]] rfl tc1_ ?_; (with_reducible refine (impl_table.calls kj1 (wrap64 (2 * (l0.length : Int))) (wrap64 (2 * (l0.length : Int))) _ _ (fun x0_ x1_ => impl_FromUpperHalf_2.f x0_ x1_ (wrap64 (2 * (l0.length : Int))) l0) t105 _ ?side1 A18.out).mono ?_); (case side1 => refine ⟨enters_of Try.func93 (by kernel_rfl) rfl, fun W_ hW_ x0_ v0_ hK0_ x1_ v1_ hK1_ r_ hr_ => ?_⟩; cases (show v0_ = .int .i64 x0_ from tc60_); cases (show v1_ = .int .i64 x1_ from tc61_); refine (impl_FromUpperHalf_2.calls x0_ x1_ _ (wrap64 (2 * (l0.length : Int))) _ A0 c0 l0 r_ W_ ?cb1 ?cb2 ?cb3 ?cb4 hr_).mono ?_; (case cb1 => exact tc54_); (case cb2 => exact tc34_); (case cb3 => exact tc25_); (case cb4 => exact HC0.out); exact fun _ _ h_ => ⟨h_.1, h_.2.below⟩); rintro e w28 ⟨v106, rfl, ho0, hb⟩; refine ⟨_, rfl, ?_⟩; have n0_ := am_ (Kd.S_lower (Kd.S_newB ho0 (g := gb102) (o := .cells #[.int .i64 (wrap64 (2 * (l0.length : Int)))] 3 (0, 0)) tc19_) (below_size tc13_)); have n1_ := am_ (blk_below (g := gb101) (o := .cells #[.slice A0 l0.length c0] 28 (0, 0)) tc8_ hb); have n2_ := am_ (blk_below (g := gb102) (o := .cells #[.int .i64 (wrap64 (2 * (l0.length : Int)))] 3 (0, 0)) tc19_ hb); have n3_ := am_ (below_step tc13_ hb); clear BK101 BK102 HB; have HO107 := n0_; have BK101 := n1_; have BK102 := n2_; have HB := n3_; clear n0_ n1_ n2_ n3_; (try clear hb ho0); obtain ⟨Ao29, co29, eo29⟩ := Kd.S_slice HO107.out; subst eo29) | ((with_reducible refine gate_callee (f := 73) rfl ?_); refine goesL_ (some 22) rfl rfl Try.func73 (by kernel_rfl) rfl #[.slice Ao29 t105.length co29] rfl tc1_ ?_; (with_reducible refine (impl_IsSignMatrix.calls kj1 _ _ t105 false _ ?side1 ?side2 A19.out).mono ?_); (case side1 => exact tc47_); (case side2 => exact (Kd.S_reads' HO107.out).2.1); rintro e w30 ⟨rfl, hb⟩; refine ⟨_, rfl, ?_⟩; have n0_ := am_ (Kd.S_below tc64_ hb); have n1_ := am_ (blk_below (g := gb101) (o := .cells #[.slice A0 l0.length c0] 28 (0, 0)) tc8_ hb); have n2_ := am_ (blk_below (g := gb102) (o := .cells #[.int .i64 (wrap64 (2 * (l0.length : Int)))] 3 (0, 0)) tc19_ hb); have n3_ := am_ (below_step tc13_ hb); clear HO107 BK101; clear BK102 HB; have HO107 := n0_; have BK101 := n1_; have BK102 := n2_; have HB := n3_; clear n0_ n1_ n2_ n3_; (try clear hb)))
     go_ret2
     exact ⟨_, by first | rfl | (simp [errW_none, errW_some] <;> rfl) | (simp [*, errW_none, errW_some] <;> rfl), by first | exact Kd.S_nil _ _ _ _ _ | exact Kd.N_nil _ _ _ _ _ | exact Kd.V_nil _ _ _ _ _ | exact Kd.Q_nil _ _ _ _ _ | exact Kd.R_nil _ _ _ _ _, by repeat (first | (with_reducible first | exact HB.out | apply below_alloc | apply pw_below_drewN | apply below_drew1 | refine below_set ?_ GE101.out | refine below_set ?_ GE102.out) | exact HB.out)⟩

/-! ### spec_DrawFromLeftHalf: function 46 -/
mutual
def spec_DrawFromLeftHalf.j0 : Nat → List (List Int) → Bool → List Int → Int → Int → Option ((List (List Int)))
 | 0, _, _, _, _, _ => none
 | k + 1, x4, x24, x102000, x102001, x102002 => if x24 = true then (some x4) else ((spec_l1Cur_pick.f x102000 x102001 x102002 7).bind fun bt114 => (spec_DrawFromLeftHalf.l0 k ([] : List (List Int)) bt114.1 x102000 bt114.2.1 bt114.2.2))
def spec_DrawFromLeftHalf.l0 : Nat → List (List Int) → Int → List Int → Int → Int → Option ((List (List Int)))
 | 0, _, _, _, _, _ => none
 | k + 1, x6, x7, x102000, x102001, x102002 => if x7 > 0 then ((spec_l1Cur_pick.f x102000 x102001 x102002 3).bind fun bt117 => (spec_DrawFromLeftHalf.l1 k x6 x7 ([] : List Int) bt117.1 x102000 bt117.2.1 bt117.2.2)) else (some x6)
def spec_DrawFromLeftHalf.l1 : Nat → List (List Int) → Int → List Int → Int → List Int → Int → Int → Option ((List (List Int)))
 | 0, _, _, _, _, _, _, _ => none
 | k + 1, x6, x7, x8, x9, x102000, x102001, x102002 => if x9 > 0 then ((spec_l1Cur_pick.f x102000 x102001 x102002 4).bind fun bt120 => (if x8.length < 17592186044416 then (spec_DrawFromLeftHalf.l1 k x6 x7 (x8 ++ [wrap64 (bt120.1 - 1)]) (wrap64 (x9 - 1)) x102000 bt120.2.1 bt120.2.2) else (none))) else (if x6.length < 5864062014805 then (spec_DrawFromLeftHalf.l0 k (x6 ++ [x8]) (wrap64 (x7 - 1)) x102000 x102001 x102002) else (none))
end
def spec_DrawFromLeftHalf.f (k : Nat) (l0 : List Int) : Option ((List (List Int))) := (spec_l1Cur_symmetric.f k l0 0 0).bind fun bt102 => ((spec_LeftHalf.f k bt102.1).bind fun bt107 => (if bt107.2 = true then ((spec_l1Cur_one.f l0 bt102.2.1 bt102.2.2 4).bind fun bt111 => (spec_DrawFromLeftHalf.j0 k bt107.1 (!bt111.1) l0 bt111.2.1 bt111.2.2)) else (spec_DrawFromLeftHalf.j0 k bt107.1 false l0 bt102.2.1 bt102.2.2)))
set_option maxHeartbeats 8000000 in
set_option maxRecDepth 100000 in
theorem spec_DrawFromLeftHalf.calls (k : Nat) (A0 : Option Addr) (c0 : Nat) (l0 : List Int) (r : List (List Int)) (w : World) (hr0 : Kd.C (Kd.int .u8) w A0 l0.length l0) (hc0 : l0.length ≤ c0) (h : spec_DrawFromLeftHalf.f k l0 = some r) :
  Calls Try.prog 46 #[.slice A0 l0.length c0] w fun e w' => ∃ v0_ : Value, e = .returned (v0_) ∧ Kd.N (Kd.slice 3 (Kd.int .i64)) 24 w' w.heap.size (fun k_ => (w.heap.size ≤ k_)) v0_ r ∧ Below w.heap.size w w' := by
 have hu43 := Try.underlying43
 have HR0 := am_ hr0
 have HC0 := am_ hc0
 clear hr0 hc0
 have HB := am_ (Below.refl w.heap.size w)
 have H : ((spec_l1Cur_symmetric.f k l0 0 0).bind fun bt102 => ((spec_LeftHalf.f k bt102.1).bind fun bt107 => (if bt107.2 = true then ((spec_l1Cur_one.f l0 bt102.2.1 bt102.2.2 4).bind fun bt111 => (spec_DrawFromLeftHalf.j0 k bt107.1 (!bt111.1) l0 bt111.2.1 bt111.2.2)) else (spec_DrawFromLeftHalf.j0 k bt107.1 false l0 bt102.2.1 bt102.2.2)))) = some r := h
 clear h
 replace H := Option.bind_eq_some_iff.mp H
 obtain ⟨⟨t102, t105, t106⟩, A20, H⟩ := H
 replace H : ((spec_LeftHalf.f k t102).bind fun bt107 => (if bt107.2 = true then ((spec_l1Cur_one.f l0 t105 t106 4).bind fun bt111 => (spec_DrawFromLeftHalf.j0 k bt107.1 (!bt111.1) l0 bt111.2.1 bt111.2.2)) else (spec_DrawFromLeftHalf.j0 k bt107.1 false l0 t105 t106))) = some r := H
 have A2 := am_ A20
 clear A20
 replace H := Option.bind_eq_some_iff.mp H
 obtain ⟨⟨t107, t108⟩, A30, H⟩ := H
 replace H : (if t108 = true then ((spec_l1Cur_one.f l0 t105 t106 4).bind fun bt111 => (spec_DrawFromLeftHalf.j0 k t107 (!bt111.1) l0 bt111.2.1 bt111.2.2)) else (spec_DrawFromLeftHalf.j0 k t107 false l0 t105 t106)) = some r := H
 have A3 := am_ A30
 clear A30
 have HC4 := am_ H
 clear H
 go_enter Try.func46, Try.ntmps46
 go_upto_region 3 with (first | ((with_reducible refine gate_dst (N := 12) rfl ?_); refine box_event ?hg (N := 12) ?hd (cs := #[.slice A0 l0.length c0, .int .i64 0, .int .u64 0]) (t := 43) ?hr ?_; (case hd => rfl); (case hg => rfl); (case hr => exact tc22_); intro gb101 hg w5 hbox hb; have n0_ := am_ (below_step tc0_ hb); have n1_ := am_ ((by rw [hg]; exact (below_size tc0_) : w.heap.size ≤ gb101)); have n2_ := am_ ((by rw [hg]; exact (below_size tc0_) : w.heap.size ≤ gb101)); have n3_ := am_ ((show IsS43 w w5 gb101 l0 0 0 from ⟨A0, c0, hbox, (by rw [hg]; exact (below_size tc0_) : w.heap.size ≤ gb101), HR0.out⟩)); clear HB; have HB := n0_; have GW101 := n1_; have GE101 := n2_; have HI101 := n3_; clear n0_ n1_ n2_ n3_; clear hb hbox hg) | ((with_reducible refine gate_callee (f := 94) rfl ?_); refine goesL_ (some 15) rfl rfl Try.func94 (by kernel_rfl) rfl #[.pointer (some ⟨gb101, 0, none⟩)] rfl tc1_ ?_; (with_reducible refine (spec_l1Cur_symmetric.calls k gb101 l0 0 0 t102 t105 t106 w _ ?side1 ?side2 A2.out).mono ?_); (case side1 => exact tc10_); (case side2 => exact tc6_); rintro e w6 ⟨v103, rfl, ho0, hi, hb, hk⟩; refine ⟨_, rfl, ?_⟩; have n0_ := am_ (Kd.N_lower (Kd.N_mono (ok' := fun k_ => (w.heap.size ≤ k_) ∧ k_ ≠ gb101) ho0 (fun k_ hk_ => ⟨(Nat.le_trans (below_size tc6_) hk_), (IsS43.fresh tc10_ k_ hk_)⟩)) (below_size tc6_)); have n1_ := am_ (hb); have n2_ := am_ (hi); clear HB HI101; have HO104 := n0_; have HB := n1_; have HI101 := n2_; clear n0_ n1_ n2_; (try clear hb hk hi ho0); obtain ⟨Ao7, co7, eo7⟩ := Kd.N_slice HO104.out; subst eo7) | ((with_reducible refine gate_callee (f := 37) rfl ?_); refine goesL_ (some 16) rfl rfl Try.func37 (by kernel_rfl) rfl #[.slice Ao7 t102.length co7] rfl tc1_ ?_; (with_reducible refine (spec_LeftHalf.calls k _ _ t102 t107 t108 _ ?side1 ?side2 A3.out).mono ?_); (case side1 => exact tc21_); (case side2 => exact tc71_); rintro e w8 ⟨v109, rfl, ho0, hb⟩; refine ⟨_, rfl, ?_⟩; have n0_ := am_ (Kd.N_elder' tc16_ (Kd.S_base ho0) hb); have n1_ := am_ (Kd.N_lower (Kd.N_mono (ok' := fun k_ => (w.heap.size ≤ k_) ∧ some k_ ≠ (.slice Ao7 t102.length co7 : Value).ownBlock ∧ k_ ≠ gb101) (Kd.S_N (Kd.S_bound ho0)) (fun k_ hk_ => ⟨(Nat.le_trans (below_size tc6_) hk_.2.1), (Kd.fresh' (Kd.N_lt tc16_) k_ hk_.2.1), (IsS43.fresh tc10_ k_ hk_.2.1)⟩)) (below_size tc6_)); have n2_ := am_ (IsS43.below tc10_ hb); have n3_ := am_ (below_step tc6_ hb); clear HO104 HI101 HB; have HO104 := n0_; have HO110 := n1_; have HI101 := n2_; have HB := n3_; clear n0_ n1_ n2_ n3_; (try clear hb ho0)))
 (try simp only [Act.put, List.setIfInBounds_toArray, List.set_cons_zero, List.set_cons_succ])
 go_cut [24] (fun v24 wc => ∃ (kq : Nat) (x24_3 : Bool) (x102001_3 : Int) (x102002_3 : Int), v24 = .bool x24_3 ∧ Aside0 (spec_DrawFromLeftHalf.j0 kq t107 x24_3 l0 x102001_3 x102002_3 = some r) ∧ Aside0 (kq ≤ k) ∧ Aside0 (Kd.N (Kd.slice 3 (Kd.int .i64)) 24 wc w.heap.size (fun k_ => (w.heap.size ≤ k_) ∧ k_ ≠ gb101) v109 t107) ∧ Aside0 (IsS43 w wc gb101 l0 x102001_3 x102002_3) ∧ Aside0 (Below w.heap.size w wc))
 case first =>
  have H := HC4.out
  clear HC4
  by_cases c9 : t108 = true
  ·subst c9
   have H1 : ((spec_l1Cur_one.f l0 t105 t106 4).bind fun bt111 => (spec_DrawFromLeftHalf.j0 k t107 (!bt111.1) l0 bt111.2.1 bt111.2.2)) = some r := by rw [if_pos rfl] at H; exact H
   clear H
   have H := H1
   clear H1
   replace H := Option.bind_eq_some_iff.mp H
   obtain ⟨⟨t111, t112, t113⟩, A100, H⟩ := H
   replace H : (spec_DrawFromLeftHalf.j0 k t107 (!t111) l0 t112 t113) = some r := H
   have A10 := am_ A100
   clear A100
   have H' := am_ H
   clear H
   go_wp2_with (first | (go_at_call 95; (with_reducible refine (spec_l1Cur_one.calls gb101 l0 t105 t106 4 t111 t112 t113 w _ ?side1 ?side2 A10.out).mono ?_); (case side1 => exact tc10_); (case side2 => exact tc6_); rintro e w11 ⟨rfl, hi, hb, hk⟩; have n0_ := am_ (Kd.N_mono (Kd.N_keep (Kd.N_mono (ok := fun k_ => ((((w.heap.size ≤ k_)) ∧ k_ ≠ gb101) ∧ some k_ ≠ (v109 : Value).ownBlock)) tc16_ (fun k_ hk_ => (⟨hk_, hk_.1.2⟩ : _ ∧ k_ ≠ gb101))) hk (fun _ h => h.2)) (fun _ h => h.1)); have n1_ := am_ (Kd.N_mono (Kd.N_keep (Kd.N_mono (ok := fun k_ => (((w.heap.size ≤ k_)) ∧ (some k_ ≠ (.slice Ao7 t102.length co7 : Value).ownBlock ∧ k_ ≠ gb101))) tc45_ (fun k_ hk_ => (⟨hk_, hk_.2.2⟩ : _ ∧ k_ ≠ gb101))) hk (fun _ h => h.2)) (fun _ h => h.1)); have n2_ := am_ (hb); have n3_ := am_ (hi); clear HO104 HO110; clear HB HI101; have HO104 := n0_; have HO110 := n1_; have HB := n2_; have HI101 := n3_; clear n0_ n1_ n2_ n3_; (try clear hb hk hi)))
   go_meet
   case rel => exact ⟨_, (!t111), (t112), (t113), tc9_, H', ⟨by first | omega | exact Nat.le_refl _⟩, ⟨by (with_reducible repeat (first | apply Kd.N_alloc | apply Kd.N_drewN | apply Kd.N_drew)); exact Kd.N_mono HO110.out (fun _ hk => ⟨hk.1, hk.2.2⟩)⟩, ⟨by repeat (first | (with_reducible first | exact HI101.out | apply IsS43.alloc | apply IsS43.drewN | apply IsS43.drew | apply IsS43.set_1 | apply IsS43.set_2) | exact HI101.out)⟩, ⟨by repeat (first | (with_reducible first | exact HB.out | apply below_alloc | apply pw_below_drewN | apply below_drew1 | refine below_set ?_ (IsS43.ge HI101.out)) | exact HB.out)⟩⟩
  ·replace c9 := Bool.eq_false_iff.mpr c9
   subst c9
   have H1 : (spec_DrawFromLeftHalf.j0 k t107 false l0 t105 t106) = some r := by rw [if_neg (show ¬ (false = true) by decide)] at H; exact H
   clear H
   have H := H1
   clear H1
   have H' := am_ H
   clear H
   go_wp2
   go_meet
   case rel => exact ⟨_, (false), (t105), (t106), tc9_, H', ⟨by first | omega | exact Nat.le_refl _⟩, ⟨by (with_reducible repeat (first | apply Kd.N_alloc | apply Kd.N_drewN | apply Kd.N_drew)); exact Kd.N_mono HO110.out (fun _ hk => ⟨hk.1, hk.2.2⟩)⟩, ⟨by repeat (first | (with_reducible first | exact HI101.out | apply IsS43.alloc | apply IsS43.drewN | apply IsS43.drew | apply IsS43.set_1 | apply IsS43.set_2) | exact HI101.out)⟩, ⟨by repeat (first | (with_reducible first | exact HB.out | apply below_alloc | apply pw_below_drewN | apply below_drew1 | refine below_set ?_ (IsS43.ge HI101.out)) | exact HB.out)⟩⟩
 case rest =>
  clear HC4
  try clear p2
  try clear c3
  try clear c4
  try clear c9
  obtain ⟨kq, x24_3, x102001_3, x102002_3, rfl, HA, HJ3, HO_4, HI101, HB⟩ := hcut
  cases kq with
  | zero => exact absurd HA.out (by simp [spec_DrawFromLeftHalf.j0])
  | succ kj3 =>
   have H := HA.out
   clear HA
   simp only [spec_DrawFromLeftHalf.j0] at H
   by_cases c12 : x24_3 = true
   ·subst c12
    have H1 : (some t107) = some r := by rw [if_pos rfl] at H; exact H
    clear H
    have H := H1
    clear H1
    obtain rfl := Option.some.inj H
    go_wp2
    go_ret
    exact ⟨_, by first | rfl | (simp [errW_none, errW_some] <;> rfl) | (simp [*, errW_none, errW_some] <;> rfl), by (with_reducible repeat (first | apply Kd.N_alloc | apply Kd.N_drewN | apply Kd.N_drew)); exact Kd.N_mono HO_4.out (fun _ hk => hk.1), by repeat (first | (with_reducible first | exact HB.out | apply below_alloc | apply pw_below_drewN | apply below_drew1 | refine below_set ?_ (IsS43.ge HI101.out)) | exact HB.out)⟩
   ·replace c12 := Bool.eq_false_iff.mpr c12
    subst c12
    have H1 : ((spec_l1Cur_pick.f l0 x102001_3 x102002_3 7).bind fun bt114 => (spec_DrawFromLeftHalf.l0 kj3 ([] : List (List Int)) bt114.1 l0 bt114.2.1 bt114.2.2)) = some r := by rw [if_neg (show ¬ (false = true) by decide)] at H; exact H
    clear H
    have H := H1
    clear H1
    replace H := Option.bind_eq_some_iff.mp H
    obtain ⟨⟨t114, t115, t116⟩, A130, H⟩ := H
    replace H : (spec_DrawFromLeftHalf.l0 kj3 ([] : List (List Int)) t114 l0 t115 t116) = some r := H
    have A13 := am_ A130
    clear A130
    have H' := am_ H
    clear H
    go_wp2_with (first | ((with_reducible refine gate_callee (f := 96) rfl ?_); refine goesL_ (some 27) rfl rfl Try.func96 (by kernel_rfl) rfl #[.pointer (some ⟨gb101, 0, none⟩), .int .i64 7] rfl tc1_ ?_; (with_reducible refine (spec_l1Cur_pick.calls gb101 l0 x102001_3 x102002_3 7 t114 t115 t116 w _ ?side1 ?side2 A13.out).mono ?_); (case side1 => exact tc10_); (case side2 => exact tc6_); rintro e w14 ⟨rfl, hi, hb, hk⟩; refine ⟨_, rfl, ?_⟩; have n0_ := am_ (Kd.N_mono (Kd.N_keep (Kd.N_mono (ok := fun k_ => (((w.heap.size ≤ k_)) ∧ k_ ≠ gb101)) (by (with_reducible repeat (first | apply Kd.N_alloc | apply Kd.N_drewN | apply Kd.N_drew)); exact HO_4.out) (fun k_ hk_ => (⟨hk_, hk_.2⟩ : _ ∧ k_ ≠ gb101))) hk (fun _ h => h.2)) (fun _ h => h.1)); have n1_ := am_ (hb); have n2_ := am_ (hi); clear HO_4 HB HI101; have HO_4 := n0_; have HB := n1_; have HI101 := n2_; clear n0_ n1_ n2_; (try clear hb hk hi)))
    go_loopg [6, 7] kj3 (fun kq v6 v7 w' => ∃ (x6_2 : List (List Int)) (x7_2 : Int) (x102001_2 : Int) (x102002_2 : Int), v7 = .int .i64 x7_2 ∧ Aside0 (spec_DrawFromLeftHalf.l0 kq x6_2 x7_2 l0 x102001_2 x102002_2 = some r) ∧ Aside0 (kq ≤ kj3) ∧ Aside0 (Kd.N (Kd.slice 3 (Kd.int .i64)) 24 w' w.heap.size (fun k_ => (w.heap.size ≤ k_) ∧ k_ ≠ gb101) v6 x6_2) ∧ Aside0 (IsS43 w w' gb101 l0 x102001_2 x102002_2) ∧ Aside0 (Below w.heap.size w w'))
    case atStart => exact ⟨(([] : List (List Int))), (t114), (t115), (t116), tc9_, H', ⟨Nat.le_refl _⟩, ⟨by first | exact Kd.S_nil _ _ _ _ _ | exact Kd.N_nil _ _ _ _ _ | exact Kd.V_nil _ _ _ _ _ | exact Kd.Q_nil _ _ _ _ _ | exact Kd.R_nil _ _ _ _ _⟩, ⟨by repeat (first | (with_reducible first | exact HI101.out | apply IsS43.alloc | apply IsS43.drewN | apply IsS43.drew | apply IsS43.set_1 | apply IsS43.set_2) | exact HI101.out)⟩, ⟨by repeat (first | (with_reducible first | exact HB.out | apply below_alloc | apply pw_below_drewN | apply below_drew1 | refine below_set ?_ (IsS43.ge HI101.out)) | exact HB.out)⟩⟩
    case round =>
     clear H'
     try clear c1
     try clear p2
     try clear c3
     try clear c4
     try clear c9
     try clear c12
     try clear p2
     obtain ⟨x6_2, x7_2, x102001_2, x102002_2, rfl, HA, HK2, HO_6, HI101, HB⟩ := hrel
     cases gk with
     | zero => exact absurd HA.out (by simp [spec_DrawFromLeftHalf.l0])
     | succ k2 =>
      have H := HA.out
      clear HA
      simp only [spec_DrawFromLeftHalf.l0] at H
      by_cases c15 : x7_2 > 0
      ·rw [if_pos c15] at H
       have c15b0 : decide (0 < x7_2) = true := decide_eq_true c15
       clear c15
       replace H := Option.bind_eq_some_iff.mp H
       obtain ⟨⟨t117, t118, t119⟩, A160, H⟩ := H
       replace H : (spec_DrawFromLeftHalf.l1 k2 x6_2 x7_2 ([] : List Int) t117 l0 t118 t119) = some r := H
       have A16 := am_ A160
       clear A160
       have H' := am_ H
       clear H
       go_wp2_with (first | ((with_reducible refine gate_callee (f := 96) rfl ?_); refine goesL_ (some 33) rfl rfl Try.func96 (by kernel_rfl) rfl #[.pointer (some ⟨gb101, 0, none⟩), .int .i64 3] rfl tc1_ ?_; (with_reducible refine (spec_l1Cur_pick.calls gb101 l0 x102001_2 x102002_2 3 t117 t118 t119 w _ ?side1 ?side2 A16.out).mono ?_); (case side1 => exact tc10_); (case side2 => exact tc6_); rintro e w17 ⟨rfl, hi, hb, hk⟩; refine ⟨_, rfl, ?_⟩; have n0_ := am_ (Kd.N_mono (Kd.N_keep (Kd.N_mono (ok := fun k_ => (((w.heap.size ≤ k_)) ∧ k_ ≠ gb101)) tc70_ (fun k_ hk_ => (⟨hk_, hk_.2⟩ : _ ∧ k_ ≠ gb101))) hk (fun _ h => h.2)) (fun _ h => h.1)); have n1_ := am_ (hb); have n2_ := am_ (hi); clear HO_6 HB HI101; have HO_6 := n0_; have HB := n1_; have HI101 := n2_; clear n0_ n1_ n2_; (try clear hb hk hi)))
       go_loopg [8, 9] k2 (fun kq v8 v9 w' => ∃ (x8_3 : List Int) (x9_3 : Int) (x102001_3 : Int) (x102002_3 : Int), v9 = .int .i64 x9_3 ∧ Aside0 (spec_DrawFromLeftHalf.l1 kq x6_2 x7_2 x8_3 x9_3 l0 x102001_3 x102002_3 = some r) ∧ Aside0 (kq ≤ k2) ∧ Aside0 (Kd.N (Kd.slice 3 (Kd.int .i64)) 24 w' w.heap.size (fun k_ => (w.heap.size ≤ k_) ∧ some k_ ≠ (v8 : Value).ownBlock ∧ k_ ≠ gb101) u6 x6_2) ∧ Aside0 (Kd.R (Kd.int .i64) 3 w' w.heap.size (fun k_ => (w.heap.size ≤ k_)) v8 x8_3) ∧ Aside0 (IsS43 w w' gb101 l0 x102001_3 x102002_3) ∧ Aside0 (Below w.heap.size w w'))
       case atStart => exact ⟨(([] : List Int)), (t117), (t118), (t119), tc9_, H', ⟨Nat.le_refl _⟩, ⟨by (with_reducible repeat (first | apply Kd.N_alloc | apply Kd.N_drewN | apply Kd.N_drew)); exact Kd.N_mono HO_6.out (fun _ hk => ⟨hk.1, ⟨(by simp [Value.ownBlock]), hk.2⟩⟩)⟩, ⟨by first | exact Kd.R_nil _ _ _ _ _ | exact Kd.N_nil _ _ _ _ _ | exact Kd.V_nil _ _ _ _ _ | exact Kd.Q_nil _ _ _ _ _ | exact Kd.S_nil _ _ _ _ _⟩, ⟨by repeat (first | (with_reducible first | exact HI101.out | apply IsS43.alloc | apply IsS43.drewN | apply IsS43.drew | apply IsS43.set_1 | apply IsS43.set_2) | exact HI101.out)⟩, ⟨by repeat (first | (with_reducible first | exact HB.out | apply below_alloc | apply pw_below_drewN | apply below_drew1 | refine below_set ?_ (IsS43.ge HI101.out)) | exact HB.out)⟩⟩
       case round =>
        clear H'
        try clear c1
        try clear p2
        try clear c3
        try clear c4
        try clear c9
        try clear c12
        try clear c15
        try clear c15b0
        try clear p2
        obtain ⟨x8_3, x9_3, x102001_3, x102002_3, rfl, HA, HK3, HO_6, HO_8, HI101, HB⟩ := hrel
        cases gk with
        | zero => exact absurd HA.out (by simp [spec_DrawFromLeftHalf.l1])
        | succ k3 =>
         have H := HA.out
         clear HA
         simp only [spec_DrawFromLeftHalf.l1] at H
         by_cases c18 : x9_3 > 0
         ·rw [if_pos c18] at H
          have c18b0 : decide (0 < x9_3) = true := decide_eq_true c18
          clear c18
          replace H := Option.bind_eq_some_iff.mp H
          obtain ⟨⟨t120, t121, t122⟩, A190, H⟩ := H
          replace H : (if x8_3.length < 17592186044416 then (spec_DrawFromLeftHalf.l1 k3 x6_2 x7_2 (x8_3 ++ [wrap64 (t120 - 1)]) (wrap64 (x9_3 - 1)) l0 t121 t122) else (none)) = some r := H
          have A19 := am_ A190
          clear A190
          by_cases c20 : x8_3.length < 17592186044416
          ·rw [if_pos c20] at H
           have LMc20 := am_ c20
           clear c20
           obtain ⟨y123, hy123⟩ : ∃ y_ : List Int, y_ = (x8_3 ++ [wrap64 (t120 - 1)]) := ⟨_, rfl⟩
           replace H : (spec_DrawFromLeftHalf.l1 k3 x6_2 x7_2 y123 (wrap64 (x9_3 - 1)) l0 t121 t122) = some r := by first | (rw [hy123]; with_reducible exact H) | (have H2_ := (Option.bind_some _ _).symm.trans H; rw [hy123]; with_reducible exact H2_) | (have H2_ := (Option.bind_some _ _).symm.trans H; with_reducible exact H2_) | with_reducible exact H | (rw [hy123]; exact H) | exact H
           have Ny123 := am_ hy123
           clear hy123
           have H' := am_ H
           clear H
           go_wp2_with (first | ((with_reducible refine gate_callee (f := 96) rfl ?_); refine goesL_ (some 40) rfl rfl Try.func96 (by kernel_rfl) rfl #[.pointer (some ⟨gb101, 0, none⟩), .int .i64 4] rfl tc1_ ?_; (with_reducible refine (spec_l1Cur_pick.calls gb101 l0 x102001_3 x102002_3 4 t120 t121 t122 w _ ?side1 ?side2 A19.out).mono ?_); (case side1 => exact tc10_); (case side2 => exact tc6_); rintro e w21 ⟨rfl, hi, hb, hk⟩; refine ⟨_, rfl, ?_⟩; have n0_ := am_ (Kd.N_mono (Kd.N_keep (Kd.N_mono (ok := fun k_ => (((w.heap.size ≤ k_)) ∧ (some k_ ≠ (u8 : Value).ownBlock ∧ k_ ≠ gb101))) tc70_ (fun k_ hk_ => (⟨hk_, hk_.2.2⟩ : _ ∧ k_ ≠ gb101))) hk (fun _ h => h.2)) (fun _ h => h.1)); have n1_ := am_ (Kd.R_mono (Kd.R_keep (IsS43.apart (show IsS43 w _ gb101 l0 x102001_3 x102002_3 from tc10_) (by (with_reducible repeat (first | apply Kd.R_alloc | apply Kd.R_drewN | apply Kd.R_drew)); exact HO_8.out) (by decide)) hk (fun _ h => h.2)) (fun _ h => h.1)); have n2_ := am_ (hb); have n3_ := am_ (hi); clear HO_6 HO_8; clear HB HI101; have HO_6 := n0_; have HO_8 := n1_; have HB := n2_; have HI101 := n3_; clear n0_ n1_ n2_ n3_; (try clear hb hk hi)) | ((with_reducible refine gate_builtin (b := .append) (xs := #[.tmp 38, .tmp 42]) rfl ?_); at_builtin; refine Kd.R_append (Kd.int .i64) (w0 := w) w.heap.size rfl (.tmp 38) (.tmp 42) 24 3 (.int .i64 0) 8 rfl Try.underlying24 info3 rfl (by decide) (by omega) u8 x8_3 (wrap64 (t120 - 1)) [.int .i64 (wrap64 (t120 - 1))] (fun k_ => (w.heap.size ≤ k_)) (fun _ => False) rfl rfl ?aP (fun _ hk => hk.elim) ?aF ?aO ?aB ?aS ?aL ?_; (case aP => exact rfl); (case aB => exact tc6_); (case aF => exact (fun k_ hk => (Nat.le_trans (below_size tc6_) hk))); (case aO => exact (by (with_reducible repeat (first | apply Kd.R_alloc | apply Kd.R_drewN | apply Kd.R_drew)); exact HO_8.out)); (case aS => exact (below_size tc6_)); (case aL => have := LMc20.out; omega); intro v124 w22 ho hb hg hat; rw [← Ny123.out] at ho; have n0_ := am_ (Kd.N_afterv (ok := (fun k_ => (w.heap.size ≤ k_) ∧ k_ ≠ gb101)) (by (with_reducible repeat (first | apply Kd.N_alloc | apply Kd.N_drewN | apply Kd.N_drew)); exact Kd.N_mono HO_6.out (fun _ hk => ⟨⟨hk.1, hk.2.2⟩, hk.2.1⟩)) hg hat); have n1_ := am_ (IsS43.grown tc10_ hg (IsS43.own_ne HI101.out HO_8.out (by decide))); have n2_ := am_ (hb); have n3_ := am_ (ho); clear HO_6 HI101; clear HB HO_8; have HO_6 := n0_; have HI101 := n1_; have HB := n2_; have HO125 := n3_; clear n0_ n1_ n2_ n3_; clear ho hb hg hat))
           go_roundg k3
           case measure => have := HJ3.out; have := HK2.out; have := HK3.out; omega
           case rel => exact ⟨(y123), (wrap64 (x9_3 - 1)), (t121), (t122), tc9_, H', ⟨by have := HJ3.out; have := HK2.out; have := HK3.out; omega⟩, ⟨by (with_reducible repeat (first | apply Kd.N_alloc | apply Kd.N_drewN | apply Kd.N_drew)); exact Kd.N_mono HO_6.out (fun _ hk => ⟨hk.1.1, ⟨hk.2, hk.1.2⟩⟩)⟩, ⟨by (with_reducible repeat (first | apply Kd.R_alloc | apply Kd.R_drewN | apply Kd.R_drew)); exact HO125.out⟩, ⟨by repeat (first | (with_reducible first | exact HI101.out | apply IsS43.alloc | apply IsS43.drewN | apply IsS43.drew | apply IsS43.set_1 | apply IsS43.set_2) | exact HI101.out)⟩, ⟨by repeat (first | (with_reducible first | exact HB.out | apply below_alloc | apply pw_below_drewN | apply below_drew1 | refine below_set ?_ (IsS43.ge HI101.out)) | exact HB.out)⟩⟩
          ·rw [if_neg c20] at H
           exact absurd H (by simp)
         ·rw [if_neg c18] at H
          have c18b0 : decide (0 < x9_3) = false := decide_eq_false c18
          clear c18
          by_cases c23 : x6_2.length < 5864062014805
          ·rw [if_pos c23] at H
           have LMc23 := am_ c23
           clear c23
           obtain ⟨y126, hy126⟩ : ∃ y_ : List (List Int), y_ = (x6_2 ++ [x8_3]) := ⟨_, rfl⟩
           replace H : (spec_DrawFromLeftHalf.l0 k3 y126 (wrap64 (x7_2 - 1)) l0 x102001_3 x102002_3) = some r := by first | (rw [hy126]; with_reducible exact H) | (have H2_ := (Option.bind_some _ _).symm.trans H; rw [hy126]; with_reducible exact H2_) | (have H2_ := (Option.bind_some _ _).symm.trans H; with_reducible exact H2_) | with_reducible exact H | (rw [hy126]; exact H) | exact H
           have Ny126 := am_ hy126
           clear hy126
           have H' := am_ H
           clear H
           obtain ⟨Ao25, co25, eo25⟩ := Kd.R_slice HO_8.out
           subst eo25
           go_wp2_with (first | ((with_reducible refine gate_builtin (b := .append) (xs := #[.tmp 44, .tmp 46]) rfl ?_); at_builtin; refine Kd.N_append (Kd.slice 3 (Kd.int .i64)) (w0 := w) w.heap.size rfl (.tmp 44) (.tmp 46) 28 24 (.slice none 0 0) 24 rfl Try.underlying28 info24 rfl (by decide) (by omega) u6 x6_2 x8_3 [.slice Ao25 x8_3.length co25] (fun k_ => (w.heap.size ≤ k_) ∧ k_ ≠ gb101) (fun k_ => ((fun k_ => (w.heap.size ≤ k_) ∧ k_ ≠ gb101)) k_ ∧ some k_ ≠ (u6 : Value).ownBlock) rfl rfl ?aP (fun _ hk => hk) ?aF ?aO ?aB ?aS ?aL ?_; (case aP => exact (Kd.FK_slice_mk (Kd.R_reads' (Kd.R_mono (ok' := (fun k_ => ((fun k_ => (w.heap.size ≤ k_) ∧ k_ ≠ gb101)) k_ ∧ some k_ ≠ (u6 : Value).ownBlock)) (IsS43.apart HI101.out (Kd.R_apart' (HO_8.out) (Kd.N_typed HO_6.out) (by decide)) (by decide)) (fun k_ hk => ⟨⟨hk.1.1, hk.2⟩, hk.1.2⟩))).2.1 (Kd.R_F (Kd.R_mono (ok' := (fun k_ => ((fun k_ => (w.heap.size ≤ k_) ∧ k_ ≠ gb101)) k_ ∧ some k_ ≠ (u6 : Value).ownBlock)) (IsS43.apart HI101.out (Kd.R_apart' (HO_8.out) (Kd.N_typed HO_6.out) (by decide)) (by decide)) (fun k_ hk => ⟨⟨hk.1.1, hk.2⟩, hk.1.2⟩))))); (case aB => exact tc6_); (case aF => exact (fun k_ hk => ⟨(Nat.le_trans (below_size tc6_) hk), IsS43.fresh tc10_ k_ hk⟩)); (case aO => exact (by (with_reducible repeat (first | apply Kd.N_alloc | apply Kd.N_drewN | apply Kd.N_drew)); exact Kd.N_mono HO_6.out (fun _ hk => ⟨hk.1, hk.2.2⟩))); (case aS => exact (below_size tc6_)); (case aL => have := LMc23.out; omega); intro v127 w24 ho hb hg hat; rw [← Ny126.out] at ho; have n0_ := am_ (IsS43.grown tc10_ hg (IsS43.own_neN HI101.out HO_6.out (by decide))); have n1_ := am_ (hb); have n2_ := am_ (ho); clear HI101 HB; clear HO_6 HO_8; have HI101 := n0_; have HB := n1_; have HO128 := n2_; clear n0_ n1_ n2_; clear ho hb hg hat))
           go_roundg k3
           case measure => have := HJ3.out; have := HK2.out; have := HK3.out; omega
           case rel => exact ⟨(y126), (wrap64 (x7_2 - 1)), (x102001_3), (x102002_3), tc9_, H', ⟨by have := HJ3.out; have := HK2.out; have := HK3.out; omega⟩, ⟨by (with_reducible repeat (first | apply Kd.N_alloc | apply Kd.N_drewN | apply Kd.N_drew)); exact HO128.out⟩, ⟨by repeat (first | (with_reducible first | exact HI101.out | apply IsS43.alloc | apply IsS43.drewN | apply IsS43.drew | apply IsS43.set_1 | apply IsS43.set_2) | exact HI101.out)⟩, ⟨by repeat (first | (with_reducible first | exact HB.out | apply below_alloc | apply pw_below_drewN | apply below_drew1 | refine below_set ?_ (IsS43.ge HI101.out)) | exact HB.out)⟩⟩
          ·rw [if_neg c23] at H
           exact absurd H (by simp)
      ·rw [if_neg c15] at H
       have c15b0 : decide (0 < x7_2) = false := decide_eq_false c15
       clear c15
       obtain rfl := Option.some.inj H
       go_wp2
       go_ret
       exact ⟨_, by first | rfl | (simp [errW_none, errW_some] <;> rfl) | (simp [*, errW_none, errW_some] <;> rfl), by (with_reducible repeat (first | apply Kd.N_alloc | apply Kd.N_drewN | apply Kd.N_drew)); exact Kd.N_mono HO_6.out (fun _ hk => hk.1), by repeat (first | (with_reducible first | exact HB.out | apply below_alloc | apply pw_below_drewN | apply below_drew1 | refine below_set ?_ (IsS43.ge HI101.out)) | exact HB.out)⟩

/-! ### spec_FromLeftHalf: function 47 -/
mutual
def spec_FromLeftHalf.j0 : Nat → List (List Int) → Int → Bool → Option ((List (List Int)) × Bool)
 | 0, _, _, _ => none
 | k + 1, x0, x4, x22 => if x22 = true then (some (([] : List (List Int)), false)) else (spec_FromLeftHalf.l0 k x4 ([] : List (List Int)) x0 (x0.length : Int) 0)
def spec_FromLeftHalf.l0 : Nat → Int → List (List Int) → List (List Int) → Int → Int → Option ((List (List Int)) × Bool)
 | 0, _, _, _, _, _ => none
 | k + 1, x4, x5, x23, x24, x25 => if x25 < x24 then (if 0 ≤ x25 then (if x25 < (x23.length : Int) then (if ((rd_L3 x23 x25).length : Int) = (wrap64 (x4 / 2)) then ((spec_l1All.f k (rd_L3 x23 x25) (-1) 1).bind fun t104 => (spec_FromLeftHalf.j2 k x4 x5 (rd_L3 x23 x25) x23 x24 x25 (!t104))) else (spec_FromLeftHalf.j2 k x4 x5 (rd_L3 x23 x25) x23 x24 x25 true)) else (none)) else (none)) else ((spec_sgGood.f k x5).bind fun t102 => (if t102 = true then (some (x5, true)) else (some (([] : List (List Int)), false))))
def spec_FromLeftHalf.j2 : Nat → Int → List (List Int) → List Int → List (List Int) → Int → Int → Bool → Option ((List (List Int)) × Bool)
 | 0, _, _, _, _, _, _, _ => none
 | k + 1, x4, x5, x7, x23, x24, x25, x38 => if x38 = true then (some (([] : List (List Int)), false)) else ((spec_l1Own.f x7).bind fun t105 => (spec_FromLeftHalf.l1 k x4 x5 x7 0 t105 x23 x24 x25 x7 (x7.length : Int) 0))
def spec_FromLeftHalf.l1 : Nat → Int → List (List Int) → List Int → Int → List Int → List (List Int) → Int → Int → List Int → Int → Int → Option ((List (List Int)) × Bool)
 | 0, _, _, _, _, _, _, _, _, _, _, _ => none
 | k + 1, x4, x5, x7, x8, x9, x23, x24, x25, x41, x42, x43 => if x43 < x42 then (if 0 ≤ x43 then (if x43 < (x41.length : Int) then (spec_FromLeftHalf.l1 k x4 x5 x7 (wrap64 (x8 + (rd x41 x43))) x9 x23 x24 x25 x41 x42 (wrap64 (x43 + 1))) else (none)) else (none)) else (if x9.length < 17592186044416 then (spec_FromLeftHalf.l2 k x4 x5 x7 (x9 ++ [wrap64 (1 - (wrap64 (2 * x8)))]) (wrap64 ((wrap64 (x4 / 2)) - 1)) x23 x24 x25) else (none))
def spec_FromLeftHalf.l2 : Nat → Int → List (List Int) → List Int → List Int → Int → List (List Int) → Int → Int → Option ((List (List Int)) × Bool)
 | 0, _, _, _, _, _, _, _, _ => none
 | k + 1, x4, x5, x7, x9, x12, x23, x24, x25 => if x12 ≥ 0 then (if 0 ≤ x12 then (if x12 < (x7.length : Int) then (if x9.length < 17592186044416 then (spec_FromLeftHalf.l2 k x4 x5 x7 (x9 ++ [rd x7 x12]) (wrap64 (x12 - 1)) x23 x24 x25) else (none)) else (none)) else (none)) else (if x5.length < 5864062014805 then (spec_FromLeftHalf.l0 k x4 (x5 ++ [x9]) x23 x24 (wrap64 (x25 + 1))) else (none))
end
def spec_FromLeftHalf.f (k : Nat) (l0 : List (List Int)) : Option ((List (List Int)) × Bool) := (spec_l1In.f (l0.length : Int) 1 6).bind fun t101 => (if t101 = true then (spec_FromLeftHalf.j0 k l0 (l0.length : Int) (((l0.length : Int) % 2) == 0)) else (spec_FromLeftHalf.j0 k l0 (l0.length : Int) true))
set_option maxHeartbeats 8000000 in
set_option maxRecDepth 100000 in
theorem spec_FromLeftHalf.calls (k : Nat) (A0 : Option Addr) (c0 : Nat) (l0 : List (List Int)) (r1 : List (List Int)) (r2 : Bool) (w : World) (hr0 : Kd.C (Kd.slice 3 (Kd.int .i64)) w A0 l0.length l0) (hc0 : l0.length ≤ c0) (h : spec_FromLeftHalf.f k l0 = some (r1, r2)) :
  Calls Try.prog 47 #[.slice A0 l0.length c0] w fun e w' => ∃ v0_ : Value, e = .returned (.tuple #[v0_, .bool r2]) ∧ Kd.S (Kd.slice 3 (Kd.int .i64)) 24 w' w.heap.size (fun _ => True) v0_ r1 ∧ Below w.heap.size w w' := by
 have HR0 := am_ hr0
 have HC0 := am_ hc0
 clear hr0 hc0
 have HB := am_ (Below.refl w.heap.size w)
 have H : ((spec_l1In.f (l0.length : Int) 1 6).bind fun t101 => (if t101 = true then (spec_FromLeftHalf.j0 k l0 (l0.length : Int) (((l0.length : Int) % 2) == 0)) else (spec_FromLeftHalf.j0 k l0 (l0.length : Int) true))) = some (r1, r2) := h
 clear h
 have HC2 := am_ H
 clear H
 go_enter Try.func47, Try.ntmps47
 go_upto_region 2 with (fail)
 go_cut [22] (fun v22 wc => ∃ (kq : Nat) (x22_1 : Bool), v22 = .bool x22_1 ∧ Aside0 (spec_FromLeftHalf.j0 kq l0 (l0.length : Int) x22_1 = some (r1, r2)) ∧ Aside0 (kq ≤ k) ∧ Aside0 (Below w.heap.size w wc))
 case first =>
  have H := HC2.out
  clear HC2
  replace H := Option.bind_eq_some_iff.mp H
  obtain ⟨t101, A30, H⟩ := H
  replace H : (if t101 = true then (spec_FromLeftHalf.j0 k l0 (l0.length : Int) (((l0.length : Int) % 2) == 0)) else (spec_FromLeftHalf.j0 k l0 (l0.length : Int) true)) = some (r1, r2) := H
  have A3 := am_ A30
  clear A30
  by_cases c4 : t101 = true
  ·subst c4
   have H1 : (spec_FromLeftHalf.j0 k l0 (l0.length : Int) (((l0.length : Int) % 2) == 0)) = some (r1, r2) := by rw [if_pos rfl] at H; exact H
   clear H
   have H := H1
   clear H1
   have H' := am_ H
   clear H
   go_wp2_with (first | ((with_reducible refine gate_callee (f := 97) rfl ?_); refine goesL_ (some 16) rfl rfl Try.func97 (by kernel_rfl) rfl #[.int .i64 (l0.length : Int), .int .i64 1, .int .i64 6] rfl tc1_ ?_; (with_reducible refine (spec_l1In.calls (l0.length : Int) 1 6 true _ A3.out).mono ?_); rintro e w' ⟨rfl, ⟨nd, rfl⟩⟩; refine ⟨_, rfl, ?_⟩))
   go_meet
   case rel => exact ⟨_, ((((l0.length : Int) % 2) == 0)), tc9_, H', ⟨by first | omega | exact Nat.le_refl _⟩, ⟨by repeat (first | (with_reducible first | exact HB.out | apply below_alloc | apply pw_below_drewN | apply below_drew1) | exact HB.out)⟩⟩
  ·replace c4 := Bool.eq_false_iff.mpr c4
   subst c4
   have H1 : (spec_FromLeftHalf.j0 k l0 (l0.length : Int) true) = some (r1, r2) := by rw [if_neg (show ¬ (false = true) by decide)] at H; exact H
   clear H
   have H := H1
   clear H1
   have H' := am_ H
   clear H
   go_wp2_with (first | ((with_reducible refine gate_callee (f := 97) rfl ?_); refine goesL_ (some 16) rfl rfl Try.func97 (by kernel_rfl) rfl #[.int .i64 (l0.length : Int), .int .i64 1, .int .i64 6] rfl tc1_ ?_; (with_reducible refine (spec_l1In.calls (l0.length : Int) 1 6 false _ A3.out).mono ?_); rintro e w' ⟨rfl, ⟨nd, rfl⟩⟩; refine ⟨_, rfl, ?_⟩))
   go_meet
   case rel => exact ⟨_, (true), tc9_, H', ⟨by first | omega | exact Nat.le_refl _⟩, ⟨by repeat (first | (with_reducible first | exact HB.out | apply below_alloc | apply pw_below_drewN | apply below_drew1) | exact HB.out)⟩⟩
 case rest =>
  clear HC2
  try clear p2
  try clear c4
  obtain ⟨kq, x22_1, rfl, HA, HJ1, HB⟩ := hcut
  cases kq with
  | zero => exact absurd HA.out (by simp [spec_FromLeftHalf.j0])
  | succ kj1 =>
   have H := HA.out
   clear HA
   simp only [spec_FromLeftHalf.j0] at H
   by_cases c5 : x22_1 = true
   ·subst c5
    have H1 : (some (([] : List (List Int)), false)) = some (r1, r2) := by rw [if_pos rfl] at H; exact H
    clear H
    have H := H1
    clear H1
    simp only [Option.some.injEq, Prod.mk.injEq] at H
    obtain ⟨rfl, rfl⟩ := H
    go_wp2
    go_ret2
    exact ⟨_, by first | rfl | (simp [errW_none, errW_some] <;> rfl) | (simp [*, errW_none, errW_some] <;> rfl), by first | exact Kd.S_nil _ _ _ _ _ | exact Kd.N_nil _ _ _ _ _ | exact Kd.V_nil _ _ _ _ _ | exact Kd.Q_nil _ _ _ _ _ | exact Kd.R_nil _ _ _ _ _, by repeat (first | (with_reducible first | exact HB.out | apply below_alloc | apply pw_below_drewN | apply below_drew1) | exact HB.out)⟩
   ·replace c5 := Bool.eq_false_iff.mpr c5
    subst c5
    have H1 : (spec_FromLeftHalf.l0 kj1 (l0.length : Int) ([] : List (List Int)) l0 (l0.length : Int) 0) = some (r1, r2) := by rw [if_neg (show ¬ (false = true) by decide)] at H; exact H
    clear H
    have H := H1
    clear H1
    have H' := am_ H
    clear H
    go_wp2
    go_loopg [5, 25] kj1 (fun kq v5 v25 w' => ∃ (x5_2 : List (List Int)) (x25_2 : Int), v25 = .int .i64 x25_2 ∧ Aside0 (spec_FromLeftHalf.l0 kq (l0.length : Int) x5_2 l0 (l0.length : Int) x25_2 = some (r1, r2)) ∧ Aside0 (kq ≤ kj1) ∧ Aside0 (Kd.S (Kd.slice 3 (Kd.int .i64)) 24 w' w.heap.size (fun _ => True) v5 x5_2) ∧ Aside0 (Below w.heap.size w w'))
    case atStart => exact ⟨(([] : List (List Int))), (0), tc9_, H', ⟨Nat.le_refl _⟩, ⟨by first | exact Kd.S_nil _ _ _ _ _ | exact Kd.N_nil _ _ _ _ _ | exact Kd.V_nil _ _ _ _ _ | exact Kd.Q_nil _ _ _ _ _ | exact Kd.R_nil _ _ _ _ _⟩, ⟨by repeat (first | (with_reducible first | exact HB.out | apply below_alloc | apply pw_below_drewN | apply below_drew1) | exact HB.out)⟩⟩
    case round =>
     clear H'
     try clear p2
     try clear c4
     try clear c5
     try clear p2
     obtain ⟨x5_2, x25_2, rfl, HA, HK2, HO_5, HB⟩ := hrel
     cases gk with
     | zero => exact absurd HA.out (by simp [spec_FromLeftHalf.l0])
     | succ k2 =>
      have H := HA.out
      clear HA
      simp only [spec_FromLeftHalf.l0] at H
      by_cases c6 : x25_2 < (l0.length : Int)
      ·rw [if_pos c6] at H
       have c6b0 : decide (x25_2 < (l0.length : Int)) = true := decide_eq_true c6
       clear c6
       by_cases c7 : 0 ≤ x25_2
       ·rw [if_pos c7] at H
        have c7b0 : decide (0 ≤ x25_2) = true := decide_eq_true c7
        clear c7
        by_cases c8 : x25_2 < (l0.length : Int)
        ·rw [if_pos c8] at H
         have c8b0 : decide (x25_2 < (l0.length : Int)) = true := decide_eq_true c8
         clear c8
         have HC9 := am_ H
         clear H
         have p103 : 0 ≤ (x25_2 : Int) := of_decide_eq_true tc2_
         have q103 : x25_2 < (l0.length : Int) := of_decide_eq_true tc2_
         obtain ⟨ad103, A103_0, c103_0, e103, hx103_0, hl103_0, hi103_0⟩ := at_L3 HR0.out x25_2 p103 q103
         cases e103
         replace hx103_0 := (HB.out.cell (World.block_lt_of_cell? w _ hx103_0)).trans hx103_0
         have HR103_0 := am_ hi103_0
         have HC103_0 := am_ hl103_0
         clear hi103_0 hl103_0
         replace p103 := eq_true p103
         replace q103 := eq_true q103
         go_upto_region 8 with (fail)
         go_cut [38] (fun v38 wc => ∃ (kq : Nat) (x38_8 : Bool), v38 = .bool x38_8 ∧ Aside0 (spec_FromLeftHalf.j2 kq (l0.length : Int) x5_2 (rd_L3 l0 x25_2) l0 (l0.length : Int) x25_2 x38_8 = some (r1, r2)) ∧ Aside0 (kq ≤ k2) ∧ Aside0 (Kd.S (Kd.slice 3 (Kd.int .i64)) 24 wc w.heap.size (fun _ => True) u5 x5_2) ∧ Aside0 (Below w.heap.size w wc))
         case first =>
          have H := HC9.out
          clear HC9
          by_cases c10 : ((rd_L3 l0 x25_2).length : Int) = (wrap64 ((l0.length : Int) / 2))
          ·rw [if_pos c10] at H
           have c10b0 : (((rd_L3 l0 x25_2).length : Int) == (wrap64 ((l0.length : Int) / 2))) = true := beq_iff_eq.mpr c10
           have c10b1 : (((rd_L3 l0 x25_2).length : Int) != (wrap64 ((l0.length : Int) / 2))) = false := bne_eq_false_iff_eq.mpr c10
           clear c10
           (first | rw [c10b0] | (simp only [i64_w, i32_w]; rw [c10b0]) | skip)
           replace H := Option.bind_eq_some_iff.mp H
           obtain ⟨t104, A110, H⟩ := H
           replace H : (spec_FromLeftHalf.j2 k2 (l0.length : Int) x5_2 (rd_L3 l0 x25_2) l0 (l0.length : Int) x25_2 (!t104)) = some (r1, r2) := H
           have A11 := am_ A110
           clear A110
           have H' := am_ H
           clear H
           go_wp2_with (first | (go_at_call 98; (with_reducible refine (spec_l1All.calls k2 _ _ (rd_L3 l0 x25_2) (-1) 1 t104 _ ?side1 ?side2 A11.out).mono ?_); (case side1 => exact tc40_); (case side2 => exact HC103_0.out); rintro e w' ⟨rfl, ⟨nd, rfl⟩⟩))
           go_meet
           case rel => exact ⟨_, (!t104), tc9_, H', ⟨by have := HJ1.out; have := HK2.out; first | omega | exact Nat.le_refl _⟩, ⟨by (with_reducible repeat (first | apply Kd.S_alloc | apply Kd.S_drewN | apply Kd.S_drew)); exact HO_5.out⟩, ⟨by repeat (first | (with_reducible first | exact HB.out | apply below_alloc | apply pw_below_drewN | apply below_drew1) | exact HB.out)⟩⟩
          ·rw [if_neg c10] at H
           have c10b0 : (((rd_L3 l0 x25_2).length : Int) == (wrap64 ((l0.length : Int) / 2))) = false := beq_eq_false_iff_ne.mpr c10
           have c10b1 : (((rd_L3 l0 x25_2).length : Int) != (wrap64 ((l0.length : Int) / 2))) = true := bne_iff_ne.mpr c10
           (first | rw [c10b0] | (simp only [i64_w, i32_w]; rw [c10b0]) | skip)
           have H' := am_ H
           clear H
           go_wp2
           go_meet
           case rel => exact ⟨_, (true), tc9_, H', ⟨by have := HJ1.out; have := HK2.out; first | omega | exact Nat.le_refl _⟩, ⟨by (with_reducible repeat (first | apply Kd.S_alloc | apply Kd.S_drewN | apply Kd.S_drew)); exact HO_5.out⟩, ⟨by repeat (first | (with_reducible first | exact HB.out | apply below_alloc | apply pw_below_drewN | apply below_drew1) | exact HB.out)⟩⟩
         case rest =>
          clear HC9
          try clear c1
          try clear p1
          try clear q1
          try clear hx1
          try clear p2
          try clear c4
          try clear c5
          try clear c6
          try clear c6b0
          try clear p6
          try clear c7
          try clear c7b0
          try clear c8
          try clear c8b0
          try clear c9
          try clear c10
          try clear c10b0
          try clear c10b1
          try clear p10
          try clear q10
          try clear hx10
          try clear hx103_0
          try clear p103
          try clear p2
          try clear q103
          obtain ⟨kq, x38_8, rfl, HA, HJ8, HO_5, HB⟩ := hcut
          cases kq with
          | zero => exact absurd HA.out (by simp [spec_FromLeftHalf.j2])
          | succ kj8 =>
           have H := HA.out
           clear HA
           simp only [spec_FromLeftHalf.j2] at H
           by_cases c12 : x38_8 = true
           ·subst c12
            have H1 : (some (([] : List (List Int)), false)) = some (r1, r2) := by rw [if_pos rfl] at H; exact H
            clear H
            have H := H1
            clear H1
            simp only [Option.some.injEq, Prod.mk.injEq] at H
            obtain ⟨rfl, rfl⟩ := H
            go_wp2
            go_ret2
            exact ⟨_, by first | rfl | (simp [errW_none, errW_some] <;> rfl) | (simp [*, errW_none, errW_some] <;> rfl), by first | exact Kd.S_nil _ _ _ _ _ | exact Kd.N_nil _ _ _ _ _ | exact Kd.V_nil _ _ _ _ _ | exact Kd.Q_nil _ _ _ _ _ | exact Kd.R_nil _ _ _ _ _, by repeat (first | (with_reducible first | exact HB.out | apply below_alloc | apply pw_below_drewN | apply below_drew1) | exact HB.out)⟩
           ·replace c12 := Bool.eq_false_iff.mpr c12
            subst c12
            have H1 : ((spec_l1Own.f (rd_L3 l0 x25_2)).bind fun t105 => (spec_FromLeftHalf.l1 kj8 (l0.length : Int) x5_2 (rd_L3 l0 x25_2) 0 t105 l0 (l0.length : Int) x25_2 (rd_L3 l0 x25_2) ((rd_L3 l0 x25_2).length : Int) 0)) = some (r1, r2) := by rw [if_neg (show ¬ (false = true) by decide)] at H; exact H
            clear H
            have H := H1
            clear H1
            replace H := Option.bind_eq_some_iff.mp H
            obtain ⟨t105, A130, H⟩ := H
            replace H : (spec_FromLeftHalf.l1 kj8 (l0.length : Int) x5_2 (rd_L3 l0 x25_2) 0 t105 l0 (l0.length : Int) x25_2 (rd_L3 l0 x25_2) ((rd_L3 l0 x25_2).length : Int) 0) = some (r1, r2) := H
            have A13 := am_ A130
            clear A130
            have H' := am_ H
            clear H
            go_wp2_with (first | ((with_reducible refine gate_callee (f := 61) rfl ?_); refine goesL_ (some 40) rfl rfl Try.func61 (by kernel_rfl) rfl #[.slice A103_0 (rd_L3 l0 x25_2).length c103_0] rfl tc1_ ?_; (with_reducible refine (spec_l1Own.calls _ _ (rd_L3 l0 x25_2) t105 _ ?side1 ?side2 A13.out).mono ?_); (case side1 => exact tc40_); (case side2 => exact HC103_0.out); rintro e w14 ⟨v106, rfl, ho0, hb⟩; refine ⟨_, rfl, ?_⟩; have n0_ := am_ (Kd.S_elder' tc20_ (Kd.R_base ho0) hb); have n1_ := am_ (Kd.R_lower ho0 (below_size tc0_)); have n2_ := am_ (below_step tc0_ hb); clear HO_5 HB; have HO_5 := n0_; have HO107 := n1_; have HB := n2_; clear n0_ n1_ n2_; (try clear hb ho0)))
            go_loopg [8, 43] kj8 (fun kq v8 v43 w' => ∃ (x8_4 : Int) (x43_4 : Int), v8 = .int .i64 x8_4 ∧ v43 = .int .i64 x43_4 ∧ Aside0 (spec_FromLeftHalf.l1 kq (l0.length : Int) x5_2 (rd_L3 l0 x25_2) x8_4 t105 l0 (l0.length : Int) x25_2 (rd_L3 l0 x25_2) ((rd_L3 l0 x25_2).length : Int) x43_4 = some (r1, r2)) ∧ Aside0 (kq ≤ kj8) ∧ Aside0 (Kd.S (Kd.slice 3 (Kd.int .i64)) 24 w' w.heap.size (fun k_ => some k_ ≠ (v106 : Value).ownBlock) u5 x5_2) ∧ Aside0 (Kd.R (Kd.int .i64) 3 w' w.heap.size (fun _ => True) v106 t105) ∧ Aside0 (Below w.heap.size w w'))
            case atStart => exact ⟨(0), (0), tc9_, tc9_, H', ⟨Nat.le_refl _⟩, ⟨by (with_reducible repeat (first | apply Kd.S_alloc | apply Kd.S_drewN | apply Kd.S_drew)); exact Kd.S_mono HO_5.out (fun _ hk => hk.2)⟩, ⟨by (with_reducible repeat (first | apply Kd.R_alloc | apply Kd.R_drewN | apply Kd.R_drew)); exact HO107.out⟩, ⟨by repeat (first | (with_reducible first | exact HB.out | apply below_alloc | apply pw_below_drewN | apply below_drew1) | exact HB.out)⟩⟩
            case round =>
             clear H'
             try clear c1
             try clear p1
             try clear q1
             try clear hx1
             try clear p2
             try clear c4
             try clear c5
             try clear c6
             try clear c6b0
             try clear p6
             try clear c7
             try clear c7b0
             try clear c8
             try clear c8b0
             try clear c9
             try clear c10
             try clear c10b0
             try clear c10b1
             try clear p10
             try clear q10
             try clear hx10
             try clear c12
             try clear hx103_0
             try clear p1
             try clear p10
             try clear p103
             try clear p2
             try clear p6
             try clear q1
             try clear q10
             try clear q103
             obtain ⟨x8_4, x43_4, rfl, rfl, HA, HK4, HO_5, HO_9, HB⟩ := hrel
             cases gk with
             | zero => exact absurd HA.out (by simp [spec_FromLeftHalf.l1])
             | succ k4 =>
              have H := HA.out
              clear HA
              simp only [spec_FromLeftHalf.l1] at H
              by_cases c15 : x43_4 < ((rd_L3 l0 x25_2).length : Int)
              ·rw [if_pos c15] at H
               have c15b0 : decide (x43_4 < ((rd_L3 l0 x25_2).length : Int)) = true := decide_eq_true c15
               clear c15
               by_cases c16 : 0 ≤ x43_4
               ·rw [if_pos c16] at H
                have c16b0 : decide (0 ≤ x43_4) = true := decide_eq_true c16
                clear c16
                by_cases c17 : x43_4 < ((rd_L3 l0 x25_2).length : Int)
                ·rw [if_pos c17] at H
                 have c17b0 : decide (x43_4 < ((rd_L3 l0 x25_2).length : Int)) = true := decide_eq_true c17
                 clear c17
                 have H' := am_ H
                 clear H
                 have p108 : 0 ≤ (x43_4 : Int) := of_decide_eq_true tc2_
                 have q108 : x43_4 < ((rd_L3 l0 x25_2).length : Int) := of_decide_eq_true tc2_
                 obtain ⟨ad108, e108, hx108_0⟩ := Kd.at_int HR103_0.out x43_4 p108 q108
                 cases e108
                 replace hx108_0 := (HB.out.cell (World.block_lt_of_cell? w _ hx108_0)).trans hx108_0
                 replace p108 := eq_true p108
                 replace q108 := eq_true q108
                 go_wp2
                 go_roundg k4
                 case measure => have := HJ1.out; have := HK2.out; have := HJ8.out; have := HK4.out; omega
                 case rel => exact ⟨(wrap64 (x8_4 + (rd (rd_L3 l0 x25_2) x43_4))), (wrap64 (x43_4 + 1)), tc9_, tc9_, H', ⟨by have := HJ1.out; have := HK2.out; have := HJ8.out; have := HK4.out; omega⟩, ⟨by (with_reducible repeat (first | apply Kd.S_alloc | apply Kd.S_drewN | apply Kd.S_drew)); exact HO_5.out⟩, ⟨by (with_reducible repeat (first | apply Kd.R_alloc | apply Kd.R_drewN | apply Kd.R_drew)); exact HO_9.out⟩, ⟨by repeat (first | (with_reducible first | exact HB.out | apply below_alloc | apply pw_below_drewN | apply below_drew1) | exact HB.out)⟩⟩
                ·rw [if_neg c17] at H
                 exact absurd H (by simp)
               ·rw [if_neg c16] at H
                exact absurd H (by simp)
              ·rw [if_neg c15] at H
               have c15b0 : decide (x43_4 < ((rd_L3 l0 x25_2).length : Int)) = false := decide_eq_false c15
               clear c15
               by_cases c18 : t105.length < 17592186044416
               ·rw [if_pos c18] at H
                have LMc18 := am_ c18
                clear c18
                obtain ⟨y109, hy109⟩ : ∃ y_ : List Int, y_ = (t105 ++ [wrap64 (1 - (wrap64 (2 * x8_4)))]) := ⟨_, rfl⟩
                replace H : (spec_FromLeftHalf.l2 k4 (l0.length : Int) x5_2 (rd_L3 l0 x25_2) y109 (wrap64 ((wrap64 ((l0.length : Int) / 2)) - 1)) l0 (l0.length : Int) x25_2) = some (r1, r2) := by first | (rw [hy109]; with_reducible exact H) | (have H2_ := (Option.bind_some _ _).symm.trans H; rw [hy109]; with_reducible exact H2_) | (have H2_ := (Option.bind_some _ _).symm.trans H; with_reducible exact H2_) | with_reducible exact H | (rw [hy109]; exact H) | exact H
                have Ny109 := am_ hy109
                clear hy109
                have H' := am_ H
                clear H
                go_wp2_with (first | ((with_reducible refine gate_builtin (b := .append) (xs := #[.tmp 51, .tmp 55]) rfl ?_); at_builtin; refine Kd.R_append (Kd.int .i64) (w0 := w) w.heap.size rfl (.tmp 51) (.tmp 55) 24 3 (.int .i64 0) 8 rfl Try.underlying24 info3 rfl (by decide) (by omega) v106 t105 (wrap64 (1 - (wrap64 (2 * x8_4)))) [.int .i64 (wrap64 (1 - (wrap64 (2 * x8_4))))] (fun _ => True) (fun _ => False) rfl rfl ?aP (fun _ hk => hk.elim) ?aF ?aO ?aB ?aS ?aL ?_; (case aP => exact rfl); (case aB => exact tc14_); (case aF => exact tc55_); (case aO => exact (by (with_reducible repeat (first | apply Kd.R_alloc | apply Kd.R_drewN | apply Kd.R_drew)); exact HO_9.out)); (case aS => exact tc15_); (case aL => have := LMc18.out; omega); intro v110 w19 ho hb hg hat; rw [← Ny109.out] at ho; have n0_ := am_ (Kd.S_after (ok := (fun _ => True)) (by (with_reducible repeat (first | apply Kd.S_alloc | apply Kd.S_drewN | apply Kd.S_drew)); exact Kd.S_mono HO_5.out (fun _ hk => ⟨trivial, hk⟩)) hg hat); have n1_ := am_ (hb); have n2_ := am_ (ho); clear HO_5 HB HO_9; have HO_5 := n0_; have HB := n1_; have HO111 := n2_; clear n0_ n1_ n2_; clear ho hb hg hat))
                go_loopg [9, 12] k4 (fun kq v9 v12 w' => ∃ (x9_5 : List Int) (x12_5 : Int), v12 = .int .i64 x12_5 ∧ Aside0 (spec_FromLeftHalf.l2 kq (l0.length : Int) x5_2 (rd_L3 l0 x25_2) x9_5 x12_5 l0 (l0.length : Int) x25_2 = some (r1, r2)) ∧ Aside0 (kq ≤ k4) ∧ Aside0 (Kd.S (Kd.slice 3 (Kd.int .i64)) 24 w' w.heap.size (fun k_ => some k_ ≠ (v9 : Value).ownBlock) u5 x5_2) ∧ Aside0 (Kd.R (Kd.int .i64) 3 w' w.heap.size (fun _ => True) v9 x9_5) ∧ Aside0 (Below w.heap.size w w'))
                case atStart => exact ⟨(y109), (wrap64 ((wrap64 ((l0.length : Int) / 2)) - 1)), tc9_, H', ⟨Nat.le_refl _⟩, ⟨by (with_reducible repeat (first | apply Kd.S_alloc | apply Kd.S_drewN | apply Kd.S_drew)); exact Kd.S_mono HO_5.out (fun _ hk => hk.2)⟩, ⟨by (with_reducible repeat (first | apply Kd.R_alloc | apply Kd.R_drewN | apply Kd.R_drew)); exact HO111.out⟩, ⟨by repeat (first | (with_reducible first | exact HB.out | apply below_alloc | apply pw_below_drewN | apply below_drew1) | exact HB.out)⟩⟩
                case round =>
                 clear H'
                 try clear c1
                 try clear p1
                 try clear q1
                 try clear hx1
                 try clear p2
                 try clear c4
                 try clear c5
                 try clear c6
                 try clear c6b0
                 try clear p6
                 try clear c7
                 try clear c7b0
                 try clear c8
                 try clear c8b0
                 try clear c9
                 try clear c10
                 try clear c10b0
                 try clear c10b1
                 try clear p10
                 try clear q10
                 try clear hx10
                 try clear c12
                 try clear c15
                 try clear c15b0
                 try clear c16
                 try clear c16b0
                 try clear c17
                 try clear c17b0
                 try clear c18
                 try clear hx103_0
                 try clear hx108_0
                 try clear p1
                 try clear p10
                 try clear p103
                 try clear p108
                 try clear p2
                 try clear p6
                 try clear q1
                 try clear q10
                 try clear q103
                 try clear q108
                 obtain ⟨x9_5, x12_5, rfl, HA, HK5, HO_5, HO_9, HB⟩ := hrel
                 cases gk with
                 | zero => exact absurd HA.out (by simp [spec_FromLeftHalf.l2])
                 | succ k5 =>
                  have H := HA.out
                  clear HA
                  simp only [spec_FromLeftHalf.l2] at H
                  by_cases c20 : x12_5 ≥ 0
                  ·rw [if_pos c20] at H
                   have c20b0 : decide (0 ≤ x12_5) = true := decide_eq_true c20
                   clear c20
                   by_cases c21 : 0 ≤ x12_5
                   ·rw [if_pos c21] at H
                    have c21b0 : decide (0 ≤ x12_5) = true := decide_eq_true c21
                    clear c21
                    by_cases c22 : x12_5 < ((rd_L3 l0 x25_2).length : Int)
                    ·rw [if_pos c22] at H
                     have c22b0 : decide (x12_5 < ((rd_L3 l0 x25_2).length : Int)) = true := decide_eq_true c22
                     clear c22
                     by_cases c23 : x9_5.length < 17592186044416
                     ·rw [if_pos c23] at H
                      have LMc23 := am_ c23
                      clear c23
                      obtain ⟨y113, hy113⟩ : ∃ y_ : List Int, y_ = (x9_5 ++ [rd (rd_L3 l0 x25_2) x12_5]) := ⟨_, rfl⟩
                      replace H : (spec_FromLeftHalf.l2 k5 (l0.length : Int) x5_2 (rd_L3 l0 x25_2) y113 (wrap64 (x12_5 - 1)) l0 (l0.length : Int) x25_2) = some (r1, r2) := by first | (rw [hy113]; with_reducible exact H) | (have H2_ := (Option.bind_some _ _).symm.trans H; rw [hy113]; with_reducible exact H2_) | (have H2_ := (Option.bind_some _ _).symm.trans H; with_reducible exact H2_) | with_reducible exact H | (rw [hy113]; exact H) | exact H
                      have Ny113 := am_ hy113
                      clear hy113
                      have H' := am_ H
                      clear H
                      have p112 : 0 ≤ (x12_5 : Int) := of_decide_eq_true tc2_
                      have q112 : x12_5 < ((rd_L3 l0 x25_2).length : Int) := of_decide_eq_true tc2_
                      obtain ⟨ad112, e112, hx112_0⟩ := Kd.at_int HR103_0.out x12_5 p112 q112
                      cases e112
                      replace hx112_0 := (HB.out.cell (World.block_lt_of_cell? w _ hx112_0)).trans hx112_0
                      replace p112 := eq_true p112
                      replace q112 := eq_true q112
                      go_wp2_with (first | ((with_reducible refine gate_builtin (b := .append) (xs := #[.tmp 64, .tmp 69]) rfl ?_); at_builtin; refine Kd.R_append (Kd.int .i64) (w0 := w) w.heap.size rfl (.tmp 64) (.tmp 69) 24 3 (.int .i64 0) 8 rfl Try.underlying24 info3 rfl (by decide) (by omega) u9 x9_5 (rd (rd_L3 l0 x25_2) x12_5) [.int .i64 (rd (rd_L3 l0 x25_2) x12_5)] (fun _ => True) (fun _ => False) rfl rfl ?aP (fun _ hk => hk.elim) ?aF ?aO ?aB ?aS ?aL ?_; (case aP => exact rfl); (case aB => exact tc14_); (case aF => exact tc55_); (case aO => exact (by (with_reducible repeat (first | apply Kd.R_alloc | apply Kd.R_drewN | apply Kd.R_drew)); exact HO_9.out)); (case aS => exact tc15_); (case aL => have := LMc23.out; omega); intro v114 w24 ho hb hg hat; rw [← Ny113.out] at ho; have n0_ := am_ (Kd.S_after (ok := (fun _ => True)) (by (with_reducible repeat (first | apply Kd.S_alloc | apply Kd.S_drewN | apply Kd.S_drew)); exact Kd.S_mono HO_5.out (fun _ hk => ⟨trivial, hk⟩)) hg hat); have n1_ := am_ (hb); have n2_ := am_ (ho); clear HO_5 HB HO_9; have HO_5 := n0_; have HB := n1_; have HO115 := n2_; clear n0_ n1_ n2_; clear ho hb hg hat))
                      go_roundg k5
                      case measure => have := HJ1.out; have := HK2.out; have := HJ8.out; have := HK4.out; have := HK5.out; omega
                      case rel => exact ⟨(y113), (wrap64 (x12_5 - 1)), tc9_, H', ⟨by have := HJ1.out; have := HK2.out; have := HJ8.out; have := HK4.out; have := HK5.out; omega⟩, ⟨by (with_reducible repeat (first | apply Kd.S_alloc | apply Kd.S_drewN | apply Kd.S_drew)); exact Kd.S_mono HO_5.out (fun _ hk => hk.2)⟩, ⟨by (with_reducible repeat (first | apply Kd.R_alloc | apply Kd.R_drewN | apply Kd.R_drew)); exact HO115.out⟩, ⟨by repeat (first | (with_reducible first | exact HB.out | apply below_alloc | apply pw_below_drewN | apply below_drew1) | exact HB.out)⟩⟩
                     ·rw [if_neg c23] at H
                      exact absurd H (by simp)
                    ·rw [if_neg c22] at H
                     exact absurd H (by simp)
                   ·rw [if_neg c21] at H
                    exact absurd H (by simp)
                  ·rw [if_neg c20] at H
                   have c20b0 : decide (0 ≤ x12_5) = false := decide_eq_false c20
                   clear c20
                   by_cases c25 : x5_2.length < 5864062014805
                   ·rw [if_pos c25] at H
                    have LMc25 := am_ c25
                    clear c25
                    obtain ⟨y116, hy116⟩ : ∃ y_ : List (List Int), y_ = (x5_2 ++ [x9_5]) := ⟨_, rfl⟩
                    replace H : (spec_FromLeftHalf.l0 k5 (l0.length : Int) y116 l0 (l0.length : Int) (wrap64 (x25_2 + 1))) = some (r1, r2) := by first | (rw [hy116]; with_reducible exact H) | (have H2_ := (Option.bind_some _ _).symm.trans H; rw [hy116]; with_reducible exact H2_) | (have H2_ := (Option.bind_some _ _).symm.trans H; with_reducible exact H2_) | with_reducible exact H | (rw [hy116]; exact H) | exact H
                    have Ny116 := am_ hy116
                    clear hy116
                    have H' := am_ H
                    clear H
                    obtain ⟨Ao27, co27, eo27⟩ := Kd.R_slice HO_9.out
                    subst eo27
                    go_wp2_with (first | ((with_reducible refine gate_builtin (b := .append) (xs := #[.tmp 71, .tmp 73]) rfl ?_); at_builtin; refine Kd.S_append (Kd.slice 3 (Kd.int .i64)) (w0 := w) w.heap.size rfl (.tmp 71) (.tmp 73) 28 24 (.slice none 0 0) 24 rfl Try.underlying28 info24 rfl (by decide) (by omega) u5 x5_2 x9_5 [.slice Ao27 x9_5.length co27] (fun _ => True) (fun k_ => some k_ = (.slice Ao27 x9_5.length co27 : Value).ownBlock) rfl rfl ?aP (fun k_ hk_ => ((Kd.R_mono (ok' := fun k_ => ((fun _ => True)) k_ ∧ some k_ ≠ (u5 : Value).ownBlock) (Kd.R_apart' (HO_9.out) (Kd.S_typed HO_5.out) (by decide)) (fun k_ hk => ⟨trivial, hk.2⟩))).1 k_ hk_.symm) ?aF ?aO ?aB ?aS ?aL ?_; (case aP => exact Kd.M_row (Kd.R_mono (Kd.R_tight rfl (Kd.R_mono (ok' := fun k_ => ((fun _ => True)) k_ ∧ some k_ ≠ (u5 : Value).ownBlock) (Kd.R_apart' (HO_9.out) (Kd.S_typed HO_5.out) (by decide)) (fun k_ hk => ⟨trivial, hk.2⟩))) (fun _ h_ => h_))); (case aB => exact tc14_); (case aF => exact tc55_); (case aO => exact (by (with_reducible repeat (first | apply Kd.S_alloc | apply Kd.S_drewN | apply Kd.S_drew)); exact Kd.S_mono HO_5.out (fun k_ hk => ⟨trivial, fun e_ => hk e_⟩))); (case aS => exact tc15_); (case aL => have := LMc25.out; omega); intro v117 w26 ho hb hg hat; rw [← Ny116.out] at ho; have n0_ := am_ (hb); have n1_ := am_ (ho); clear HB HO_5 HO_9; have HB := n0_; have HO118 := n1_; clear n0_ n1_; clear ho hb hg hat))
                    go_roundg k5
                    case measure => have := HJ1.out; have := HK2.out; have := HJ8.out; have := HK4.out; have := HK5.out; omega
                    case rel => exact ⟨(y116), (wrap64 (x25_2 + 1)), tc9_, H', ⟨by have := HJ1.out; have := HK2.out; have := HJ8.out; have := HK4.out; have := HK5.out; omega⟩, ⟨by (with_reducible repeat (first | apply Kd.S_alloc | apply Kd.S_drewN | apply Kd.S_drew)); exact HO118.out⟩, ⟨by repeat (first | (with_reducible first | exact HB.out | apply below_alloc | apply pw_below_drewN | apply below_drew1) | exact HB.out)⟩⟩
                   ·rw [if_neg c25] at H
                    exact absurd H (by simp)
               ·rw [if_neg c18] at H
                exact absurd H (by simp)
        ·rw [if_neg c8] at H
         exact absurd H (by simp)
       ·rw [if_neg c7] at H
        exact absurd H (by simp)
      ·rw [if_neg c6] at H
       have c6b0 : decide (x25_2 < (l0.length : Int)) = false := decide_eq_false c6
       clear c6
       replace H := Option.bind_eq_some_iff.mp H
       obtain ⟨t102, A280, H⟩ := H
       replace H : (if t102 = true then (some (x5_2, true)) else (some (([] : List (List Int)), false))) = some (r1, r2) := H
       have A28 := am_ A280
       clear A280
       by_cases c29 : t102 = true
       ·subst c29
        have H1 : (some (x5_2, true)) = some (r1, r2) := by rw [if_pos rfl] at H; exact H
        clear H
        have H := H1
        clear H1
        simp only [Option.some.injEq, Prod.mk.injEq] at H
        obtain ⟨rfl, rfl⟩ := H
        obtain ⟨Ao30, co30, eo30⟩ := Kd.S_slice HO_5.out
        subst eo30
        go_wp2_with (first | ((with_reducible refine gate_callee (f := 67) rfl ?_); refine goesL_ (some 77) rfl rfl Try.func67 (by kernel_rfl) rfl #[.slice Ao30 x5_2.length co30] rfl tc1_ ?_; (with_reducible refine (spec_sgGood.calls k2 _ _ x5_2 true _ ?side1 ?side2 A28.out).mono ?_); (case side1 => exact tc41_); (case side2 => exact (Kd.S_reads' HO_5.out).2.1); rintro e w31 ⟨rfl, hb⟩; refine ⟨_, rfl, ?_⟩; have n0_ := am_ (Kd.S_below tc20_ hb); have n1_ := am_ (below_step tc0_ hb); clear HO_5 HB; have HO_5 := n0_; have HB := n1_; clear n0_ n1_; (try clear hb)))
        go_ret2
        exact ⟨_, by first | rfl | (simp [errW_none, errW_some] <;> rfl) | (simp [*, errW_none, errW_some] <;> rfl), by (with_reducible repeat (first | apply Kd.S_alloc | apply Kd.S_drewN | apply Kd.S_drew)); exact HO_5.out, by repeat (first | (with_reducible first | exact HB.out | apply below_alloc | apply pw_below_drewN | apply below_drew1) | exact HB.out)⟩
       ·replace c29 := Bool.eq_false_iff.mpr c29
        subst c29
        have H1 : (some (([] : List (List Int)), false)) = some (r1, r2) := by rw [if_neg (show ¬ (false = true) by decide)] at H; exact H
        clear H
        have H := H1
        clear H1
        simp only [Option.some.injEq, Prod.mk.injEq] at H
        obtain ⟨rfl, rfl⟩ := H
        obtain ⟨Ao32, co32, eo32⟩ := Kd.S_slice HO_5.out
        subst eo32
        go_wp2_with (first | ((with_reducible refine gate_callee (f := 67) rfl ?_); refine goesL_ (some 77) rfl rfl Try.func67 (by kernel_rfl) rfl #[.slice Ao32 x5_2.length co32] rfl tc1_ ?_; (with_reducible refine (spec_sgGood.calls k2 _ _ x5_2 false _ ?side1 ?side2 A28.out).mono ?_); (case side1 => exact tc41_); (case side2 => exact (Kd.S_reads' HO_5.out).2.1); rintro e w33 ⟨rfl, hb⟩; refine ⟨_, rfl, ?_⟩; have n0_ := am_ (Kd.S_below tc20_ hb); have n1_ := am_ (below_step tc0_ hb); clear HO_5 HB; have HO_5 := n0_; have HB := n1_; clear n0_ n1_; (try clear hb)))
        go_ret2
        exact ⟨_, by first | rfl | (simp [errW_none, errW_some] <;> rfl) | (simp [*, errW_none, errW_some] <;> rfl), by first | exact Kd.S_nil _ _ _ _ _ | exact Kd.N_nil _ _ _ _ _ | exact Kd.V_nil _ _ _ _ _ | exact Kd.Q_nil _ _ _ _ _ | exact Kd.R_nil _ _ _ _ _, by repeat (first | (with_reducible first | exact HB.out | apply below_alloc | apply pw_below_drewN | apply below_drew1) | exact HB.out)⟩

/-! ### spec_DrawFromUpperHalf: function 48 -/
def spec_DrawFromUpperHalf.f (k : Nat) (l0 : List Int) : Option ((List (List Int))) := (spec_l1Cur_symmetric.f k l0 0 0).bind fun bt102 => ((spec_UpperHalf.f k bt102.1).bind fun bt107 => (if bt107.2 = true then ((spec_l1Cur_one.f l0 bt102.2.1 bt102.2.2 4).bind fun bt111 => (if bt111.1 = true then ((spec_l1Cur_signs.f k l0 bt111.2.1 bt111.2.2 5).bind fun bt114 => (if 0 ≤ (wrap64 ((bt114.1.length : Int) / 2)) then (if (wrap64 ((bt114.1.length : Int) / 2)) ≤ (bt114.1.length : Int) then (some (bt114.1.take ((wrap64 ((bt114.1.length : Int) / 2)) : Int).toNat)) else (none)) else (none))) else (some bt107.1))) else ((spec_l1Cur_signs.f k l0 bt102.2.1 bt102.2.2 5).bind fun bt122 => (if 0 ≤ (wrap64 ((bt122.1.length : Int) / 2)) then (if (wrap64 ((bt122.1.length : Int) / 2)) ≤ (bt122.1.length : Int) then (some (bt122.1.take ((wrap64 ((bt122.1.length : Int) / 2)) : Int).toNat)) else (none)) else (none)))))
set_option maxHeartbeats 8000000 in
set_option maxRecDepth 100000 in
theorem spec_DrawFromUpperHalf.calls (k : Nat) (A0 : Option Addr) (c0 : Nat) (l0 : List Int) (r : List (List Int)) (w : World) (hr0 : Kd.C (Kd.int .u8) w A0 l0.length l0) (hc0 : l0.length ≤ c0) (h : spec_DrawFromUpperHalf.f k l0 = some r) :
  Calls Try.prog 48 #[.slice A0 l0.length c0] w fun e w' => ∃ v0_ : Value, e = .returned (v0_) ∧ Kd.N (Kd.slice 3 (Kd.int .i64)) 24 w' w.heap.size (fun k_ => (w.heap.size ≤ k_)) v0_ r ∧ Below w.heap.size w w' := by
 have hu43 := Try.underlying43
 have HR0 := am_ hr0
 have HC0 := am_ hc0
 clear hr0 hc0
 have HB := am_ (Below.refl w.heap.size w)
 have H : ((spec_l1Cur_symmetric.f k l0 0 0).bind fun bt102 => ((spec_UpperHalf.f k bt102.1).bind fun bt107 => (if bt107.2 = true then ((spec_l1Cur_one.f l0 bt102.2.1 bt102.2.2 4).bind fun bt111 => (if bt111.1 = true then ((spec_l1Cur_signs.f k l0 bt111.2.1 bt111.2.2 5).bind fun bt114 => (if 0 ≤ (wrap64 ((bt114.1.length : Int) / 2)) then (if (wrap64 ((bt114.1.length : Int) / 2)) ≤ (bt114.1.length : Int) then (some (bt114.1.take ((wrap64 ((bt114.1.length : Int) / 2)) : Int).toNat)) else (none)) else (none))) else (some bt107.1))) else ((spec_l1Cur_signs.f k l0 bt102.2.1 bt102.2.2 5).bind fun bt122 => (if 0 ≤ (wrap64 ((bt122.1.length : Int) / 2)) then (if (wrap64 ((bt122.1.length : Int) / 2)) ≤ (bt122.1.length : Int) then (some (bt122.1.take ((wrap64 ((bt122.1.length : Int) / 2)) : Int).toNat)) else (none)) else (none)))))) = some r := h
 clear h
 replace H := Option.bind_eq_some_iff.mp H
 obtain ⟨⟨t102, t105, t106⟩, A20, H⟩ := H
 replace H : ((spec_UpperHalf.f k t102).bind fun bt107 => (if bt107.2 = true then ((spec_l1Cur_one.f l0 t105 t106 4).bind fun bt111 => (if bt111.1 = true then ((spec_l1Cur_signs.f k l0 bt111.2.1 bt111.2.2 5).bind fun bt114 => (if 0 ≤ (wrap64 ((bt114.1.length : Int) / 2)) then (if (wrap64 ((bt114.1.length : Int) / 2)) ≤ (bt114.1.length : Int) then (some (bt114.1.take ((wrap64 ((bt114.1.length : Int) / 2)) : Int).toNat)) else (none)) else (none))) else (some bt107.1))) else ((spec_l1Cur_signs.f k l0 t105 t106 5).bind fun bt122 => (if 0 ≤ (wrap64 ((bt122.1.length : Int) / 2)) then (if (wrap64 ((bt122.1.length : Int) / 2)) ≤ (bt122.1.length : Int) then (some (bt122.1.take ((wrap64 ((bt122.1.length : Int) / 2)) : Int).toNat)) else (none)) else (none))))) = some r := H
 have A2 := am_ A20
 clear A20
 replace H := Option.bind_eq_some_iff.mp H
 obtain ⟨⟨t107, t108⟩, A30, H⟩ := H
 replace H : (if t108 = true then ((spec_l1Cur_one.f l0 t105 t106 4).bind fun bt111 => (if bt111.1 = true then ((spec_l1Cur_signs.f k l0 bt111.2.1 bt111.2.2 5).bind fun bt114 => (if 0 ≤ (wrap64 ((bt114.1.length : Int) / 2)) then (if (wrap64 ((bt114.1.length : Int) / 2)) ≤ (bt114.1.length : Int) then (some (bt114.1.take ((wrap64 ((bt114.1.length : Int) / 2)) : Int).toNat)) else (none)) else (none))) else (some t107))) else ((spec_l1Cur_signs.f k l0 t105 t106 5).bind fun bt122 => (if 0 ≤ (wrap64 ((bt122.1.length : Int) / 2)) then (if (wrap64 ((bt122.1.length : Int) / 2)) ≤ (bt122.1.length : Int) then (some (bt122.1.take ((wrap64 ((bt122.1.length : Int) / 2)) : Int).toNat)) else (none)) else (none)))) = some r := H
 have A3 := am_ A30
 clear A30
 by_cases c4 : t108 = true
 ·subst c4
  have H1 : ((spec_l1Cur_one.f l0 t105 t106 4).bind fun bt111 => (if bt111.1 = true then ((spec_l1Cur_signs.f k l0 bt111.2.1 bt111.2.2 5).bind fun bt114 => (if 0 ≤ (wrap64 ((bt114.1.length : Int) / 2)) then (if (wrap64 ((bt114.1.length : Int) / 2)) ≤ (bt114.1.length : Int) then (some (bt114.1.take ((wrap64 ((bt114.1.length : Int) / 2)) : Int).toNat)) else (none)) else (none))) else (some t107))) = some r := by rw [if_pos rfl] at H; exact H
  clear H
  have H := H1
  clear H1
  replace H := Option.bind_eq_some_iff.mp H
  obtain ⟨⟨t111, t112, t113⟩, A50, H⟩ := H
  replace H : (if t111 = true then ((spec_l1Cur_signs.f k l0 t112 t113 5).bind fun bt114 => (if 0 ≤ (wrap64 ((bt114.1.length : Int) / 2)) then (if (wrap64 ((bt114.1.length : Int) / 2)) ≤ (bt114.1.length : Int) then (some (bt114.1.take ((wrap64 ((bt114.1.length : Int) / 2)) : Int).toNat)) else (none)) else (none))) else (some t107)) = some r := H
  have A5 := am_ A50
  clear A50
  by_cases c6 : t111 = true
  ·subst c6
   have H1 : ((spec_l1Cur_signs.f k l0 t112 t113 5).bind fun bt114 => (if 0 ≤ (wrap64 ((bt114.1.length : Int) / 2)) then (if (wrap64 ((bt114.1.length : Int) / 2)) ≤ (bt114.1.length : Int) then (some (bt114.1.take ((wrap64 ((bt114.1.length : Int) / 2)) : Int).toNat)) else (none)) else (none))) = some r := by rw [if_pos rfl] at H; exact H
   clear H
   have H := H1
   clear H1
   replace H := Option.bind_eq_some_iff.mp H
   obtain ⟨⟨t114, t117, t118⟩, A70, H⟩ := H
   replace H : (if 0 ≤ (wrap64 ((t114.length : Int) / 2)) then (if (wrap64 ((t114.length : Int) / 2)) ≤ (t114.length : Int) then (some (t114.take ((wrap64 ((t114.length : Int) / 2)) : Int).toNat)) else (none)) else (none)) = some r := H
   have A7 := am_ A70
   clear A70
   obtain ⟨ji8, hji8⟩ : ∃ j_ : Int, (wrap64 ((t114.length : Int) / 2)) = j_ := ⟨_, rfl⟩
   replace H : (if 0 ≤ (ji8) then (if (ji8) ≤ (t114.length : Int) then (some (t114.take ((ji8) : Int).toNat)) else (none)) else (none)) = some r := by first | (rw [hji8] at H; exact H) | (simp only [hji8] at H ⊢; exact H)
   (try rw [hji8] at A2)
   (try rw [hji8] at A3)
   (try rw [hji8] at A5)
   (try rw [hji8] at A7)
   have hji8w : (IntKind.i64.wrap ((t114.length : Int) / 2)) = ji8 := (i64_w _).trans hji8
   by_cases c9 : 0 ≤ (ji8)
   ·rw [if_pos c9] at H
    have c9b0 := eq_true c9
    have c9b1 : decide (0 ≤ (ji8)) = true := decide_eq_true c9
    clear c9
    by_cases c10 : (ji8) ≤ (t114.length : Int)
    ·rw [if_pos c10] at H
     have c10b0 := eq_true c10
     have c10b1 : decide ((ji8) ≤ (t114.length : Int)) = true := decide_eq_true c10
     clear c10
     obtain ⟨y119, hy119⟩ : ∃ y_ : List (List Int), y_ = (t114.take ((ji8) : Int).toNat) := ⟨_, rfl⟩
     replace H : (some y119) = some r := by first | (rw [hy119]; with_reducible exact H) | (have H2_ := (Option.bind_some _ _).symm.trans H; rw [hy119]; with_reducible exact H2_) | (have H2_ := (Option.bind_some _ _).symm.trans H; with_reducible exact H2_) | with_reducible exact H | (rw [hy119]; exact H) | exact H
     have Ny119 := am_ hy119
     clear hy119
     obtain rfl := Option.some.inj H
     go_enter Try.func48, Try.ntmps48
     go_wp2_with (first | ((with_reducible refine gate_dst (N := 9) rfl ?_); refine box_event ?hg (N := 9) ?hd (cs := #[.slice A0 l0.length c0, .int .i64 0, .int .u64 0]) (t := 43) ?hr ?_; (case hd => rfl); (case hg => rfl); (case hr => exact tc22_); intro gb101 hg w11 hbox hb; have n0_ := am_ (below_step tc0_ hb); have n1_ := am_ ((by rw [hg]; exact (below_size tc0_) : w.heap.size ≤ gb101)); have n2_ := am_ ((by rw [hg]; exact (below_size tc0_) : w.heap.size ≤ gb101)); have n3_ := am_ ((show IsS43 w w11 gb101 l0 0 0 from ⟨A0, c0, hbox, (by rw [hg]; exact (below_size tc0_) : w.heap.size ≤ gb101), HR0.out⟩)); clear HB; have HB := n0_; have GW101 := n1_; have GE101 := n2_; have HI101 := n3_; clear n0_ n1_ n2_ n3_; clear hb hbox hg) | ((with_reducible refine gate_callee (f := 94) rfl ?_); refine goesL_ (some 12) rfl rfl Try.func94 (by kernel_rfl) rfl #[.pointer (some ⟨gb101, 0, none⟩)] rfl tc1_ ?_; (with_reducible refine (spec_l1Cur_symmetric.calls k gb101 l0 0 0 t102 t105 t106 w _ ?side1 ?side2 A2.out).mono ?_); (case side1 => exact tc10_); (case side2 => exact tc6_); rintro e w12 ⟨v103, rfl, ho0, hi, hb, hk⟩; refine ⟨_, rfl, ?_⟩; have n0_ := am_ (Kd.N_lower (Kd.N_mono (ok' := fun k_ => (w.heap.size ≤ k_) ∧ k_ ≠ gb101) ho0 (fun k_ hk_ => ⟨(Nat.le_trans (below_size tc6_) hk_), (IsS43.fresh tc10_ k_ hk_)⟩)) (below_size tc6_)); have n1_ := am_ (hb); have n2_ := am_ (hi); clear HB HI101; have HO104 := n0_; have HB := n1_; have HI101 := n2_; clear n0_ n1_ n2_; (try clear hb hk hi ho0); obtain ⟨Ao13, co13, eo13⟩ := Kd.N_slice HO104.out; subst eo13) | ((with_reducible refine gate_callee (f := 39) rfl ?_); refine goesL_ (some 13) rfl rfl Try.func39 (by kernel_rfl) rfl #[.slice Ao13 t102.length co13] rfl tc1_ ?_; (with_reducible refine (spec_UpperHalf.calls k _ _ t102 t107 true _ ?side1 ?side2 A3.out).mono ?_); (case side1 => exact tc21_); (case side2 => exact tc71_); rintro e w14 ⟨v109, rfl, ho0, hb⟩; refine ⟨_, rfl, ?_⟩; have n0_ := am_ (Kd.N_elder' tc16_ (Kd.S_base ho0) hb); have n1_ := am_ (Kd.N_lower (Kd.N_mono (ok' := fun k_ => (w.heap.size ≤ k_) ∧ some k_ ≠ (.slice Ao13 t102.length co13 : Value).ownBlock ∧ k_ ≠ gb101) (Kd.S_N (Kd.S_bound ho0)) (fun k_ hk_ => ⟨(Nat.le_trans (below_size tc6_) hk_.2.1), (Kd.fresh' (Kd.N_lt tc16_) k_ hk_.2.1), (IsS43.fresh tc10_ k_ hk_.2.1)⟩)) (below_size tc6_)); have n2_ := am_ (IsS43.below tc10_ hb); have n3_ := am_ (below_step tc6_ hb); clear HO104 HI101 HB; have HO104 := n0_; have HO110 := n1_; have HI101 := n2_; have HB := n3_; clear n0_ n1_ n2_ n3_; (try clear hb ho0)) | (go_at_call 95; (with_reducible refine (spec_l1Cur_one.calls gb101 l0 t105 t106 4 true t112 t113 w _ ?side1 ?side2 A5.out).mono ?_); (case side1 => exact tc10_); (case side2 => exact tc6_); rintro e w15 ⟨rfl, hi, hb, hk⟩; have n0_ := am_ (Kd.N_mono (Kd.N_keep (Kd.N_mono (ok := fun k_ => ((((w.heap.size ≤ k_)) ∧ k_ ≠ gb101) ∧ some k_ ≠ (v109 : Value).ownBlock)) tc16_ (fun k_ hk_ => (⟨hk_, hk_.1.2⟩ : _ ∧ k_ ≠ gb101))) hk (fun _ h => h.2)) (fun _ h => h.1)); have n1_ := am_ (Kd.N_mono (Kd.N_keep (Kd.N_mono (ok := fun k_ => (((w.heap.size ≤ k_)) ∧ (some k_ ≠ (.slice Ao13 t102.length co13 : Value).ownBlock ∧ k_ ≠ gb101))) tc45_ (fun k_ hk_ => (⟨hk_, hk_.2.2⟩ : _ ∧ k_ ≠ gb101))) hk (fun _ h => h.2)) (fun _ h => h.1)); have n2_ := am_ (hb); have n3_ := am_ (hi); clear HO104 HO110; clear HB HI101; have HO104 := n0_; have HO110 := n1_; have HB := n2_; have HI101 := n3_; clear n0_ n1_ n2_ n3_; (try clear hb hb2 hk hi)) | ((with_reducible refine gate_callee (f := 99) rfl ?_); refine goesL_ (some 24) rfl rfl Try.func99 (by kernel_rfl) rfl #[.pointer (some ⟨gb101, 0, none⟩), .int .i64 5] rfl tc1_ ?_; (with_reducible refine (spec_l1Cur_signs.calls k gb101 l0 t112 t113 5 t114 t117 t118 w _ ?side1 ?side2 A7.out).mono ?_); (case side1 => exact tc10_); (case side2 => exact tc6_); rintro e w16 ⟨v115, rfl, ho0, hi, hb, hk⟩; refine ⟨_, rfl, ?_⟩; have n0_ := am_ (Kd.N_mono (Kd.N_told (Kd.N_oldK (Kd.N_mono (ok := fun k_ => ((((w.heap.size ≤ k_)) ∧ k_ ≠ gb101) ∧ some k_ ≠ (v109 : Value).ownBlock)) tc16_ (fun k_ hk_ => (⟨hk_, hk_.1.2⟩ : _ ∧ k_ ≠ gb101))) hk) (Kd.N_base (Kd.S_N ho0))) (fun _ h_ => h_.1)); have n1_ := am_ (Kd.N_mono (Kd.N_told (Kd.N_oldK (Kd.N_mono (ok := fun k_ => (((w.heap.size ≤ k_)) ∧ (some k_ ≠ (.slice Ao13 t102.length co13 : Value).ownBlock ∧ k_ ≠ gb101))) tc45_ (fun k_ hk_ => (⟨hk_, hk_.2.2⟩ : _ ∧ k_ ≠ gb101))) hk) (Kd.N_base (Kd.S_N ho0))) (fun _ h_ => h_.1)); have n2_ := am_ (Kd.N_lower (Kd.N_mono (ok' := fun k_ => (w.heap.size ≤ k_) ∧ some k_ ≠ (.slice Ao13 t102.length co13 : Value).ownBlock ∧ some k_ ≠ (v109 : Value).ownBlock ∧ k_ ≠ gb101) (Kd.S_N (Kd.S_bound ho0)) (fun k_ hk_ => ⟨(Nat.le_trans (below_size tc6_) hk_.2.1), (Kd.fresh' (Kd.N_lt tc16_) k_ hk_.2.1), (Kd.fresh' (Kd.N_lt tc45_) k_ hk_.2.1), (IsS43.fresh tc10_ k_ hk_.2.1)⟩)) (below_size tc6_)); have n3_ := am_ (hb); have n4_ := am_ (hi); clear HO104 HO110; clear HB HI101; have HO104 := n0_; have HO110 := n1_; have HO116 := n2_; have HB := n3_; have HI101 := n4_; clear n0_ n1_ n2_ n3_ n4_; (try clear hb hk hi ho0); obtain ⟨Ao17, co17, eo17⟩ := Kd.N_slice HO116.out; subst eo17; have q18 : ((ji8) : Int) ≤ ((t114.length : Int) : Int) := of_decide_eq_true tc2_; obtain ⟨i018, hi018, _, hsz18, _⟩ := info_parts info24; have hcut18 := cut_to (P := Try.prog) 28 24 .i64 Try.underlying28 hi018 Ao17 t114.length co17 (ji8) (of_decide_eq_true tc2_) q18 (Kd.N_reads' HO116.out).2.1; have hr18 := Kd.N_take (m := ((ji8) : Int).toNat) HO116.out (by omega); have hy18 : y119.length = ((ji8) : Int).toNat := (by rw [Ny119.out, List.length_take]; omega); rw [← Ny119.out] at hr18; rw [← hy18] at hr18 hcut18; clear hy18 hi018 hsz18 HO116; have HO121 := am_ hr18; clear hr18; replace q18 := eq_true q18))
     go_ret
     exact ⟨_, by first | rfl | (simp [errW_none, errW_some] <;> rfl) | (simp only [← hji8]; first | rfl | (simp [errW_none, errW_some] <;> rfl)) | (simp [*, errW_none, errW_some] <;> rfl), by (with_reducible repeat (first | apply Kd.N_alloc | apply Kd.N_drewN | apply Kd.N_drew)); exact Kd.N_mono HO121.out (fun _ hk => hk.1), by repeat (first | (with_reducible first | exact HB.out | apply below_alloc | apply pw_below_drewN | apply below_drew1 | refine below_set ?_ (IsS43.ge HI101.out)) | exact HB.out)⟩
    ·rw [if_neg c10] at H
     exact absurd H (by simp)
   ·rw [if_neg c9] at H
    exact absurd H (by simp)
  ·replace c6 := Bool.eq_false_iff.mpr c6
   subst c6
   have H1 : (some t107) = some r := by rw [if_neg (show ¬ (false = true) by decide)] at H; exact H
   clear H
   have H := H1
   clear H1
   obtain rfl := Option.some.inj H
   go_enter Try.func48, Try.ntmps48
   go_wp2_with (first | ((with_reducible refine gate_dst (N := 9) rfl ?_); refine box_event ?hg (N := 9) ?hd (cs := #[.slice A0 l0.length c0, .int .i64 0, .int .u64 0]) (t := 43) ?hr ?_; (case hd => rfl); (case hg => rfl); (case hr => exact tc22_); intro gb101 hg w19 hbox hb; have n0_ := am_ (below_step tc0_ hb); have n1_ := am_ ((by rw [hg]; exact (below_size tc0_) : w.heap.size ≤ gb101)); have n2_ := am_ ((by rw [hg]; exact (below_size tc0_) : w.heap.size ≤ gb101)); have n3_ := am_ ((show IsS43 w w19 gb101 l0 0 0 from ⟨A0, c0, hbox, (by rw [hg]; exact (below_size tc0_) : w.heap.size ≤ gb101), HR0.out⟩)); clear HB; have HB := n0_; have GW101 := n1_; have GE101 := n2_; have HI101 := n3_; clear n0_ n1_ n2_ n3_; clear hb hbox hg) | ((with_reducible refine gate_callee (f := 94) rfl ?_); refine goesL_ (some 12) rfl rfl Try.func94 (by kernel_rfl) rfl #[.pointer (some ⟨gb101, 0, none⟩)] rfl tc1_ ?_; (with_reducible refine (spec_l1Cur_symmetric.calls k gb101 l0 0 0 t102 t105 t106 w _ ?side1 ?side2 A2.out).mono ?_); (case side1 => exact tc10_); (case side2 => exact tc6_); rintro e w20 ⟨v103, rfl, ho0, hi, hb, hk⟩; refine ⟨_, rfl, ?_⟩; have n0_ := am_ (Kd.N_lower (Kd.N_mono (ok' := fun k_ => (w.heap.size ≤ k_) ∧ k_ ≠ gb101) ho0 (fun k_ hk_ => ⟨(Nat.le_trans (below_size tc6_) hk_), (IsS43.fresh tc10_ k_ hk_)⟩)) (below_size tc6_)); have n1_ := am_ (hb); have n2_ := am_ (hi); clear HB HI101; have HO104 := n0_; have HB := n1_; have HI101 := n2_; clear n0_ n1_ n2_; (try clear hb hk hi ho0); obtain ⟨Ao21, co21, eo21⟩ := Kd.N_slice HO104.out; subst eo21) | ((with_reducible refine gate_callee (f := 39) rfl ?_); refine goesL_ (some 13) rfl rfl Try.func39 (by kernel_rfl) rfl #[.slice Ao21 t102.length co21] rfl tc1_ ?_; (with_reducible refine (spec_UpperHalf.calls k _ _ t102 t107 true _ ?side1 ?side2 A3.out).mono ?_); (case side1 => exact tc21_); (case side2 => exact tc71_); rintro e w22 ⟨v109, rfl, ho0, hb⟩; refine ⟨_, rfl, ?_⟩; have n0_ := am_ (Kd.N_elder' tc16_ (Kd.S_base ho0) hb); have n1_ := am_ (Kd.N_lower (Kd.N_mono (ok' := fun k_ => (w.heap.size ≤ k_) ∧ some k_ ≠ (.slice Ao21 t102.length co21 : Value).ownBlock ∧ k_ ≠ gb101) (Kd.S_N (Kd.S_bound ho0)) (fun k_ hk_ => ⟨(Nat.le_trans (below_size tc6_) hk_.2.1), (Kd.fresh' (Kd.N_lt tc16_) k_ hk_.2.1), (IsS43.fresh tc10_ k_ hk_.2.1)⟩)) (below_size tc6_)); have n2_ := am_ (IsS43.below tc10_ hb); have n3_ := am_ (below_step tc6_ hb); clear HO104 HI101 HB; have HO104 := n0_; have HO110 := n1_; have HI101 := n2_; have HB := n3_; clear n0_ n1_ n2_ n3_; (try clear hb ho0)) | (go_at_call 95; (with_reducible refine (spec_l1Cur_one.calls gb101 l0 t105 t106 4 false t112 t113 w _ ?side1 ?side2 A5.out).mono ?_); (case side1 => exact tc10_); (case side2 => exact tc6_); rintro e w23 ⟨rfl, hi, hb, hk⟩; have n0_ := am_ (Kd.N_mono (Kd.N_keep (Kd.N_mono (ok := fun k_ => ((((w.heap.size ≤ k_)) ∧ k_ ≠ gb101) ∧ some k_ ≠ (v109 : Value).ownBlock)) tc16_ (fun k_ hk_ => (⟨hk_, hk_.1.2⟩ : _ ∧ k_ ≠ gb101))) hk (fun _ h => h.2)) (fun _ h => h.1)); have n1_ := am_ (Kd.N_mono (Kd.N_keep (Kd.N_mono (ok := fun k_ => (((w.heap.size ≤ k_)) ∧ (some k_ ≠ (.slice Ao21 t102.length co21 : Value).ownBlock ∧ k_ ≠ gb101))) tc45_ (fun k_ hk_ => (⟨hk_, hk_.2.2⟩ : _ ∧ k_ ≠ gb101))) hk (fun _ h => h.2)) (fun _ h => h.1)); have n2_ := am_ (hb); have n3_ := am_ (hi); clear HO104 HO110; clear HB HI101; have HO104 := n0_; have HO110 := n1_; have HB := n2_; have HI101 := n3_; clear n0_ n1_ n2_ n3_; (try clear hb hb2 hk hi)))
   go_ret
   exact ⟨_, by first | rfl | (simp [errW_none, errW_some] <;> rfl) | (simp [*, errW_none, errW_some] <;> rfl), by (with_reducible repeat (first | apply Kd.N_alloc | apply Kd.N_drewN | apply Kd.N_drew)); exact Kd.N_mono HO110.out (fun _ hk => hk.1), by repeat (first | (with_reducible first | exact HB.out | apply below_alloc | apply pw_below_drewN | apply below_drew1 | refine below_set ?_ (IsS43.ge HI101.out)) | exact HB.out)⟩
 ·replace c4 := Bool.eq_false_iff.mpr c4
  subst c4
  have H1 : ((spec_l1Cur_signs.f k l0 t105 t106 5).bind fun bt122 => (if 0 ≤ (wrap64 ((bt122.1.length : Int) / 2)) then (if (wrap64 ((bt122.1.length : Int) / 2)) ≤ (bt122.1.length : Int) then (some (bt122.1.take ((wrap64 ((bt122.1.length : Int) / 2)) : Int).toNat)) else (none)) else (none))) = some r := by rw [if_neg (show ¬ (false = true) by decide)] at H; exact H
  clear H
  have H := H1
  clear H1
  replace H := Option.bind_eq_some_iff.mp H
  obtain ⟨⟨t122, t125, t126⟩, A240, H⟩ := H
  replace H : (if 0 ≤ (wrap64 ((t122.length : Int) / 2)) then (if (wrap64 ((t122.length : Int) / 2)) ≤ (t122.length : Int) then (some (t122.take ((wrap64 ((t122.length : Int) / 2)) : Int).toNat)) else (none)) else (none)) = some r := H
  have A24 := am_ A240
  clear A240
  obtain ⟨ji25, hji25⟩ : ∃ j_ : Int, (wrap64 ((t122.length : Int) / 2)) = j_ := ⟨_, rfl⟩
  replace H : (if 0 ≤ (ji25) then (if (ji25) ≤ (t122.length : Int) then (some (t122.take ((ji25) : Int).toNat)) else (none)) else (none)) = some r := by first | (rw [hji25] at H; exact H) | (simp only [hji25] at H ⊢; exact H)
  (try rw [hji25] at A2)
  (try rw [hji25] at A3)
  (try rw [hji25] at A24)
  have hji25w : (IntKind.i64.wrap ((t122.length : Int) / 2)) = ji25 := (i64_w _).trans hji25
  by_cases c26 : 0 ≤ (ji25)
  ·rw [if_pos c26] at H
   have c26b0 := eq_true c26
   have c26b1 : decide (0 ≤ (ji25)) = true := decide_eq_true c26
   clear c26
   by_cases c27 : (ji25) ≤ (t122.length : Int)
   ·rw [if_pos c27] at H
    have c27b0 := eq_true c27
    have c27b1 : decide ((ji25) ≤ (t122.length : Int)) = true := decide_eq_true c27
    clear c27
    obtain ⟨y127, hy127⟩ : ∃ y_ : List (List Int), y_ = (t122.take ((ji25) : Int).toNat) := ⟨_, rfl⟩
    replace H : (some y127) = some r := by first | (rw [hy127]; with_reducible exact H) | (have H2_ := (Option.bind_some _ _).symm.trans H; rw [hy127]; with_reducible exact H2_) | (have H2_ := (Option.bind_some _ _).symm.trans H; with_reducible exact H2_) | with_reducible exact H | (rw [hy127]; exact H) | exact H
    have Ny127 := am_ hy127
    clear hy127
    obtain rfl := Option.some.inj H
    go_enter Try.func48, Try.ntmps48
    go_wp2_with (first | ((with_reducible refine gate_dst (N := 9) rfl ?_); refine box_event ?hg (N := 9) ?hd (cs := #[.slice A0 l0.length c0, .int .i64 0, .int .u64 0]) (t := 43) ?hr ?_; (case hd => rfl); (case hg => rfl); (case hr => exact tc22_); intro gb101 hg w28 hbox hb; have n0_ := am_ (below_step tc0_ hb); have n1_ := am_ ((by rw [hg]; exact (below_size tc0_) : w.heap.size ≤ gb101)); have n2_ := am_ ((by rw [hg]; exact (below_size tc0_) : w.heap.size ≤ gb101)); have n3_ := am_ ((show IsS43 w w28 gb101 l0 0 0 from ⟨A0, c0, hbox, (by rw [hg]; exact (below_size tc0_) : w.heap.size ≤ gb101), HR0.out⟩)); clear HB; have HB := n0_; have GW101 := n1_; have GE101 := n2_; have HI101 := n3_; clear n0_ n1_ n2_ n3_; clear hb hbox hg) | ((with_reducible refine gate_callee (f := 94) rfl ?_); refine goesL_ (some 12) rfl rfl Try.func94 (by kernel_rfl) rfl #[.pointer (some ⟨gb101, 0, none⟩)] rfl tc1_ ?_; (with_reducible refine (spec_l1Cur_symmetric.calls k gb101 l0 0 0 t102 t105 t106 w _ ?side1 ?side2 A2.out).mono ?_); (case side1 => exact tc10_); (case side2 => exact tc6_); rintro e w29 ⟨v103, rfl, ho0, hi, hb, hk⟩; refine ⟨_, rfl, ?_⟩; have n0_ := am_ (Kd.N_lower (Kd.N_mono (ok' := fun k_ => (w.heap.size ≤ k_) ∧ k_ ≠ gb101) ho0 (fun k_ hk_ => ⟨(Nat.le_trans (below_size tc6_) hk_), (IsS43.fresh tc10_ k_ hk_)⟩)) (below_size tc6_)); have n1_ := am_ (hb); have n2_ := am_ (hi); clear HB HI101; have HO104 := n0_; have HB := n1_; have HI101 := n2_; clear n0_ n1_ n2_; (try clear hb hk hi ho0); obtain ⟨Ao30, co30, eo30⟩ := Kd.N_slice HO104.out; subst eo30) | ((with_reducible refine gate_callee (f := 39) rfl ?_); refine goesL_ (some 13) rfl rfl Try.func39 (by kernel_rfl) rfl #[.slice Ao30 t102.length co30] rfl tc1_ ?_; (with_reducible refine (spec_UpperHalf.calls k _ _ t102 t107 false _ ?side1 ?side2 A3.out).mono ?_); (case side1 => exact tc21_); (case side2 => exact tc71_); rintro e w31 ⟨v109, rfl, ho0, hb⟩; refine ⟨_, rfl, ?_⟩; have n0_ := am_ (Kd.N_elder' tc16_ (Kd.S_base ho0) hb); have n1_ := am_ (Kd.N_lower (Kd.N_mono (ok' := fun k_ => (w.heap.size ≤ k_) ∧ some k_ ≠ (.slice Ao30 t102.length co30 : Value).ownBlock ∧ k_ ≠ gb101) (Kd.S_N (Kd.S_bound ho0)) (fun k_ hk_ => ⟨(Nat.le_trans (below_size tc6_) hk_.2.1), (Kd.fresh' (Kd.N_lt tc16_) k_ hk_.2.1), (IsS43.fresh tc10_ k_ hk_.2.1)⟩)) (below_size tc6_)); have n2_ := am_ (IsS43.below tc10_ hb); have n3_ := am_ (below_step tc6_ hb); clear HO104 HI101 HB; have HO104 := n0_; have HO110 := n1_; have HI101 := n2_; have HB := n3_; clear n0_ n1_ n2_ n3_; (try clear hb ho0)) | ((with_reducible refine gate_callee (f := 99) rfl ?_); refine goesL_ (some 24) rfl rfl Try.func99 (by kernel_rfl) rfl #[.pointer (some ⟨gb101, 0, none⟩), .int .i64 5] rfl tc1_ ?_; (with_reducible refine (spec_l1Cur_signs.calls k gb101 l0 t105 t106 5 t122 t125 t126 w _ ?side1 ?side2 A24.out).mono ?_); (case side1 => exact tc10_); (case side2 => exact tc6_); rintro e w32 ⟨v123, rfl, ho0, hi, hb, hk⟩; refine ⟨_, rfl, ?_⟩; have n0_ := am_ (Kd.N_mono (Kd.N_told (Kd.N_oldK (Kd.N_mono (ok := fun k_ => ((((w.heap.size ≤ k_)) ∧ k_ ≠ gb101) ∧ some k_ ≠ (v109 : Value).ownBlock)) tc16_ (fun k_ hk_ => (⟨hk_, hk_.1.2⟩ : _ ∧ k_ ≠ gb101))) hk) (Kd.N_base (Kd.S_N ho0))) (fun _ h_ => h_.1)); have n1_ := am_ (Kd.N_mono (Kd.N_told (Kd.N_oldK (Kd.N_mono (ok := fun k_ => (((w.heap.size ≤ k_)) ∧ (some k_ ≠ (.slice Ao30 t102.length co30 : Value).ownBlock ∧ k_ ≠ gb101))) tc45_ (fun k_ hk_ => (⟨hk_, hk_.2.2⟩ : _ ∧ k_ ≠ gb101))) hk) (Kd.N_base (Kd.S_N ho0))) (fun _ h_ => h_.1)); have n2_ := am_ (Kd.N_lower (Kd.N_mono (ok' := fun k_ => (w.heap.size ≤ k_) ∧ some k_ ≠ (.slice Ao30 t102.length co30 : Value).ownBlock ∧ some k_ ≠ (v109 : Value).ownBlock ∧ k_ ≠ gb101) (Kd.S_N (Kd.S_bound ho0)) (fun k_ hk_ => ⟨(Nat.le_trans (below_size tc6_) hk_.2.1), (Kd.fresh' (Kd.N_lt tc16_) k_ hk_.2.1), (Kd.fresh' (Kd.N_lt tc45_) k_ hk_.2.1), (IsS43.fresh tc10_ k_ hk_.2.1)⟩)) (below_size tc6_)); have n3_ := am_ (hb); have n4_ := am_ (hi); clear HO104 HO110; clear HB HI101; have HO104 := n0_; have HO110 := n1_; have HO124 := n2_; have HB := n3_; have HI101 := n4_; clear n0_ n1_ n2_ n3_ n4_; (try clear hb hk hi ho0); obtain ⟨Ao33, co33, eo33⟩ := Kd.N_slice HO124.out; subst eo33; have q34 : ((ji25) : Int) ≤ ((t122.length : Int) : Int) := of_decide_eq_true tc2_; obtain ⟨i034, hi034, _, hsz34, _⟩ := info_parts info24; have hcut34 := cut_to (P := Try.prog) 28 24 .i64 Try.underlying28 hi034 Ao33 t122.length co33 (ji25) (of_decide_eq_true tc2_) q34 (Kd.N_reads' HO124.out).2.1; have hr34 := Kd.N_take (m := ((ji25) : Int).toNat) HO124.out (by omega); have hy34 : y127.length = ((ji25) : Int).toNat := (by rw [Ny127.out, List.length_take]; omega); rw [← Ny127.out] at hr34; rw [← hy34] at hr34 hcut34; clear hy34 hi034 hsz34 HO124; have HO129 := am_ hr34; clear hr34; replace q34 := eq_true q34))
    go_ret
    exact ⟨_, by first | rfl | (simp [errW_none, errW_some] <;> rfl) | (simp only [← hji25]; first | rfl | (simp [errW_none, errW_some] <;> rfl)) | (simp [*, errW_none, errW_some] <;> rfl), by (with_reducible repeat (first | apply Kd.N_alloc | apply Kd.N_drewN | apply Kd.N_drew)); exact Kd.N_mono HO129.out (fun _ hk => hk.1), by repeat (first | (with_reducible first | exact HB.out | apply below_alloc | apply pw_below_drewN | apply below_drew1 | refine below_set ?_ (IsS43.ge HI101.out)) | exact HB.out)⟩
   ·rw [if_neg c27] at H
    exact absurd H (by simp)
  ·rw [if_neg c26] at H
   exact absurd H (by simp)

/-! ### spec_FromUpperHalf: function 49 -/
mutual
def spec_FromUpperHalf.l0 : Nat → List (List Int) → List (List Int) → Int → Option ((List (List Int)) × Bool)
 | 0, _, _, _ => none
 | k + 1, x0, x4, x5 => if x5 ≥ 0 then (if 0 ≤ x5 then (if x5 < (x0.length : Int) then (spec_FromUpperHalf.l1 k x0 x4 x5 ([] : List Int) (wrap64 (((rd_L3 x0 x5).length : Int) - 1))) else (none)) else (none)) else ((spec_sgGood.f k x4).bind fun t105 => (if t105 = true then (some (x4, true)) else (some (([] : List (List Int)), false))))
def spec_FromUpperHalf.l1 : Nat → List (List Int) → List (List Int) → Int → List Int → Int → Option ((List (List Int)) × Bool)
 | 0, _, _, _, _, _ => none
 | k + 1, x0, x4, x5, x6, x7 => if x7 ≥ 0 then (if 0 ≤ x5 then (if x5 < (x0.length : Int) then (if 0 ≤ x7 then (if x7 < ((rd_L3 x0 x5).length : Int) then (if x6.length < 17592186044416 then (spec_FromUpperHalf.l1 k x0 x4 x5 (x6 ++ [rd (rd_L3 x0 x5) x7]) (wrap64 (x7 - 1))) else (none)) else (none)) else (none)) else (none)) else (none)) else (if x4.length < 5864062014805 then (spec_FromUpperHalf.l0 k x0 (x4 ++ [x6]) (wrap64 (x5 - 1))) else (none))
end
def spec_FromUpperHalf.f (k : Nat) (l0 : List (List Int)) : Option ((List (List Int)) × Bool) := (spec_l1In.f (l0.length : Int) 1 3).bind fun t101 => (if t101 = true then ((spec_smCopy.f k l0).bind fun t102 => (spec_FromUpperHalf.l0 k l0 t102 (wrap64 ((l0.length : Int) - 1)))) else (some (([] : List (List Int)), false)))
set_option maxHeartbeats 8000000 in
set_option maxRecDepth 100000 in
theorem spec_FromUpperHalf.calls (k : Nat) (A0 : Option Addr) (c0 : Nat) (l0 : List (List Int)) (r1 : List (List Int)) (r2 : Bool) (w : World) (hr0 : Kd.C (Kd.slice 3 (Kd.int .i64)) w A0 l0.length l0) (hc0 : l0.length ≤ c0) (h : spec_FromUpperHalf.f k l0 = some (r1, r2)) :
  Calls Try.prog 49 #[.slice A0 l0.length c0] w fun e w' => ∃ v0_ : Value, e = .returned (.tuple #[v0_, .bool r2]) ∧ Kd.S (Kd.slice 3 (Kd.int .i64)) 24 w' w.heap.size (fun _ => True) v0_ r1 ∧ Below w.heap.size w w' := by
 have HR0 := am_ hr0
 have HC0 := am_ hc0
 clear hr0 hc0
 have HB := am_ (Below.refl w.heap.size w)
 have H : ((spec_l1In.f (l0.length : Int) 1 3).bind fun t101 => (if t101 = true then ((spec_smCopy.f k l0).bind fun t102 => (spec_FromUpperHalf.l0 k l0 t102 (wrap64 ((l0.length : Int) - 1)))) else (some (([] : List (List Int)), false)))) = some (r1, r2) := h
 clear h
 replace H := Option.bind_eq_some_iff.mp H
 obtain ⟨t101, A20, H⟩ := H
 replace H : (if t101 = true then ((spec_smCopy.f k l0).bind fun t102 => (spec_FromUpperHalf.l0 k l0 t102 (wrap64 ((l0.length : Int) - 1)))) else (some (([] : List (List Int)), false))) = some (r1, r2) := H
 have A2 := am_ A20
 clear A20
 by_cases c3 : t101 = true
 ·subst c3
  have H1 : ((spec_smCopy.f k l0).bind fun t102 => (spec_FromUpperHalf.l0 k l0 t102 (wrap64 ((l0.length : Int) - 1)))) = some (r1, r2) := by rw [if_pos rfl] at H; exact H
  clear H
  have H := H1
  clear H1
  replace H := Option.bind_eq_some_iff.mp H
  obtain ⟨t102, A40, H⟩ := H
  replace H : (spec_FromUpperHalf.l0 k l0 t102 (wrap64 ((l0.length : Int) - 1))) = some (r1, r2) := H
  have A4 := am_ A40
  clear A40
  have H' := am_ H
  clear H
  go_enter Try.func49, Try.ntmps49
  go_wp2_with (first | ((with_reducible refine gate_callee (f := 97) rfl ?_); refine goesL_ (some 10) rfl rfl Try.func97 (by kernel_rfl) rfl #[.int .i64 (l0.length : Int), .int .i64 1, .int .i64 3] rfl tc1_ ?_; (with_reducible refine (spec_l1In.calls (l0.length : Int) 1 3 true _ A2.out).mono ?_); rintro e w' ⟨rfl, ⟨nd, rfl⟩⟩; refine ⟨_, rfl, ?_⟩) | ((with_reducible refine gate_callee (f := 87) rfl ?_); refine goesL_ (some 13) rfl rfl Try.func87 (by kernel_rfl) rfl #[.slice A0 l0.length c0] rfl tc1_ ?_; (with_reducible refine (spec_smCopy.calls k _ _ l0 t102 _ ?side1 ?side2 A4.out).mono ?_); (case side1 => exact tc12_); (case side2 => exact HC0.out); rintro e w5 ⟨v103, rfl, ho0, hb⟩; refine ⟨_, rfl, ?_⟩; have n0_ := am_ (Kd.S_lower ho0 (below_size tc0_)); have n1_ := am_ (below_step tc0_ hb); clear HB; have HO104 := n0_; have HB := n1_; clear n0_ n1_; (try clear hb ho0)))
  go_loopg [4, 5] k (fun kq v4 v5 w' => ∃ (x4_1 : List (List Int)) (x5_1 : Int), v5 = .int .i64 x5_1 ∧ Aside0 (spec_FromUpperHalf.l0 kq l0 x4_1 x5_1 = some (r1, r2)) ∧ Aside0 (kq ≤ k) ∧ Aside0 (Kd.S (Kd.slice 3 (Kd.int .i64)) 24 w' w.heap.size (fun _ => True) v4 x4_1) ∧ Aside0 (Below w.heap.size w w'))
  case atStart => exact ⟨(t102), (wrap64 ((l0.length : Int) - 1)), tc9_, H', ⟨Nat.le_refl _⟩, ⟨by (with_reducible repeat (first | apply Kd.S_alloc | apply Kd.S_drewN | apply Kd.S_drew)); exact HO104.out⟩, ⟨by repeat (first | (with_reducible first | exact HB.out | apply below_alloc | apply pw_below_drewN | apply below_drew1) | exact HB.out)⟩⟩
  case round =>
   clear H'
   try clear p2
   try clear c3
   try clear c4
   obtain ⟨x4_1, x5_1, rfl, HA, HK1, HO_4, HB⟩ := hrel
   cases gk with
   | zero => exact absurd HA.out (by simp [spec_FromUpperHalf.l0])
   | succ k1 =>
    have H := HA.out
    clear HA
    simp only [spec_FromUpperHalf.l0] at H
    by_cases c6 : x5_1 ≥ 0
    ·rw [if_pos c6] at H
     have c6b0 : decide (0 ≤ x5_1) = true := decide_eq_true c6
     clear c6
     by_cases c7 : 0 ≤ x5_1
     ·rw [if_pos c7] at H
      have c7b0 : decide (0 ≤ x5_1) = true := decide_eq_true c7
      clear c7
      by_cases c8 : x5_1 < (l0.length : Int)
      ·rw [if_pos c8] at H
       have c8b0 : decide (x5_1 < (l0.length : Int)) = true := decide_eq_true c8
       clear c8
       have H' := am_ H
       clear H
       have p106 : 0 ≤ (x5_1 : Int) := of_decide_eq_true tc2_
       have q106 : x5_1 < (l0.length : Int) := of_decide_eq_true tc2_
       obtain ⟨ad106, A106_0, c106_0, e106, hx106_0, hl106_0, hi106_0⟩ := at_L3 HR0.out x5_1 p106 q106
       cases e106
       replace hx106_0 := (HB.out.cell (World.block_lt_of_cell? w _ hx106_0)).trans hx106_0
       have HR106_0 := am_ hi106_0
       have HC106_0 := am_ hl106_0
       clear hi106_0 hl106_0
       replace p106 := eq_true p106
       replace q106 := eq_true q106
       go_wp2
       go_loopg [6, 7] k1 (fun kq v6 v7 w' => ∃ (x6_2 : List Int) (x7_2 : Int), v7 = .int .i64 x7_2 ∧ Aside0 (spec_FromUpperHalf.l1 kq l0 x4_1 x5_1 x6_2 x7_2 = some (r1, r2)) ∧ Aside0 (kq ≤ k1) ∧ Aside0 (Kd.S (Kd.slice 3 (Kd.int .i64)) 24 w' w.heap.size (fun k_ => some k_ ≠ (v6 : Value).ownBlock) u4 x4_1) ∧ Aside0 (Kd.R (Kd.int .i64) 3 w' w.heap.size (fun _ => True) v6 x6_2) ∧ Aside0 (Below w.heap.size w w'))
       case atStart => exact ⟨(([] : List Int)), (wrap64 (((rd_L3 l0 x5_1).length : Int) - 1)), tc9_, H', ⟨Nat.le_refl _⟩, ⟨by (with_reducible repeat (first | apply Kd.S_alloc | apply Kd.S_drewN | apply Kd.S_drew)); exact Kd.S_mono HO_4.out (fun _ hk => (by simp [Value.ownBlock]))⟩, ⟨by first | exact Kd.R_nil _ _ _ _ _ | exact Kd.N_nil _ _ _ _ _ | exact Kd.V_nil _ _ _ _ _ | exact Kd.Q_nil _ _ _ _ _ | exact Kd.S_nil _ _ _ _ _⟩, ⟨by repeat (first | (with_reducible first | exact HB.out | apply below_alloc | apply pw_below_drewN | apply below_drew1) | exact HB.out)⟩⟩
       case round =>
        clear H'
        try clear c1
        try clear p1
        try clear q1
        try clear hx1
        try clear p2
        try clear c3
        try clear c4
        try clear c6
        try clear c6b0
        try clear p6
        try clear c7
        try clear c7b0
        try clear c8
        try clear c8b0
        try clear hx106_0
        try clear p106
        try clear p2
        try clear q106
        obtain ⟨x6_2, x7_2, rfl, HA, HK2, HO_4, HO_6, HB⟩ := hrel
        cases gk with
        | zero => exact absurd HA.out (by simp [spec_FromUpperHalf.l1])
        | succ k2 =>
         have H := HA.out
         clear HA
         simp only [spec_FromUpperHalf.l1] at H
         by_cases c9 : x7_2 ≥ 0
         ·rw [if_pos c9] at H
          have c9b0 : decide (0 ≤ x7_2) = true := decide_eq_true c9
          clear c9
          by_cases c10 : 0 ≤ x5_1
          ·rw [if_pos c10] at H
           have c10b0 : decide (0 ≤ x5_1) = true := decide_eq_true c10
           clear c10
           by_cases c11 : x5_1 < (l0.length : Int)
           ·rw [if_pos c11] at H
            have c11b0 : decide (x5_1 < (l0.length : Int)) = true := decide_eq_true c11
            clear c11
            by_cases c12 : 0 ≤ x7_2
            ·rw [if_pos c12] at H
             have c12b0 : decide (0 ≤ x7_2) = true := decide_eq_true c12
             clear c12
             by_cases c13 : x7_2 < ((rd_L3 l0 x5_1).length : Int)
             ·rw [if_pos c13] at H
              have c13b0 : decide (x7_2 < ((rd_L3 l0 x5_1).length : Int)) = true := decide_eq_true c13
              clear c13
              by_cases c14 : x6_2.length < 17592186044416
              ·rw [if_pos c14] at H
               have LMc14 := am_ c14
               clear c14
               obtain ⟨y109, hy109⟩ : ∃ y_ : List Int, y_ = (x6_2 ++ [rd (rd_L3 l0 x5_1) x7_2]) := ⟨_, rfl⟩
               replace H : (spec_FromUpperHalf.l1 k2 l0 x4_1 x5_1 y109 (wrap64 (x7_2 - 1))) = some (r1, r2) := by first | (rw [hy109]; with_reducible exact H) | (have H2_ := (Option.bind_some _ _).symm.trans H; rw [hy109]; with_reducible exact H2_) | (have H2_ := (Option.bind_some _ _).symm.trans H; with_reducible exact H2_) | with_reducible exact H | (rw [hy109]; exact H) | exact H
               have Ny109 := am_ hy109
               clear hy109
               have H' := am_ H
               clear H
               have p107 : 0 ≤ (x5_1 : Int) := of_decide_eq_true tc2_
               have q107 : x5_1 < (l0.length : Int) := of_decide_eq_true tc2_
               obtain ⟨ad107, A107_0, c107_0, e107, hx107_0, hl107_0, hi107_0⟩ := at_L3 HR0.out x5_1 p107 q107
               obtain rfl : ad106 = ad107 := (by injection e107)
               replace hx107_0 := (HB.out.cell (World.block_lt_of_cell? w _ hx107_0)).trans hx107_0
               have HR107_0 := am_ hi107_0
               have HC107_0 := am_ hl107_0
               clear hi107_0 hl107_0
               replace p107 := eq_true p107
               replace q107 := eq_true q107
               have p108 : 0 ≤ (x7_2 : Int) := of_decide_eq_true tc2_
               have q108 : x7_2 < ((rd_L3 l0 x5_1).length : Int) := of_decide_eq_true tc2_
               obtain ⟨ad108, e108, hx108_0⟩ := Kd.at_int HR107_0.out x7_2 p108 q108
               cases e108
               replace hx108_0 := (HB.out.cell (World.block_lt_of_cell? w _ hx108_0)).trans hx108_0
               replace p108 := eq_true p108
               replace q108 := eq_true q108
               go_wp2_with (first | ((with_reducible refine gate_builtin (b := .append) (xs := #[.tmp 31, .tmp 39]) rfl ?_); at_builtin; refine Kd.R_append (Kd.int .i64) (w0 := w) w.heap.size rfl (.tmp 31) (.tmp 39) 24 3 (.int .i64 0) 8 rfl Try.underlying24 info3 rfl (by decide) (by omega) u6 x6_2 (rd (rd_L3 l0 x5_1) x7_2) [.int .i64 (rd (rd_L3 l0 x5_1) x7_2)] (fun _ => True) (fun _ => False) rfl rfl ?aP (fun _ hk => hk.elim) ?aF ?aO ?aB ?aS ?aL ?_; (case aP => exact rfl); (case aB => exact tc14_); (case aF => exact tc55_); (case aO => exact (by (with_reducible repeat (first | apply Kd.R_alloc | apply Kd.R_drewN | apply Kd.R_drew)); exact HO_6.out)); (case aS => exact tc15_); (case aL => have := LMc14.out; omega); intro v110 w15 ho hb hg hat; rw [← Ny109.out] at ho; have n0_ := am_ (Kd.S_after (ok := (fun _ => True)) (by (with_reducible repeat (first | apply Kd.S_alloc | apply Kd.S_drewN | apply Kd.S_drew)); exact Kd.S_mono HO_4.out (fun _ hk => ⟨trivial, hk⟩)) hg hat); have n1_ := am_ (hb); have n2_ := am_ (ho); clear HO_4 HB HO_6; have HO_4 := n0_; have HB := n1_; have HO111 := n2_; clear n0_ n1_ n2_; clear ho hb hg hat))
               go_roundg k2
               case measure => have := HK1.out; have := HK2.out; omega
               case rel => exact ⟨(y109), (wrap64 (x7_2 - 1)), tc9_, H', ⟨by have := HK1.out; have := HK2.out; omega⟩, ⟨by (with_reducible repeat (first | apply Kd.S_alloc | apply Kd.S_drewN | apply Kd.S_drew)); exact Kd.S_mono HO_4.out (fun _ hk => hk.2)⟩, ⟨by (with_reducible repeat (first | apply Kd.R_alloc | apply Kd.R_drewN | apply Kd.R_drew)); exact HO111.out⟩, ⟨by repeat (first | (with_reducible first | exact HB.out | apply below_alloc | apply pw_below_drewN | apply below_drew1) | exact HB.out)⟩⟩
              ·rw [if_neg c14] at H
               exact absurd H (by simp)
             ·rw [if_neg c13] at H
              exact absurd H (by simp)
            ·rw [if_neg c12] at H
             exact absurd H (by simp)
           ·rw [if_neg c11] at H
            exact absurd H (by simp)
          ·rw [if_neg c10] at H
           exact absurd H (by simp)
         ·rw [if_neg c9] at H
          have c9b0 : decide (0 ≤ x7_2) = false := decide_eq_false c9
          clear c9
          by_cases c16 : x4_1.length < 5864062014805
          ·rw [if_pos c16] at H
           have LMc16 := am_ c16
           clear c16
           obtain ⟨y112, hy112⟩ : ∃ y_ : List (List Int), y_ = (x4_1 ++ [x6_2]) := ⟨_, rfl⟩
           replace H : (spec_FromUpperHalf.l0 k2 l0 y112 (wrap64 (x5_1 - 1))) = some (r1, r2) := by first | (rw [hy112]; with_reducible exact H) | (have H2_ := (Option.bind_some _ _).symm.trans H; rw [hy112]; with_reducible exact H2_) | (have H2_ := (Option.bind_some _ _).symm.trans H; with_reducible exact H2_) | with_reducible exact H | (rw [hy112]; exact H) | exact H
           have Ny112 := am_ hy112
           clear hy112
           have H' := am_ H
           clear H
           obtain ⟨Ao18, co18, eo18⟩ := Kd.R_slice HO_6.out
           subst eo18
           go_wp2_with (first | ((with_reducible refine gate_builtin (b := .append) (xs := #[.tmp 41, .tmp 43]) rfl ?_); at_builtin; refine Kd.S_append (Kd.slice 3 (Kd.int .i64)) (w0 := w) w.heap.size rfl (.tmp 41) (.tmp 43) 28 24 (.slice none 0 0) 24 rfl Try.underlying28 info24 rfl (by decide) (by omega) u4 x4_1 x6_2 [.slice Ao18 x6_2.length co18] (fun _ => True) (fun k_ => some k_ = (.slice Ao18 x6_2.length co18 : Value).ownBlock) rfl rfl ?aP (fun k_ hk_ => ((Kd.R_mono (ok' := fun k_ => ((fun _ => True)) k_ ∧ some k_ ≠ (u4 : Value).ownBlock) (Kd.R_apart' (HO_6.out) (Kd.S_typed HO_4.out) (by decide)) (fun k_ hk => ⟨trivial, hk.2⟩))).1 k_ hk_.symm) ?aF ?aO ?aB ?aS ?aL ?_; (case aP => exact Kd.M_row (Kd.R_mono (Kd.R_tight rfl (Kd.R_mono (ok' := fun k_ => ((fun _ => True)) k_ ∧ some k_ ≠ (u4 : Value).ownBlock) (Kd.R_apart' (HO_6.out) (Kd.S_typed HO_4.out) (by decide)) (fun k_ hk => ⟨trivial, hk.2⟩))) (fun _ h_ => h_))); (case aB => exact tc14_); (case aF => exact tc55_); (case aO => exact (by (with_reducible repeat (first | apply Kd.S_alloc | apply Kd.S_drewN | apply Kd.S_drew)); exact Kd.S_mono HO_4.out (fun k_ hk => ⟨trivial, fun e_ => hk e_⟩))); (case aS => exact tc15_); (case aL => have := LMc16.out; omega); intro v113 w17 ho hb hg hat; rw [← Ny112.out] at ho; have n0_ := am_ (hb); have n1_ := am_ (ho); clear HB HO_4 HO_6; have HB := n0_; have HO114 := n1_; clear n0_ n1_; clear ho hb hg hat))
           go_roundg k2
           case measure => have := HK1.out; have := HK2.out; omega
           case rel => exact ⟨(y112), (wrap64 (x5_1 - 1)), tc9_, H', ⟨by have := HK1.out; have := HK2.out; omega⟩, ⟨by (with_reducible repeat (first | apply Kd.S_alloc | apply Kd.S_drewN | apply Kd.S_drew)); exact HO114.out⟩, ⟨by repeat (first | (with_reducible first | exact HB.out | apply below_alloc | apply pw_below_drewN | apply below_drew1) | exact HB.out)⟩⟩
          ·rw [if_neg c16] at H
           exact absurd H (by simp)
      ·rw [if_neg c8] at H
       exact absurd H (by simp)
     ·rw [if_neg c7] at H
      exact absurd H (by simp)
    ·rw [if_neg c6] at H
     have c6b0 : decide (0 ≤ x5_1) = false := decide_eq_false c6
     clear c6
     replace H := Option.bind_eq_some_iff.mp H
     obtain ⟨t105, A190, H⟩ := H
     replace H : (if t105 = true then (some (x4_1, true)) else (some (([] : List (List Int)), false))) = some (r1, r2) := H
     have A19 := am_ A190
     clear A190
     by_cases c20 : t105 = true
     ·subst c20
      have H1 : (some (x4_1, true)) = some (r1, r2) := by rw [if_pos rfl] at H; exact H
      clear H
      have H := H1
      clear H1
      simp only [Option.some.injEq, Prod.mk.injEq] at H
      obtain ⟨rfl, rfl⟩ := H
      obtain ⟨Ao21, co21, eo21⟩ := Kd.S_slice HO_4.out
      subst eo21
      go_wp2_with (first | ((with_reducible refine gate_callee (f := 67) rfl ?_); refine goesL_ (some 46) rfl rfl Try.func67 (by kernel_rfl) rfl #[.slice Ao21 x4_1.length co21] rfl tc1_ ?_; (with_reducible refine (spec_sgGood.calls k1 _ _ x4_1 true _ ?side1 ?side2 A19.out).mono ?_); (case side1 => repeat (first | exact (Kd.S_reads' HO_4.out).2.2 | (with_reducible refine Kd.C_alloc ?_ _) | (with_reducible refine Kd.C_drewN ?_ _) | (with_reducible refine Kd.C_drew ?_))); (case side2 => exact (Kd.S_reads' HO_4.out).2.1); rintro e w22 ⟨rfl, hb⟩; refine ⟨_, rfl, ?_⟩; have n0_ := am_ (Kd.S_below tc77_ hb); have n1_ := am_ (below_step tc0_ hb); clear HO_4 HB; have HO_4 := n0_; have HB := n1_; clear n0_ n1_; (try clear hb)))
      go_ret2
      exact ⟨_, by first | rfl | (simp [errW_none, errW_some] <;> rfl) | (simp [*, errW_none, errW_some] <;> rfl), by (with_reducible repeat (first | apply Kd.S_alloc | apply Kd.S_drewN | apply Kd.S_drew)); exact HO_4.out, by repeat (first | (with_reducible first | exact HB.out | apply below_alloc | apply pw_below_drewN | apply below_drew1) | exact HB.out)⟩
     ·replace c20 := Bool.eq_false_iff.mpr c20
      subst c20
      have H1 : (some (([] : List (List Int)), false)) = some (r1, r2) := by rw [if_neg (show ¬ (false = true) by decide)] at H; exact H
      clear H
      have H := H1
      clear H1
      simp only [Option.some.injEq, Prod.mk.injEq] at H
      obtain ⟨rfl, rfl⟩ := H
      obtain ⟨Ao23, co23, eo23⟩ := Kd.S_slice HO_4.out
      subst eo23
      go_wp2_with (first | ((with_reducible refine gate_callee (f := 67) rfl ?_); refine goesL_ (some 46) rfl rfl Try.func67 (by kernel_rfl) rfl #[.slice Ao23 x4_1.length co23] rfl tc1_ ?_; (with_reducible refine (spec_sgGood.calls k1 _ _ x4_1 false _ ?side1 ?side2 A19.out).mono ?_); (case side1 => repeat (first | exact (Kd.S_reads' HO_4.out).2.2 | (with_reducible refine Kd.C_alloc ?_ _) | (with_reducible refine Kd.C_drewN ?_ _) | (with_reducible refine Kd.C_drew ?_))); (case side2 => exact (Kd.S_reads' HO_4.out).2.1); rintro e w24 ⟨rfl, hb⟩; refine ⟨_, rfl, ?_⟩; have n0_ := am_ (Kd.S_below tc77_ hb); have n1_ := am_ (below_step tc0_ hb); clear HO_4 HB; have HO_4 := n0_; have HB := n1_; clear n0_ n1_; (try clear hb)))
      go_ret2
      exact ⟨_, by first | rfl | (simp [errW_none, errW_some] <;> rfl) | (simp [*, errW_none, errW_some] <;> rfl), by first | exact Kd.S_nil _ _ _ _ _ | exact Kd.N_nil _ _ _ _ _ | exact Kd.V_nil _ _ _ _ _ | exact Kd.Q_nil _ _ _ _ _ | exact Kd.R_nil _ _ _ _ _, by repeat (first | (with_reducible first | exact HB.out | apply below_alloc | apply pw_below_drewN | apply below_drew1) | exact HB.out)⟩
 ·replace c3 := Bool.eq_false_iff.mpr c3
  subst c3
  have H1 : (some (([] : List (List Int)), false)) = some (r1, r2) := by rw [if_neg (show ¬ (false = true) by decide)] at H; exact H
  clear H
  have H := H1
  clear H1
  simp only [Option.some.injEq, Prod.mk.injEq] at H
  obtain ⟨rfl, rfl⟩ := H
  go_enter Try.func49, Try.ntmps49
  go_wp2_with (first | ((with_reducible refine gate_callee (f := 97) rfl ?_); refine goesL_ (some 10) rfl rfl Try.func97 (by kernel_rfl) rfl #[.int .i64 (l0.length : Int), .int .i64 1, .int .i64 3] rfl tc1_ ?_; (with_reducible refine (spec_l1In.calls (l0.length : Int) 1 3 false _ A2.out).mono ?_); rintro e w' ⟨rfl, ⟨nd, rfl⟩⟩; refine ⟨_, rfl, ?_⟩))
  go_ret2
  exact ⟨_, by first | rfl | (simp [errW_none, errW_some] <;> rfl) | (simp [*, errW_none, errW_some] <;> rfl), by first | exact Kd.S_nil _ _ _ _ _ | exact Kd.N_nil _ _ _ _ _ | exact Kd.V_nil _ _ _ _ _ | exact Kd.Q_nil _ _ _ _ _ | exact Kd.R_nil _ _ _ _ _, by repeat (first | (with_reducible first | exact HB.out | apply below_alloc | apply pw_below_drewN | apply below_drew1) | exact HB.out)⟩

end Go.Proofs.Ytiajdpjfofbpnaa.X
