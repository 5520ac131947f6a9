-- Written by a program of this session (wip/xprint.py) that drives the kit's print; the contracts of what it does not take are this session's own.
import Derived.Test.YtiajdpjfofbpnaaCFnTurnsAndMirrorsx0
import Derived.Test.YtiajdpjfofbpnaaCFnTurnsAndMirrorsx1
import Derived.Test.YtiajdpjfofbpnaaCFnTurnsAndMirrorsx2
import Derived.Test.YtiajdpjfofbpnaaCFnTurnsAndMirrorsx3
namespace Go.Proofs.Ytiajdpjfofbpnaa.X
open Go.RowKit Go.Proofs.YtiajdpjfofbpnaaW.PrintWords Go.Proofs.YtiajdpjfofbpnaaW.PrintLast Go.Proofs.YtiajdpjfofbpnaaW.PrintMore
attribute [local go_sem] max2_int min2_int max_two min_two max_three min_three max_four min_four   -- for this text's walks alone
set_option linter.unusedVariables false
set_option linter.unusedSimpArgs false

/-! ### impl_countOf: function 79 -/
mutual
def impl_countOf.l0 : Nat → Int → Int → List (List Int) → Int → Int → Option (Int)
 | 0, _, _, _, _, _ => none
 | k + 1, x1, x5, x10, x11, x12 => if x12 < x11 then (if 0 ≤ x12 then (if x12 < (x10.length : Int) then (impl_countOf.l1 k x1 x5 x10 x11 x12 (rd_L3 x10 x12) ((rd_L3 x10 x12).length : Int) 0) else (none)) else (none)) else (some x5)
def impl_countOf.l1 : Nat → Int → Int → List (List Int) → Int → Int → List Int → Int → Int → Option (Int)
 | 0, _, _, _, _, _, _, _, _ => none
 | k + 1, x1, x5, x10, x11, x12, x16, x17, x18 => if x18 < x17 then (if 0 ≤ x18 then (if x18 < (x16.length : Int) then ((impl_bit.f ((rd x16 x18) == x1)).bind fun t103 => (impl_countOf.l1 k x1 (wrap64 (x5 + t103)) x10 x11 x12 x16 x17 (wrap64 (x18 + 1)))) else (none)) else (none)) else (impl_countOf.l0 k x1 x5 x10 x11 (wrap64 (x12 + 1)))
end
def impl_countOf.f (k : Nat) (l0 : List (List Int)) (a1 : Int) : Option (Int) := impl_countOf.l0 k a1 0 l0 (l0.length : Int) 0
set_option maxHeartbeats 8000000 in
set_option maxRecDepth 100000 in
theorem impl_countOf.calls (k : Nat) (A0 : Option Addr) (c0 : Nat) (l0 : List (List Int)) (a1 : Int) (r : Int) (w : World) (hr0 : Kd.C (Kd.slice 3 (Kd.int .i64)) w A0 l0.length l0) (hc0 : l0.length ≤ c0) (h : impl_countOf.f k l0 a1 = some r) :
  Calls Try.prog 79 #[.slice A0 l0.length c0, .int .i64 a1] w fun e w' => e = .returned (.int .i64 r) ∧ Drawn0 w w' := by
 have HR0 := am_ hr0
 have HC0 := am_ hc0
 clear hr0 hc0
 have H : (impl_countOf.l0 k a1 0 l0 (l0.length : Int) 0) = some r := h
 clear h
 have H' := am_ H
 clear H
 go_enter Try.func79, Try.ntmps79
 go_wp2
 go_loopg [5, 12] k (fun kq v5 v12 w' => ∃ (x5_1 : Int) (x12_1 : Int), v5 = .int .i64 x5_1 ∧ v12 = .int .i64 x12_1 ∧ Aside0 (impl_countOf.l0 kq a1 x5_1 l0 (l0.length : Int) x12_1 = some r) ∧ Aside0 (kq ≤ k) ∧ Drawn0 w w')
 case atStart => exact ⟨(0), (0), tc6_, tc6_, H', ⟨Nat.le_refl _⟩, by repeat (first | exact Drawn0.refl _ | apply Drawn0.step)⟩
 case round =>
  clear H'
  try clear p2
  obtain ⟨x5_1, x12_1, rfl, rfl, HA, HK1, ⟨m1, rfl⟩⟩ := hrel
  cases gk with
  | zero => exact absurd HA.out (by simp [impl_countOf.l0])
  | succ k1 =>
   have H := HA.out
   clear HA
   simp only [impl_countOf.l0] at H
   by_cases c3 : x12_1 < (l0.length : Int)
   ·rw [if_pos c3] at H
    have c3b0 : decide (x12_1 < (l0.length : Int)) = true := decide_eq_true c3
    clear c3
    by_cases c4 : 0 ≤ x12_1
    ·rw [if_pos c4] at H
     have c4b0 : decide (0 ≤ x12_1) = true := decide_eq_true c4
     clear c4
     by_cases c5 : x12_1 < (l0.length : Int)
     ·rw [if_pos c5] at H
      have c5b0 : decide (x12_1 < (l0.length : Int)) = true := decide_eq_true c5
      clear c5
      have H' := am_ H
      clear H
      have p101 : 0 ≤ (x12_1 : Int) := of_decide_eq_true tc2_
      have q101 : x12_1 < (l0.length : Int) := of_decide_eq_true tc2_
      obtain ⟨ad101, A101_0, c101_0, e101, hx101_0, hl101_0, hi101_0⟩ := at_L3 HR0.out x12_1 p101 q101
      cases e101
      have HR101_0 := am_ hi101_0
      have HC101_0 := am_ hl101_0
      clear hi101_0 hl101_0
      replace p101 := eq_true p101
      replace q101 := eq_true q101
      go_wp2
      go_loopg [5, 18] k1 (fun kq v5 v18 w' => ∃ (x5_2 : Int) (x18_2 : Int), v5 = .int .i64 x5_2 ∧ v18 = .int .i64 x18_2 ∧ Aside0 (impl_countOf.l1 kq a1 x5_2 l0 (l0.length : Int) x12_1 (rd_L3 l0 x12_1) ((rd_L3 l0 x12_1).length : Int) x18_2 = some r) ∧ Aside0 (kq ≤ k1) ∧ Drawn0 w w')
      case atStart => exact ⟨(x5_1), (0), tc6_, tc6_, H', ⟨Nat.le_refl _⟩, by repeat (first | exact Drawn0.refl _ | apply Drawn0.step)⟩
      case round =>
       clear H'
       try clear c1
       try clear p1
       try clear q1
       try clear hx1
       try clear p2
       try clear c3
       try clear c3b0
       try clear c4
       try clear c4b0
       try clear c5
       try clear c5b0
       try clear hx101_0
       try clear p101
       try clear p2
       try clear q101
       obtain ⟨x5_2, x18_2, rfl, rfl, HA, HK2, ⟨m2, rfl⟩⟩ := hrel
       cases gk with
       | zero => exact absurd HA.out (by simp [impl_countOf.l1])
       | succ k2 =>
        have H := HA.out
        clear HA
        simp only [impl_countOf.l1] at H
        by_cases c6 : x18_2 < ((rd_L3 l0 x12_1).length : Int)
        ·rw [if_pos c6] at H
         have c6b0 : decide (x18_2 < ((rd_L3 l0 x12_1).length : Int)) = true := decide_eq_true c6
         clear c6
         by_cases c7 : 0 ≤ x18_2
         ·rw [if_pos c7] at H
          have c7b0 : decide (0 ≤ x18_2) = true := decide_eq_true c7
          clear c7
          by_cases c8 : x18_2 < ((rd_L3 l0 x12_1).length : Int)
          ·rw [if_pos c8] at H
           have c8b0 : decide (x18_2 < ((rd_L3 l0 x12_1).length : Int)) = true := decide_eq_true c8
           clear c8
           replace H := Option.bind_eq_some_iff.mp H
           obtain ⟨t103, A90, H⟩ := H
           replace H : (impl_countOf.l1 k2 a1 (wrap64 (x5_2 + t103)) l0 (l0.length : Int) x12_1 (rd_L3 l0 x12_1) ((rd_L3 l0 x12_1).length : Int) (wrap64 (x18_2 + 1))) = some r := H
           have A9 := am_ A90
           clear A90
           have H' := am_ H
           clear H
           have p102 : 0 ≤ (x18_2 : Int) := of_decide_eq_true tc2_
           have q102 : x18_2 < ((rd_L3 l0 x12_1).length : Int) := of_decide_eq_true tc2_
           obtain ⟨ad102, e102, hx102_0⟩ := Kd.at_int HR101_0.out x18_2 p102 q102
           cases e102
           replace p102 := eq_true p102
           replace q102 := eq_true q102
           go_wp2_with (first | ((with_reducible refine gate_callee (f := 116) rfl ?_); refine goesL_ (some 26) rfl rfl Try.func116 (by kernel_rfl) rfl #[.bool ((rd (rd_L3 l0 x12_1) x18_2) == a1)] rfl tc1_ ?_; (with_reducible refine (impl_bit.calls ((rd (rd_L3 l0 x12_1) x18_2) == a1) t103 _ A9.out).mono ?_); rintro e w' ⟨rfl, ⟨nd, rfl⟩⟩; refine ⟨_, rfl, ?_⟩))
           go_roundg k2
           case measure => have := HK1.out; have := HK2.out; omega
           case rel => exact ⟨(wrap64 (x5_2 + t103)), (wrap64 (x18_2 + 1)), tc6_, tc6_, H', ⟨by have := HK1.out; have := HK2.out; omega⟩, by repeat (first | exact Drawn0.refl _ | apply Drawn0.step)⟩
          ·rw [if_neg c8] at H
           exact absurd H (by simp)
         ·rw [if_neg c7] at H
          exact absurd H (by simp)
        ·rw [if_neg c6] at H
         have c6b0 : decide (x18_2 < ((rd_L3 l0 x12_1).length : Int)) = false := decide_eq_false c6
         clear c6
         have H' := am_ H
         clear H
         go_wp2
         go_roundg k2
         case measure => have := HK1.out; have := HK2.out; omega
         case rel => exact ⟨(x5_2), (wrap64 (x12_1 + 1)), tc6_, tc6_, H', ⟨by have := HK1.out; have := HK2.out; omega⟩, by repeat (first | exact Drawn0.refl _ | apply Drawn0.step)⟩
     ·rw [if_neg c5] at H
      exact absurd H (by simp)
    ·rw [if_neg c4] at H
     exact absurd H (by simp)
   ·rw [if_neg c3] at H
    have c3b0 : decide (x12_1 < (l0.length : Int)) = false := decide_eq_false c3
    clear c3
    obtain rfl := Option.some.inj H
    go_wp2
    go_ret
    exact ⟨by first | rfl | (simp; done) | (simp [*]; done), by repeat (first | exact Drawn0.refl _ | apply Drawn0.step)⟩

/-! ### impl_MinusOnes: function 29 -/
def impl_MinusOnes.f (k : Nat) (l0 : List (List Int)) : Option (Int × Bool) := (impl_IsSignMatrix.f k l0).bind fun t101 => (if t101 = true then ((impl_countOf.f k l0 (-1)).bind fun t102 => (some (t102, true))) else (some (0, false)))
set_option maxHeartbeats 8000000 in
set_option maxRecDepth 100000 in
theorem impl_MinusOnes.calls (k : Nat) (A0 : Option Addr) (c0 : Nat) (l0 : List (List Int)) (r1 : Int) (r2 : Bool) (w : World) (hr0 : Kd.C (Kd.slice 3 (Kd.int .i64)) w A0 l0.length l0) (hc0 : l0.length ≤ c0) (h : impl_MinusOnes.f k l0 = some (r1, r2)) :
  Calls Try.prog 29 #[.slice A0 l0.length c0] w fun e w' => e = .returned (.tuple #[.int .i64 r1, .bool r2]) ∧ Below w.heap.size w w' := by
 have HR0 := am_ hr0
 have HC0 := am_ hc0
 clear hr0 hc0
 have HB := am_ (Below.refl w.heap.size w)
 have H : ((impl_IsSignMatrix.f k l0).bind fun t101 => (if t101 = true then ((impl_countOf.f k l0 (-1)).bind fun t102 => (some (t102, true))) else (some (0, false)))) = some (r1, r2) := h
 clear h
 replace H := Option.bind_eq_some_iff.mp H
 obtain ⟨t101, A20, H⟩ := H
 replace H : (if t101 = true then ((impl_countOf.f k l0 (-1)).bind fun t102 => (some (t102, true))) else (some (0, false))) = some (r1, r2) := H
 have A2 := am_ A20
 clear A20
 by_cases c3 : t101 = true
 ·subst c3
  have H1 : ((impl_countOf.f k l0 (-1)).bind fun t102 => (some (t102, true))) = some (r1, r2) := by rw [if_pos rfl] at H; exact H
  clear H
  have H := H1
  clear H1
  replace H := Option.bind_eq_some_iff.mp H
  obtain ⟨t102, A40, H⟩ := H
  replace H : (some (t102, true)) = some (r1, r2) := H
  have A4 := am_ A40
  clear A40
  simp only [Option.some.injEq, Prod.mk.injEq] at H
  obtain ⟨rfl, rfl⟩ := H
  go_enter Try.func29, Try.ntmps29
  go_wp2_with (first | ((with_reducible refine gate_callee (f := 73) rfl ?_); refine goesL_ (some 5) rfl rfl Try.func73 (by kernel_rfl) rfl #[.slice A0 l0.length c0] rfl tc1_ ?_; (with_reducible refine (impl_IsSignMatrix.calls k _ _ l0 true _ ?side1 ?side2 A2.out).mono ?_); (case side1 => exact tc7_); (case side2 => exact HC0.out); rintro e w5 ⟨rfl, hb⟩; refine ⟨_, rfl, ?_⟩; have n0_ := am_ (below_step tc0_ hb); clear HB; have HB := n0_; clear n0_; (try clear hb)) | ((with_reducible refine gate_callee (f := 79) rfl ?_); refine goesL_ (some 8) rfl rfl Try.func79 (by kernel_rfl) rfl #[.slice A0 l0.length c0, .int .i64 (-1)] rfl tc1_ ?_; (with_reducible refine (impl_countOf.calls k _ _ l0 (-1) t102 _ ?side1 ?side2 A4.out).mono ?_); (case side1 => exact tc13_); (case side2 => exact HC0.out); rintro e w' ⟨rfl, ⟨nd, rfl⟩⟩; refine ⟨_, rfl, ?_⟩))
  go_ret2
  exact ⟨by first | rfl | (simp [errW_none, errW_some] <;> rfl) | (simp [*, errW_none, errW_some] <;> rfl), by repeat (first | (with_reducible first | exact HB.out | apply below_alloc | apply pw_below_drewN | apply below_drew1) | exact HB.out)⟩
 ·replace c3 := Bool.eq_false_iff.mpr c3
  subst c3
  have H1 : (some (0, false)) = some (r1, r2) := by rw [if_neg (show ¬ (false = true) by decide)] at H; exact H
  clear H
  have H := H1
  clear H1
  simp only [Option.some.injEq, Prod.mk.injEq] at H
  obtain ⟨rfl, rfl⟩ := H
  go_enter Try.func29, Try.ntmps29
  go_wp2_with (first | ((with_reducible refine gate_callee (f := 73) rfl ?_); refine goesL_ (some 5) rfl rfl Try.func73 (by kernel_rfl) rfl #[.slice A0 l0.length c0] rfl tc1_ ?_; (with_reducible refine (impl_IsSignMatrix.calls k _ _ l0 false _ ?side1 ?side2 A2.out).mono ?_); (case side1 => exact tc7_); (case side2 => exact HC0.out); rintro e w6 ⟨rfl, hb⟩; refine ⟨_, rfl, ?_⟩; have n0_ := am_ (below_step tc0_ hb); clear HB; have HB := n0_; clear n0_; (try clear hb)))
  go_ret2
  exact ⟨by first | rfl | (simp [errW_none, errW_some] <;> rfl) | (simp [*, errW_none, errW_some] <;> rfl), by repeat (first | (with_reducible first | exact HB.out | apply below_alloc | apply pw_below_drewN | apply below_drew1) | exact HB.out)⟩

/-! ### impl_sum: function 117 -/
def impl_sum.l0 : Nat → Int → List Int → Int → Int → Option (Int)
 | 0, _, _, _, _ => none
 | k + 1, x3, x6, x7, x8 => if x8 < x7 then (if 0 ≤ x8 then (if x8 < (x6.length : Int) then (impl_sum.l0 k (wrap64 (x3 + (rd x6 x8))) x6 x7 (wrap64 (x8 + 1))) else (none)) else (none)) else (some x3)
def impl_sum.f (k : Nat) (l0 : List Int) : Option (Int) := impl_sum.l0 k 0 l0 (l0.length : Int) 0
set_option maxHeartbeats 8000000 in
set_option maxRecDepth 100000 in
theorem impl_sum.calls (k : Nat) (A0 : Option Addr) (c0 : Nat) (l0 : List Int) (r : Int) (w : World) (hr0 : Kd.C (Kd.int .i64) w A0 l0.length l0) (hc0 : l0.length ≤ c0) (h : impl_sum.f k l0 = some r) :
  Calls Try.prog 117 #[.slice A0 l0.length c0] w fun e w' => e = .returned (.int .i64 r) ∧ Drawn0 w w' := by
 have HR0 := am_ hr0
 have HC0 := am_ hc0
 clear hr0 hc0
 have H : (impl_sum.l0 k 0 l0 (l0.length : Int) 0) = some r := h
 clear h
 have H' := am_ H
 clear H
 go_enter Try.func117, Try.ntmps117
 go_wp2
 go_loopg [3, 8] k (fun kq v3 v8 w' => ∃ (x3_1 : Int) (x8_1 : Int), v3 = .int .i64 x3_1 ∧ v8 = .int .i64 x8_1 ∧ Aside0 (impl_sum.l0 kq x3_1 l0 (l0.length : Int) x8_1 = some r) ∧ Aside0 (kq ≤ k) ∧ Drawn0 w w')
 case atStart => exact ⟨(0), (0), tc6_, tc6_, H', ⟨Nat.le_refl _⟩, by repeat (first | exact Drawn0.refl _ | apply Drawn0.step)⟩
 case round =>
  clear H'
  try clear c1
  obtain ⟨x3_1, x8_1, rfl, rfl, HA, HK1, ⟨m1, rfl⟩⟩ := hrel
  cases gk with
  | zero => exact absurd HA.out (by simp [impl_sum.l0])
  | succ k1 =>
   have H := HA.out
   clear HA
   simp only [impl_sum.l0] at H
   by_cases c2 : x8_1 < (l0.length : Int)
   ·rw [if_pos c2] at H
    have c2b0 : decide (x8_1 < (l0.length : Int)) = true := decide_eq_true c2
    clear c2
    by_cases c3 : 0 ≤ x8_1
    ·rw [if_pos c3] at H
     have c3b0 : decide (0 ≤ x8_1) = true := decide_eq_true c3
     clear c3
     by_cases c4 : x8_1 < (l0.length : Int)
     ·rw [if_pos c4] at H
      have c4b0 : decide (x8_1 < (l0.length : Int)) = true := decide_eq_true c4
      clear c4
      have H' := am_ H
      clear H
      have p101 : 0 ≤ (x8_1 : Int) := of_decide_eq_true tc2_
      have q101 : x8_1 < (l0.length : Int) := of_decide_eq_true tc2_
      obtain ⟨ad101, e101, hx101_0⟩ := Kd.at_int HR0.out x8_1 p101 q101
      cases e101
      replace p101 := eq_true p101
      replace q101 := eq_true q101
      go_wp2
      go_roundg k1
      case measure => have := HK1.out; omega
      case rel => exact ⟨(wrap64 (x3_1 + (rd l0 x8_1))), (wrap64 (x8_1 + 1)), tc6_, tc6_, H', ⟨by have := HK1.out; omega⟩, by repeat (first | exact Drawn0.refl _ | apply Drawn0.step)⟩
     ·rw [if_neg c4] at H
      exact absurd H (by simp)
    ·rw [if_neg c3] at H
     exact absurd H (by simp)
   ·rw [if_neg c2] at H
    have c2b0 : decide (x8_1 < (l0.length : Int)) = false := decide_eq_false c2
    clear c2
    obtain rfl := Option.some.inj H
    go_wp2
    go_ret
    exact ⟨by first | rfl | (simp; done) | (simp [*]; done), by repeat (first | exact Drawn0.refl _ | apply Drawn0.step)⟩

/-! ### impl_inversions: function 80 -/
mutual
def impl_inversions.l0 : Nat → List (List Int) → Int → List (List Int) → Int → Int → Option (Int)
 | 0, _, _, _, _, _ => none
 | k + 1, x0, x3, x10, x11, x12 => if x12 < x11 then (if 0 ≤ x12 then (if x12 < (x10.length : Int) then (impl_inversions.l1 k x0 x3 x12 x10 x11 x12 (rd_L3 x10 x12) ((rd_L3 x10 x12).length : Int) 0) else (none)) else (none)) else (some x3)
def impl_inversions.l1 : Nat → List (List Int) → Int → Int → List (List Int) → Int → Int → List Int → Int → Int → Option (Int)
 | 0, _, _, _, _, _, _, _, _, _ => none
 | k + 1, x0, x3, x4, x10, x11, x12, x17, x18, x19 => if x19 < x18 then (if 0 ≤ x19 then (if x19 < (x17.length : Int) then (if 0 ≤ (wrap64 (x4 + 1)) then (if (wrap64 (x4 + 1)) ≤ (x0.length : Int) then ((some (x0.drop ((wrap64 (x4 + 1)) : Int).toNat : List (List Int))).bind fun y103 => (impl_inversions.l2 k x0 x3 x4 x19 (rd x17 x19) x10 x11 x12 x17 x18 x19 y103 (y103.length : Int) 0)) else (none)) else (none)) else (none)) else (none)) else (impl_inversions.l0 k x0 x3 x10 x11 (wrap64 (x12 + 1)))
def impl_inversions.l2 : Nat → List (List Int) → Int → Int → Int → Int → List (List Int) → Int → Int → List Int → Int → Int → List (List Int) → Int → Int → Option (Int)
 | 0, _, _, _, _, _, _, _, _, _, _, _, _, _, _ => none
 | k + 1, x0, x3, x4, x6, x7, x10, x11, x12, x17, x18, x19, x27, x28, x29 => if x29 < x28 then (if 0 ≤ x29 then (if x29 < (x27.length : Int) then (if 0 ≤ x6 then (if x6 ≤ ((rd_L3 x27 x29).length : Int) then ((impl_sum.f k ((rd_L3 x27 x29).take (x6 : Int).toNat)).bind fun t109 => (impl_inversions.l2 k x0 (wrap64 (x3 + (wrap64 (x7 * t109)))) x4 x6 x7 x10 x11 x12 x17 x18 x19 x27 x28 (wrap64 (x29 + 1)))) else (none)) else (none)) else (none)) else (none)) else (impl_inversions.l1 k x0 x3 x4 x10 x11 x12 x17 x18 (wrap64 (x19 + 1)))
end
def impl_inversions.f (k : Nat) (l0 : List (List Int)) : Option (Int) := impl_inversions.l0 k l0 0 l0 (l0.length : Int) 0
set_option maxHeartbeats 8000000 in
set_option maxRecDepth 100000 in
theorem impl_inversions.calls (k : Nat) (A0 : Option Addr) (c0 : Nat) (l0 : List (List Int)) (r : Int) (w : World) (hr0 : Kd.C (Kd.slice 3 (Kd.int .i64)) w A0 l0.length l0) (hc0 : l0.length ≤ c0) (h : impl_inversions.f k l0 = some r) :
  Calls Try.prog 80 #[.slice A0 l0.length c0] w fun e w' => e = .returned (.int .i64 r) ∧ Drawn0 w w' := by
 have HR0 := am_ hr0
 have HC0 := am_ hc0
 clear hr0 hc0
 have H : (impl_inversions.l0 k l0 0 l0 (l0.length : Int) 0) = some r := h
 clear h
 have H' := am_ H
 clear H
 go_enter Try.func80, Try.ntmps80
 go_wp2
 go_loopg [3, 12] k (fun kq v3 v12 w' => ∃ (x3_1 : Int) (x12_1 : Int), v3 = .int .i64 x3_1 ∧ v12 = .int .i64 x12_1 ∧ Aside0 (impl_inversions.l0 kq l0 x3_1 l0 (l0.length : Int) x12_1 = some r) ∧ Aside0 (kq ≤ k) ∧ Drawn0 w w')
 case atStart => exact ⟨(0), (0), tc6_, tc6_, H', ⟨Nat.le_refl _⟩, by repeat (first | exact Drawn0.refl _ | apply Drawn0.step)⟩
 case round =>
  clear H'
  obtain ⟨x3_1, x12_1, rfl, rfl, HA, HK1, ⟨m1, rfl⟩⟩ := hrel
  cases gk with
  | zero => exact absurd HA.out (by simp [impl_inversions.l0])
  | succ k1 =>
   have H := HA.out
   clear HA
   simp only [impl_inversions.l0] at H
   by_cases c2 : x12_1 < (l0.length : Int)
   ·rw [if_pos c2] at H
    have c2b0 : decide (x12_1 < (l0.length : Int)) = true := decide_eq_true c2
    clear c2
    by_cases c3 : 0 ≤ x12_1
    ·rw [if_pos c3] at H
     have c3b0 : decide (0 ≤ x12_1) = true := decide_eq_true c3
     clear c3
     by_cases c4 : x12_1 < (l0.length : Int)
     ·rw [if_pos c4] at H
      have c4b0 : decide (x12_1 < (l0.length : Int)) = true := decide_eq_true c4
      clear c4
      have H' := am_ H
      clear H
      have p101 : 0 ≤ (x12_1 : Int) := of_decide_eq_true tc2_
      have q101 : x12_1 < (l0.length : Int) := of_decide_eq_true tc2_
      obtain ⟨ad101, A101_0, c101_0, e101, hx101_0, hl101_0, hi101_0⟩ := at_L3 HR0.out x12_1 p101 q101
      cases e101
      have HR101_0 := am_ hi101_0
      have HC101_0 := am_ hl101_0
      clear hi101_0 hl101_0
      replace p101 := eq_true p101
      replace q101 := eq_true q101
      go_wp2
      go_loopg [3, 19] k1 (fun kq v3 v19 w' => ∃ (x3_2 : Int) (x19_2 : Int), v3 = .int .i64 x3_2 ∧ v19 = .int .i64 x19_2 ∧ Aside0 (impl_inversions.l1 kq l0 x3_2 x12_1 l0 (l0.length : Int) x12_1 (rd_L3 l0 x12_1) ((rd_L3 l0 x12_1).length : Int) x19_2 = some r) ∧ Aside0 (kq ≤ k1) ∧ Drawn0 w w')
      case atStart => exact ⟨(x3_1), (0), tc6_, tc6_, H', ⟨Nat.le_refl _⟩, by repeat (first | exact Drawn0.refl _ | apply Drawn0.step)⟩
      case round =>
       clear H'
       try clear c1
       try clear p1
       try clear q1
       try clear hx1
       try clear c2
       try clear c2b0
       try clear p2
       try clear c3
       try clear c3b0
       try clear c4
       try clear c4b0
       try clear hx101_0
       try clear p101
       try clear q101
       obtain ⟨x3_2, x19_2, rfl, rfl, HA, HK2, ⟨m2, rfl⟩⟩ := hrel
       cases gk with
       | zero => exact absurd HA.out (by simp [impl_inversions.l1])
       | succ k2 =>
        have H := HA.out
        clear HA
        simp only [impl_inversions.l1] at H
        by_cases c5 : x19_2 < ((rd_L3 l0 x12_1).length : Int)
        ·rw [if_pos c5] at H
         have c5b0 : decide (x19_2 < ((rd_L3 l0 x12_1).length : Int)) = true := decide_eq_true c5
         clear c5
         by_cases c6 : 0 ≤ x19_2
         ·rw [if_pos c6] at H
          have c6b0 : decide (0 ≤ x19_2) = true := decide_eq_true c6
          clear c6
          by_cases c7 : x19_2 < ((rd_L3 l0 x12_1).length : Int)
          ·rw [if_pos c7] at H
           have c7b0 : decide (x19_2 < ((rd_L3 l0 x12_1).length : Int)) = true := decide_eq_true c7
           clear c7
           obtain ⟨ji8, hji8⟩ : ∃ j_ : Int, (wrap64 (x12_1 + 1)) = j_ := ⟨_, rfl⟩
           replace H : (if 0 ≤ (ji8) then (if (ji8) ≤ (l0.length : Int) then ((some (l0.drop ((ji8) : Int).toNat : List (List Int))).bind fun y103 => (impl_inversions.l2 k2 l0 x3_2 x12_1 x19_2 (rd (rd_L3 l0 x12_1) x19_2) l0 (l0.length : Int) x12_1 (rd_L3 l0 x12_1) ((rd_L3 l0 x12_1).length : Int) x19_2 y103 (y103.length : Int) 0)) else (none)) else (none)) = some r := by first | (rw [hji8] at H; exact H) | (simp only [hji8] at H ⊢; exact H)
           have hji8w : (IntKind.i64.wrap (x12_1 + 1)) = ji8 := (i64_w _).trans hji8
           by_cases c9 : 0 ≤ (ji8)
           ·rw [if_pos c9] at H
            have c9b0 := eq_true c9
            have c9b1 : decide (0 ≤ (ji8)) = true := decide_eq_true c9
            clear c9
            by_cases c10 : (ji8) ≤ (l0.length : Int)
            ·rw [if_pos c10] at H
             have c10b0 := eq_true c10
             have c10b1 : decide ((ji8) ≤ (l0.length : Int)) = true := decide_eq_true c10
             clear c10
             obtain ⟨y103, hy103⟩ : ∃ y_ : List (List Int), y_ = (l0.drop ((ji8) : Int).toNat) := ⟨_, rfl⟩
             replace H : (impl_inversions.l2 k2 l0 x3_2 x12_1 x19_2 (rd (rd_L3 l0 x12_1) x19_2) l0 (l0.length : Int) x12_1 (rd_L3 l0 x12_1) ((rd_L3 l0 x12_1).length : Int) x19_2 y103 (y103.length : Int) 0) = some r := by first | (rw [hy103]; with_reducible exact H) | (have H2_ := (Option.bind_some _ _).symm.trans H; rw [hy103]; with_reducible exact H2_) | (have H2_ := (Option.bind_some _ _).symm.trans H; with_reducible exact H2_) | with_reducible exact H | (rw [hy103]; exact H) | exact H
             have Ny103 := am_ hy103
             clear hy103
             have H' := am_ H
             clear H
             have p102 : 0 ≤ (x19_2 : Int) := of_decide_eq_true tc2_
             have q102 : x19_2 < ((rd_L3 l0 x12_1).length : Int) := of_decide_eq_true tc2_
             obtain ⟨ad102, e102, hx102_0⟩ := Kd.at_int HR101_0.out x19_2 p102 q102
             cases e102
             replace p102 := eq_true p102
             replace q102 := eq_true q102
             have q11 : ((ji8) : Int) ≤ ((l0.length : Int) : Int) := of_decide_eq_true tc2_
             obtain ⟨i011, hi011, _, hsz11, _⟩ := info_parts info24
             have hroom11 : l0.length ≤ c0 := HC0.out
             have hC11 : Kd.C (Kd.slice 3 (Kd.int .i64)) _ (some ad101) l0.length l0 := HR0.out
             have q011 : (0 : Int) ≤ ((ji8) : Int) := of_decide_eq_true tc2_
             have hcut11 := cut_from (P := Try.prog) 28 24 .i64 Try.underlying28 hi011 1 hsz11 (some ad101) l0.length c0 (ji8) q011 q11
             have hr11 := Kd.C_drop (m := ((ji8) : Int).toNat) (c := c0) hC11 (by omega) hroom11
             obtain ⟨A11, hA11⟩ : ∃ A1, A1 = (if c0 = ((ji8) : Int).toNat then (some ad101) else ((some ad101) : Option Addr).map (·.add (((ji8) : Int).toNat * 1))) := ⟨_, rfl⟩
             obtain ⟨c11, hc11⟩ : ∃ c1, c1 = c0 - ((ji8) : Int).toNat := ⟨_, rfl⟩
             have hy11 : y103.length = l0.length - ((ji8) : Int).toNat := (by rw [Ny103.out, List.length_drop] <;> omega)
             rw [show (l0).drop ((ji8) : Int).toNat = y103 from Ny103.out.symm] at hr11
             replace hr11 : Kd.C (Kd.slice 3 (Kd.int .i64)) _ A11 y103.length y103 := (by rw [hA11]; exact hr11)
             rw [← hy11, ← hA11, ← hc11] at hcut11
             have HR106 := am_ hr11
             have HC106 := am_ (show y103.length ≤ c11 from (by rw [hy11, hc11]; exact Nat.sub_le_sub_right hroom11 _))
             clear hr11 hC11 hroom11 hi011 hsz11 hc11
             have KY11 := am_ hy11
             have KA11 := am_ hA11
             clear hy11 hA11
             replace q11 := eq_true q11
             go_wp2
             go_loopg [3, 29] k2 (fun kq v3 v29 w' => ∃ (x3_3 : Int) (x29_3 : Int), v3 = .int .i64 x3_3 ∧ v29 = .int .i64 x29_3 ∧ Aside0 (impl_inversions.l2 kq l0 x3_3 x12_1 x19_2 (rd (rd_L3 l0 x12_1) x19_2) l0 (l0.length : Int) x12_1 (rd_L3 l0 x12_1) ((rd_L3 l0 x12_1).length : Int) x19_2 y103 (y103.length : Int) x29_3 = some r) ∧ Aside0 (kq ≤ k2) ∧ Drawn0 w w')
             case atStart => exact ⟨(x3_2), (0), tc6_, tc6_, H', ⟨Nat.le_refl _⟩, by repeat (first | exact Drawn0.refl _ | apply Drawn0.step)⟩
             case round =>
              clear H'
              try clear c1
              try clear p1
              try clear q1
              try clear hx1
              try clear c2
              try clear c2b0
              try clear p2
              try clear c3
              try clear c3b0
              try clear c4
              try clear c4b0
              try clear c5
              try clear c5b0
              try clear c6
              try clear c6b0
              try clear p6
              try clear c7
              try clear c7b0
              try clear c8
              try clear c9
              try clear c9b0
              try clear c9b1
              try clear c10
              try clear c10b0
              try clear c10b1
              try clear p10
              try clear q10
              try clear hx10
              try clear c11
              try clear q11
              try clear hx101_0
              try clear hx102_0
              try clear p1
              try clear p101
              try clear p102
              try clear p2
              try clear q011
              try clear q1
              try clear q101
              try clear q102
              try clear q11
              obtain ⟨x3_3, x29_3, rfl, rfl, HA, HK3, ⟨m3, rfl⟩⟩ := hrel
              cases gk with
              | zero => exact absurd HA.out (by simp [impl_inversions.l2])
              | succ k3 =>
               have H := HA.out
               clear HA
               simp only [impl_inversions.l2] at H
               by_cases c12 : x29_3 < (y103.length : Int)
               ·rw [if_pos c12] at H
                have c12b0 : decide (x29_3 < (y103.length : Int)) = true := decide_eq_true c12
                clear c12
                by_cases c13 : 0 ≤ x29_3
                ·rw [if_pos c13] at H
                 have c13b0 : decide (0 ≤ x29_3) = true := decide_eq_true c13
                 clear c13
                 by_cases c14 : x29_3 < (y103.length : Int)
                 ·rw [if_pos c14] at H
                  have c14b0 : decide (x29_3 < (y103.length : Int)) = true := decide_eq_true c14
                  clear c14
                  by_cases c15 : 0 ≤ x19_2
                  ·rw [if_pos c15] at H
                   have c15b0 := eq_true c15
                   have c15b1 : decide (0 ≤ x19_2) = true := decide_eq_true c15
                   clear c15
                   by_cases c16 : x19_2 ≤ ((rd_L3 y103 x29_3).length : Int)
                   ·rw [if_pos c16] at H
                    have c16b0 := eq_true c16
                    have c16b1 : decide (x19_2 ≤ ((rd_L3 y103 x29_3).length : Int)) = true := decide_eq_true c16
                    clear c16
                    replace H := Option.bind_eq_some_iff.mp H
                    obtain ⟨t109, A170, H⟩ := H
                    replace H : (impl_inversions.l2 k3 l0 (wrap64 (x3_3 + (wrap64 ((rd (rd_L3 l0 x12_1) x19_2) * t109)))) x12_1 x19_2 (rd (rd_L3 l0 x12_1) x19_2) l0 (l0.length : Int) x12_1 (rd_L3 l0 x12_1) ((rd_L3 l0 x12_1).length : Int) x19_2 y103 (y103.length : Int) (wrap64 (x29_3 + 1))) = some r := H
                    have A17 := am_ A170
                    clear A170
                    have H' := am_ H
                    clear H
                    have p107 : 0 ≤ (x29_3 : Int) := of_decide_eq_true tc2_
                    have q107 : x29_3 < (y103.length : Int) := of_decide_eq_true tc2_
                    obtain ⟨ad107, A107_0, c107_0, e107, hx107_0, hl107_0, hi107_0⟩ := at_L3 HR106.out x29_3 p107 q107
                    cases e107
                    have HR107_0 := am_ hi107_0
                    have HC107_0 := am_ hl107_0
                    clear hi107_0 hl107_0
                    replace p107 := eq_true p107
                    replace q107 := eq_true q107
                    obtain ⟨i018, hi018, _, hsz18, _⟩ := info_parts info3
                    obtain ⟨hcut18, hA18, hC18⟩ := print_take_of (P := Try.prog) (Value.int .i64) 0 24 3 .i64 Try.underlying24 hi018 hsz18 A107_0 c107_0 (rd_L3 y103 x29_3) x19_2 (of_decide_eq_true tc2_) (of_decide_eq_true tc2_) HC107_0.out
                    have HR108 := am_ (Kd.C_of_reads (h1 := fun _ => rfl) (hA18 _ (Kd.reads_of_C HR107_0.out)))
                    have HC108 := am_ hC18
                    clear hA18 hC18 hi018 hsz18
                    go_wp2_with (first | ((with_reducible refine gate_callee (f := 117) rfl ?_); refine goesL_ (some 38) rfl rfl Try.func117 (by kernel_rfl) rfl #[.slice A107_0 ((rd_L3 y103 x29_3).take (x19_2 : Int).toNat).length c107_0] rfl (by (try simp only [List.map_toArray, List.map_cons, List.map_nil]); first | done | (rw [show ((rd_L3 y103 x29_3).take (x19_2 : Int).toNat).length = x19_2.toNat from (by rw [List.length_take]; have h_ : (x19_2 : Int) ≤ ((rd_L3 y103 x29_3).length : Int) := of_decide_eq_true tc2_; omega)] <;> rfl) | rfl | (simp only [List.length_drop, List.length_take]; rfl)) ?_; (with_reducible refine (impl_sum.calls k3 _ _ ((rd_L3 y103 x29_3).take (x19_2 : Int).toNat) t109 _ ?side1 ?side2 A17.out).mono ?_); (case side1 => repeat (first | exact HR108.out | (with_reducible refine Kd.C_alloc ?_ _) | (with_reducible refine Kd.C_drewN ?_ _) | (with_reducible refine Kd.C_drew ?_))); (case side2 => exact HC108.out); rintro e w' ⟨rfl, ⟨nd, rfl⟩⟩; refine ⟨_, rfl, ?_⟩))
                    go_roundg k3
                    case measure => have := HK1.out; have := HK2.out; have := HK3.out; omega
                    case rel => exact ⟨(wrap64 (x3_3 + (wrap64 ((rd (rd_L3 l0 x12_1) x19_2) * t109)))), (wrap64 (x29_3 + 1)), tc6_, tc6_, H', ⟨by have := HK1.out; have := HK2.out; have := HK3.out; omega⟩, by repeat (first | exact Drawn0.refl _ | apply Drawn0.step)⟩
                   ·rw [if_neg c16] at H
                    exact absurd H (by simp)
                  ·rw [if_neg c15] at H
                   exact absurd H (by simp)
                 ·rw [if_neg c14] at H
                  exact absurd H (by simp)
                ·rw [if_neg c13] at H
                 exact absurd H (by simp)
               ·rw [if_neg c12] at H
                have c12b0 : decide (x29_3 < (y103.length : Int)) = false := decide_eq_false c12
                clear c12
                have H' := am_ H
                clear H
                go_wp2
                go_roundg k3
                case measure => have := HK1.out; have := HK2.out; have := HK3.out; omega
                case rel => exact ⟨(x3_3), (wrap64 (x19_2 + 1)), tc6_, tc6_, H', ⟨by have := HK1.out; have := HK2.out; have := HK3.out; omega⟩, by repeat (first | exact Drawn0.refl _ | apply Drawn0.step)⟩
            ·rw [if_neg c10] at H
             exact absurd H (by simp)
           ·rw [if_neg c9] at H
            exact absurd H (by simp)
          ·rw [if_neg c7] at H
           exact absurd H (by simp)
         ·rw [if_neg c6] at H
          exact absurd H (by simp)
        ·rw [if_neg c5] at H
         have c5b0 : decide (x19_2 < ((rd_L3 l0 x12_1).length : Int)) = false := decide_eq_false c5
         clear c5
         have H' := am_ H
         clear H
         go_wp2
         go_roundg k2
         case measure => have := HK1.out; have := HK2.out; omega
         case rel => exact ⟨(x3_2), (wrap64 (x12_1 + 1)), tc6_, tc6_, H', ⟨by have := HK1.out; have := HK2.out; omega⟩, by repeat (first | exact Drawn0.refl _ | apply Drawn0.step)⟩
     ·rw [if_neg c4] at H
      exact absurd H (by simp)
    ·rw [if_neg c3] at H
     exact absurd H (by simp)
   ·rw [if_neg c2] at H
    have c2b0 : decide (x12_1 < (l0.length : Int)) = false := decide_eq_false c2
    clear c2
    obtain rfl := Option.some.inj H
    go_wp2
    go_ret
    exact ⟨by first | rfl | (simp; done) | (simp [*]; done), by repeat (first | exact Drawn0.refl _ | apply Drawn0.step)⟩

/-! ### impl_InversionsOf: function 30 -/
def impl_InversionsOf.f (k : Nat) (l0 : List (List Int)) : Option (Int × Bool) := (impl_IsSignMatrix.f k l0).bind fun t101 => (if t101 = true then ((impl_inversions.f k l0).bind fun t102 => (some (t102, true))) else (some (0, false)))
set_option maxHeartbeats 8000000 in
set_option maxRecDepth 100000 in
theorem impl_InversionsOf.calls (k : Nat) (A0 : Option Addr) (c0 : Nat) (l0 : List (List Int)) (r1 : Int) (r2 : Bool) (w : World) (hr0 : Kd.C (Kd.slice 3 (Kd.int .i64)) w A0 l0.length l0) (hc0 : l0.length ≤ c0) (h : impl_InversionsOf.f k l0 = some (r1, r2)) :
  Calls Try.prog 30 #[.slice A0 l0.length c0] w fun e w' => e = .returned (.tuple #[.int .i64 r1, .bool r2]) ∧ Below w.heap.size w w' := by
 have HR0 := am_ hr0
 have HC0 := am_ hc0
 clear hr0 hc0
 have HB := am_ (Below.refl w.heap.size w)
 have H : ((impl_IsSignMatrix.f k l0).bind fun t101 => (if t101 = true then ((impl_inversions.f k l0).bind fun t102 => (some (t102, true))) else (some (0, false)))) = some (r1, r2) := h
 clear h
 replace H := Option.bind_eq_some_iff.mp H
 obtain ⟨t101, A20, H⟩ := H
 replace H : (if t101 = true then ((impl_inversions.f k l0).bind fun t102 => (some (t102, true))) else (some (0, false))) = some (r1, r2) := H
 have A2 := am_ A20
 clear A20
 by_cases c3 : t101 = true
 ·subst c3
  have H1 : ((impl_inversions.f k l0).bind fun t102 => (some (t102, true))) = some (r1, r2) := by rw [if_pos rfl] at H; exact H
  clear H
  have H := H1
  clear H1
  replace H := Option.bind_eq_some_iff.mp H
  obtain ⟨t102, A40, H⟩ := H
  replace H : (some (t102, true)) = some (r1, r2) := H
  have A4 := am_ A40
  clear A40
  simp only [Option.some.injEq, Prod.mk.injEq] at H
  obtain ⟨rfl, rfl⟩ := H
  go_enter Try.func30, Try.ntmps30
  go_wp2_with (first | ((with_reducible refine gate_callee (f := 73) rfl ?_); refine goesL_ (some 5) rfl rfl Try.func73 (by kernel_rfl) rfl #[.slice A0 l0.length c0] rfl tc1_ ?_; (with_reducible refine (impl_IsSignMatrix.calls k _ _ l0 true _ ?side1 ?side2 A2.out).mono ?_); (case side1 => exact tc7_); (case side2 => exact HC0.out); rintro e w5 ⟨rfl, hb⟩; refine ⟨_, rfl, ?_⟩; have n0_ := am_ (below_step tc0_ hb); clear HB; have HB := n0_; clear n0_; (try clear hb)) | ((with_reducible refine gate_callee (f := 80) rfl ?_); refine goesL_ (some 8) rfl rfl Try.func80 (by kernel_rfl) rfl #[.slice A0 l0.length c0] rfl tc1_ ?_; (with_reducible refine (impl_inversions.calls k _ _ l0 t102 _ ?side1 ?side2 A4.out).mono ?_); (case side1 => exact tc13_); (case side2 => exact HC0.out); rintro e w' ⟨rfl, ⟨nd, rfl⟩⟩; refine ⟨_, rfl, ?_⟩))
  go_ret2
  exact ⟨by first | rfl | (simp [errW_none, errW_some] <;> rfl) | (simp [*, errW_none, errW_some] <;> rfl), by repeat (first | (with_reducible first | exact HB.out | apply below_alloc | apply pw_below_drewN | apply below_drew1) | exact HB.out)⟩
 ·replace c3 := Bool.eq_false_iff.mpr c3
  subst c3
  have H1 : (some (0, false)) = some (r1, r2) := by rw [if_neg (show ¬ (false = true) by decide)] at H; exact H
  clear H
  have H := H1
  clear H1
  simp only [Option.some.injEq, Prod.mk.injEq] at H
  obtain ⟨rfl, rfl⟩ := H
  go_enter Try.func30, Try.ntmps30
  go_wp2_with (first | ((with_reducible refine gate_callee (f := 73) rfl ?_); refine goesL_ (some 5) rfl rfl Try.func73 (by kernel_rfl) rfl #[.slice A0 l0.length c0] rfl tc1_ ?_; (with_reducible refine (impl_IsSignMatrix.calls k _ _ l0 false _ ?side1 ?side2 A2.out).mono ?_); (case side1 => exact tc7_); (case side2 => exact HC0.out); rintro e w6 ⟨rfl, hb⟩; refine ⟨_, rfl, ?_⟩; have n0_ := am_ (below_step tc0_ hb); clear HB; have HB := n0_; clear n0_; (try clear hb)))
  go_ret2
  exact ⟨by first | rfl | (simp [errW_none, errW_some] <;> rfl) | (simp [*, errW_none, errW_some] <;> rfl), by repeat (first | (with_reducible first | exact HB.out | apply below_alloc | apply pw_below_drewN | apply below_drew1) | exact HB.out)⟩

/-! ### spec_DrawInversionsOf: function 31 -/
def spec_DrawInversionsOf.f (k : Nat) (l0 : List Int) : Option ((List (List Int))) := (spec_DrawIsSignMatrix.f k l0).bind fun t101 => (some t101)
set_option maxHeartbeats 8000000 in
set_option maxRecDepth 100000 in
theorem spec_DrawInversionsOf.calls (k : Nat) (A0 : Option Addr) (c0 : Nat) (l0 : List Int) (r : List (List Int)) (w : World) (hr0 : Kd.C (Kd.int .u8) w A0 l0.length l0) (hc0 : l0.length ≤ c0) (h : spec_DrawInversionsOf.f k l0 = some r) :
  Calls Try.prog 31 #[.slice A0 l0.length c0] w fun e w' => ∃ v0_ : Value, e = .returned (v0_) ∧ Kd.S (Kd.slice 3 (Kd.int .i64)) 24 w' w.heap.size (fun _ => True) v0_ r ∧ Below w.heap.size w w' := by
 have HR0 := am_ hr0
 have HC0 := am_ hc0
 clear hr0 hc0
 have HB := am_ (Below.refl w.heap.size w)
 have H : ((spec_DrawIsSignMatrix.f k l0).bind fun t101 => (some t101)) = some r := h
 clear h
 replace H := Option.bind_eq_some_iff.mp H
 obtain ⟨t101, A20, H⟩ := H
 replace H : (some t101) = some r := H
 have A2 := am_ A20
 clear A20
 obtain rfl := Option.some.inj H
 go_enter Try.func31, Try.ntmps31
 go_wp2_with (first | ((with_reducible refine gate_callee (f := 64) rfl ?_); refine goesL_ (some 4) rfl rfl Try.func64 (by kernel_rfl) rfl #[.slice A0 l0.length c0] rfl tc1_ ?_; (with_reducible refine (spec_DrawIsSignMatrix.calls k _ _ l0 t101 _ ?side1 ?side2 A2.out).mono ?_); (case side1 => exact tc7_); (case side2 => exact HC0.out); rintro e w3 ⟨v102, rfl, ho0, hb⟩; refine ⟨_, rfl, ?_⟩; have n0_ := am_ (Kd.S_lower ho0 (below_size tc0_)); have n1_ := am_ (below_step tc0_ hb); clear HB; have HO103 := n0_; have HB := n1_; clear n0_ n1_; (try clear hb ho0)))
 go_ret
 exact ⟨_, by first | rfl | (simp [errW_none, errW_some] <;> rfl) | (simp [*, errW_none, errW_some] <;> rfl), by (with_reducible repeat (first | apply Kd.S_alloc | apply Kd.S_drewN | apply Kd.S_drew)); exact HO103.out, by repeat (first | (with_reducible first | exact HB.out | apply below_alloc | apply pw_below_drewN | apply below_drew1) | exact HB.out)⟩

/-! ### spec_InversionsOf: function 32 -/
mutual
def spec_InversionsOf.l0 : Nat → List (List Int) → Int → Int → Int → Option (Int × Bool)
 | 0, _, _, _, _ => none
 | k + 1, x0, x4, x14, x15 => if x15 < x14 then (spec_InversionsOf.l1 k x0 x4 x15 (wrap64 (x15 + 1)) x14 x15) else (some (x4, true))
def spec_InversionsOf.l1 : Nat → List (List Int) → Int → Int → Int → Int → Int → Option (Int × Bool)
 | 0, _, _, _, _, _, _ => none
 | k + 1, x0, x4, x5, x6, x14, x15 => if x6 < (x0.length : Int) then (if 0 ≤ x5 then (if x5 < (x0.length : Int) then (spec_InversionsOf.l2 k x0 x4 x5 x6 x14 x15 (rd_L3 x0 x5) ((rd_L3 x0 x5).length : Int) 0) else (none)) else (none)) else (spec_InversionsOf.l0 k x0 x4 x14 (wrap64 (x15 + 1)))
def spec_InversionsOf.l2 : Nat → List (List Int) → Int → Int → Int → Int → Int → List Int → Int → Int → Option (Int × Bool)
 | 0, _, _, _, _, _, _, _, _, _ => none
 | k + 1, x0, x4, x5, x6, x14, x15, x29, x30, x31 => if x31 < x30 then (if 0 ≤ x31 then (if x31 < (x29.length : Int) then (spec_InversionsOf.l3 k x0 x4 x5 x6 x31 (rd x29 x31) 0 x14 x15 x29 x30 x31) else (none)) else (none)) else (spec_InversionsOf.l1 k x0 x4 x5 (wrap64 (x6 + 1)) x14 x15)
def spec_InversionsOf.l3 : Nat → List (List Int) → Int → Int → Int → Int → Int → Int → Int → Int → List Int → Int → Int → Option (Int × Bool)
 | 0, _, _, _, _, _, _, _, _, _, _, _, _ => none
 | k + 1, x0, x4, x5, x6, x7, x8, x9, x14, x15, x29, x30, x31 => if x9 < x7 then (if 0 ≤ x6 then (if x6 < (x0.length : Int) then (if 0 ≤ x9 then (if x9 < ((rd_L3 x0 x6).length : Int) then (spec_InversionsOf.l3 k x0 (wrap64 (x4 + (wrap64 (x8 * (rd (rd_L3 x0 x6) x9))))) x5 x6 x7 x8 (wrap64 (x9 + 1)) x14 x15 x29 x30 x31) else (none)) else (none)) else (none)) else (none)) else (spec_InversionsOf.l2 k x0 x4 x5 x6 x14 x15 x29 x30 (wrap64 (x31 + 1)))
end
def spec_InversionsOf.f (k : Nat) (l0 : List (List Int)) : Option (Int × Bool) := (spec_sgGood.f k l0).bind fun t101 => (if t101 = true then (spec_InversionsOf.l0 k l0 0 (l0.length : Int) 0) else (some (0, false)))
set_option maxHeartbeats 8000000 in
set_option maxRecDepth 100000 in
theorem spec_InversionsOf.calls (k : Nat) (A0 : Option Addr) (c0 : Nat) (l0 : List (List Int)) (r1 : Int) (r2 : Bool) (w : World) (hr0 : Kd.C (Kd.slice 3 (Kd.int .i64)) w A0 l0.length l0) (hc0 : l0.length ≤ c0) (h : spec_InversionsOf.f k l0 = some (r1, r2)) :
  Calls Try.prog 32 #[.slice A0 l0.length c0] w fun e w' => e = .returned (.tuple #[.int .i64 r1, .bool r2]) ∧ Below w.heap.size w w' := by
 have HR0 := am_ hr0
 have HC0 := am_ hc0
 clear hr0 hc0
 have HB := am_ (Below.refl w.heap.size w)
 have H : ((spec_sgGood.f k l0).bind fun t101 => (if t101 = true then (spec_InversionsOf.l0 k l0 0 (l0.length : Int) 0) else (some (0, false)))) = some (r1, r2) := h
 clear h
 replace H := Option.bind_eq_some_iff.mp H
 obtain ⟨t101, A20, H⟩ := H
 replace H : (if t101 = true then (spec_InversionsOf.l0 k l0 0 (l0.length : Int) 0) else (some (0, false))) = some (r1, r2) := H
 have A2 := am_ A20
 clear A20
 by_cases c3 : t101 = true
 ·subst c3
  have H1 : (spec_InversionsOf.l0 k l0 0 (l0.length : Int) 0) = some (r1, r2) := by rw [if_pos rfl] at H; exact H
  clear H
  have H := H1
  clear H1
  have H' := am_ H
  clear H
  go_enter Try.func32, Try.ntmps32
  go_wp2_with (first | ((with_reducible refine gate_callee (f := 67) rfl ?_); refine goesL_ (some 11) rfl rfl Try.func67 (by kernel_rfl) rfl #[.slice A0 l0.length c0] rfl tc1_ ?_; (with_reducible refine (spec_sgGood.calls k _ _ l0 true _ ?side1 ?side2 A2.out).mono ?_); (case side1 => exact tc7_); (case side2 => exact HC0.out); rintro e w4 ⟨rfl, hb⟩; refine ⟨_, rfl, ?_⟩; have n0_ := am_ (below_step tc0_ hb); clear HB; have HB := n0_; clear n0_; (try clear hb)))
  go_loopg [4, 15] k (fun kq v4 v15 w' => ∃ (x4_1 : Int) (x15_1 : Int), v4 = .int .i64 x4_1 ∧ v15 = .int .i64 x15_1 ∧ Aside0 (spec_InversionsOf.l0 kq l0 x4_1 (l0.length : Int) x15_1 = some (r1, r2)) ∧ Aside0 (kq ≤ k) ∧ Aside0 (Below w.heap.size w w'))
  case atStart => exact ⟨(0), (0), tc6_, tc6_, H', ⟨Nat.le_refl _⟩, ⟨by repeat (first | (with_reducible first | exact HB.out | apply below_alloc | apply pw_below_drewN | apply below_drew1) | exact HB.out)⟩⟩
  case round =>
   clear H'
   try clear p2
   try clear c3
   obtain ⟨x4_1, x15_1, rfl, rfl, HA, HK1, HB⟩ := hrel
   cases gk with
   | zero => exact absurd HA.out (by simp [spec_InversionsOf.l0])
   | succ k1 =>
    have H := HA.out
    clear HA
    simp only [spec_InversionsOf.l0] at H
    by_cases c5 : x15_1 < (l0.length : Int)
    ·rw [if_pos c5] at H
     have c5b0 : decide (x15_1 < (l0.length : Int)) = true := decide_eq_true c5
     clear c5
     have H' := am_ H
     clear H
     go_wp2
     go_loopg [4, 6] k1 (fun kq v4 v6 w' => ∃ (x4_2 : Int) (x6_2 : Int), v4 = .int .i64 x4_2 ∧ v6 = .int .i64 x6_2 ∧ Aside0 (spec_InversionsOf.l1 kq l0 x4_2 x15_1 x6_2 (l0.length : Int) x15_1 = some (r1, r2)) ∧ Aside0 (kq ≤ k1) ∧ Aside0 (Below w.heap.size w w'))
     case atStart => exact ⟨(x4_1), (wrap64 (x15_1 + 1)), tc6_, tc6_, H', ⟨Nat.le_refl _⟩, ⟨by repeat (first | (with_reducible first | exact HB.out | apply below_alloc | apply pw_below_drewN | apply below_drew1) | exact HB.out)⟩⟩
     case round =>
      clear H'
      try clear p2
      try clear c3
      try clear c5
      try clear c5b0
      try clear p2
      obtain ⟨x4_2, x6_2, rfl, rfl, HA, HK2, HB⟩ := hrel
      cases gk with
      | zero => exact absurd HA.out (by simp [spec_InversionsOf.l1])
      | succ k2 =>
       have H := HA.out
       clear HA
       simp only [spec_InversionsOf.l1] at H
       by_cases c6 : x6_2 < (l0.length : Int)
       ·rw [if_pos c6] at H
        have c6b0 : decide (x6_2 < (l0.length : Int)) = true := decide_eq_true c6
        clear c6
        by_cases c7 : 0 ≤ x15_1
        ·rw [if_pos c7] at H
         have c7b0 : decide (0 ≤ x15_1) = true := decide_eq_true c7
         clear c7
         by_cases c8 : x15_1 < (l0.length : Int)
         ·rw [if_pos c8] at H
          have c8b0 : decide (x15_1 < (l0.length : Int)) = true := decide_eq_true c8
          clear c8
          have H' := am_ H
          clear H
          have p102 : 0 ≤ (x15_1 : Int) := of_decide_eq_true tc2_
          have q102 : x15_1 < (l0.length : Int) := of_decide_eq_true tc2_
          obtain ⟨ad102, A102_0, c102_0, e102, hx102_0, hl102_0, hi102_0⟩ := at_L3 HR0.out x15_1 p102 q102
          cases e102
          replace hx102_0 := (HB.out.cell (World.block_lt_of_cell? w _ hx102_0)).trans hx102_0
          have HR102_0 := am_ hi102_0
          have HC102_0 := am_ hl102_0
          clear hi102_0 hl102_0
          replace p102 := eq_true p102
          replace q102 := eq_true q102
          go_wp2
          go_loopg [4, 31] k2 (fun kq v4 v31 w' => ∃ (x4_3 : Int) (x31_3 : Int), v4 = .int .i64 x4_3 ∧ v31 = .int .i64 x31_3 ∧ Aside0 (spec_InversionsOf.l2 kq l0 x4_3 x15_1 x6_2 (l0.length : Int) x15_1 (rd_L3 l0 x15_1) ((rd_L3 l0 x15_1).length : Int) x31_3 = some (r1, r2)) ∧ Aside0 (kq ≤ k2) ∧ Aside0 (Below w.heap.size w w'))
          case atStart => exact ⟨(x4_2), (0), tc6_, tc6_, H', ⟨Nat.le_refl _⟩, ⟨by repeat (first | (with_reducible first | exact HB.out | apply below_alloc | apply pw_below_drewN | apply below_drew1) | exact HB.out)⟩⟩
          case round =>
           clear H'
           try clear c1
           try clear p1
           try clear q1
           try clear hx1
           try clear p2
           try clear c3
           try clear c5
           try clear c5b0
           try clear c6
           try clear c6b0
           try clear p6
           try clear c7
           try clear c7b0
           try clear c8
           try clear c8b0
           try clear hx102_0
           try clear p102
           try clear p2
           try clear q102
           obtain ⟨x4_3, x31_3, rfl, rfl, HA, HK3, HB⟩ := hrel
           cases gk with
           | zero => exact absurd HA.out (by simp [spec_InversionsOf.l2])
           | succ k3 =>
            have H := HA.out
            clear HA
            simp only [spec_InversionsOf.l2] at H
            by_cases c9 : x31_3 < ((rd_L3 l0 x15_1).length : Int)
            ·rw [if_pos c9] at H
             have c9b0 : decide (x31_3 < ((rd_L3 l0 x15_1).length : Int)) = true := decide_eq_true c9
             clear c9
             by_cases c10 : 0 ≤ x31_3
             ·rw [if_pos c10] at H
              have c10b0 : decide (0 ≤ x31_3) = true := decide_eq_true c10
              clear c10
              by_cases c11 : x31_3 < ((rd_L3 l0 x15_1).length : Int)
              ·rw [if_pos c11] at H
               have c11b0 : decide (x31_3 < ((rd_L3 l0 x15_1).length : Int)) = true := decide_eq_true c11
               clear c11
               have H' := am_ H
               clear H
               have p103 : 0 ≤ (x31_3 : Int) := of_decide_eq_true tc2_
               have q103 : x31_3 < ((rd_L3 l0 x15_1).length : Int) := of_decide_eq_true tc2_
               obtain ⟨ad103, e103, hx103_0⟩ := Kd.at_int HR102_0.out x31_3 p103 q103
               cases e103
               replace hx103_0 := (HB.out.cell (World.block_lt_of_cell? w _ hx103_0)).trans hx103_0
               replace p103 := eq_true p103
               replace q103 := eq_true q103
               go_wp2
               go_loopg [4, 9] k3 (fun kq v4 v9 w' => ∃ (x4_4 : Int) (x9_4 : Int), v4 = .int .i64 x4_4 ∧ v9 = .int .i64 x9_4 ∧ Aside0 (spec_InversionsOf.l3 kq l0 x4_4 x15_1 x6_2 x31_3 (rd (rd_L3 l0 x15_1) x31_3) x9_4 (l0.length : Int) x15_1 (rd_L3 l0 x15_1) ((rd_L3 l0 x15_1).length : Int) x31_3 = some (r1, r2)) ∧ Aside0 (kq ≤ k3) ∧ Aside0 (Below w.heap.size w w'))
               case atStart => exact ⟨(x4_3), (0), tc6_, tc6_, H', ⟨Nat.le_refl _⟩, ⟨by repeat (first | (with_reducible first | exact HB.out | apply below_alloc | apply pw_below_drewN | apply below_drew1) | exact HB.out)⟩⟩
               case round =>
                clear H'
                try clear c1
                try clear p1
                try clear q1
                try clear hx1
                try clear p2
                try clear c3
                try clear c5
                try clear c5b0
                try clear c6
                try clear c6b0
                try clear p6
                try clear c7
                try clear c7b0
                try clear c8
                try clear c8b0
                try clear c9
                try clear c9b0
                try clear c10
                try clear c10b0
                try clear p10
                try clear q10
                try clear hx10
                try clear c11
                try clear c11b0
                try clear hx102_0
                try clear hx103_0
                try clear p1
                try clear p102
                try clear p103
                try clear p2
                try clear p6
                try clear q1
                try clear q102
                try clear q103
                obtain ⟨x4_4, x9_4, rfl, rfl, HA, HK4, HB⟩ := hrel
                cases gk with
                | zero => exact absurd HA.out (by simp [spec_InversionsOf.l3])
                | succ k4 =>
                 have H := HA.out
                 clear HA
                 simp only [spec_InversionsOf.l3] at H
                 by_cases c12 : x9_4 < x31_3
                 ·rw [if_pos c12] at H
                  have c12b0 : decide (x9_4 < x31_3) = true := decide_eq_true c12
                  clear c12
                  by_cases c13 : 0 ≤ x6_2
                  ·rw [if_pos c13] at H
                   have c13b0 : decide (0 ≤ x6_2) = true := decide_eq_true c13
                   clear c13
                   by_cases c14 : x6_2 < (l0.length : Int)
                   ·rw [if_pos c14] at H
                    have c14b0 : decide (x6_2 < (l0.length : Int)) = true := decide_eq_true c14
                    clear c14
                    by_cases c15 : 0 ≤ x9_4
                    ·rw [if_pos c15] at H
                     have c15b0 : decide (0 ≤ x9_4) = true := decide_eq_true c15
                     clear c15
                     by_cases c16 : x9_4 < ((rd_L3 l0 x6_2).length : Int)
                     ·rw [if_pos c16] at H
                      have c16b0 : decide (x9_4 < ((rd_L3 l0 x6_2).length : Int)) = true := decide_eq_true c16
                      clear c16
                      have H' := am_ H
                      clear H
                      have p104 : 0 ≤ (x6_2 : Int) := of_decide_eq_true tc2_
                      have q104 : x6_2 < (l0.length : Int) := of_decide_eq_true tc2_
                      obtain ⟨ad104, A104_0, c104_0, e104, hx104_0, hl104_0, hi104_0⟩ := at_L3 HR0.out x6_2 p104 q104
                      obtain rfl : ad102 = ad104 := (by injection e104)
                      replace hx104_0 := (HB.out.cell (World.block_lt_of_cell? w _ hx104_0)).trans hx104_0
                      have HR104_0 := am_ hi104_0
                      have HC104_0 := am_ hl104_0
                      clear hi104_0 hl104_0
                      replace p104 := eq_true p104
                      replace q104 := eq_true q104
                      have p105 : 0 ≤ (x9_4 : Int) := of_decide_eq_true tc2_
                      have q105 : x9_4 < ((rd_L3 l0 x6_2).length : Int) := of_decide_eq_true tc2_
                      obtain ⟨ad105, e105, hx105_0⟩ := Kd.at_int HR104_0.out x9_4 p105 q105
                      cases e105
                      replace hx105_0 := (HB.out.cell (World.block_lt_of_cell? w _ hx105_0)).trans hx105_0
                      replace p105 := eq_true p105
                      replace q105 := eq_true q105
                      go_wp2
                      go_roundg k4
                      case measure => have := HK1.out; have := HK2.out; have := HK3.out; have := HK4.out; omega
                      case rel => exact ⟨(wrap64 (x4_4 + (wrap64 ((rd (rd_L3 l0 x15_1) x31_3) * (rd (rd_L3 l0 x6_2) x9_4))))), (wrap64 (x9_4 + 1)), tc6_, tc6_, H', ⟨by have := HK1.out; have := HK2.out; have := HK3.out; have := HK4.out; omega⟩, ⟨by repeat (first | (with_reducible first | exact HB.out | apply below_alloc | apply pw_below_drewN | apply below_drew1) | exact HB.out)⟩⟩
                     ·rw [if_neg c16] at H
                      exact absurd H (by simp)
                    ·rw [if_neg c15] at H
                     exact absurd H (by simp)
                   ·rw [if_neg c14] at H
                    exact absurd H (by simp)
                  ·rw [if_neg c13] at H
                   exact absurd H (by simp)
                 ·rw [if_neg c12] at H
                  have c12b0 : decide (x9_4 < x31_3) = false := decide_eq_false c12
                  clear c12
                  have H' := am_ H
                  clear H
                  go_wp2
                  go_roundg k4
                  case measure => have := HK1.out; have := HK2.out; have := HK3.out; have := HK4.out; omega
                  case rel => exact ⟨(x4_4), (wrap64 (x31_3 + 1)), tc6_, tc6_, H', ⟨by have := HK1.out; have := HK2.out; have := HK3.out; have := HK4.out; omega⟩, ⟨by repeat (first | (with_reducible first | exact HB.out | apply below_alloc | apply pw_below_drewN | apply below_drew1) | exact HB.out)⟩⟩
              ·rw [if_neg c11] at H
               exact absurd H (by simp)
             ·rw [if_neg c10] at H
              exact absurd H (by simp)
            ·rw [if_neg c9] at H
             have c9b0 : decide (x31_3 < ((rd_L3 l0 x15_1).length : Int)) = false := decide_eq_false c9
             clear c9
             have H' := am_ H
             clear H
             go_wp2
             go_roundg k3
             case measure => have := HK1.out; have := HK2.out; have := HK3.out; omega
             case rel => exact ⟨(x4_3), (wrap64 (x6_2 + 1)), tc6_, tc6_, H', ⟨by have := HK1.out; have := HK2.out; have := HK3.out; omega⟩, ⟨by repeat (first | (with_reducible first | exact HB.out | apply below_alloc | apply pw_below_drewN | apply below_drew1) | exact HB.out)⟩⟩
         ·rw [if_neg c8] at H
          exact absurd H (by simp)
        ·rw [if_neg c7] at H
         exact absurd H (by simp)
       ·rw [if_neg c6] at H
        have c6b0 : decide (x6_2 < (l0.length : Int)) = false := decide_eq_false c6
        clear c6
        have H' := am_ H
        clear H
        go_wp2
        go_roundg k2
        case measure => have := HK1.out; have := HK2.out; omega
        case rel => exact ⟨(x4_2), (wrap64 (x15_1 + 1)), tc6_, tc6_, H', ⟨by have := HK1.out; have := HK2.out; omega⟩, ⟨by repeat (first | (with_reducible first | exact HB.out | apply below_alloc | apply pw_below_drewN | apply below_drew1) | exact HB.out)⟩⟩
    ·rw [if_neg c5] at H
     have c5b0 : decide (x15_1 < (l0.length : Int)) = false := decide_eq_false c5
     clear c5
     simp only [Option.some.injEq, Prod.mk.injEq] at H
     obtain ⟨rfl, rfl⟩ := H
     go_wp2
     go_ret2
     exact ⟨by first | rfl | (simp [errW_none, errW_some] <;> rfl) | (simp [*, errW_none, errW_some] <;> rfl), by repeat (first | (with_reducible first | exact HB.out | apply below_alloc | apply pw_below_drewN | apply below_drew1) | exact HB.out)⟩
 ·replace c3 := Bool.eq_false_iff.mpr c3
  subst c3
  have H1 : (some (0, false)) = some (r1, r2) := by rw [if_neg (show ¬ (false = true) by decide)] at H; exact H
  clear H
  have H := H1
  clear H1
  simp only [Option.some.injEq, Prod.mk.injEq] at H
  obtain ⟨rfl, rfl⟩ := H
  go_enter Try.func32, Try.ntmps32
  go_wp2_with (first | ((with_reducible refine gate_callee (f := 67) rfl ?_); refine goesL_ (some 11) rfl rfl Try.func67 (by kernel_rfl) rfl #[.slice A0 l0.length c0] rfl tc1_ ?_; (with_reducible refine (spec_sgGood.calls k _ _ l0 false _ ?side1 ?side2 A2.out).mono ?_); (case side1 => exact tc7_); (case side2 => exact HC0.out); rintro e w17 ⟨rfl, hb⟩; refine ⟨_, rfl, ?_⟩; have n0_ := am_ (below_step tc0_ hb); clear HB; have HB := n0_; clear n0_; (try clear hb)))
  go_ret2
  exact ⟨by first | rfl | (simp [errW_none, errW_some] <;> rfl) | (simp [*, errW_none, errW_some] <;> rfl), by repeat (first | (with_reducible first | exact HB.out | apply below_alloc | apply pw_below_drewN | apply below_drew1) | exact HB.out)⟩

/-! ### slices_Index_int_int: function 81 -/
def slices_Index_int_int.l0 : Nat → List Int → Int → Int → Int → Option (Int)
 | 0, _, _, _, _ => none
 | k + 1, x0, x1, x7, x8 => if x8 < x7 then (if 0 ≤ x8 then (if x8 < (x0.length : Int) then (if x1 = (rd x0 x8) then (some x8) else (slices_Index_int_int.l0 k x0 x1 x7 (wrap64 (x8 + 1)))) else (none)) else (none)) else (some (-1))
def slices_Index_int_int.f (k : Nat) (l0 : List Int) (a1 : Int) : Option (Int) := slices_Index_int_int.l0 k l0 a1 (l0.length : Int) 0
set_option maxHeartbeats 8000000 in
set_option maxRecDepth 100000 in
theorem slices_Index_int_int.calls (k : Nat) (A0 : Option Addr) (c0 : Nat) (l0 : List Int) (a1 : Int) (r : Int) (w : World) (hr0 : Kd.C (Kd.int .i64) w A0 l0.length l0) (hc0 : l0.length ≤ c0) (h : slices_Index_int_int.f k l0 a1 = some r) :
  Calls Try.prog 81 #[.slice A0 l0.length c0, .int .i64 a1] w fun e w' => e = .returned (.int .i64 r) ∧ Drawn0 w w' := by
 have HR0 := am_ hr0
 have HC0 := am_ hc0
 clear hr0 hc0
 have H : (slices_Index_int_int.l0 k l0 a1 (l0.length : Int) 0) = some r := h
 clear h
 have H' := am_ H
 clear H
 go_enter Try.func81, Try.ntmps81
 go_wp2
 go_loopg [8] k (fun kq v8 w' => ∃ (x8_1 : Int), v8 = .int .i64 x8_1 ∧ Aside0 (slices_Index_int_int.l0 kq l0 a1 (l0.length : Int) x8_1 = some r) ∧ Aside0 (kq ≤ k) ∧ Drawn0 w w')
 case atStart => exact ⟨(0), tc6_, H', ⟨Nat.le_refl _⟩, by repeat (first | exact Drawn0.refl _ | apply Drawn0.step)⟩
 case round =>
  clear H'
  try clear p2
  obtain ⟨x8_1, rfl, HA, HK1, ⟨m1, rfl⟩⟩ := hrel
  cases gk with
  | zero => exact absurd HA.out (by simp [slices_Index_int_int.l0])
  | succ k1 =>
   have H := HA.out
   clear HA
   simp only [slices_Index_int_int.l0] at H
   by_cases c3 : x8_1 < (l0.length : Int)
   ·rw [if_pos c3] at H
    have c3b0 : decide (x8_1 < (l0.length : Int)) = true := decide_eq_true c3
    clear c3
    by_cases c4 : 0 ≤ x8_1
    ·rw [if_pos c4] at H
     have c4b0 : decide (0 ≤ x8_1) = true := decide_eq_true c4
     clear c4
     by_cases c5 : x8_1 < (l0.length : Int)
     ·rw [if_pos c5] at H
      have c5b0 : decide (x8_1 < (l0.length : Int)) = true := decide_eq_true c5
      clear c5
      by_cases c6 : a1 = (rd l0 x8_1)
      ·rw [if_pos c6] at H
       have c6b0 : (a1 == (rd l0 x8_1)) = true := beq_iff_eq.mpr c6
       have c6b1 : (a1 != (rd l0 x8_1)) = false := bne_eq_false_iff_eq.mpr c6
       clear c6
       obtain rfl := Option.some.inj H
       have p101 : 0 ≤ (x8_1 : Int) := of_decide_eq_true tc2_
       have q101 : x8_1 < (l0.length : Int) := of_decide_eq_true tc2_
       obtain ⟨ad101, e101, hx101_0⟩ := Kd.at_int HR0.out x8_1 p101 q101
       cases e101
       replace p101 := eq_true p101
       replace q101 := eq_true q101
       go_wp2
       go_ret
       exact ⟨by first | rfl | (simp; done) | (simp [*]; done), by repeat (first | exact Drawn0.refl _ | apply Drawn0.step)⟩
      ·rw [if_neg c6] at H
       have c6b0 : (a1 == (rd l0 x8_1)) = false := beq_eq_false_iff_ne.mpr c6
       have c6b1 : (a1 != (rd l0 x8_1)) = true := bne_iff_ne.mpr c6
       have H' := am_ H
       clear H
       have p101 : 0 ≤ (x8_1 : Int) := of_decide_eq_true tc2_
       have q101 : x8_1 < (l0.length : Int) := of_decide_eq_true tc2_
       obtain ⟨ad101, e101, hx101_0⟩ := Kd.at_int HR0.out x8_1 p101 q101
       cases e101
       replace p101 := eq_true p101
       replace q101 := eq_true q101
       go_wp2
       go_roundg k1
       case measure => have := HK1.out; omega
       case rel => exact ⟨(wrap64 (x8_1 + 1)), tc6_, H', ⟨by have := HK1.out; omega⟩, by repeat (first | exact Drawn0.refl _ | apply Drawn0.step)⟩
     ·rw [if_neg c5] at H
      exact absurd H (by simp)
    ·rw [if_neg c4] at H
     exact absurd H (by simp)
   ·rw [if_neg c3] at H
    have c3b0 : decide (x8_1 < (l0.length : Int)) = false := decide_eq_false c3
    clear c3
    obtain rfl := Option.some.inj H
    go_wp2
    go_ret
    exact ⟨by first | rfl | (simp; done) | (simp [*]; done), by repeat (first | exact Drawn0.refl _ | apply Drawn0.step)⟩

/-! ### impl_FirstColumn: function 33 -/
def impl_FirstColumn.f (k : Nat) (l0 : List (List Int)) : Option (Int × Bool) := (impl_IsSignMatrix.f k l0).bind fun t101 => (if t101 = true then (if 0 < (l0.length : Int) then ((slices_Index_int_int.f k (rd_L3 l0 0) 1).bind fun t103 => (some (t103, true))) else (none)) else (some (0, false)))
set_option maxHeartbeats 8000000 in
set_option maxRecDepth 100000 in
theorem impl_FirstColumn.calls (k : Nat) (A0 : Option Addr) (c0 : Nat) (l0 : List (List Int)) (r1 : Int) (r2 : Bool) (w : World) (hr0 : Kd.C (Kd.slice 3 (Kd.int .i64)) w A0 l0.length l0) (hc0 : l0.length ≤ c0) (h : impl_FirstColumn.f k l0 = some (r1, r2)) :
  Calls Try.prog 33 #[.slice A0 l0.length c0] w fun e w' => e = .returned (.tuple #[.int .i64 r1, .bool r2]) ∧ Below w.heap.size w w' := by
 have HR0 := am_ hr0
 have HC0 := am_ hc0
 clear hr0 hc0
 have HB := am_ (Below.refl w.heap.size w)
 have H : ((impl_IsSignMatrix.f k l0).bind fun t101 => (if t101 = true then (if 0 < (l0.length : Int) then ((slices_Index_int_int.f k (rd_L3 l0 0) 1).bind fun t103 => (some (t103, true))) else (none)) else (some (0, false)))) = some (r1, r2) := h
 clear h
 replace H := Option.bind_eq_some_iff.mp H
 obtain ⟨t101, A20, H⟩ := H
 replace H : (if t101 = true then (if 0 < (l0.length : Int) then ((slices_Index_int_int.f k (rd_L3 l0 0) 1).bind fun t103 => (some (t103, true))) else (none)) else (some (0, false))) = some (r1, r2) := H
 have A2 := am_ A20
 clear A20
 by_cases c3 : t101 = true
 ·subst c3
  have H1 : (if 0 < (l0.length : Int) then ((slices_Index_int_int.f k (rd_L3 l0 0) 1).bind fun t103 => (some (t103, true))) else (none)) = some (r1, r2) := by rw [if_pos rfl] at H; exact H
  clear H
  have H := H1
  clear H1
  by_cases c4 : 0 < (l0.length : Int)
  ·rw [if_pos c4] at H
   have c4b0 : decide (0 < (l0.length : Int)) = true := decide_eq_true c4
   have c4b1 : decide (0 < l0.length) = true := decide_eq_true (by omega)
   clear c4
   replace H := Option.bind_eq_some_iff.mp H
   obtain ⟨t103, A50, H⟩ := H
   replace H : (some (t103, true)) = some (r1, r2) := H
   have A5 := am_ A50
   clear A50
   simp only [Option.some.injEq, Prod.mk.injEq] at H
   obtain ⟨rfl, rfl⟩ := H
   go_enter Try.func33, Try.ntmps33
   go_wp2_with (first | ((with_reducible refine gate_callee (f := 73) rfl ?_); refine goesL_ (some 5) rfl rfl Try.func73 (by kernel_rfl) rfl #[.slice A0 l0.length c0] rfl tc1_ ?_; (with_reducible refine (impl_IsSignMatrix.calls k _ _ l0 true _ ?side1 ?side2 A2.out).mono ?_); (case side1 => exact tc7_); (case side2 => exact HC0.out); rintro e w6 ⟨rfl, hb⟩; refine ⟨_, rfl, ?_⟩; have n0_ := am_ (below_step tc0_ hb); clear HB; have HB := n0_; clear n0_; (try clear hb); have p102 : 0 ≤ (0 : Int) := (by omega); have q102 : 0 < (l0.length : Int) := of_decide_eq_true tc2_; obtain ⟨ad102, A102_0, c102_0, e102, hx102_0, hl102_0, hi102_0⟩ := at_L3 HR0.out 0 p102 q102; cases e102; have qi102 : (0 < l0.length) = True := eq_true (by omega); (try rw [show ((0 : Int)).toNat = 0 from rfl] at hx102_0); (try rw [Addr.add_zero'] at hx102_0); replace hx102_0 := (HB.out.cell (World.block_lt_of_cell? w _ hx102_0)).trans hx102_0; have HR102_0 := am_ hi102_0; have HC102_0 := am_ hl102_0; clear hi102_0 hl102_0; replace p102 := eq_true p102; replace q102 := eq_true q102) | ((with_reducible refine gate_callee (f := 81) rfl ?_); refine goesL_ (some 10) rfl rfl Try.func81 (by kernel_rfl) rfl #[.slice A102_0 (rd_L3 l0 0).length c102_0, .int .i64 1] rfl tc1_ ?_; (with_reducible refine (slices_Index_int_int.calls k _ _ (rd_L3 l0 0) 1 t103 _ ?side1 ?side2 A5.out).mono ?_); (case side1 => exact tc44_); (case side2 => exact HC102_0.out); rintro e w' ⟨rfl, ⟨nd, rfl⟩⟩; refine ⟨_, rfl, ?_⟩))
   go_ret2
   exact ⟨by first | rfl | (simp [errW_none, errW_some] <;> rfl) | (simp [*, errW_none, errW_some] <;> rfl), by repeat (first | (with_reducible first | exact HB.out | apply below_alloc | apply pw_below_drewN | apply below_drew1) | exact HB.out)⟩
  ·rw [if_neg c4] at H
   exact absurd H (by simp)
 ·replace c3 := Bool.eq_false_iff.mpr c3
  subst c3
  have H1 : (some (0, false)) = some (r1, r2) := by rw [if_neg (show ¬ (false = true) by decide)] at H; exact H
  clear H
  have H := H1
  clear H1
  simp only [Option.some.injEq, Prod.mk.injEq] at H
  obtain ⟨rfl, rfl⟩ := H
  go_enter Try.func33, Try.ntmps33
  go_wp2_with (first | ((with_reducible refine gate_callee (f := 73) rfl ?_); refine goesL_ (some 5) rfl rfl Try.func73 (by kernel_rfl) rfl #[.slice A0 l0.length c0] rfl tc1_ ?_; (with_reducible refine (impl_IsSignMatrix.calls k _ _ l0 false _ ?side1 ?side2 A2.out).mono ?_); (case side1 => exact tc7_); (case side2 => exact HC0.out); rintro e w7 ⟨rfl, hb⟩; refine ⟨_, rfl, ?_⟩; have n0_ := am_ (below_step tc0_ hb); clear HB; have HB := n0_; clear n0_; (try clear hb)))
  go_ret2
  exact ⟨by first | rfl | (simp [errW_none, errW_some] <;> rfl) | (simp [*, errW_none, errW_some] <;> rfl), by repeat (first | (with_reducible first | exact HB.out | apply below_alloc | apply pw_below_drewN | apply below_drew1) | exact HB.out)⟩

/-! ### spec_FirstColumn: function 34 -/
def spec_FirstColumn.l0 : Nat → List (List Int) → Int → Option (Int × Bool)
 | 0, _, _ => none
 | k + 1, x0, x4 => if 0 < (x0.length : Int) then (if 0 ≤ x4 then (if x4 < ((rd_L3 x0 0).length : Int) then (if (rd (rd_L3 x0 0) x4) = 0 then (spec_FirstColumn.l0 k x0 (wrap64 (x4 + 1))) else (some (x4, true))) else (none)) else (none)) else (none)
def spec_FirstColumn.f (k : Nat) (l0 : List (List Int)) : Option (Int × Bool) := (spec_sgGood.f k l0).bind fun t101 => (if t101 = true then (spec_FirstColumn.l0 k l0 0) else (some (0, false)))
set_option maxHeartbeats 8000000 in
set_option maxRecDepth 100000 in
theorem spec_FirstColumn.calls (k : Nat) (A0 : Option Addr) (c0 : Nat) (l0 : List (List Int)) (r1 : Int) (r2 : Bool) (w : World) (hr0 : Kd.C (Kd.slice 3 (Kd.int .i64)) w A0 l0.length l0) (hc0 : l0.length ≤ c0) (h : spec_FirstColumn.f k l0 = some (r1, r2)) :
  Calls Try.prog 34 #[.slice A0 l0.length c0] w fun e w' => e = .returned (.tuple #[.int .i64 r1, .bool r2]) ∧ Below w.heap.size w w' := by
 have HR0 := am_ hr0
 have HC0 := am_ hc0
 clear hr0 hc0
 have HB := am_ (Below.refl w.heap.size w)
 have H : ((spec_sgGood.f k l0).bind fun t101 => (if t101 = true then (spec_FirstColumn.l0 k l0 0) else (some (0, false)))) = some (r1, r2) := h
 clear h
 replace H := Option.bind_eq_some_iff.mp H
 obtain ⟨t101, A20, H⟩ := H
 replace H : (if t101 = true then (spec_FirstColumn.l0 k l0 0) else (some (0, false))) = some (r1, r2) := H
 have A2 := am_ A20
 clear A20
 by_cases c3 : t101 = true
 ·subst c3
  have H1 : (spec_FirstColumn.l0 k l0 0) = some (r1, r2) := by rw [if_pos rfl] at H; exact H
  clear H
  have H := H1
  clear H1
  have H' := am_ H
  clear H
  go_enter Try.func34, Try.ntmps34
  go_wp2_with (first | ((with_reducible refine gate_callee (f := 67) rfl ?_); refine goesL_ (some 6) rfl rfl Try.func67 (by kernel_rfl) rfl #[.slice A0 l0.length c0] rfl tc1_ ?_; (with_reducible refine (spec_sgGood.calls k _ _ l0 true _ ?side1 ?side2 A2.out).mono ?_); (case side1 => exact tc7_); (case side2 => exact HC0.out); rintro e w4 ⟨rfl, hb⟩; refine ⟨_, rfl, ?_⟩; have n0_ := am_ (below_step tc0_ hb); clear HB; have HB := n0_; clear n0_; (try clear hb)))
  go_loopg [4] k (fun kq v4 w' => ∃ (x4_1 : Int), v4 = .int .i64 x4_1 ∧ Aside0 (spec_FirstColumn.l0 kq l0 x4_1 = some (r1, r2)) ∧ Aside0 (kq ≤ k) ∧ Aside0 (Below w.heap.size w w'))
  case atStart => exact ⟨(0), tc6_, H', ⟨Nat.le_refl _⟩, ⟨by repeat (first | (with_reducible first | exact HB.out | apply below_alloc | apply pw_below_drewN | apply below_drew1) | exact HB.out)⟩⟩
  case round =>
   clear H'
   try clear p2
   try clear c3
   obtain ⟨x4_1, rfl, HA, HK1, HB⟩ := hrel
   cases gk with
   | zero => exact absurd HA.out (by simp [spec_FirstColumn.l0])
   | succ k1 =>
    have H := HA.out
    clear HA
    simp only [spec_FirstColumn.l0] at H
    by_cases c5 : 0 < (l0.length : Int)
    ·rw [if_pos c5] at H
     have c5b0 : decide (0 < (l0.length : Int)) = true := decide_eq_true c5
     have c5b1 : decide (0 < l0.length) = true := decide_eq_true (by omega)
     clear c5
     by_cases c6 : 0 ≤ x4_1
     ·rw [if_pos c6] at H
      have c6b0 : decide (0 ≤ x4_1) = true := decide_eq_true c6
      clear c6
      by_cases c7 : x4_1 < ((rd_L3 l0 0).length : Int)
      ·rw [if_pos c7] at H
       have c7b0 : decide (x4_1 < ((rd_L3 l0 0).length : Int)) = true := decide_eq_true c7
       clear c7
       by_cases c8 : (rd (rd_L3 l0 0) x4_1) = 0
       ·rw [if_pos c8] at H
        have c8b0 : ((rd (rd_L3 l0 0) x4_1) == 0) = true := beq_iff_eq.mpr c8
        have c8b1 : ((rd (rd_L3 l0 0) x4_1) != 0) = false := bne_eq_false_iff_eq.mpr c8
        clear c8
        have H' := am_ H
        clear H
        have p102 : 0 ≤ (0 : Int) := (by omega)
        have q102 : 0 < (l0.length : Int) := of_decide_eq_true tc2_
        obtain ⟨ad102, A102_0, c102_0, e102, hx102_0, hl102_0, hi102_0⟩ := at_L3 HR0.out 0 p102 q102
        cases e102
        have qi102 : (0 < l0.length) = True := eq_true (by omega)
        (try rw [show ((0 : Int)).toNat = 0 from rfl] at hx102_0)
        (try rw [Addr.add_zero'] at hx102_0)
        replace hx102_0 := (HB.out.cell (World.block_lt_of_cell? w _ hx102_0)).trans hx102_0
        have HR102_0 := am_ hi102_0
        have HC102_0 := am_ hl102_0
        clear hi102_0 hl102_0
        replace p102 := eq_true p102
        replace q102 := eq_true q102
        have p103 : 0 ≤ (x4_1 : Int) := of_decide_eq_true tc2_
        have q103 : x4_1 < ((rd_L3 l0 0).length : Int) := of_decide_eq_true tc2_
        obtain ⟨ad103, e103, hx103_0⟩ := Kd.at_int HR102_0.out x4_1 p103 q103
        cases e103
        replace hx103_0 := (HB.out.cell (World.block_lt_of_cell? w _ hx103_0)).trans hx103_0
        replace p103 := eq_true p103
        replace q103 := eq_true q103
        go_wp2
        go_roundg k1
        case measure => have := HK1.out; omega
        case rel => exact ⟨(wrap64 (x4_1 + 1)), tc6_, H', ⟨by have := HK1.out; omega⟩, ⟨by repeat (first | (with_reducible first | exact HB.out | apply below_alloc | apply pw_below_drewN | apply below_drew1) | exact HB.out)⟩⟩
       ·rw [if_neg c8] at H
        have c8b0 : ((rd (rd_L3 l0 0) x4_1) == 0) = false := beq_eq_false_iff_ne.mpr c8
        have c8b1 : ((rd (rd_L3 l0 0) x4_1) != 0) = true := bne_iff_ne.mpr c8
        simp only [Option.some.injEq, Prod.mk.injEq] at H
        obtain ⟨rfl, rfl⟩ := H
        have p102 : 0 ≤ (0 : Int) := (by omega)
        have q102 : 0 < (l0.length : Int) := of_decide_eq_true tc2_
        obtain ⟨ad102, A102_0, c102_0, e102, hx102_0, hl102_0, hi102_0⟩ := at_L3 HR0.out 0 p102 q102
        cases e102
        have qi102 : (0 < l0.length) = True := eq_true (by omega)
        (try rw [show ((0 : Int)).toNat = 0 from rfl] at hx102_0)
        (try rw [Addr.add_zero'] at hx102_0)
        replace hx102_0 := (HB.out.cell (World.block_lt_of_cell? w _ hx102_0)).trans hx102_0
        have HR102_0 := am_ hi102_0
        have HC102_0 := am_ hl102_0
        clear hi102_0 hl102_0
        replace p102 := eq_true p102
        replace q102 := eq_true q102
        have p103 : 0 ≤ (x4_1 : Int) := of_decide_eq_true tc2_
        have q103 : x4_1 < ((rd_L3 l0 0).length : Int) := of_decide_eq_true tc2_
        obtain ⟨ad103, e103, hx103_0⟩ := Kd.at_int HR102_0.out x4_1 p103 q103
        cases e103
        replace hx103_0 := (HB.out.cell (World.block_lt_of_cell? w _ hx103_0)).trans hx103_0
        replace p103 := eq_true p103
        replace q103 := eq_true q103
        go_wp2
        go_ret2
        exact ⟨by first | rfl | (simp [errW_none, errW_some] <;> rfl) | (simp [*, errW_none, errW_some] <;> rfl), by repeat (first | (with_reducible first | exact HB.out | apply below_alloc | apply pw_below_drewN | apply below_drew1) | exact HB.out)⟩
      ·rw [if_neg c7] at H
       exact absurd H (by simp)
     ·rw [if_neg c6] at H
      exact absurd H (by simp)
    ·rw [if_neg c5] at H
     exact absurd H (by simp)
 ·replace c3 := Bool.eq_false_iff.mpr c3
  subst c3
  have H1 : (some (0, false)) = some (r1, r2) := by rw [if_neg (show ¬ (false = true) by decide)] at H; exact H
  clear H
  have H := H1
  clear H1
  simp only [Option.some.injEq, Prod.mk.injEq] at H
  obtain ⟨rfl, rfl⟩ := H
  go_enter Try.func34, Try.ntmps34
  go_wp2_with (first | ((with_reducible refine gate_callee (f := 67) rfl ?_); refine goesL_ (some 6) rfl rfl Try.func67 (by kernel_rfl) rfl #[.slice A0 l0.length c0] rfl tc1_ ?_; (with_reducible refine (spec_sgGood.calls k _ _ l0 false _ ?side1 ?side2 A2.out).mono ?_); (case side1 => exact tc7_); (case side2 => exact HC0.out); rintro e w9 ⟨rfl, hb⟩; refine ⟨_, rfl, ?_⟩; have n0_ := am_ (below_step tc0_ hb); clear HB; have HB := n0_; clear n0_; (try clear hb)))
  go_ret2
  exact ⟨by first | rfl | (simp [errW_none, errW_some] <;> rfl) | (simp [*, errW_none, errW_some] <;> rfl), by repeat (first | (with_reducible first | exact HB.out | apply below_alloc | apply pw_below_drewN | apply below_drew1) | exact HB.out)⟩

/-! ### laws_FnTurnsAndMirrors: function 4 -/
mutual
def laws_FnTurnsAndMirrors.j0 : Nat → List Int → List (List Int) → List (List Int) → Bool → List (List Int) → List (List Int) → List (List Int) → Bool → Option (Bool)
 | 0, _, _, _, _, _, _, _, _ => none
 | k + 1, x1, x5, x6, x7, x10, x14, x18, x153 => if x153 = true then (some false) else (if x7 = true then (laws_FnTurnsAndMirrors.l0 k x1 x5 x6 x10 x14 x18 x5 0) else (laws_FnTurnsAndMirrors.j2 k x1))
def laws_FnTurnsAndMirrors.j2 : Nat → List Int → Option (Bool)
 | 0, _ => none
 | k + 1, x1 => (spec_DrawInversionsOf.f k x1).bind fun t172 => ((impl_InversionsOf.f k t172).bind fun bt175 => ((spec_InversionsOf.f k t172).bind fun bt177 => ((impl_FirstColumn.f k t172).bind fun bt179 => ((spec_FirstColumn.f k t172).bind fun bt181 => (if (bt175.2 != bt177.2) = true then (some false) else (if bt175.1 = bt177.1 then (if (bt179.2 != bt181.2) = true then (some false) else (if bt179.1 = bt181.1 then (if bt179.2 = true then (if 0 < (t172.length : Int) then (if 0 ≤ bt179.1 then (if bt179.1 < ((rd_L3 t172 0).length : Int) then (some ((rd (rd_L3 t172 0) bt179.1) == 1)) else (none)) else (none)) else (none)) else (some true)) else (some false))) else (some false)))))))
def laws_FnTurnsAndMirrors.l0 : Nat → List Int → List (List Int) → List (List Int) → List (List Int) → List (List Int) → List (List Int) → List (List Int) → Int → Option (Bool)
 | 0, _, _, _, _, _, _, _, _ => none
 | k + 1, x1, x5, x6, x10, x14, x18, x22, x23 => if x23 < 4 then ((impl_TurnMatrix.f k x22).bind fun bt141 => ((impl_LeastOfTurns.f k bt141.1).bind fun bt145 => (if bt141.2 = true then (if bt145.2 = true then ((laws_hRows.f k bt145.1 x18).bind fun t149 => (if t149 = true then ((laws_hLess.f k bt141.1 x18).bind fun t150 => (if t150 = true then (some false) else (laws_FnTurnsAndMirrors.l0 k x1 x5 x6 x10 x14 x18 bt141.1 (wrap64 (x23 + 1))))) else (some false))) else (some false)) else (some false)))) else ((impl_MirrorMatrix.f k x10).bind fun bt151 => ((impl_MirrorMatrix.f k x14).bind fun bt155 => ((impl_MinusOnes.f k x5).bind fun bt159 => ((impl_MinusOnes.f k x6).bind fun bt161 => ((impl_InversionsOf.f k x5).bind fun bt163 => ((impl_InversionsOf.f k x10).bind fun bt165 => ((impl_InversionsOf.f k x14).bind fun bt167 => ((laws_hRows.f k x22 x5).bind fun t169 => (if t169 = true then (if bt151.2 = true then ((laws_hRows.f k bt151.1 x5).bind fun t170 => (if t170 = true then (if bt155.2 = true then ((laws_hRows.f k bt155.1 x6).bind fun t171 => (if t171 = true then (if bt159.2 = true then (if bt161.2 = true then (if bt159.1 = bt161.1 then (if bt163.2 = true then (if bt165.2 = true then (if bt167.2 = true then (if bt163.1 = bt167.1 then (if (wrap64 ((wrap64 (bt163.1 + bt165.1)) - bt159.1)) = (wrap64 (Int.tdiv (wrap64 ((x5.length : Int) * (wrap64 ((x5.length : Int) - 1)))) 2)) then (laws_FnTurnsAndMirrors.j2 k x1) else (some false)) else (some false)) else (some false)) else (some false)) else (some false)) else (some false)) else (some false)) else (some false)) else (some false))) else (some false)) else (some false))) else (some false)) else (some false))))))))))
end
def laws_FnTurnsAndMirrors.f (k : Nat) (l0 : List Int) (l1 : List Int) : Option (Bool) := (laws_big.f l0 l1).bind fun t101 => (if t101 = true then (some true) else ((spec_DrawTurnMatrix.f k l0).bind fun t102 => ((impl_TurnMatrix.f k t102).bind fun bt105 => ((spec_TurnMatrix.f k t102).bind fun bt109 => ((impl_MirrorMatrix.f k t102).bind fun bt113 => ((spec_MirrorMatrix.f k t102).bind fun bt117 => ((impl_TransposeMatrix.f k t102).bind fun bt121 => ((spec_TransposeMatrix.f k t102).bind fun bt125 => ((impl_LeastOfTurns.f k t102).bind fun bt129 => ((spec_LeastOfTurns.f k t102).bind fun bt133 => (if (bt105.2 != bt109.2) = true then (laws_FnTurnsAndMirrors.j0 k l1 t102 bt105.1 bt105.2 bt113.1 bt121.1 bt129.1 true) else ((laws_hRows.f k bt105.1 bt109.1).bind fun t137 => (if t137 = true then (if (bt113.2 != bt117.2) = true then (laws_FnTurnsAndMirrors.j0 k l1 t102 bt105.1 bt105.2 bt113.1 bt121.1 bt129.1 true) else ((laws_hRows.f k bt113.1 bt117.1).bind fun t138 => (if t138 = true then (if (bt121.2 != bt125.2) = true then (laws_FnTurnsAndMirrors.j0 k l1 t102 bt105.1 bt105.2 bt113.1 bt121.1 bt129.1 true) else ((laws_hRows.f k bt121.1 bt125.1).bind fun t139 => (if t139 = true then (if (bt129.2 != bt133.2) = true then (laws_FnTurnsAndMirrors.j0 k l1 t102 bt105.1 bt105.2 bt113.1 bt121.1 bt129.1 true) else ((laws_hRows.f k bt129.1 bt133.1).bind fun t140 => (if t140 = true then (if (bt113.2 != bt105.2) = true then (laws_FnTurnsAndMirrors.j0 k l1 t102 bt105.1 bt105.2 bt113.1 bt121.1 bt129.1 true) else (if (bt121.2 != bt105.2) = true then (laws_FnTurnsAndMirrors.j0 k l1 t102 bt105.1 bt105.2 bt113.1 bt121.1 bt129.1 true) else (laws_FnTurnsAndMirrors.j0 k l1 t102 bt105.1 bt105.2 bt113.1 bt121.1 bt129.1 (bt129.2 != bt105.2)))) else (laws_FnTurnsAndMirrors.j0 k l1 t102 bt105.1 bt105.2 bt113.1 bt121.1 bt129.1 true)))) else (laws_FnTurnsAndMirrors.j0 k l1 t102 bt105.1 bt105.2 bt113.1 bt121.1 bt129.1 true)))) else (laws_FnTurnsAndMirrors.j0 k l1 t102 bt105.1 bt105.2 bt113.1 bt121.1 bt129.1 true)))) else (laws_FnTurnsAndMirrors.j0 k l1 t102 bt105.1 bt105.2 bt113.1 bt121.1 bt129.1 true))))))))))))))
theorem laws_FnTurnsAndMirrors.j0_dead (k : Nat) (a0 : List Int) (a1 : List (List Int)) (a2 : List (List Int)) (a3 : Bool) (a4 : List (List Int)) (a5 : List (List Int)) (a6 : List (List Int)) (h : laws_FnTurnsAndMirrors.j0 k a0 a1 a2 a3 a4 a5 a6 true = some true) : False := by cases k <;> simp [laws_FnTurnsAndMirrors.j0] at h
set_option maxHeartbeats 8000000 in
set_option maxRecDepth 100000 in
theorem laws_FnTurnsAndMirrors.calls (k : Nat) (A0 : Option Addr) (c0 : Nat) (l0 : List Int) (A1 : Option Addr) (c1 : Nat) (l1 : List Int) (r : Bool) (w : World) (hr_ : r = true) (hr0 : Kd.C (Kd.int .u8) w A0 l0.length l0) (hc0 : l0.length ≤ c0) (hr1 : Kd.C (Kd.int .u8) w A1 l1.length l1) (hc1 : l1.length ≤ c1) (h : laws_FnTurnsAndMirrors.f k l0 l1 = some r) :
  Calls Try.prog 4 #[.slice A0 l0.length c0, .slice A1 l1.length c1] w fun e w' => e = .returned (.bool r) ∧ Below w.heap.size w w' := by
 have HR_ := am_ hr_
 clear hr_
 have HR0 := am_ hr0
 have HC0 := am_ hc0
 clear hr0 hc0
 have HR1 := am_ hr1
 have HC1 := am_ hc1
 clear hr1 hc1
 have HB := am_ (Below.refl w.heap.size w)
 have H : ((laws_big.f l0 l1).bind fun t101 => (if t101 = true then (some true) else ((spec_DrawTurnMatrix.f k l0).bind fun t102 => ((impl_TurnMatrix.f k t102).bind fun bt105 => ((spec_TurnMatrix.f k t102).bind fun bt109 => ((impl_MirrorMatrix.f k t102).bind fun bt113 => ((spec_MirrorMatrix.f k t102).bind fun bt117 => ((impl_TransposeMatrix.f k t102).bind fun bt121 => ((spec_TransposeMatrix.f k t102).bind fun bt125 => ((impl_LeastOfTurns.f k t102).bind fun bt129 => ((spec_LeastOfTurns.f k t102).bind fun bt133 => (if (bt105.2 != bt109.2) = true then (laws_FnTurnsAndMirrors.j0 k l1 t102 bt105.1 bt105.2 bt113.1 bt121.1 bt129.1 true) else ((laws_hRows.f k bt105.1 bt109.1).bind fun t137 => (if t137 = true then (if (bt113.2 != bt117.2) = true then (laws_FnTurnsAndMirrors.j0 k l1 t102 bt105.1 bt105.2 bt113.1 bt121.1 bt129.1 true) else ((laws_hRows.f k bt113.1 bt117.1).bind fun t138 => (if t138 = true then (if (bt121.2 != bt125.2) = true then (laws_FnTurnsAndMirrors.j0 k l1 t102 bt105.1 bt105.2 bt113.1 bt121.1 bt129.1 true) else ((laws_hRows.f k bt121.1 bt125.1).bind fun t139 => (if t139 = true then (if (bt129.2 != bt133.2) = true then (laws_FnTurnsAndMirrors.j0 k l1 t102 bt105.1 bt105.2 bt113.1 bt121.1 bt129.1 true) else ((laws_hRows.f k bt129.1 bt133.1).bind fun t140 => (if t140 = true then (if (bt113.2 != bt105.2) = true then (laws_FnTurnsAndMirrors.j0 k l1 t102 bt105.1 bt105.2 bt113.1 bt121.1 bt129.1 true) else (if (bt121.2 != bt105.2) = true then (laws_FnTurnsAndMirrors.j0 k l1 t102 bt105.1 bt105.2 bt113.1 bt121.1 bt129.1 true) else (laws_FnTurnsAndMirrors.j0 k l1 t102 bt105.1 bt105.2 bt113.1 bt121.1 bt129.1 (bt129.2 != bt105.2)))) else (laws_FnTurnsAndMirrors.j0 k l1 t102 bt105.1 bt105.2 bt113.1 bt121.1 bt129.1 true)))) else (laws_FnTurnsAndMirrors.j0 k l1 t102 bt105.1 bt105.2 bt113.1 bt121.1 bt129.1 true)))) else (laws_FnTurnsAndMirrors.j0 k l1 t102 bt105.1 bt105.2 bt113.1 bt121.1 bt129.1 true)))) else (laws_FnTurnsAndMirrors.j0 k l1 t102 bt105.1 bt105.2 bt113.1 bt121.1 bt129.1 true))))))))))))))) = some r := h
 clear h
 replace H := Option.bind_eq_some_iff.mp H
 obtain ⟨t101, A30, H⟩ := H
 replace H : (if t101 = true then (some true) else ((spec_DrawTurnMatrix.f k l0).bind fun t102 => ((impl_TurnMatrix.f k t102).bind fun bt105 => ((spec_TurnMatrix.f k t102).bind fun bt109 => ((impl_MirrorMatrix.f k t102).bind fun bt113 => ((spec_MirrorMatrix.f k t102).bind fun bt117 => ((impl_TransposeMatrix.f k t102).bind fun bt121 => ((spec_TransposeMatrix.f k t102).bind fun bt125 => ((impl_LeastOfTurns.f k t102).bind fun bt129 => ((spec_LeastOfTurns.f k t102).bind fun bt133 => (if (bt105.2 != bt109.2) = true then (laws_FnTurnsAndMirrors.j0 k l1 t102 bt105.1 bt105.2 bt113.1 bt121.1 bt129.1 true) else ((laws_hRows.f k bt105.1 bt109.1).bind fun t137 => (if t137 = true then (if (bt113.2 != bt117.2) = true then (laws_FnTurnsAndMirrors.j0 k l1 t102 bt105.1 bt105.2 bt113.1 bt121.1 bt129.1 true) else ((laws_hRows.f k bt113.1 bt117.1).bind fun t138 => (if t138 = true then (if (bt121.2 != bt125.2) = true then (laws_FnTurnsAndMirrors.j0 k l1 t102 bt105.1 bt105.2 bt113.1 bt121.1 bt129.1 true) else ((laws_hRows.f k bt121.1 bt125.1).bind fun t139 => (if t139 = true then (if (bt129.2 != bt133.2) = true then (laws_FnTurnsAndMirrors.j0 k l1 t102 bt105.1 bt105.2 bt113.1 bt121.1 bt129.1 true) else ((laws_hRows.f k bt129.1 bt133.1).bind fun t140 => (if t140 = true then (if (bt113.2 != bt105.2) = true then (laws_FnTurnsAndMirrors.j0 k l1 t102 bt105.1 bt105.2 bt113.1 bt121.1 bt129.1 true) else (if (bt121.2 != bt105.2) = true then (laws_FnTurnsAndMirrors.j0 k l1 t102 bt105.1 bt105.2 bt113.1 bt121.1 bt129.1 true) else (laws_FnTurnsAndMirrors.j0 k l1 t102 bt105.1 bt105.2 bt113.1 bt121.1 bt129.1 (bt129.2 != bt105.2)))) else (laws_FnTurnsAndMirrors.j0 k l1 t102 bt105.1 bt105.2 bt113.1 bt121.1 bt129.1 true)))) else (laws_FnTurnsAndMirrors.j0 k l1 t102 bt105.1 bt105.2 bt113.1 bt121.1 bt129.1 true)))) else (laws_FnTurnsAndMirrors.j0 k l1 t102 bt105.1 bt105.2 bt113.1 bt121.1 bt129.1 true)))) else (laws_FnTurnsAndMirrors.j0 k l1 t102 bt105.1 bt105.2 bt113.1 bt121.1 bt129.1 true)))))))))))))) = some r := H
 have A3 := am_ A30
 clear A30
 by_cases c4 : t101 = true
 ·subst c4
  have H1 : (some true) = some r := by rw [if_pos rfl] at H; exact H
  clear H
  have H := H1
  clear H1
  obtain rfl := Option.some.inj H
  go_enter Try.func4, Try.ntmps4
  go_wp2_with (first | ((with_reducible refine gate_callee (f := 6) rfl ?_); refine goesL_ (some 54) rfl rfl Try.func6 (by kernel_rfl) rfl #[.slice A0 l0.length c0, .slice A1 l1.length c1] rfl tc1_ ?_; (with_reducible refine (laws_big.calls _ _ l0 _ _ l1 true _ ?side1 ?side2 ?side3 ?side4 A3.out).mono ?_); (case side1 => exact tc7_); (case side2 => exact HC0.out); (case side3 => exact tc41_); (case side4 => exact HC1.out); rintro e w' ⟨rfl, ⟨nd, rfl⟩⟩; refine ⟨_, rfl, ?_⟩))
  go_ret
  exact ⟨by first | rfl | (simp [errW_none, errW_some] <;> rfl) | (simp [*, errW_none, errW_some] <;> rfl), by repeat (first | (with_reducible first | exact HB.out | apply below_alloc | apply pw_below_drewN | apply below_drew1) | exact HB.out)⟩
 ·replace c4 := Bool.eq_false_iff.mpr c4
  subst c4
  have H1 : ((spec_DrawTurnMatrix.f k l0).bind fun t102 => ((impl_TurnMatrix.f k t102).bind fun bt105 => ((spec_TurnMatrix.f k t102).bind fun bt109 => ((impl_MirrorMatrix.f k t102).bind fun bt113 => ((spec_MirrorMatrix.f k t102).bind fun bt117 => ((impl_TransposeMatrix.f k t102).bind fun bt121 => ((spec_TransposeMatrix.f k t102).bind fun bt125 => ((impl_LeastOfTurns.f k t102).bind fun bt129 => ((spec_LeastOfTurns.f k t102).bind fun bt133 => (if (bt105.2 != bt109.2) = true then (laws_FnTurnsAndMirrors.j0 k l1 t102 bt105.1 bt105.2 bt113.1 bt121.1 bt129.1 true) else ((laws_hRows.f k bt105.1 bt109.1).bind fun t137 => (if t137 = true then (if (bt113.2 != bt117.2) = true then (laws_FnTurnsAndMirrors.j0 k l1 t102 bt105.1 bt105.2 bt113.1 bt121.1 bt129.1 true) else ((laws_hRows.f k bt113.1 bt117.1).bind fun t138 => (if t138 = true then (if (bt121.2 != bt125.2) = true then (laws_FnTurnsAndMirrors.j0 k l1 t102 bt105.1 bt105.2 bt113.1 bt121.1 bt129.1 true) else ((laws_hRows.f k bt121.1 bt125.1).bind fun t139 => (if t139 = true then (if (bt129.2 != bt133.2) = true then (laws_FnTurnsAndMirrors.j0 k l1 t102 bt105.1 bt105.2 bt113.1 bt121.1 bt129.1 true) else ((laws_hRows.f k bt129.1 bt133.1).bind fun t140 => (if t140 = true then (if (bt113.2 != bt105.2) = true then (laws_FnTurnsAndMirrors.j0 k l1 t102 bt105.1 bt105.2 bt113.1 bt121.1 bt129.1 true) else (if (bt121.2 != bt105.2) = true then (laws_FnTurnsAndMirrors.j0 k l1 t102 bt105.1 bt105.2 bt113.1 bt121.1 bt129.1 true) else (laws_FnTurnsAndMirrors.j0 k l1 t102 bt105.1 bt105.2 bt113.1 bt121.1 bt129.1 (bt129.2 != bt105.2)))) else (laws_FnTurnsAndMirrors.j0 k l1 t102 bt105.1 bt105.2 bt113.1 bt121.1 bt129.1 true)))) else (laws_FnTurnsAndMirrors.j0 k l1 t102 bt105.1 bt105.2 bt113.1 bt121.1 bt129.1 true)))) else (laws_FnTurnsAndMirrors.j0 k l1 t102 bt105.1 bt105.2 bt113.1 bt121.1 bt129.1 true)))) else (laws_FnTurnsAndMirrors.j0 k l1 t102 bt105.1 bt105.2 bt113.1 bt121.1 bt129.1 true))))))))))))) = some r := by rw [if_neg (show ¬ (false = true) by decide)] at H; exact H
  clear H
  have H := H1
  clear H1
  replace H := Option.bind_eq_some_iff.mp H
  obtain ⟨t102, A50, H⟩ := H
  replace H : ((impl_TurnMatrix.f k t102).bind fun bt105 => ((spec_TurnMatrix.f k t102).bind fun bt109 => ((impl_MirrorMatrix.f k t102).bind fun bt113 => ((spec_MirrorMatrix.f k t102).bind fun bt117 => ((impl_TransposeMatrix.f k t102).bind fun bt121 => ((spec_TransposeMatrix.f k t102).bind fun bt125 => ((impl_LeastOfTurns.f k t102).bind fun bt129 => ((spec_LeastOfTurns.f k t102).bind fun bt133 => (if (bt105.2 != bt109.2) = true then (laws_FnTurnsAndMirrors.j0 k l1 t102 bt105.1 bt105.2 bt113.1 bt121.1 bt129.1 true) else ((laws_hRows.f k bt105.1 bt109.1).bind fun t137 => (if t137 = true then (if (bt113.2 != bt117.2) = true then (laws_FnTurnsAndMirrors.j0 k l1 t102 bt105.1 bt105.2 bt113.1 bt121.1 bt129.1 true) else ((laws_hRows.f k bt113.1 bt117.1).bind fun t138 => (if t138 = true then (if (bt121.2 != bt125.2) = true then (laws_FnTurnsAndMirrors.j0 k l1 t102 bt105.1 bt105.2 bt113.1 bt121.1 bt129.1 true) else ((laws_hRows.f k bt121.1 bt125.1).bind fun t139 => (if t139 = true then (if (bt129.2 != bt133.2) = true then (laws_FnTurnsAndMirrors.j0 k l1 t102 bt105.1 bt105.2 bt113.1 bt121.1 bt129.1 true) else ((laws_hRows.f k bt129.1 bt133.1).bind fun t140 => (if t140 = true then (if (bt113.2 != bt105.2) = true then (laws_FnTurnsAndMirrors.j0 k l1 t102 bt105.1 bt105.2 bt113.1 bt121.1 bt129.1 true) else (if (bt121.2 != bt105.2) = true then (laws_FnTurnsAndMirrors.j0 k l1 t102 bt105.1 bt105.2 bt113.1 bt121.1 bt129.1 true) else (laws_FnTurnsAndMirrors.j0 k l1 t102 bt105.1 bt105.2 bt113.1 bt121.1 bt129.1 (bt129.2 != bt105.2)))) else (laws_FnTurnsAndMirrors.j0 k l1 t102 bt105.1 bt105.2 bt113.1 bt121.1 bt129.1 true)))) else (laws_FnTurnsAndMirrors.j0 k l1 t102 bt105.1 bt105.2 bt113.1 bt121.1 bt129.1 true)))) else (laws_FnTurnsAndMirrors.j0 k l1 t102 bt105.1 bt105.2 bt113.1 bt121.1 bt129.1 true)))) else (laws_FnTurnsAndMirrors.j0 k l1 t102 bt105.1 bt105.2 bt113.1 bt121.1 bt129.1 true)))))))))))) = some r := H
  have A5 := am_ A50
  clear A50
  replace H := Option.bind_eq_some_iff.mp H
  obtain ⟨⟨t105, t106⟩, A60, H⟩ := H
  replace H : ((spec_TurnMatrix.f k t102).bind fun bt109 => ((impl_MirrorMatrix.f k t102).bind fun bt113 => ((spec_MirrorMatrix.f k t102).bind fun bt117 => ((impl_TransposeMatrix.f k t102).bind fun bt121 => ((spec_TransposeMatrix.f k t102).bind fun bt125 => ((impl_LeastOfTurns.f k t102).bind fun bt129 => ((spec_LeastOfTurns.f k t102).bind fun bt133 => (if (t106 != bt109.2) = true then (laws_FnTurnsAndMirrors.j0 k l1 t102 t105 t106 bt113.1 bt121.1 bt129.1 true) else ((laws_hRows.f k t105 bt109.1).bind fun t137 => (if t137 = true then (if (bt113.2 != bt117.2) = true then (laws_FnTurnsAndMirrors.j0 k l1 t102 t105 t106 bt113.1 bt121.1 bt129.1 true) else ((laws_hRows.f k bt113.1 bt117.1).bind fun t138 => (if t138 = true then (if (bt121.2 != bt125.2) = true then (laws_FnTurnsAndMirrors.j0 k l1 t102 t105 t106 bt113.1 bt121.1 bt129.1 true) else ((laws_hRows.f k bt121.1 bt125.1).bind fun t139 => (if t139 = true then (if (bt129.2 != bt133.2) = true then (laws_FnTurnsAndMirrors.j0 k l1 t102 t105 t106 bt113.1 bt121.1 bt129.1 true) else ((laws_hRows.f k bt129.1 bt133.1).bind fun t140 => (if t140 = true then (if (bt113.2 != t106) = true then (laws_FnTurnsAndMirrors.j0 k l1 t102 t105 t106 bt113.1 bt121.1 bt129.1 true) else (if (bt121.2 != t106) = true then (laws_FnTurnsAndMirrors.j0 k l1 t102 t105 t106 bt113.1 bt121.1 bt129.1 true) else (laws_FnTurnsAndMirrors.j0 k l1 t102 t105 t106 bt113.1 bt121.1 bt129.1 (bt129.2 != t106)))) else (laws_FnTurnsAndMirrors.j0 k l1 t102 t105 t106 bt113.1 bt121.1 bt129.1 true)))) else (laws_FnTurnsAndMirrors.j0 k l1 t102 t105 t106 bt113.1 bt121.1 bt129.1 true)))) else (laws_FnTurnsAndMirrors.j0 k l1 t102 t105 t106 bt113.1 bt121.1 bt129.1 true)))) else (laws_FnTurnsAndMirrors.j0 k l1 t102 t105 t106 bt113.1 bt121.1 bt129.1 true))))))))))) = some r := H
  have A6 := am_ A60
  clear A60
  replace H := Option.bind_eq_some_iff.mp H
  obtain ⟨⟨t109, t110⟩, A70, H⟩ := H
  replace H : ((impl_MirrorMatrix.f k t102).bind fun bt113 => ((spec_MirrorMatrix.f k t102).bind fun bt117 => ((impl_TransposeMatrix.f k t102).bind fun bt121 => ((spec_TransposeMatrix.f k t102).bind fun bt125 => ((impl_LeastOfTurns.f k t102).bind fun bt129 => ((spec_LeastOfTurns.f k t102).bind fun bt133 => (if (t106 != t110) = true then (laws_FnTurnsAndMirrors.j0 k l1 t102 t105 t106 bt113.1 bt121.1 bt129.1 true) else ((laws_hRows.f k t105 t109).bind fun t137 => (if t137 = true then (if (bt113.2 != bt117.2) = true then (laws_FnTurnsAndMirrors.j0 k l1 t102 t105 t106 bt113.1 bt121.1 bt129.1 true) else ((laws_hRows.f k bt113.1 bt117.1).bind fun t138 => (if t138 = true then (if (bt121.2 != bt125.2) = true then (laws_FnTurnsAndMirrors.j0 k l1 t102 t105 t106 bt113.1 bt121.1 bt129.1 true) else ((laws_hRows.f k bt121.1 bt125.1).bind fun t139 => (if t139 = true then (if (bt129.2 != bt133.2) = true then (laws_FnTurnsAndMirrors.j0 k l1 t102 t105 t106 bt113.1 bt121.1 bt129.1 true) else ((laws_hRows.f k bt129.1 bt133.1).bind fun t140 => (if t140 = true then (if (bt113.2 != t106) = true then (laws_FnTurnsAndMirrors.j0 k l1 t102 t105 t106 bt113.1 bt121.1 bt129.1 true) else (if (bt121.2 != t106) = true then (laws_FnTurnsAndMirrors.j0 k l1 t102 t105 t106 bt113.1 bt121.1 bt129.1 true) else (laws_FnTurnsAndMirrors.j0 k l1 t102 t105 t106 bt113.1 bt121.1 bt129.1 (bt129.2 != t106)))) else (laws_FnTurnsAndMirrors.j0 k l1 t102 t105 t106 bt113.1 bt121.1 bt129.1 true)))) else (laws_FnTurnsAndMirrors.j0 k l1 t102 t105 t106 bt113.1 bt121.1 bt129.1 true)))) else (laws_FnTurnsAndMirrors.j0 k l1 t102 t105 t106 bt113.1 bt121.1 bt129.1 true)))) else (laws_FnTurnsAndMirrors.j0 k l1 t102 t105 t106 bt113.1 bt121.1 bt129.1 true)))))))))) = some r := H
  have A7 := am_ A70
  clear A70
  replace H := Option.bind_eq_some_iff.mp H
  obtain ⟨⟨t113, t114⟩, A80, H⟩ := H
  replace H : ((spec_MirrorMatrix.f k t102).bind fun bt117 => ((impl_TransposeMatrix.f k t102).bind fun bt121 => ((spec_TransposeMatrix.f k t102).bind fun bt125 => ((impl_LeastOfTurns.f k t102).bind fun bt129 => ((spec_LeastOfTurns.f k t102).bind fun bt133 => (if (t106 != t110) = true then (laws_FnTurnsAndMirrors.j0 k l1 t102 t105 t106 t113 bt121.1 bt129.1 true) else ((laws_hRows.f k t105 t109).bind fun t137 => (if t137 = true then (if (t114 != bt117.2) = true then (laws_FnTurnsAndMirrors.j0 k l1 t102 t105 t106 t113 bt121.1 bt129.1 true) else ((laws_hRows.f k t113 bt117.1).bind fun t138 => (if t138 = true then (if (bt121.2 != bt125.2) = true then (laws_FnTurnsAndMirrors.j0 k l1 t102 t105 t106 t113 bt121.1 bt129.1 true) else ((laws_hRows.f k bt121.1 bt125.1).bind fun t139 => (if t139 = true then (if (bt129.2 != bt133.2) = true then (laws_FnTurnsAndMirrors.j0 k l1 t102 t105 t106 t113 bt121.1 bt129.1 true) else ((laws_hRows.f k bt129.1 bt133.1).bind fun t140 => (if t140 = true then (if (t114 != t106) = true then (laws_FnTurnsAndMirrors.j0 k l1 t102 t105 t106 t113 bt121.1 bt129.1 true) else (if (bt121.2 != t106) = true then (laws_FnTurnsAndMirrors.j0 k l1 t102 t105 t106 t113 bt121.1 bt129.1 true) else (laws_FnTurnsAndMirrors.j0 k l1 t102 t105 t106 t113 bt121.1 bt129.1 (bt129.2 != t106)))) else (laws_FnTurnsAndMirrors.j0 k l1 t102 t105 t106 t113 bt121.1 bt129.1 true)))) else (laws_FnTurnsAndMirrors.j0 k l1 t102 t105 t106 t113 bt121.1 bt129.1 true)))) else (laws_FnTurnsAndMirrors.j0 k l1 t102 t105 t106 t113 bt121.1 bt129.1 true)))) else (laws_FnTurnsAndMirrors.j0 k l1 t102 t105 t106 t113 bt121.1 bt129.1 true))))))))) = some r := H
  have A8 := am_ A80
  clear A80
  replace H := Option.bind_eq_some_iff.mp H
  obtain ⟨⟨t117, t118⟩, A90, H⟩ := H
  replace H : ((impl_TransposeMatrix.f k t102).bind fun bt121 => ((spec_TransposeMatrix.f k t102).bind fun bt125 => ((impl_LeastOfTurns.f k t102).bind fun bt129 => ((spec_LeastOfTurns.f k t102).bind fun bt133 => (if (t106 != t110) = true then (laws_FnTurnsAndMirrors.j0 k l1 t102 t105 t106 t113 bt121.1 bt129.1 true) else ((laws_hRows.f k t105 t109).bind fun t137 => (if t137 = true then (if (t114 != t118) = true then (laws_FnTurnsAndMirrors.j0 k l1 t102 t105 t106 t113 bt121.1 bt129.1 true) else ((laws_hRows.f k t113 t117).bind fun t138 => (if t138 = true then (if (bt121.2 != bt125.2) = true then (laws_FnTurnsAndMirrors.j0 k l1 t102 t105 t106 t113 bt121.1 bt129.1 true) else ((laws_hRows.f k bt121.1 bt125.1).bind fun t139 => (if t139 = true then (if (bt129.2 != bt133.2) = true then (laws_FnTurnsAndMirrors.j0 k l1 t102 t105 t106 t113 bt121.1 bt129.1 true) else ((laws_hRows.f k bt129.1 bt133.1).bind fun t140 => (if t140 = true then (if (t114 != t106) = true then (laws_FnTurnsAndMirrors.j0 k l1 t102 t105 t106 t113 bt121.1 bt129.1 true) else (if (bt121.2 != t106) = true then (laws_FnTurnsAndMirrors.j0 k l1 t102 t105 t106 t113 bt121.1 bt129.1 true) else (laws_FnTurnsAndMirrors.j0 k l1 t102 t105 t106 t113 bt121.1 bt129.1 (bt129.2 != t106)))) else (laws_FnTurnsAndMirrors.j0 k l1 t102 t105 t106 t113 bt121.1 bt129.1 true)))) else (laws_FnTurnsAndMirrors.j0 k l1 t102 t105 t106 t113 bt121.1 bt129.1 true)))) else (laws_FnTurnsAndMirrors.j0 k l1 t102 t105 t106 t113 bt121.1 bt129.1 true)))) else (laws_FnTurnsAndMirrors.j0 k l1 t102 t105 t106 t113 bt121.1 bt129.1 true)))))))) = some r := H
  have A9 := am_ A90
  clear A90
  replace H := Option.bind_eq_some_iff.mp H
  obtain ⟨⟨t121, t122⟩, A100, H⟩ := H
  replace H : ((spec_TransposeMatrix.f k t102).bind fun bt125 => ((impl_LeastOfTurns.f k t102).bind fun bt129 => ((spec_LeastOfTurns.f k t102).bind fun bt133 => (if (t106 != t110) = true then (laws_FnTurnsAndMirrors.j0 k l1 t102 t105 t106 t113 t121 bt129.1 true) else ((laws_hRows.f k t105 t109).bind fun t137 => (if t137 = true then (if (t114 != t118) = true then (laws_FnTurnsAndMirrors.j0 k l1 t102 t105 t106 t113 t121 bt129.1 true) else ((laws_hRows.f k t113 t117).bind fun t138 => (if t138 = true then (if (t122 != bt125.2) = true then (laws_FnTurnsAndMirrors.j0 k l1 t102 t105 t106 t113 t121 bt129.1 true) else ((laws_hRows.f k t121 bt125.1).bind fun t139 => (if t139 = true then (if (bt129.2 != bt133.2) = true then (laws_FnTurnsAndMirrors.j0 k l1 t102 t105 t106 t113 t121 bt129.1 true) else ((laws_hRows.f k bt129.1 bt133.1).bind fun t140 => (if t140 = true then (if (t114 != t106) = true then (laws_FnTurnsAndMirrors.j0 k l1 t102 t105 t106 t113 t121 bt129.1 true) else (if (t122 != t106) = true then (laws_FnTurnsAndMirrors.j0 k l1 t102 t105 t106 t113 t121 bt129.1 true) else (laws_FnTurnsAndMirrors.j0 k l1 t102 t105 t106 t113 t121 bt129.1 (bt129.2 != t106)))) else (laws_FnTurnsAndMirrors.j0 k l1 t102 t105 t106 t113 t121 bt129.1 true)))) else (laws_FnTurnsAndMirrors.j0 k l1 t102 t105 t106 t113 t121 bt129.1 true)))) else (laws_FnTurnsAndMirrors.j0 k l1 t102 t105 t106 t113 t121 bt129.1 true)))) else (laws_FnTurnsAndMirrors.j0 k l1 t102 t105 t106 t113 t121 bt129.1 true))))))) = some r := H
  have A10 := am_ A100
  clear A100
  replace H := Option.bind_eq_some_iff.mp H
  obtain ⟨⟨t125, t126⟩, A110, H⟩ := H
  replace H : ((impl_LeastOfTurns.f k t102).bind fun bt129 => ((spec_LeastOfTurns.f k t102).bind fun bt133 => (if (t106 != t110) = true then (laws_FnTurnsAndMirrors.j0 k l1 t102 t105 t106 t113 t121 bt129.1 true) else ((laws_hRows.f k t105 t109).bind fun t137 => (if t137 = true then (if (t114 != t118) = true then (laws_FnTurnsAndMirrors.j0 k l1 t102 t105 t106 t113 t121 bt129.1 true) else ((laws_hRows.f k t113 t117).bind fun t138 => (if t138 = true then (if (t122 != t126) = true then (laws_FnTurnsAndMirrors.j0 k l1 t102 t105 t106 t113 t121 bt129.1 true) else ((laws_hRows.f k t121 t125).bind fun t139 => (if t139 = true then (if (bt129.2 != bt133.2) = true then (laws_FnTurnsAndMirrors.j0 k l1 t102 t105 t106 t113 t121 bt129.1 true) else ((laws_hRows.f k bt129.1 bt133.1).bind fun t140 => (if t140 = true then (if (t114 != t106) = true then (laws_FnTurnsAndMirrors.j0 k l1 t102 t105 t106 t113 t121 bt129.1 true) else (if (t122 != t106) = true then (laws_FnTurnsAndMirrors.j0 k l1 t102 t105 t106 t113 t121 bt129.1 true) else (laws_FnTurnsAndMirrors.j0 k l1 t102 t105 t106 t113 t121 bt129.1 (bt129.2 != t106)))) else (laws_FnTurnsAndMirrors.j0 k l1 t102 t105 t106 t113 t121 bt129.1 true)))) else (laws_FnTurnsAndMirrors.j0 k l1 t102 t105 t106 t113 t121 bt129.1 true)))) else (laws_FnTurnsAndMirrors.j0 k l1 t102 t105 t106 t113 t121 bt129.1 true)))) else (laws_FnTurnsAndMirrors.j0 k l1 t102 t105 t106 t113 t121 bt129.1 true)))))) = some r := H
  have A11 := am_ A110
  clear A110
  replace H := Option.bind_eq_some_iff.mp H
  obtain ⟨⟨t129, t132⟩, A120, H⟩ := H
  replace H : ((spec_LeastOfTurns.f k t102).bind fun bt133 => (if (t106 != t110) = true then (laws_FnTurnsAndMirrors.j0 k l1 t102 t105 t106 t113 t121 t129 true) else ((laws_hRows.f k t105 t109).bind fun t137 => (if t137 = true then (if (t114 != t118) = true then (laws_FnTurnsAndMirrors.j0 k l1 t102 t105 t106 t113 t121 t129 true) else ((laws_hRows.f k t113 t117).bind fun t138 => (if t138 = true then (if (t122 != t126) = true then (laws_FnTurnsAndMirrors.j0 k l1 t102 t105 t106 t113 t121 t129 true) else ((laws_hRows.f k t121 t125).bind fun t139 => (if t139 = true then (if (t132 != bt133.2) = true then (laws_FnTurnsAndMirrors.j0 k l1 t102 t105 t106 t113 t121 t129 true) else ((laws_hRows.f k t129 bt133.1).bind fun t140 => (if t140 = true then (if (t114 != t106) = true then (laws_FnTurnsAndMirrors.j0 k l1 t102 t105 t106 t113 t121 t129 true) else (if (t122 != t106) = true then (laws_FnTurnsAndMirrors.j0 k l1 t102 t105 t106 t113 t121 t129 true) else (laws_FnTurnsAndMirrors.j0 k l1 t102 t105 t106 t113 t121 t129 (t132 != t106)))) else (laws_FnTurnsAndMirrors.j0 k l1 t102 t105 t106 t113 t121 t129 true)))) else (laws_FnTurnsAndMirrors.j0 k l1 t102 t105 t106 t113 t121 t129 true)))) else (laws_FnTurnsAndMirrors.j0 k l1 t102 t105 t106 t113 t121 t129 true)))) else (laws_FnTurnsAndMirrors.j0 k l1 t102 t105 t106 t113 t121 t129 true))))) = some r := H
  have A12 := am_ A120
  clear A120
  replace H := Option.bind_eq_some_iff.mp H
  obtain ⟨⟨t133, t134⟩, A130, H⟩ := H
  replace H : (if (t106 != t110) = true then (laws_FnTurnsAndMirrors.j0 k l1 t102 t105 t106 t113 t121 t129 true) else ((laws_hRows.f k t105 t109).bind fun t137 => (if t137 = true then (if (t114 != t118) = true then (laws_FnTurnsAndMirrors.j0 k l1 t102 t105 t106 t113 t121 t129 true) else ((laws_hRows.f k t113 t117).bind fun t138 => (if t138 = true then (if (t122 != t126) = true then (laws_FnTurnsAndMirrors.j0 k l1 t102 t105 t106 t113 t121 t129 true) else ((laws_hRows.f k t121 t125).bind fun t139 => (if t139 = true then (if (t132 != t134) = true then (laws_FnTurnsAndMirrors.j0 k l1 t102 t105 t106 t113 t121 t129 true) else ((laws_hRows.f k t129 t133).bind fun t140 => (if t140 = true then (if (t114 != t106) = true then (laws_FnTurnsAndMirrors.j0 k l1 t102 t105 t106 t113 t121 t129 true) else (if (t122 != t106) = true then (laws_FnTurnsAndMirrors.j0 k l1 t102 t105 t106 t113 t121 t129 true) else (laws_FnTurnsAndMirrors.j0 k l1 t102 t105 t106 t113 t121 t129 (t132 != t106)))) else (laws_FnTurnsAndMirrors.j0 k l1 t102 t105 t106 t113 t121 t129 true)))) else (laws_FnTurnsAndMirrors.j0 k l1 t102 t105 t106 t113 t121 t129 true)))) else (laws_FnTurnsAndMirrors.j0 k l1 t102 t105 t106 t113 t121 t129 true)))) else (laws_FnTurnsAndMirrors.j0 k l1 t102 t105 t106 t113 t121 t129 true)))) = some r := H
  have A13 := am_ A130
  clear A130
  have HC14 := am_ H
  clear H
  go_enter Try.func4, Try.ntmps4
  go_upto_region 12 with (first | ((with_reducible refine gate_callee (f := 6) rfl ?_); refine goesL_ (some 54) rfl rfl Try.func6 (by kernel_rfl) rfl #[.slice A0 l0.length c0, .slice A1 l1.length c1] rfl tc1_ ?_; (with_reducible refine (laws_big.calls _ _ l0 _ _ l1 false _ ?side1 ?side2 ?side3 ?side4 A3.out).mono ?_); (case side1 => exact tc7_); (case side2 => exact HC0.out); (case side3 => exact tc41_); (case side4 => exact HC1.out); rintro e w' ⟨rfl, ⟨nd, rfl⟩⟩; refine ⟨_, rfl, ?_⟩) | ((with_reducible refine gate_callee (f := 20) rfl ?_); refine goesL_ (some 56) rfl rfl Try.func20 (by kernel_rfl) rfl #[.slice A0 l0.length c0] rfl tc1_ ?_; (with_reducible refine (spec_DrawTurnMatrix.calls k _ _ l0 t102 _ ?side1 ?side2 A5.out).mono ?_); (case side1 => exact tc7_); (case side2 => exact HC0.out); rintro e w15 ⟨v103, rfl, ho0, hb⟩; refine ⟨_, rfl, ?_⟩; have n0_ := am_ (Kd.N_lower (Kd.N_mono (ok' := fun _ => True) (Kd.S_N (Kd.S_bound ho0)) (fun _ _ => trivial)) (below_size tc0_)); have n1_ := am_ (below_step tc0_ hb); clear HB; have HO104 := n0_; have HB := n1_; clear n0_ n1_; (try clear hb ho0); obtain ⟨Ao16, co16, eo16⟩ := Kd.N_slice HO104.out; subst eo16) | ((with_reducible refine gate_callee (f := 21) rfl ?_); refine goesL_ (some 59) rfl rfl Try.func21 (by kernel_rfl) rfl #[.slice Ao16 t102.length co16] rfl tc1_ ?_; (with_reducible refine (impl_TurnMatrix.calls k _ _ t102 t105 t106 _ ?side1 ?side2 A6.out).mono ?_); (case side1 => exact tc17_); (case side2 => exact (Kd.N_reads' HO104.out).2.1); rintro e w17 ⟨v107, rfl, ho0, hb⟩; refine ⟨_, rfl, ?_⟩; have n0_ := am_ (Kd.N_below tc20_ hb); have n1_ := am_ (Kd.N_lower (Kd.N_mono (ok' := fun _ => True) (Kd.S_N (Kd.S_bound ho0)) (fun _ _ => trivial)) (below_size tc0_)); have n2_ := am_ (below_step tc0_ hb); clear HO104 HB; have HO104 := n0_; have HO108 := n1_; have HB := n2_; clear n0_ n1_ n2_; (try clear hb ho0)) | ((with_reducible refine gate_callee (f := 22) rfl ?_); refine goesL_ (some 64) rfl rfl Try.func22 (by kernel_rfl) rfl #[.slice Ao16 t102.length co16] rfl tc1_ ?_; (with_reducible refine (spec_TurnMatrix.calls k _ _ t102 t109 t110 _ ?side1 ?side2 A7.out).mono ?_); (case side1 => exact tc17_); (case side2 => exact (Kd.N_reads' HO104.out).2.1); rintro e w18 ⟨v111, rfl, ho0, hb⟩; refine ⟨_, rfl, ?_⟩; have n0_ := am_ (Kd.N_below tc20_ hb); have n1_ := am_ (Kd.N_below tc33_ hb); have n2_ := am_ (Kd.N_lower (Kd.N_mono (ok' := fun _ => True) (Kd.S_N (Kd.S_bound ho0)) (fun _ _ => trivial)) (below_size tc0_)); have n3_ := am_ (below_step tc0_ hb); clear HO104 HO108 HB; have HO104 := n0_; have HO108 := n1_; have HO112 := n2_; have HB := n3_; clear n0_ n1_ n2_ n3_; (try clear hb ho0)) | ((with_reducible refine gate_callee (f := 23) rfl ?_); refine goesL_ (some 69) rfl rfl Try.func23 (by kernel_rfl) rfl #[.slice Ao16 t102.length co16] rfl tc1_ ?_; (with_reducible refine (impl_MirrorMatrix.calls k _ _ t102 t113 t114 _ ?side1 ?side2 A8.out).mono ?_); (case side1 => exact tc17_); (case side2 => exact (Kd.N_reads' HO104.out).2.1); rintro e w19 ⟨v115, rfl, ho0, hb⟩; refine ⟨_, rfl, ?_⟩; have n0_ := am_ (Kd.N_below tc20_ hb); have n1_ := am_ (Kd.N_below tc33_ hb); have n2_ := am_ (Kd.N_below tc37_ hb); have n3_ := am_ (Kd.N_lower (Kd.N_mono (ok' := fun _ => True) (Kd.S_N (Kd.S_bound ho0)) (fun _ _ => trivial)) (below_size tc0_)); have n4_ := am_ (below_step tc0_ hb); clear HO104 HO108; clear HO112 HB; have HO104 := n0_; have HO108 := n1_; have HO112 := n2_; have HO116 := n3_; have HB := n4_; clear n0_ n1_ n2_ n3_ n4_; (try clear hb ho0)) | ((with_reducible refine gate_callee (f := 24) rfl ?_); refine goesL_ (some 74) rfl rfl Try.func24 (by kernel_rfl) rfl #[.slice Ao16 t102.length co16] rfl tc1_ ?_; (with_reducible refine (spec_MirrorMatrix.calls k _ _ t102 t117 t118 _ ?side1 ?side2 A9.out).mono ?_); (case side1 => exact tc17_); (case side2 => exact (Kd.N_reads' HO104.out).2.1); rintro e w20 ⟨v119, rfl, ho0, hb⟩; refine ⟨_, rfl, ?_⟩; have n0_ := am_ (Kd.N_below tc20_ hb); have n1_ := am_ (Kd.N_below tc33_ hb); have n2_ := am_ (Kd.N_below tc37_ hb); have n3_ := am_ (Kd.N_below tc45_ hb); have n4_ := am_ (Kd.N_lower (Kd.N_mono (ok' := fun _ => True) (Kd.S_N (Kd.S_bound ho0)) (fun _ _ => trivial)) (below_size tc0_)); have n5_ := am_ (below_step tc0_ hb); clear HO104 HO108; clear HO112 HO116 HB; have HO104 := n0_; have HO108 := n1_; have HO112 := n2_; have HO116 := n3_; have HO120 := n4_; have HB := n5_; clear n0_ n1_ n2_ n3_ n4_ n5_; (try clear hb ho0)) | ((with_reducible refine gate_callee (f := 25) rfl ?_); refine goesL_ (some 79) rfl rfl Try.func25 (by kernel_rfl) rfl #[.slice Ao16 t102.length co16] rfl tc1_ ?_; (with_reducible refine (impl_TransposeMatrix.calls k _ _ t102 t121 t122 _ ?side1 ?side2 A10.out).mono ?_); (case side1 => exact tc17_); (case side2 => exact (Kd.N_reads' HO104.out).2.1); rintro e w21 ⟨v123, rfl, ho0, hb⟩; refine ⟨_, rfl, ?_⟩; have n0_ := am_ (Kd.N_below tc20_ hb); have n1_ := am_ (Kd.N_below tc33_ hb); have n2_ := am_ (Kd.N_below tc37_ hb); have n3_ := am_ (Kd.N_below tc45_ hb); have n4_ := am_ (Kd.N_below tc49_ hb); have n5_ := am_ (Kd.N_lower (Kd.N_mono (ok' := fun _ => True) (Kd.S_N (Kd.S_bound ho0)) (fun _ _ => trivial)) (below_size tc0_)); have n6_ := am_ (below_step tc0_ hb); clear HO104 HO108; clear HO112 HO116; clear HO120 HB; have HO104 := n0_; have HO108 := n1_; have HO112 := n2_; have HO116 := n3_; have HO120 := n4_; have HO124 := n5_; have HB := n6_; clear n0_ n1_ n2_ n3_ n4_ n5_ n6_; (try clear hb ho0)) | ((with_reducible refine gate_callee (f := 26) rfl ?_); refine goesL_ (some 84) rfl rfl Try.func26 (by kernel_rfl) rfl #[.slice Ao16 t102.length co16] rfl tc1_ ?_; (with_reducible refine (spec_TransposeMatrix.calls k _ _ t102 t125 t126 _ ?side1 ?side2 A11.out).mono ?_); (case side1 => exact tc17_); (case side2 => exact (Kd.N_reads' HO104.out).2.1); rintro e w22 ⟨v127, rfl, ho0, hb⟩; refine ⟨_, rfl, ?_⟩; have n0_ := am_ (Kd.N_below tc20_ hb); have n1_ := am_ (Kd.N_below tc33_ hb); have n2_ := am_ (Kd.N_below tc37_ hb); have n3_ := am_ (Kd.N_below tc45_ hb); have n4_ := am_ (Kd.N_below tc49_ hb); have n5_ := am_ (Kd.N_below tc52_ hb); have n6_ := am_ (Kd.N_lower (Kd.N_mono (ok' := fun _ => True) (Kd.S_N (Kd.S_bound ho0)) (fun _ _ => trivial)) (below_size tc0_)); have n7_ := am_ (below_step tc0_ hb); clear HO104 HO108; clear HO112 HO116; clear HO120 HO124 HB; have HO104 := n0_; have HO108 := n1_; have HO112 := n2_; have HO116 := n3_; have HO120 := n4_; have HO124 := n5_; have HO128 := n6_; have HB := n7_; clear n0_ n1_ n2_ n3_ n4_ n5_ n6_ n7_; (try clear hb ho0)) | ((with_reducible refine gate_callee (f := 27) rfl ?_); refine goesL_ (some 89) rfl rfl Try.func27 (by kernel_rfl) rfl #[.slice Ao16 t102.length co16] rfl tc1_ ?_; (with_reducible refine (impl_LeastOfTurns.calls k (fun _ => True) _ _ t102 t129 t132 _ ?side1 A12.out).mono ?_); (case side1 => exact Kd.N_V (HO104.out)); rintro e w23 ⟨v130, rfl, ho0, hb⟩; refine ⟨_, rfl, ?_⟩; have n0_ := am_ (Kd.N_below tc20_ hb); have n1_ := am_ (Kd.N_below tc33_ hb); have n2_ := am_ (Kd.N_below tc37_ hb); have n3_ := am_ (Kd.N_below tc45_ hb); have n4_ := am_ (Kd.N_below tc49_ hb); have n5_ := am_ (Kd.N_below tc52_ hb); have n6_ := am_ (Kd.N_below (by (with_reducible repeat (first | apply Kd.N_alloc | apply Kd.N_drewN | apply Kd.N_drew)); exact HO128.out) hb); have n7_ := am_ (Kd.N_lower (Kd.N_mono (ok' := fun _ => True) ho0 (fun _ _ => trivial)) (below_size tc0_)); have n8_ := am_ (below_step tc0_ hb); clear HO104 HO108; clear HO112 HO116; clear HO120 HO124; clear HO128 HB; have HO104 := n0_; have HO108 := n1_; have HO112 := n2_; have HO116 := n3_; have HO120 := n4_; have HO124 := n5_; have HO128 := n6_; have HO131 := n7_; have HB := n8_; clear n0_ n1_ n2_ n3_ n4_ n5_ n6_ n7_ n8_; (try clear hb ho0)) | ((with_reducible refine gate_callee (f := 28) rfl ?_); refine goesL_ (some 94) rfl rfl Try.func28 (by kernel_rfl) rfl #[.slice Ao16 t102.length co16] rfl tc1_ ?_; (with_reducible refine (spec_LeastOfTurns.calls k _ _ t102 t133 t134 _ ?side1 ?side2 A13.out).mono ?_); (case side1 => exact tc17_); (case side2 => exact (Kd.N_reads' HO104.out).2.1); rintro e w24 ⟨v135, rfl, ho0, hb⟩; refine ⟨_, rfl, ?_⟩; have n0_ := am_ (Kd.N_below tc20_ hb); have n1_ := am_ (Kd.N_below tc33_ hb); have n2_ := am_ (Kd.N_below tc37_ hb); have n3_ := am_ (Kd.N_below tc45_ hb); have n4_ := am_ (Kd.N_below tc49_ hb); have n5_ := am_ (Kd.N_below tc52_ hb); have n6_ := am_ (Kd.N_below (by (with_reducible repeat (first | apply Kd.N_alloc | apply Kd.N_drewN | apply Kd.N_drew)); exact HO128.out) hb); have n7_ := am_ (Kd.N_below (by (with_reducible repeat (first | apply Kd.N_alloc | apply Kd.N_drewN | apply Kd.N_drew)); exact HO131.out) hb); have n8_ := am_ (Kd.N_lower (Kd.N_mono (ok' := fun _ => True) (Kd.S_N (Kd.S_bound ho0)) (fun _ _ => trivial)) (below_size tc0_)); have n9_ := am_ (below_step tc0_ hb); clear HO104 HO108; clear HO112 HO116; clear HO120 HO124; clear HO128 HO131 HB; have HO104 := n0_; have HO108 := n1_; have HO112 := n2_; have HO116 := n3_; have HO120 := n4_; have HO124 := n5_; have HO128 := n6_; have HO131 := n7_; have HO136 := n8_; have HB := n9_; clear n0_ n1_ n2_ n3_ n4_ n5_ n6_ n7_ n8_ n9_; (try clear hb ho0)))
  (try simp only [Act.put, List.setIfInBounds_toArray, List.set_cons_zero, List.set_cons_succ])
  go_cut [153] (fun v153 wc => ∃ (kq : Nat) (x153_13 : Bool), v153 = .bool x153_13 ∧ Aside0 (laws_FnTurnsAndMirrors.j0 kq l1 t102 t105 t106 t113 t121 t129 x153_13 = some r) ∧ Aside0 (kq ≤ k) ∧ Aside0 (Kd.N (Kd.slice 3 (Kd.int .i64)) 24 wc w.heap.size (fun _ => True) (.slice Ao16 t102.length co16) t102) ∧ Aside0 (Kd.N (Kd.slice 3 (Kd.int .i64)) 24 wc w.heap.size (fun _ => True) v107 t105) ∧ Aside0 (Kd.N (Kd.slice 3 (Kd.int .i64)) 24 wc w.heap.size (fun _ => True) v115 t113) ∧ Aside0 (Kd.N (Kd.slice 3 (Kd.int .i64)) 24 wc w.heap.size (fun _ => True) v123 t121) ∧ Aside0 (Kd.N (Kd.slice 3 (Kd.int .i64)) 24 wc w.heap.size (fun _ => True) v130 t129) ∧ Aside0 (Below w.heap.size w wc))
  case first => as_aux_lemma =>
   have H := HC14.out
   clear HC14
   by_cases c25 : (t106 != t110) = true
   ·rw [if_pos c25] at H
    exact (laws_FnTurnsAndMirrors.j0_dead _ _ _ _ _ _ _ _ (H.trans (congrArg some HR_.out))).elim
   ·rw [if_neg c25] at H
    have c25b0 : (t106 != t110) = false := by simpa using c25
    (try (have c25b1 : decide (t106 = t110) = true := by simpa using c25))
    (try (have c25b2 : (t106 == t110) = true := by simpa using c25))
    clear c25
    (first | rw [c25b0] | (simp only [i64_w, i32_w]; rw [c25b0]) | skip)
    replace H := Option.bind_eq_some_iff.mp H
    obtain ⟨t137, A260, H⟩ := H
    replace H : (if t137 = true then (if (t114 != t118) = true then (laws_FnTurnsAndMirrors.j0 k l1 t102 t105 t106 t113 t121 t129 true) else ((laws_hRows.f k t113 t117).bind fun t138 => (if t138 = true then (if (t122 != t126) = true then (laws_FnTurnsAndMirrors.j0 k l1 t102 t105 t106 t113 t121 t129 true) else ((laws_hRows.f k t121 t125).bind fun t139 => (if t139 = true then (if (t132 != t134) = true then (laws_FnTurnsAndMirrors.j0 k l1 t102 t105 t106 t113 t121 t129 true) else ((laws_hRows.f k t129 t133).bind fun t140 => (if t140 = true then (if (t114 != t106) = true then (laws_FnTurnsAndMirrors.j0 k l1 t102 t105 t106 t113 t121 t129 true) else (if (t122 != t106) = true then (laws_FnTurnsAndMirrors.j0 k l1 t102 t105 t106 t113 t121 t129 true) else (laws_FnTurnsAndMirrors.j0 k l1 t102 t105 t106 t113 t121 t129 (t132 != t106)))) else (laws_FnTurnsAndMirrors.j0 k l1 t102 t105 t106 t113 t121 t129 true)))) else (laws_FnTurnsAndMirrors.j0 k l1 t102 t105 t106 t113 t121 t129 true)))) else (laws_FnTurnsAndMirrors.j0 k l1 t102 t105 t106 t113 t121 t129 true)))) else (laws_FnTurnsAndMirrors.j0 k l1 t102 t105 t106 t113 t121 t129 true)) = some r := H
    have A26 := am_ A260
    clear A260
    by_cases c27 : t137 = true
    ·subst c27
     have H1 : (if (t114 != t118) = true then (laws_FnTurnsAndMirrors.j0 k l1 t102 t105 t106 t113 t121 t129 true) else ((laws_hRows.f k t113 t117).bind fun t138 => (if t138 = true then (if (t122 != t126) = true then (laws_FnTurnsAndMirrors.j0 k l1 t102 t105 t106 t113 t121 t129 true) else ((laws_hRows.f k t121 t125).bind fun t139 => (if t139 = true then (if (t132 != t134) = true then (laws_FnTurnsAndMirrors.j0 k l1 t102 t105 t106 t113 t121 t129 true) else ((laws_hRows.f k t129 t133).bind fun t140 => (if t140 = true then (if (t114 != t106) = true then (laws_FnTurnsAndMirrors.j0 k l1 t102 t105 t106 t113 t121 t129 true) else (if (t122 != t106) = true then (laws_FnTurnsAndMirrors.j0 k l1 t102 t105 t106 t113 t121 t129 true) else (laws_FnTurnsAndMirrors.j0 k l1 t102 t105 t106 t113 t121 t129 (t132 != t106)))) else (laws_FnTurnsAndMirrors.j0 k l1 t102 t105 t106 t113 t121 t129 true)))) else (laws_FnTurnsAndMirrors.j0 k l1 t102 t105 t106 t113 t121 t129 true)))) else (laws_FnTurnsAndMirrors.j0 k l1 t102 t105 t106 t113 t121 t129 true)))) = some r := by rw [if_pos rfl] at H; exact H
     clear H
     have H := H1
     clear H1
     by_cases c28 : (t114 != t118) = true
     ·rw [if_pos c28] at H
      exact (laws_FnTurnsAndMirrors.j0_dead _ _ _ _ _ _ _ _ (H.trans (congrArg some HR_.out))).elim
     ·rw [if_neg c28] at H
      have c28b0 : (t114 != t118) = false := by simpa using c28
      (try (have c28b1 : decide (t114 = t118) = true := by simpa using c28))
      (try (have c28b2 : (t114 == t118) = true := by simpa using c28))
      clear c28
      replace H := Option.bind_eq_some_iff.mp H
      obtain ⟨t138, A310, H⟩ := H
      replace H : (if t138 = true then (if (t122 != t126) = true then (laws_FnTurnsAndMirrors.j0 k l1 t102 t105 t106 t113 t121 t129 true) else ((laws_hRows.f k t121 t125).bind fun t139 => (if t139 = true then (if (t132 != t134) = true then (laws_FnTurnsAndMirrors.j0 k l1 t102 t105 t106 t113 t121 t129 true) else ((laws_hRows.f k t129 t133).bind fun t140 => (if t140 = true then (if (t114 != t106) = true then (laws_FnTurnsAndMirrors.j0 k l1 t102 t105 t106 t113 t121 t129 true) else (if (t122 != t106) = true then (laws_FnTurnsAndMirrors.j0 k l1 t102 t105 t106 t113 t121 t129 true) else (laws_FnTurnsAndMirrors.j0 k l1 t102 t105 t106 t113 t121 t129 (t132 != t106)))) else (laws_FnTurnsAndMirrors.j0 k l1 t102 t105 t106 t113 t121 t129 true)))) else (laws_FnTurnsAndMirrors.j0 k l1 t102 t105 t106 t113 t121 t129 true)))) else (laws_FnTurnsAndMirrors.j0 k l1 t102 t105 t106 t113 t121 t129 true)) = some r := H
      have A31 := am_ A310
      clear A310
      by_cases c32 : t138 = true
      ·subst c32
       have H1 : (if (t122 != t126) = true then (laws_FnTurnsAndMirrors.j0 k l1 t102 t105 t106 t113 t121 t129 true) else ((laws_hRows.f k t121 t125).bind fun t139 => (if t139 = true then (if (t132 != t134) = true then (laws_FnTurnsAndMirrors.j0 k l1 t102 t105 t106 t113 t121 t129 true) else ((laws_hRows.f k t129 t133).bind fun t140 => (if t140 = true then (if (t114 != t106) = true then (laws_FnTurnsAndMirrors.j0 k l1 t102 t105 t106 t113 t121 t129 true) else (if (t122 != t106) = true then (laws_FnTurnsAndMirrors.j0 k l1 t102 t105 t106 t113 t121 t129 true) else (laws_FnTurnsAndMirrors.j0 k l1 t102 t105 t106 t113 t121 t129 (t132 != t106)))) else (laws_FnTurnsAndMirrors.j0 k l1 t102 t105 t106 t113 t121 t129 true)))) else (laws_FnTurnsAndMirrors.j0 k l1 t102 t105 t106 t113 t121 t129 true)))) = some r := by rw [if_pos rfl] at H; exact H
       clear H
       have H := H1
       clear H1
       by_cases c33 : (t122 != t126) = true
       ·rw [if_pos c33] at H
        exact (laws_FnTurnsAndMirrors.j0_dead _ _ _ _ _ _ _ _ (H.trans (congrArg some HR_.out))).elim
       ·rw [if_neg c33] at H
        have c33b0 : (t122 != t126) = false := by simpa using c33
        (try (have c33b1 : decide (t122 = t126) = true := by simpa using c33))
        (try (have c33b2 : (t122 == t126) = true := by simpa using c33))
        clear c33
        replace H := Option.bind_eq_some_iff.mp H
        obtain ⟨t139, A380, H⟩ := H
        replace H : (if t139 = true then (if (t132 != t134) = true then (laws_FnTurnsAndMirrors.j0 k l1 t102 t105 t106 t113 t121 t129 true) else ((laws_hRows.f k t129 t133).bind fun t140 => (if t140 = true then (if (t114 != t106) = true then (laws_FnTurnsAndMirrors.j0 k l1 t102 t105 t106 t113 t121 t129 true) else (if (t122 != t106) = true then (laws_FnTurnsAndMirrors.j0 k l1 t102 t105 t106 t113 t121 t129 true) else (laws_FnTurnsAndMirrors.j0 k l1 t102 t105 t106 t113 t121 t129 (t132 != t106)))) else (laws_FnTurnsAndMirrors.j0 k l1 t102 t105 t106 t113 t121 t129 true)))) else (laws_FnTurnsAndMirrors.j0 k l1 t102 t105 t106 t113 t121 t129 true)) = some r := H
        have A38 := am_ A380
        clear A380
        by_cases c39 : t139 = true
        ·subst c39
         have H1 : (if (t132 != t134) = true then (laws_FnTurnsAndMirrors.j0 k l1 t102 t105 t106 t113 t121 t129 true) else ((laws_hRows.f k t129 t133).bind fun t140 => (if t140 = true then (if (t114 != t106) = true then (laws_FnTurnsAndMirrors.j0 k l1 t102 t105 t106 t113 t121 t129 true) else (if (t122 != t106) = true then (laws_FnTurnsAndMirrors.j0 k l1 t102 t105 t106 t113 t121 t129 true) else (laws_FnTurnsAndMirrors.j0 k l1 t102 t105 t106 t113 t121 t129 (t132 != t106)))) else (laws_FnTurnsAndMirrors.j0 k l1 t102 t105 t106 t113 t121 t129 true)))) = some r := by rw [if_pos rfl] at H; exact H
         clear H
         have H := H1
         clear H1
         by_cases c40 : (t132 != t134) = true
         ·rw [if_pos c40] at H
          exact (laws_FnTurnsAndMirrors.j0_dead _ _ _ _ _ _ _ _ (H.trans (congrArg some HR_.out))).elim
         ·rw [if_neg c40] at H
          have c40b0 : (t132 != t134) = false := by simpa using c40
          (try (have c40b1 : decide (t132 = t134) = true := by simpa using c40))
          (try (have c40b2 : (t132 == t134) = true := by simpa using c40))
          clear c40
          replace H := Option.bind_eq_some_iff.mp H
          obtain ⟨t140, A470, H⟩ := H
          replace H : (if t140 = true then (if (t114 != t106) = true then (laws_FnTurnsAndMirrors.j0 k l1 t102 t105 t106 t113 t121 t129 true) else (if (t122 != t106) = true then (laws_FnTurnsAndMirrors.j0 k l1 t102 t105 t106 t113 t121 t129 true) else (laws_FnTurnsAndMirrors.j0 k l1 t102 t105 t106 t113 t121 t129 (t132 != t106)))) else (laws_FnTurnsAndMirrors.j0 k l1 t102 t105 t106 t113 t121 t129 true)) = some r := H
          have A47 := am_ A470
          clear A470
          by_cases c48 : t140 = true
          ·subst c48
           have H1 : (if (t114 != t106) = true then (laws_FnTurnsAndMirrors.j0 k l1 t102 t105 t106 t113 t121 t129 true) else (if (t122 != t106) = true then (laws_FnTurnsAndMirrors.j0 k l1 t102 t105 t106 t113 t121 t129 true) else (laws_FnTurnsAndMirrors.j0 k l1 t102 t105 t106 t113 t121 t129 (t132 != t106)))) = some r := by rw [if_pos rfl] at H; exact H
           clear H
           have H := H1
           clear H1
           by_cases c49 : (t114 != t106) = true
           ·rw [if_pos c49] at H
            exact (laws_FnTurnsAndMirrors.j0_dead _ _ _ _ _ _ _ _ (H.trans (congrArg some HR_.out))).elim
           ·rw [if_neg c49] at H
            have c49b0 : (t114 != t106) = false := by simpa using c49
            (try (have c49b1 : decide (t114 = t106) = true := by simpa using c49))
            (try (have c49b2 : (t114 == t106) = true := by simpa using c49))
            clear c49
            by_cases c58 : (t122 != t106) = true
            ·rw [if_pos c58] at H
             exact (laws_FnTurnsAndMirrors.j0_dead _ _ _ _ _ _ _ _ (H.trans (congrArg some HR_.out))).elim
            ·rw [if_neg c58] at H
             have c58b0 : (t122 != t106) = false := by simpa using c58
             (try (have c58b1 : decide (t122 = t106) = true := by simpa using c58))
             (try (have c58b2 : (t122 == t106) = true := by simpa using c58))
             clear c58
             have H' := am_ H
             clear H
             obtain ⟨Ao67, co67, eo67⟩ := Kd.N_slice HO108.out
             subst eo67
             obtain ⟨Ao68, co68, eo68⟩ := Kd.N_slice HO112.out
             subst eo68
             go_wp2_with (first | (go_at_call 17; (with_reducible refine (laws_hRows.calls k _ _ t105 _ _ t109 true _ ?side1 ?side2 ?side3 ?side4 A26.out).mono ?_); (case side1 => repeat (first | exact (Kd.N_reads' HO108.out).2.2 | (with_reducible refine Kd.C_alloc ?_ _) | (with_reducible refine Kd.C_drewN ?_ _) | (with_reducible refine Kd.C_drew ?_))); (case side2 => exact (Kd.N_reads' HO108.out).2.1); (case side3 => repeat (first | exact (Kd.N_reads' HO112.out).2.2 | (with_reducible refine Kd.C_alloc ?_ _) | (with_reducible refine Kd.C_drewN ?_ _) | (with_reducible refine Kd.C_drew ?_))); (case side4 => exact (Kd.N_reads' HO112.out).2.1); rintro e w' ⟨rfl, ⟨nd, rfl⟩⟩; obtain ⟨Ao69, co69, eo69⟩ := Kd.N_slice HO116.out; subst eo69; obtain ⟨Ao70, co70, eo70⟩ := Kd.N_slice HO120.out; subst eo70) | (go_at_call 17; (with_reducible refine (laws_hRows.calls k _ _ t113 _ _ t117 true _ ?side1 ?side2 ?side3 ?side4 A31.out).mono ?_); (case side1 => repeat (first | exact (Kd.N_reads' HO116.out).2.2 | (with_reducible refine Kd.C_alloc ?_ _) | (with_reducible refine Kd.C_drewN ?_ _) | (with_reducible refine Kd.C_drew ?_))); (case side2 => exact (Kd.N_reads' HO116.out).2.1); (case side3 => repeat (first | exact (Kd.N_reads' HO120.out).2.2 | (with_reducible refine Kd.C_alloc ?_ _) | (with_reducible refine Kd.C_drewN ?_ _) | (with_reducible refine Kd.C_drew ?_))); (case side4 => exact (Kd.N_reads' HO120.out).2.1); rintro e w' ⟨rfl, ⟨nd, rfl⟩⟩; obtain ⟨Ao71, co71, eo71⟩ := Kd.N_slice HO124.out; subst eo71; obtain ⟨Ao72, co72, eo72⟩ := Kd.N_slice HO128.out; subst eo72) | (go_at_call 17; (with_reducible refine (laws_hRows.calls k _ _ t121 _ _ t125 true _ ?side1 ?side2 ?side3 ?side4 A38.out).mono ?_); (case side1 => repeat (first | exact (Kd.N_reads' HO124.out).2.2 | (with_reducible refine Kd.C_alloc ?_ _) | (with_reducible refine Kd.C_drewN ?_ _) | (with_reducible refine Kd.C_drew ?_))); (case side2 => exact (Kd.N_reads' HO124.out).2.1); (case side3 => repeat (first | exact (Kd.N_reads' HO128.out).2.2 | (with_reducible refine Kd.C_alloc ?_ _) | (with_reducible refine Kd.C_drewN ?_ _) | (with_reducible refine Kd.C_drew ?_))); (case side4 => exact (Kd.N_reads' HO128.out).2.1); rintro e w' ⟨rfl, ⟨nd, rfl⟩⟩; obtain ⟨Ao73, co73, eo73⟩ := Kd.N_slice HO131.out; subst eo73; obtain ⟨Ao74, co74, eo74⟩ := Kd.N_slice HO136.out; subst eo74) | (go_at_call 17; (with_reducible refine (laws_hRows.calls k _ _ t129 _ _ t133 true _ ?side1 ?side2 ?side3 ?side4 A47.out).mono ?_); (case side1 => repeat (first | exact (Kd.N_reads' HO131.out).2.2 | (with_reducible refine Kd.C_alloc ?_ _) | (with_reducible refine Kd.C_drewN ?_ _) | (with_reducible refine Kd.C_drew ?_))); (case side2 => exact (Kd.N_reads' HO131.out).2.1); (case side3 => repeat (first | exact (Kd.N_reads' HO136.out).2.2 | (with_reducible refine Kd.C_alloc ?_ _) | (with_reducible refine Kd.C_drewN ?_ _) | (with_reducible refine Kd.C_drew ?_))); (case side4 => exact (Kd.N_reads' HO136.out).2.1); rintro e w' ⟨rfl, ⟨nd, rfl⟩⟩))
             go_meet
             case rel => exact ⟨_, ((t132 != t106)), tc6_, H', ⟨by first | omega | exact Nat.le_refl _⟩, ⟨by (with_reducible repeat (first | apply Kd.N_alloc | apply Kd.N_drewN | apply Kd.N_drew)); exact Kd.N_mono HO104.out (fun _ _ => trivial)⟩, ⟨by (with_reducible repeat (first | apply Kd.N_alloc | apply Kd.N_drewN | apply Kd.N_drew)); exact Kd.N_mono HO108.out (fun _ _ => trivial)⟩, ⟨by (with_reducible repeat (first | apply Kd.N_alloc | apply Kd.N_drewN | apply Kd.N_drew)); exact Kd.N_mono HO116.out (fun _ _ => trivial)⟩, ⟨by (with_reducible repeat (first | apply Kd.N_alloc | apply Kd.N_drewN | apply Kd.N_drew)); exact Kd.N_mono HO124.out (fun _ _ => trivial)⟩, ⟨by (with_reducible repeat (first | apply Kd.N_alloc | apply Kd.N_drewN | apply Kd.N_drew)); exact Kd.N_mono HO131.out (fun _ _ => trivial)⟩, ⟨by repeat (first | (with_reducible first | exact HB.out | apply below_alloc | apply pw_below_drewN | apply below_drew1) | exact HB.out)⟩⟩
          ·replace c48 := Bool.eq_false_iff.mpr c48
           subst c48
           exact (laws_FnTurnsAndMirrors.j0_dead _ _ _ _ _ _ _ _ ((show (laws_FnTurnsAndMirrors.j0 k l1 t102 t105 t106 t113 t121 t129 true) = some r from tc21_).trans (congrArg some HR_.out))).elim
        ·replace c39 := Bool.eq_false_iff.mpr c39
         subst c39
         exact (laws_FnTurnsAndMirrors.j0_dead _ _ _ _ _ _ _ _ ((show (laws_FnTurnsAndMirrors.j0 k l1 t102 t105 t106 t113 t121 t129 true) = some r from tc21_).trans (congrArg some HR_.out))).elim
      ·replace c32 := Bool.eq_false_iff.mpr c32
       subst c32
       exact (laws_FnTurnsAndMirrors.j0_dead _ _ _ _ _ _ _ _ ((show (laws_FnTurnsAndMirrors.j0 k l1 t102 t105 t106 t113 t121 t129 true) = some r from tc21_).trans (congrArg some HR_.out))).elim
    ·replace c27 := Bool.eq_false_iff.mpr c27
     subst c27
     exact (laws_FnTurnsAndMirrors.j0_dead _ _ _ _ _ _ _ _ ((show (laws_FnTurnsAndMirrors.j0 k l1 t102 t105 t106 t113 t121 t129 true) = some r from tc21_).trans (congrArg some HR_.out))).elim
  case rest => as_aux_lemma =>
   clear HC14
   try clear c1
   try clear c2
   try clear p2
   try clear c3
   try clear c4
   try clear c5
   try clear c6
   try clear c20
   try clear c21
   try clear c22
   try clear c23
   try clear c24
   try clear c25
   try clear c25b0
   try clear c25b1
   try clear c25b2
   try clear c26
   try clear c27
   try clear c28
   try clear c28b0
   try clear c28b1
   try clear c28b2
   try clear c32
   try clear c33
   try clear c33b0
   try clear c33b1
   try clear c33b2
   try clear c39
   try clear c40
   try clear c40b0
   try clear c40b1
   try clear c40b2
   try clear c48
   try clear c49
   try clear c49b0
   try clear c49b1
   try clear c49b2
   try clear c58
   try clear c58b0
   try clear c58b1
   try clear c58b2
   obtain ⟨kq, x153_13, rfl, HA, HJ13, HO_5, HO_6, HO_10, HO_14, HO_18, HB⟩ := hcut
   cases kq with
   | zero => exact absurd HA.out (by simp [laws_FnTurnsAndMirrors.j0])
   | succ kj13 =>
    have H := HA.out
    clear HA
    simp only [laws_FnTurnsAndMirrors.j0] at H
    by_cases c95 : x153_13 = true
    ·subst c95
     exact absurd ((show (some false : Option Bool) = some r from (by rw [if_pos rfl] at H; exact H)).trans (congrArg some HR_.out)) (by simp)
    ·replace c95 := Bool.eq_false_iff.mpr c95
     subst c95
     have H1 : (if t106 = true then (laws_FnTurnsAndMirrors.l0 kj13 l1 t102 t105 t113 t121 t129 t102 0) else (laws_FnTurnsAndMirrors.j2 kj13 l1)) = some r := by rw [if_neg (show ¬ (false = true) by decide)] at H; exact H
     clear H
     have H := H1
     clear H1
     have HC96 := am_ H
     clear H
     go_upto_if 154 with (fail)
     go_cut [] (fun wc => ∃ (kq : Nat), Aside0 (laws_FnTurnsAndMirrors.j2 kq l1 = some r) ∧ Aside0 (kq ≤ kj13) ∧ Aside0 (Below w.heap.size w wc))
     case first => as_aux_lemma =>
      have H := HC96.out
      clear HC96
      by_cases c97 : t106 = true
      ·subst c97
       have H1 : (laws_FnTurnsAndMirrors.l0 kj13 l1 t102 t105 t113 t121 t129 t102 0) = some r := by rw [if_pos rfl] at H; exact H
       clear H
       have H := H1
       clear H1
       have H' := am_ H
       clear H
       go_wp2
       go_loopg [22, 23] kj13 (fun kq v22 v23 w' => ∃ (x22_2 : List (List Int)) (x23_2 : Int), v23 = .int .i64 x23_2 ∧ Aside0 (laws_FnTurnsAndMirrors.l0 kq l1 t102 t105 t113 t121 t129 x22_2 x23_2 = some r) ∧ Aside0 (kq ≤ kj13) ∧ Aside0 (Kd.N (Kd.slice 3 (Kd.int .i64)) 24 w' w.heap.size (fun _ => True) (.slice Ao16 t102.length co16) t102) ∧ Aside0 (Kd.N (Kd.slice 3 (Kd.int .i64)) 24 w' w.heap.size (fun _ => True) v107 t105) ∧ Aside0 (Kd.N (Kd.slice 3 (Kd.int .i64)) 24 w' w.heap.size (fun _ => True) v115 t113) ∧ Aside0 (Kd.N (Kd.slice 3 (Kd.int .i64)) 24 w' w.heap.size (fun _ => True) v123 t121) ∧ Aside0 (Kd.N (Kd.slice 3 (Kd.int .i64)) 24 w' w.heap.size (fun _ => True) v130 t129) ∧ Aside0 (Kd.N (Kd.slice 3 (Kd.int .i64)) 24 w' w.heap.size (fun _ => True) v22 x22_2) ∧ Aside0 (Below w.heap.size w w'))
       case atStart => exact ⟨(t102), (0), tc6_, H', ⟨Nat.le_refl _⟩, ⟨by (with_reducible repeat (first | apply Kd.N_alloc | apply Kd.N_drewN | apply Kd.N_drew)); exact HO_5.out⟩, ⟨by (with_reducible repeat (first | apply Kd.N_alloc | apply Kd.N_drewN | apply Kd.N_drew)); exact Kd.N_mono HO_6.out (fun _ _ => trivial)⟩, ⟨by (with_reducible repeat (first | apply Kd.N_alloc | apply Kd.N_drewN | apply Kd.N_drew)); exact Kd.N_mono HO_10.out (fun _ _ => trivial)⟩, ⟨by (with_reducible repeat (first | apply Kd.N_alloc | apply Kd.N_drewN | apply Kd.N_drew)); exact Kd.N_mono HO_14.out (fun _ _ => trivial)⟩, ⟨by (with_reducible repeat (first | apply Kd.N_alloc | apply Kd.N_drewN | apply Kd.N_drew)); exact HO_18.out⟩, ⟨by (with_reducible repeat (first | apply Kd.N_alloc | apply Kd.N_drewN | apply Kd.N_drew)); exact HO_5.out⟩, ⟨by repeat (first | (with_reducible first | exact HB.out | apply below_alloc | apply pw_below_drewN | apply below_drew1) | exact HB.out)⟩⟩
       case round => as_aux_lemma =>
        clear H'
        try clear c1
        try clear c2
        try clear p2
        try clear c3
        try clear c4
        try clear c5
        try clear c6
        try clear c9
        try clear c20
        try clear c21
        try clear c22
        try clear c23
        try clear c24
        try clear c25
        try clear c25b0
        try clear c25b1
        try clear c25b2
        try clear c26
        try clear c27
        try clear c28
        try clear c28b0
        try clear c28b1
        try clear c28b2
        try clear c32
        try clear c33
        try clear c33b0
        try clear c33b1
        try clear c33b2
        try clear c39
        try clear c40
        try clear c40b0
        try clear c40b1
        try clear c40b2
        try clear c48
        try clear c49
        try clear c49b0
        try clear c49b1
        try clear c49b2
        try clear c58
        try clear c58b0
        try clear c58b1
        try clear c58b2
        try clear c95
        try clear c97
        try clear p2
        obtain ⟨x22_2, x23_2, rfl, HA, HK2, HO_5, HO_6, HO_10, HO_14, HO_18, HO_22, HB⟩ := hrel
        cases gk with
        | zero => exact absurd HA.out (by simp [laws_FnTurnsAndMirrors.l0])
        | succ k2 =>
         have H := HA.out
         clear HA
         simp only [laws_FnTurnsAndMirrors.l0] at H
         by_cases c98 : x23_2 < 4
         ·rw [if_pos c98] at H
          have c98b0 : decide (x23_2 < 4) = true := decide_eq_true c98
          clear c98
          (first | rw [c98b0] | (simp only [i64_w, i32_w]; rw [c98b0]) | skip)
          replace H := Option.bind_eq_some_iff.mp H
          obtain ⟨⟨t141, t142⟩, A990, H⟩ := H
          replace H : ((impl_LeastOfTurns.f k2 t141).bind fun bt145 => (if t142 = true then (if bt145.2 = true then ((laws_hRows.f k2 bt145.1 t129).bind fun t149 => (if t149 = true then ((laws_hLess.f k2 t141 t129).bind fun t150 => (if t150 = true then (some false) else (laws_FnTurnsAndMirrors.l0 k2 l1 t102 t105 t113 t121 t129 t141 (wrap64 (x23_2 + 1))))) else (some false))) else (some false)) else (some false))) = some r := H
          have A99 := am_ A990
          clear A990
          replace H := Option.bind_eq_some_iff.mp H
          obtain ⟨⟨t145, t148⟩, A1000, H⟩ := H
          replace H : (if t142 = true then (if t148 = true then ((laws_hRows.f k2 t145 t129).bind fun t149 => (if t149 = true then ((laws_hLess.f k2 t141 t129).bind fun t150 => (if t150 = true then (some false) else (laws_FnTurnsAndMirrors.l0 k2 l1 t102 t105 t113 t121 t129 t141 (wrap64 (x23_2 + 1))))) else (some false))) else (some false)) else (some false)) = some r := H
          have A100 := am_ A1000
          clear A1000
          by_cases c101 : t142 = true
          ·subst c101
           have H1 : (if t148 = true then ((laws_hRows.f k2 t145 t129).bind fun t149 => (if t149 = true then ((laws_hLess.f k2 t141 t129).bind fun t150 => (if t150 = true then (some false) else (laws_FnTurnsAndMirrors.l0 k2 l1 t102 t105 t113 t121 t129 t141 (wrap64 (x23_2 + 1))))) else (some false))) else (some false)) = some r := by rw [if_pos rfl] at H; exact H
           clear H
           have H := H1
           clear H1
           by_cases c102 : t148 = true
           ·subst c102
            have H1 : ((laws_hRows.f k2 t145 t129).bind fun t149 => (if t149 = true then ((laws_hLess.f k2 t141 t129).bind fun t150 => (if t150 = true then (some false) else (laws_FnTurnsAndMirrors.l0 k2 l1 t102 t105 t113 t121 t129 t141 (wrap64 (x23_2 + 1))))) else (some false))) = some r := by rw [if_pos rfl] at H; exact H
            clear H
            have H := H1
            clear H1
            replace H := Option.bind_eq_some_iff.mp H
            obtain ⟨t149, A1030, H⟩ := H
            replace H : (if t149 = true then ((laws_hLess.f k2 t141 t129).bind fun t150 => (if t150 = true then (some false) else (laws_FnTurnsAndMirrors.l0 k2 l1 t102 t105 t113 t121 t129 t141 (wrap64 (x23_2 + 1))))) else (some false)) = some r := H
            have A103 := am_ A1030
            clear A1030
            by_cases c104 : t149 = true
            ·subst c104
             have H1 : ((laws_hLess.f k2 t141 t129).bind fun t150 => (if t150 = true then (some false) else (laws_FnTurnsAndMirrors.l0 k2 l1 t102 t105 t113 t121 t129 t141 (wrap64 (x23_2 + 1))))) = some r := by rw [if_pos rfl] at H; exact H
             clear H
             have H := H1
             clear H1
             replace H := Option.bind_eq_some_iff.mp H
             obtain ⟨t150, A1050, H⟩ := H
             replace H : (if t150 = true then (some false) else (laws_FnTurnsAndMirrors.l0 k2 l1 t102 t105 t113 t121 t129 t141 (wrap64 (x23_2 + 1)))) = some r := H
             have A105 := am_ A1050
             clear A1050
             by_cases c106 : t150 = true
             ·subst c106
              exact absurd ((show (some false : Option Bool) = some r from (by rw [if_pos rfl] at H; exact H)).trans (congrArg some HR_.out)) (by simp)
             ·replace c106 := Bool.eq_false_iff.mpr c106
              subst c106
              have H1 : (laws_FnTurnsAndMirrors.l0 k2 l1 t102 t105 t113 t121 t129 t141 (wrap64 (x23_2 + 1))) = some r := by rw [if_neg (show ¬ (false = true) by decide)] at H; exact H
              clear H
              have H := H1
              clear H1
              have H' := am_ H
              clear H
              obtain ⟨Ao113, co113, eo113⟩ := Kd.N_slice HO_22.out
              subst eo113
              go_wp2_with (first | ((with_reducible refine gate_callee (f := 21) rfl ?_); refine goesL_ (some 162) rfl rfl Try.func21 (by kernel_rfl) rfl #[.slice Ao113 x22_2.length co113] rfl tc1_ ?_; (with_reducible refine (impl_TurnMatrix.calls k2 _ _ x22_2 t141 true _ ?side1 ?side2 A99.out).mono ?_); (case side1 => repeat (first | exact (Kd.N_reads' HO_22.out).2.2 | (with_reducible refine Kd.C_alloc ?_ _) | (with_reducible refine Kd.C_drewN ?_ _) | (with_reducible refine Kd.C_drew ?_))); (case side2 => exact (Kd.N_reads' HO_22.out).2.1); rintro e w114 ⟨v143, rfl, ho0, hb⟩; refine ⟨_, rfl, ?_⟩; have n0_ := am_ (Kd.N_below tc28_ hb); have n1_ := am_ (Kd.N_below tc29_ hb); have n2_ := am_ (Kd.N_below tc24_ hb); have n3_ := am_ (Kd.N_below tc25_ hb); have n4_ := am_ (Kd.N_below tc26_ hb); have n5_ := am_ (Kd.N_below tc27_ hb); have n6_ := am_ (Kd.N_lower (Kd.N_mono (ok' := fun _ => True) (Kd.S_N (Kd.S_bound ho0)) (fun _ _ => trivial)) (below_size tc0_)); have n7_ := am_ (below_step tc0_ hb); clear HO_5 HO_6; clear HO_10 HO_14; clear HO_18 HO_22 HB; have HO_5 := n0_; have HO_6 := n1_; have HO_10 := n2_; have HO_14 := n3_; have HO_18 := n4_; have HO_22 := n5_; have HO144 := n6_; have HB := n7_; clear n0_ n1_ n2_ n3_ n4_ n5_ n6_ n7_; (try clear hb ho0); obtain ⟨Ao115, co115, eo115⟩ := Kd.N_slice HO144.out; subst eo115) | ((with_reducible refine gate_callee (f := 27) rfl ?_); refine goesL_ (some 167) rfl rfl Try.func27 (by kernel_rfl) rfl #[.slice Ao115 t141.length co115] rfl tc1_ ?_; (with_reducible refine (impl_LeastOfTurns.calls k2 (fun _ => True) _ _ t141 t145 true _ ?side1 A100.out).mono ?_); (case side1 => exact Kd.N_V (HO144.out)); rintro e w116 ⟨v146, rfl, ho0, hb⟩; refine ⟨_, rfl, ?_⟩; have n0_ := am_ (Kd.N_below tc28_ hb); have n1_ := am_ (Kd.N_below tc29_ hb); have n2_ := am_ (Kd.N_below tc24_ hb); have n3_ := am_ (Kd.N_below tc25_ hb); have n4_ := am_ (Kd.N_below tc26_ hb); have n5_ := am_ (Kd.N_below tc27_ hb); have n6_ := am_ (Kd.N_below (by (with_reducible repeat (first | apply Kd.N_alloc | apply Kd.N_drewN | apply Kd.N_drew)); exact HO144.out) hb); have n7_ := am_ (Kd.N_lower (Kd.N_mono (ok' := fun _ => True) ho0 (fun _ _ => trivial)) (below_size tc0_)); have n8_ := am_ (below_step tc0_ hb); clear HO_5 HO_6; clear HO_10 HO_14; clear HO_18 HO_22; clear HO144 HB; have HO_5 := n0_; have HO_6 := n1_; have HO_10 := n2_; have HO_14 := n3_; have HO_18 := n4_; have HO_22 := n5_; have HO144 := n6_; have HO147 := n7_; have HB := n8_; clear n0_ n1_ n2_ n3_ n4_ n5_ n6_ n7_ n8_; (try clear hb ho0); obtain ⟨Ao117, co117, eo117⟩ := Kd.N_slice HO147.out; subst eo117; obtain ⟨Ao118, co118, eo118⟩ := Kd.N_slice HO_18.out; subst eo118) | (go_at_call 17; (with_reducible refine (laws_hRows.calls k2 _ _ t145 _ _ t129 true _ ?side1 ?side2 ?side3 ?side4 A103.out).mono ?_); (case side1 => repeat (first | exact (Kd.N_reads' HO147.out).2.2 | (with_reducible refine Kd.C_alloc ?_ _) | (with_reducible refine Kd.C_drewN ?_ _) | (with_reducible refine Kd.C_drew ?_))); (case side2 => exact (Kd.N_reads' HO147.out).2.1); (case side3 => repeat (first | exact (Kd.N_reads' HO_18.out).2.2 | (with_reducible refine Kd.C_alloc ?_ _) | (with_reducible refine Kd.C_drewN ?_ _) | (with_reducible refine Kd.C_drew ?_))); (case side4 => exact (Kd.N_reads' HO_18.out).2.1); rintro e w' ⟨rfl, ⟨nd, rfl⟩⟩) | (go_at_call 11; (with_reducible refine (laws_hLess.calls k2 _ _ t141 _ _ t129 false _ ?side1 ?side2 ?side3 ?side4 A105.out).mono ?_); (case side1 => repeat (first | exact (Kd.N_reads' HO144.out).2.2 | (with_reducible refine Kd.C_alloc ?_ _) | (with_reducible refine Kd.C_drewN ?_ _) | (with_reducible refine Kd.C_drew ?_))); (case side2 => exact (Kd.N_reads' HO144.out).2.1); (case side3 => repeat (first | exact (Kd.N_reads' HO_18.out).2.2 | (with_reducible refine Kd.C_alloc ?_ _) | (with_reducible refine Kd.C_drewN ?_ _) | (with_reducible refine Kd.C_drew ?_))); (case side4 => exact (Kd.N_reads' HO_18.out).2.1); rintro e w' ⟨rfl, ⟨nd, rfl⟩⟩))
              go_roundg k2
              case measure => have := HJ13.out; have := HK2.out; omega
              case rel => exact ⟨(t141), (wrap64 (x23_2 + 1)), tc6_, H', ⟨by have := HJ13.out; have := HK2.out; omega⟩, ⟨by (with_reducible repeat (first | apply Kd.N_alloc | apply Kd.N_drewN | apply Kd.N_drew)); exact Kd.N_mono HO_5.out (fun _ _ => trivial)⟩, ⟨by (with_reducible repeat (first | apply Kd.N_alloc | apply Kd.N_drewN | apply Kd.N_drew)); exact Kd.N_mono HO_6.out (fun _ _ => trivial)⟩, ⟨by (with_reducible repeat (first | apply Kd.N_alloc | apply Kd.N_drewN | apply Kd.N_drew)); exact Kd.N_mono HO_10.out (fun _ _ => trivial)⟩, ⟨by (with_reducible repeat (first | apply Kd.N_alloc | apply Kd.N_drewN | apply Kd.N_drew)); exact Kd.N_mono HO_14.out (fun _ _ => trivial)⟩, ⟨by (with_reducible repeat (first | apply Kd.N_alloc | apply Kd.N_drewN | apply Kd.N_drew)); exact Kd.N_mono HO_18.out (fun _ _ => trivial)⟩, ⟨by (with_reducible repeat (first | apply Kd.N_alloc | apply Kd.N_drewN | apply Kd.N_drew)); exact Kd.N_mono HO144.out (fun _ _ => trivial)⟩, ⟨by repeat (first | (with_reducible first | exact HB.out | apply below_alloc | apply pw_below_drewN | apply below_drew1) | exact HB.out)⟩⟩
            ·replace c104 := Bool.eq_false_iff.mpr c104
             subst c104
             exact absurd ((show (some false : Option Bool) = some r from tc21_).trans (congrArg some HR_.out)) (by simp)
           ·replace c102 := Bool.eq_false_iff.mpr c102
            subst c102
            exact absurd ((show (some false : Option Bool) = some r from tc21_).trans (congrArg some HR_.out)) (by simp)
          ·replace c101 := Bool.eq_false_iff.mpr c101
           subst c101
           exact absurd ((show (some false : Option Bool) = some r from tc21_).trans (congrArg some HR_.out)) (by simp)
         ·rw [if_neg c98] at H
          have c98b0 : decide (x23_2 < 4) = false := decide_eq_false c98
          clear c98
          (first | rw [c98b0] | (simp only [i64_w, i32_w]; rw [c98b0]) | skip)
          replace H := Option.bind_eq_some_iff.mp H
          obtain ⟨⟨t151, t152⟩, A1330, H⟩ := H
          replace H : ((impl_MirrorMatrix.f k2 t121).bind fun bt155 => ((impl_MinusOnes.f k2 t102).bind fun bt159 => ((impl_MinusOnes.f k2 t105).bind fun bt161 => ((impl_InversionsOf.f k2 t102).bind fun bt163 => ((impl_InversionsOf.f k2 t113).bind fun bt165 => ((impl_InversionsOf.f k2 t121).bind fun bt167 => ((laws_hRows.f k2 x22_2 t102).bind fun t169 => (if t169 = true then (if t152 = true then ((laws_hRows.f k2 t151 t102).bind fun t170 => (if t170 = true then (if bt155.2 = true then ((laws_hRows.f k2 bt155.1 t105).bind fun t171 => (if t171 = true then (if bt159.2 = true then (if bt161.2 = true then (if bt159.1 = bt161.1 then (if bt163.2 = true then (if bt165.2 = true then (if bt167.2 = true then (if bt163.1 = bt167.1 then (if (wrap64 ((wrap64 (bt163.1 + bt165.1)) - bt159.1)) = (wrap64 (Int.tdiv (wrap64 ((t102.length : Int) * (wrap64 ((t102.length : Int) - 1)))) 2)) then (laws_FnTurnsAndMirrors.j2 k2 l1) else (some false)) else (some false)) else (some false)) else (some false)) else (some false)) else (some false)) else (some false)) else (some false)) else (some false))) else (some false)) else (some false))) else (some false)) else (some false))))))))) = some r := H
          have A133 := am_ A1330
          clear A1330
          replace H := Option.bind_eq_some_iff.mp H
          obtain ⟨⟨t155, t156⟩, A1340, H⟩ := H
          replace H : ((impl_MinusOnes.f k2 t102).bind fun bt159 => ((impl_MinusOnes.f k2 t105).bind fun bt161 => ((impl_InversionsOf.f k2 t102).bind fun bt163 => ((impl_InversionsOf.f k2 t113).bind fun bt165 => ((impl_InversionsOf.f k2 t121).bind fun bt167 => ((laws_hRows.f k2 x22_2 t102).bind fun t169 => (if t169 = true then (if t152 = true then ((laws_hRows.f k2 t151 t102).bind fun t170 => (if t170 = true then (if t156 = true then ((laws_hRows.f k2 t155 t105).bind fun t171 => (if t171 = true then (if bt159.2 = true then (if bt161.2 = true then (if bt159.1 = bt161.1 then (if bt163.2 = true then (if bt165.2 = true then (if bt167.2 = true then (if bt163.1 = bt167.1 then (if (wrap64 ((wrap64 (bt163.1 + bt165.1)) - bt159.1)) = (wrap64 (Int.tdiv (wrap64 ((t102.length : Int) * (wrap64 ((t102.length : Int) - 1)))) 2)) then (laws_FnTurnsAndMirrors.j2 k2 l1) else (some false)) else (some false)) else (some false)) else (some false)) else (some false)) else (some false)) else (some false)) else (some false)) else (some false))) else (some false)) else (some false))) else (some false)) else (some false)))))))) = some r := H
          have A134 := am_ A1340
          clear A1340
          replace H := Option.bind_eq_some_iff.mp H
          obtain ⟨⟨t159, t160⟩, A1350, H⟩ := H
          replace H : ((impl_MinusOnes.f k2 t105).bind fun bt161 => ((impl_InversionsOf.f k2 t102).bind fun bt163 => ((impl_InversionsOf.f k2 t113).bind fun bt165 => ((impl_InversionsOf.f k2 t121).bind fun bt167 => ((laws_hRows.f k2 x22_2 t102).bind fun t169 => (if t169 = true then (if t152 = true then ((laws_hRows.f k2 t151 t102).bind fun t170 => (if t170 = true then (if t156 = true then ((laws_hRows.f k2 t155 t105).bind fun t171 => (if t171 = true then (if t160 = true then (if bt161.2 = true then (if t159 = bt161.1 then (if bt163.2 = true then (if bt165.2 = true then (if bt167.2 = true then (if bt163.1 = bt167.1 then (if (wrap64 ((wrap64 (bt163.1 + bt165.1)) - t159)) = (wrap64 (Int.tdiv (wrap64 ((t102.length : Int) * (wrap64 ((t102.length : Int) - 1)))) 2)) then (laws_FnTurnsAndMirrors.j2 k2 l1) else (some false)) else (some false)) else (some false)) else (some false)) else (some false)) else (some false)) else (some false)) else (some false)) else (some false))) else (some false)) else (some false))) else (some false)) else (some false))))))) = some r := H
          have A135 := am_ A1350
          clear A1350
          replace H := Option.bind_eq_some_iff.mp H
          obtain ⟨⟨t161, t162⟩, A1360, H⟩ := H
          replace H : ((impl_InversionsOf.f k2 t102).bind fun bt163 => ((impl_InversionsOf.f k2 t113).bind fun bt165 => ((impl_InversionsOf.f k2 t121).bind fun bt167 => ((laws_hRows.f k2 x22_2 t102).bind fun t169 => (if t169 = true then (if t152 = true then ((laws_hRows.f k2 t151 t102).bind fun t170 => (if t170 = true then (if t156 = true then ((laws_hRows.f k2 t155 t105).bind fun t171 => (if t171 = true then (if t160 = true then (if t162 = true then (if t159 = t161 then (if bt163.2 = true then (if bt165.2 = true then (if bt167.2 = true then (if bt163.1 = bt167.1 then (if (wrap64 ((wrap64 (bt163.1 + bt165.1)) - t159)) = (wrap64 (Int.tdiv (wrap64 ((t102.length : Int) * (wrap64 ((t102.length : Int) - 1)))) 2)) then (laws_FnTurnsAndMirrors.j2 k2 l1) else (some false)) else (some false)) else (some false)) else (some false)) else (some false)) else (some false)) else (some false)) else (some false)) else (some false))) else (some false)) else (some false))) else (some false)) else (some false)))))) = some r := H
          have A136 := am_ A1360
          clear A1360
          replace H := Option.bind_eq_some_iff.mp H
          obtain ⟨⟨t163, t164⟩, A1370, H⟩ := H
          replace H : ((impl_InversionsOf.f k2 t113).bind fun bt165 => ((impl_InversionsOf.f k2 t121).bind fun bt167 => ((laws_hRows.f k2 x22_2 t102).bind fun t169 => (if t169 = true then (if t152 = true then ((laws_hRows.f k2 t151 t102).bind fun t170 => (if t170 = true then (if t156 = true then ((laws_hRows.f k2 t155 t105).bind fun t171 => (if t171 = true then (if t160 = true then (if t162 = true then (if t159 = t161 then (if t164 = true then (if bt165.2 = true then (if bt167.2 = true then (if t163 = bt167.1 then (if (wrap64 ((wrap64 (t163 + bt165.1)) - t159)) = (wrap64 (Int.tdiv (wrap64 ((t102.length : Int) * (wrap64 ((t102.length : Int) - 1)))) 2)) then (laws_FnTurnsAndMirrors.j2 k2 l1) else (some false)) else (some false)) else (some false)) else (some false)) else (some false)) else (some false)) else (some false)) else (some false)) else (some false))) else (some false)) else (some false))) else (some false)) else (some false))))) = some r := H
          have A137 := am_ A1370
          clear A1370
          replace H := Option.bind_eq_some_iff.mp H
          obtain ⟨⟨t165, t166⟩, A1380, H⟩ := H
          replace H : ((impl_InversionsOf.f k2 t121).bind fun bt167 => ((laws_hRows.f k2 x22_2 t102).bind fun t169 => (if t169 = true then (if t152 = true then ((laws_hRows.f k2 t151 t102).bind fun t170 => (if t170 = true then (if t156 = true then ((laws_hRows.f k2 t155 t105).bind fun t171 => (if t171 = true then (if t160 = true then (if t162 = true then (if t159 = t161 then (if t164 = true then (if t166 = true then (if bt167.2 = true then (if t163 = bt167.1 then (if (wrap64 ((wrap64 (t163 + t165)) - t159)) = (wrap64 (Int.tdiv (wrap64 ((t102.length : Int) * (wrap64 ((t102.length : Int) - 1)))) 2)) then (laws_FnTurnsAndMirrors.j2 k2 l1) else (some false)) else (some false)) else (some false)) else (some false)) else (some false)) else (some false)) else (some false)) else (some false)) else (some false))) else (some false)) else (some false))) else (some false)) else (some false)))) = some r := H
          have A138 := am_ A1380
          clear A1380
          replace H := Option.bind_eq_some_iff.mp H
          obtain ⟨⟨t167, t168⟩, A1390, H⟩ := H
          replace H : ((laws_hRows.f k2 x22_2 t102).bind fun t169 => (if t169 = true then (if t152 = true then ((laws_hRows.f k2 t151 t102).bind fun t170 => (if t170 = true then (if t156 = true then ((laws_hRows.f k2 t155 t105).bind fun t171 => (if t171 = true then (if t160 = true then (if t162 = true then (if t159 = t161 then (if t164 = true then (if t166 = true then (if t168 = true then (if t163 = t167 then (if (wrap64 ((wrap64 (t163 + t165)) - t159)) = (wrap64 (Int.tdiv (wrap64 ((t102.length : Int) * (wrap64 ((t102.length : Int) - 1)))) 2)) then (laws_FnTurnsAndMirrors.j2 k2 l1) else (some false)) else (some false)) else (some false)) else (some false)) else (some false)) else (some false)) else (some false)) else (some false)) else (some false))) else (some false)) else (some false))) else (some false)) else (some false))) = some r := H
          have A139 := am_ A1390
          clear A1390
          replace H := Option.bind_eq_some_iff.mp H
          obtain ⟨t169, A1400, H⟩ := H
          replace H : (if t169 = true then (if t152 = true then ((laws_hRows.f k2 t151 t102).bind fun t170 => (if t170 = true then (if t156 = true then ((laws_hRows.f k2 t155 t105).bind fun t171 => (if t171 = true then (if t160 = true then (if t162 = true then (if t159 = t161 then (if t164 = true then (if t166 = true then (if t168 = true then (if t163 = t167 then (if (wrap64 ((wrap64 (t163 + t165)) - t159)) = (wrap64 (Int.tdiv (wrap64 ((t102.length : Int) * (wrap64 ((t102.length : Int) - 1)))) 2)) then (laws_FnTurnsAndMirrors.j2 k2 l1) else (some false)) else (some false)) else (some false)) else (some false)) else (some false)) else (some false)) else (some false)) else (some false)) else (some false))) else (some false)) else (some false))) else (some false)) else (some false)) = some r := H
          have A140 := am_ A1400
          clear A1400
          by_cases c141 : t169 = true
          ·subst c141
           have H1 : (if t152 = true then ((laws_hRows.f k2 t151 t102).bind fun t170 => (if t170 = true then (if t156 = true then ((laws_hRows.f k2 t155 t105).bind fun t171 => (if t171 = true then (if t160 = true then (if t162 = true then (if t159 = t161 then (if t164 = true then (if t166 = true then (if t168 = true then (if t163 = t167 then (if (wrap64 ((wrap64 (t163 + t165)) - t159)) = (wrap64 (Int.tdiv (wrap64 ((t102.length : Int) * (wrap64 ((t102.length : Int) - 1)))) 2)) then (laws_FnTurnsAndMirrors.j2 k2 l1) else (some false)) else (some false)) else (some false)) else (some false)) else (some false)) else (some false)) else (some false)) else (some false)) else (some false))) else (some false)) else (some false))) else (some false)) = some r := by rw [if_pos rfl] at H; exact H
           clear H
           have H := H1
           clear H1
           by_cases c142 : t152 = true
           ·subst c142
            have H1 : ((laws_hRows.f k2 t151 t102).bind fun t170 => (if t170 = true then (if t156 = true then ((laws_hRows.f k2 t155 t105).bind fun t171 => (if t171 = true then (if t160 = true then (if t162 = true then (if t159 = t161 then (if t164 = true then (if t166 = true then (if t168 = true then (if t163 = t167 then (if (wrap64 ((wrap64 (t163 + t165)) - t159)) = (wrap64 (Int.tdiv (wrap64 ((t102.length : Int) * (wrap64 ((t102.length : Int) - 1)))) 2)) then (laws_FnTurnsAndMirrors.j2 k2 l1) else (some false)) else (some false)) else (some false)) else (some false)) else (some false)) else (some false)) else (some false)) else (some false)) else (some false))) else (some false)) else (some false))) = some r := by rw [if_pos rfl] at H; exact H
            clear H
            have H := H1
            clear H1
            replace H := Option.bind_eq_some_iff.mp H
            obtain ⟨t170, A1430, H⟩ := H
            replace H : (if t170 = true then (if t156 = true then ((laws_hRows.f k2 t155 t105).bind fun t171 => (if t171 = true then (if t160 = true then (if t162 = true then (if t159 = t161 then (if t164 = true then (if t166 = true then (if t168 = true then (if t163 = t167 then (if (wrap64 ((wrap64 (t163 + t165)) - t159)) = (wrap64 (Int.tdiv (wrap64 ((t102.length : Int) * (wrap64 ((t102.length : Int) - 1)))) 2)) then (laws_FnTurnsAndMirrors.j2 k2 l1) else (some false)) else (some false)) else (some false)) else (some false)) else (some false)) else (some false)) else (some false)) else (some false)) else (some false))) else (some false)) else (some false)) = some r := H
            have A143 := am_ A1430
            clear A1430
            by_cases c144 : t170 = true
            ·subst c144
             have H1 : (if t156 = true then ((laws_hRows.f k2 t155 t105).bind fun t171 => (if t171 = true then (if t160 = true then (if t162 = true then (if t159 = t161 then (if t164 = true then (if t166 = true then (if t168 = true then (if t163 = t167 then (if (wrap64 ((wrap64 (t163 + t165)) - t159)) = (wrap64 (Int.tdiv (wrap64 ((t102.length : Int) * (wrap64 ((t102.length : Int) - 1)))) 2)) then (laws_FnTurnsAndMirrors.j2 k2 l1) else (some false)) else (some false)) else (some false)) else (some false)) else (some false)) else (some false)) else (some false)) else (some false)) else (some false))) else (some false)) = some r := by rw [if_pos rfl] at H; exact H
             clear H
             have H := H1
             clear H1
             by_cases c145 : t156 = true
             ·subst c145
              have H1 : ((laws_hRows.f k2 t155 t105).bind fun t171 => (if t171 = true then (if t160 = true then (if t162 = true then (if t159 = t161 then (if t164 = true then (if t166 = true then (if t168 = true then (if t163 = t167 then (if (wrap64 ((wrap64 (t163 + t165)) - t159)) = (wrap64 (Int.tdiv (wrap64 ((t102.length : Int) * (wrap64 ((t102.length : Int) - 1)))) 2)) then (laws_FnTurnsAndMirrors.j2 k2 l1) else (some false)) else (some false)) else (some false)) else (some false)) else (some false)) else (some false)) else (some false)) else (some false)) else (some false))) = some r := by rw [if_pos rfl] at H; exact H
              clear H
              have H := H1
              clear H1
              replace H := Option.bind_eq_some_iff.mp H
              obtain ⟨t171, A1460, H⟩ := H
              replace H : (if t171 = true then (if t160 = true then (if t162 = true then (if t159 = t161 then (if t164 = true then (if t166 = true then (if t168 = true then (if t163 = t167 then (if (wrap64 ((wrap64 (t163 + t165)) - t159)) = (wrap64 (Int.tdiv (wrap64 ((t102.length : Int) * (wrap64 ((t102.length : Int) - 1)))) 2)) then (laws_FnTurnsAndMirrors.j2 k2 l1) else (some false)) else (some false)) else (some false)) else (some false)) else (some false)) else (some false)) else (some false)) else (some false)) else (some false)) = some r := H
              have A146 := am_ A1460
              clear A1460
              by_cases c147 : t171 = true
              ·subst c147
               have H1 : (if t160 = true then (if t162 = true then (if t159 = t161 then (if t164 = true then (if t166 = true then (if t168 = true then (if t163 = t167 then (if (wrap64 ((wrap64 (t163 + t165)) - t159)) = (wrap64 (Int.tdiv (wrap64 ((t102.length : Int) * (wrap64 ((t102.length : Int) - 1)))) 2)) then (laws_FnTurnsAndMirrors.j2 k2 l1) else (some false)) else (some false)) else (some false)) else (some false)) else (some false)) else (some false)) else (some false)) else (some false)) = some r := by rw [if_pos rfl] at H; exact H
               clear H
               have H := H1
               clear H1
               by_cases c148 : t160 = true
               ·subst c148
                have H1 : (if t162 = true then (if t159 = t161 then (if t164 = true then (if t166 = true then (if t168 = true then (if t163 = t167 then (if (wrap64 ((wrap64 (t163 + t165)) - t159)) = (wrap64 (Int.tdiv (wrap64 ((t102.length : Int) * (wrap64 ((t102.length : Int) - 1)))) 2)) then (laws_FnTurnsAndMirrors.j2 k2 l1) else (some false)) else (some false)) else (some false)) else (some false)) else (some false)) else (some false)) else (some false)) = some r := by rw [if_pos rfl] at H; exact H
                clear H
                have H := H1
                clear H1
                by_cases c149 : t162 = true
                ·subst c149
                 have H1 : (if t159 = t161 then (if t164 = true then (if t166 = true then (if t168 = true then (if t163 = t167 then (if (wrap64 ((wrap64 (t163 + t165)) - t159)) = (wrap64 (Int.tdiv (wrap64 ((t102.length : Int) * (wrap64 ((t102.length : Int) - 1)))) 2)) then (laws_FnTurnsAndMirrors.j2 k2 l1) else (some false)) else (some false)) else (some false)) else (some false)) else (some false)) else (some false)) = some r := by rw [if_pos rfl] at H; exact H
                 clear H
                 have H := H1
                 clear H1
                 by_cases c150 : t159 = t161
                 ·rw [if_pos c150] at H
                  have c150b0 : (t159 == t161) = true := beq_iff_eq.mpr c150
                  have c150b1 : (t159 != t161) = false := bne_eq_false_iff_eq.mpr c150
                  clear c150
                  by_cases c151 : t164 = true
                  ·subst c151
                   have H1 : (if t166 = true then (if t168 = true then (if t163 = t167 then (if (wrap64 ((wrap64 (t163 + t165)) - t159)) = (wrap64 (Int.tdiv (wrap64 ((t102.length : Int) * (wrap64 ((t102.length : Int) - 1)))) 2)) then (laws_FnTurnsAndMirrors.j2 k2 l1) else (some false)) else (some false)) else (some false)) else (some false)) = some r := by rw [if_pos rfl] at H; exact H
                   clear H
                   have H := H1
                   clear H1
                   by_cases c152 : t166 = true
                   ·subst c152
                    have H1 : (if t168 = true then (if t163 = t167 then (if (wrap64 ((wrap64 (t163 + t165)) - t159)) = (wrap64 (Int.tdiv (wrap64 ((t102.length : Int) * (wrap64 ((t102.length : Int) - 1)))) 2)) then (laws_FnTurnsAndMirrors.j2 k2 l1) else (some false)) else (some false)) else (some false)) = some r := by rw [if_pos rfl] at H; exact H
                    clear H
                    have H := H1
                    clear H1
                    by_cases c153 : t168 = true
                    ·subst c153
                     have H1 : (if t163 = t167 then (if (wrap64 ((wrap64 (t163 + t165)) - t159)) = (wrap64 (Int.tdiv (wrap64 ((t102.length : Int) * (wrap64 ((t102.length : Int) - 1)))) 2)) then (laws_FnTurnsAndMirrors.j2 k2 l1) else (some false)) else (some false)) = some r := by rw [if_pos rfl] at H; exact H
                     clear H
                     have H := H1
                     clear H1
                     by_cases c154 : t163 = t167
                     ·rw [if_pos c154] at H
                      have c154b0 : (t163 == t167) = true := beq_iff_eq.mpr c154
                      have c154b1 : (t163 != t167) = false := bne_eq_false_iff_eq.mpr c154
                      clear c154
                      by_cases c155 : (wrap64 ((wrap64 (t163 + t165)) - t159)) = (wrap64 (Int.tdiv (wrap64 ((t102.length : Int) * (wrap64 ((t102.length : Int) - 1)))) 2))
                      ·rw [if_pos c155] at H
                       have c155b0 : ((wrap64 ((wrap64 (t163 + t165)) - t159)) == (wrap64 (Int.tdiv (wrap64 ((t102.length : Int) * (wrap64 ((t102.length : Int) - 1)))) 2))) = true := beq_iff_eq.mpr c155
                       have c155b1 : ((wrap64 ((wrap64 (t163 + t165)) - t159)) != (wrap64 (Int.tdiv (wrap64 ((t102.length : Int) * (wrap64 ((t102.length : Int) - 1)))) 2))) = false := bne_eq_false_iff_eq.mpr c155
                       clear c155
                       have H' := am_ H
                       clear H
                       obtain ⟨Ao156, co156, eo156⟩ := Kd.N_slice HO_10.out
                       subst eo156
                       go_wp2_with (first | ((with_reducible refine gate_callee (f := 23) rfl ?_); refine goesL_ (some 190) rfl rfl Try.func23 (by kernel_rfl) rfl #[.slice Ao156 t113.length co156] rfl tc1_ ?_; (with_reducible refine (impl_MirrorMatrix.calls k2 _ _ t113 t151 true _ ?side1 ?side2 A133.out).mono ?_); (case side1 => repeat (first | exact (Kd.N_reads' HO_10.out).2.2 | (with_reducible refine Kd.C_alloc ?_ _) | (with_reducible refine Kd.C_drewN ?_ _) | (with_reducible refine Kd.C_drew ?_))); (case side2 => exact (Kd.N_reads' HO_10.out).2.1); rintro e w157 ⟨v153, rfl, ho0, hb⟩; refine ⟨_, rfl, ?_⟩; have n0_ := am_ (Kd.N_below tc28_ hb); have n1_ := am_ (Kd.N_below tc29_ hb); have n2_ := am_ (Kd.N_below tc24_ hb); have n3_ := am_ (Kd.N_below tc25_ hb); have n4_ := am_ (Kd.N_below tc26_ hb); have n5_ := am_ (Kd.N_below tc27_ hb); have n6_ := am_ (Kd.N_lower (Kd.N_mono (ok' := fun _ => True) (Kd.S_N (Kd.S_bound ho0)) (fun _ _ => trivial)) (below_size tc0_)); have n7_ := am_ (below_step tc0_ hb); clear HO_5 HO_6; clear HO_10 HO_14; clear HO_18 HO_22 HB; have HO_5 := n0_; have HO_6 := n1_; have HO_10 := n2_; have HO_14 := n3_; have HO_18 := n4_; have HO_22 := n5_; have HO154 := n6_; have HB := n7_; clear n0_ n1_ n2_ n3_ n4_ n5_ n6_ n7_; (try clear hb ho0); obtain ⟨Ao158, co158, eo158⟩ := Kd.N_slice HO_14.out; subst eo158) | ((with_reducible refine gate_callee (f := 23) rfl ?_); refine goesL_ (some 195) rfl rfl Try.func23 (by kernel_rfl) rfl #[.slice Ao158 t121.length co158] rfl tc1_ ?_; (with_reducible refine (impl_MirrorMatrix.calls k2 _ _ t121 t155 true _ ?side1 ?side2 A134.out).mono ?_); (case side1 => repeat (first | exact (Kd.N_reads' HO_14.out).2.2 | (with_reducible refine Kd.C_alloc ?_ _) | (with_reducible refine Kd.C_drewN ?_ _) | (with_reducible refine Kd.C_drew ?_))); (case side2 => exact (Kd.N_reads' HO_14.out).2.1); rintro e w159 ⟨v157, rfl, ho0, hb⟩; refine ⟨_, rfl, ?_⟩; have n0_ := am_ (Kd.N_below tc28_ hb); have n1_ := am_ (Kd.N_below tc29_ hb); have n2_ := am_ (Kd.N_below tc24_ hb); have n3_ := am_ (Kd.N_below tc25_ hb); have n4_ := am_ (Kd.N_below tc26_ hb); have n5_ := am_ (Kd.N_below tc27_ hb); have n6_ := am_ (Kd.N_below tc38_ hb); have n7_ := am_ (Kd.N_lower (Kd.N_mono (ok' := fun _ => True) (Kd.S_N (Kd.S_bound ho0)) (fun _ _ => trivial)) (below_size tc0_)); have n8_ := am_ (below_step tc0_ hb); clear HO_5 HO_6; clear HO_10 HO_14; clear HO_18 HO_22; clear HO154 HB; have HO_5 := n0_; have HO_6 := n1_; have HO_10 := n2_; have HO_14 := n3_; have HO_18 := n4_; have HO_22 := n5_; have HO154 := n6_; have HO158 := n7_; have HB := n8_; clear n0_ n1_ n2_ n3_ n4_ n5_ n6_ n7_ n8_; (try clear hb ho0)) | ((with_reducible refine gate_callee (f := 29) rfl ?_); refine goesL_ (some 200) rfl rfl Try.func29 (by kernel_rfl) rfl #[.slice Ao16 t102.length co16] rfl tc1_ ?_; (with_reducible refine (impl_MinusOnes.calls k2 _ _ t102 t159 true _ ?side1 ?side2 A135.out).mono ?_); (case side1 => exact tc36_); (case side2 => exact (Kd.N_reads' HO_5.out).2.1); rintro e w160 ⟨rfl, hb⟩; refine ⟨_, rfl, ?_⟩; have n0_ := am_ (Kd.N_below tc28_ hb); have n1_ := am_ (Kd.N_below tc29_ hb); have n2_ := am_ (Kd.N_below tc24_ hb); have n3_ := am_ (Kd.N_below tc25_ hb); have n4_ := am_ (Kd.N_below tc26_ hb); have n5_ := am_ (Kd.N_below tc27_ hb); have n6_ := am_ (Kd.N_below tc38_ hb); have n7_ := am_ (Kd.N_below tc46_ hb); have n8_ := am_ (below_step tc0_ hb); clear HO_5 HO_6; clear HO_10 HO_14; clear HO_18 HO_22; clear HO154 HO158 HB; have HO_5 := n0_; have HO_6 := n1_; have HO_10 := n2_; have HO_14 := n3_; have HO_18 := n4_; have HO_22 := n5_; have HO154 := n6_; have HO158 := n7_; have HB := n8_; clear n0_ n1_ n2_ n3_ n4_ n5_ n6_ n7_ n8_; (try clear hb); obtain ⟨Ao161, co161, eo161⟩ := Kd.N_slice HO_6.out; subst eo161) | ((with_reducible refine gate_callee (f := 29) rfl ?_); refine goesL_ (some 205) rfl rfl Try.func29 (by kernel_rfl) rfl #[.slice Ao161 t105.length co161] rfl tc1_ ?_; (with_reducible refine (impl_MinusOnes.calls k2 _ _ t105 t161 true _ ?side1 ?side2 A136.out).mono ?_); (case side1 => repeat (first | exact (Kd.N_reads' HO_6.out).2.2 | (with_reducible refine Kd.C_alloc ?_ _) | (with_reducible refine Kd.C_drewN ?_ _) | (with_reducible refine Kd.C_drew ?_))); (case side2 => exact (Kd.N_reads' HO_6.out).2.1); rintro e w162 ⟨rfl, hb⟩; refine ⟨_, rfl, ?_⟩; have n0_ := am_ (Kd.N_below tc28_ hb); have n1_ := am_ (Kd.N_below tc29_ hb); have n2_ := am_ (Kd.N_below tc24_ hb); have n3_ := am_ (Kd.N_below tc25_ hb); have n4_ := am_ (Kd.N_below tc26_ hb); have n5_ := am_ (Kd.N_below tc27_ hb); have n6_ := am_ (Kd.N_below tc38_ hb); have n7_ := am_ (Kd.N_below tc46_ hb); have n8_ := am_ (below_step tc0_ hb); clear HO_5 HO_6; clear HO_10 HO_14; clear HO_18 HO_22; clear HO154 HO158 HB; have HO_5 := n0_; have HO_6 := n1_; have HO_10 := n2_; have HO_14 := n3_; have HO_18 := n4_; have HO_22 := n5_; have HO154 := n6_; have HO158 := n7_; have HB := n8_; clear n0_ n1_ n2_ n3_ n4_ n5_ n6_ n7_ n8_; (try clear hb)) | ((with_reducible refine gate_callee (f := 30) rfl ?_); refine goesL_ (some 210) rfl rfl Try.func30 (by kernel_rfl) rfl #[.slice Ao16 t102.length co16] rfl tc1_ ?_; (with_reducible refine (impl_InversionsOf.calls k2 _ _ t102 t163 true _ ?side1 ?side2 A137.out).mono ?_); (case side1 => exact tc36_); (case side2 => exact (Kd.N_reads' HO_5.out).2.1); rintro e w163 ⟨rfl, hb⟩; refine ⟨_, rfl, ?_⟩; have n0_ := am_ (Kd.N_below tc28_ hb); have n1_ := am_ (Kd.N_below tc29_ hb); have n2_ := am_ (Kd.N_below tc24_ hb); have n3_ := am_ (Kd.N_below tc25_ hb); have n4_ := am_ (Kd.N_below tc26_ hb); have n5_ := am_ (Kd.N_below tc27_ hb); have n6_ := am_ (Kd.N_below tc38_ hb); have n7_ := am_ (Kd.N_below tc46_ hb); have n8_ := am_ (below_step tc0_ hb); clear HO_5 HO_6; clear HO_10 HO_14; clear HO_18 HO_22; clear HO154 HO158 HB; have HO_5 := n0_; have HO_6 := n1_; have HO_10 := n2_; have HO_14 := n3_; have HO_18 := n4_; have HO_22 := n5_; have HO154 := n6_; have HO158 := n7_; have HB := n8_; clear n0_ n1_ n2_ n3_ n4_ n5_ n6_ n7_ n8_; (try clear hb)) | ((with_reducible refine gate_callee (f := 30) rfl ?_); refine goesL_ (some 215) rfl rfl Try.func30 (by kernel_rfl) rfl #[.slice Ao156 t113.length co156] rfl tc1_ ?_; (with_reducible refine (impl_InversionsOf.calls k2 _ _ t113 t165 true _ ?side1 ?side2 A138.out).mono ?_); (case side1 => repeat (first | exact (Kd.N_reads' HO_10.out).2.2 | (with_reducible refine Kd.C_alloc ?_ _) | (with_reducible refine Kd.C_drewN ?_ _) | (with_reducible refine Kd.C_drew ?_))); (case side2 => exact (Kd.N_reads' HO_10.out).2.1); rintro e w164 ⟨rfl, hb⟩; refine ⟨_, rfl, ?_⟩; have n0_ := am_ (Kd.N_below tc28_ hb); have n1_ := am_ (Kd.N_below tc29_ hb); have n2_ := am_ (Kd.N_below tc24_ hb); have n3_ := am_ (Kd.N_below tc25_ hb); have n4_ := am_ (Kd.N_below tc26_ hb); have n5_ := am_ (Kd.N_below tc27_ hb); have n6_ := am_ (Kd.N_below tc38_ hb); have n7_ := am_ (Kd.N_below tc46_ hb); have n8_ := am_ (below_step tc0_ hb); clear HO_5 HO_6; clear HO_10 HO_14; clear HO_18 HO_22; clear HO154 HO158 HB; have HO_5 := n0_; have HO_6 := n1_; have HO_10 := n2_; have HO_14 := n3_; have HO_18 := n4_; have HO_22 := n5_; have HO154 := n6_; have HO158 := n7_; have HB := n8_; clear n0_ n1_ n2_ n3_ n4_ n5_ n6_ n7_ n8_; (try clear hb)) | ((with_reducible refine gate_callee (f := 30) rfl ?_); refine goesL_ (some 220) rfl rfl Try.func30 (by kernel_rfl) rfl #[.slice Ao158 t121.length co158] rfl tc1_ ?_; (with_reducible refine (impl_InversionsOf.calls k2 _ _ t121 t167 true _ ?side1 ?side2 A139.out).mono ?_); (case side1 => repeat (first | exact (Kd.N_reads' HO_14.out).2.2 | (with_reducible refine Kd.C_alloc ?_ _) | (with_reducible refine Kd.C_drewN ?_ _) | (with_reducible refine Kd.C_drew ?_))); (case side2 => exact (Kd.N_reads' HO_14.out).2.1); rintro e w165 ⟨rfl, hb⟩; refine ⟨_, rfl, ?_⟩; have n0_ := am_ (Kd.N_below tc28_ hb); have n1_ := am_ (Kd.N_below tc29_ hb); have n2_ := am_ (Kd.N_below tc24_ hb); have n3_ := am_ (Kd.N_below tc25_ hb); have n4_ := am_ (Kd.N_below tc26_ hb); have n5_ := am_ (Kd.N_below tc27_ hb); have n6_ := am_ (Kd.N_below tc38_ hb); have n7_ := am_ (Kd.N_below tc46_ hb); have n8_ := am_ (below_step tc0_ hb); clear HO_5 HO_6; clear HO_10 HO_14; clear HO_18 HO_22; clear HO154 HO158 HB; have HO_5 := n0_; have HO_6 := n1_; have HO_10 := n2_; have HO_14 := n3_; have HO_18 := n4_; have HO_22 := n5_; have HO154 := n6_; have HO158 := n7_; have HB := n8_; clear n0_ n1_ n2_ n3_ n4_ n5_ n6_ n7_ n8_; (try clear hb); obtain ⟨Ao166, co166, eo166⟩ := Kd.N_slice HO_22.out; subst eo166) | (go_at_call 17; (with_reducible refine (laws_hRows.calls k2 _ _ x22_2 _ _ t102 true _ ?side1 ?side2 ?side3 ?side4 A140.out).mono ?_); (case side1 => repeat (first | exact (Kd.N_reads' HO_22.out).2.2 | (with_reducible refine Kd.C_alloc ?_ _) | (with_reducible refine Kd.C_drewN ?_ _) | (with_reducible refine Kd.C_drew ?_))); (case side2 => exact (Kd.N_reads' HO_22.out).2.1); (case side3 => exact tc36_); (case side4 => exact (Kd.N_reads' HO_5.out).2.1); rintro e w' ⟨rfl, ⟨nd, rfl⟩⟩; obtain ⟨Ao167, co167, eo167⟩ := Kd.N_slice HO154.out; subst eo167) | (go_at_call 17; (with_reducible refine (laws_hRows.calls k2 _ _ t151 _ _ t102 true _ ?side1 ?side2 ?side3 ?side4 A143.out).mono ?_); (case side1 => repeat (first | exact (Kd.N_reads' HO154.out).2.2 | (with_reducible refine Kd.C_alloc ?_ _) | (with_reducible refine Kd.C_drewN ?_ _) | (with_reducible refine Kd.C_drew ?_))); (case side2 => exact (Kd.N_reads' HO154.out).2.1); (case side3 => exact tc36_); (case side4 => exact (Kd.N_reads' HO_5.out).2.1); rintro e w' ⟨rfl, ⟨nd, rfl⟩⟩; obtain ⟨Ao168, co168, eo168⟩ := Kd.N_slice HO158.out; subst eo168) | (go_at_call 17; (with_reducible refine (laws_hRows.calls k2 _ _ t155 _ _ t105 true _ ?side1 ?side2 ?side3 ?side4 A146.out).mono ?_); (case side1 => repeat (first | exact (Kd.N_reads' HO158.out).2.2 | (with_reducible refine Kd.C_alloc ?_ _) | (with_reducible refine Kd.C_drewN ?_ _) | (with_reducible refine Kd.C_drew ?_))); (case side2 => exact (Kd.N_reads' HO158.out).2.1); (case side3 => repeat (first | exact (Kd.N_reads' HO_6.out).2.2 | (with_reducible refine Kd.C_alloc ?_ _) | (with_reducible refine Kd.C_drewN ?_ _) | (with_reducible refine Kd.C_drew ?_))); (case side4 => exact (Kd.N_reads' HO_6.out).2.1); rintro e w' ⟨rfl, ⟨nd, rfl⟩⟩))
                       go_meet
                       case rel => exact ⟨_, H', ⟨by have := HJ13.out; have := HK2.out; first | omega | exact Nat.le_refl _⟩, ⟨by repeat (first | (with_reducible first | exact HB.out | apply below_alloc | apply pw_below_drewN | apply below_drew1) | exact HB.out)⟩⟩
                      ·rw [if_neg c155] at H
                       exact absurd (H.trans (congrArg some HR_.out)) (by simp)
                     ·rw [if_neg c154] at H
                      exact absurd (H.trans (congrArg some HR_.out)) (by simp)
                    ·replace c153 := Bool.eq_false_iff.mpr c153
                     subst c153
                     exact absurd ((show (some false : Option Bool) = some r from tc21_).trans (congrArg some HR_.out)) (by simp)
                   ·replace c152 := Bool.eq_false_iff.mpr c152
                    subst c152
                    exact absurd ((show (some false : Option Bool) = some r from tc21_).trans (congrArg some HR_.out)) (by simp)
                  ·replace c151 := Bool.eq_false_iff.mpr c151
                   subst c151
                   exact absurd ((show (some false : Option Bool) = some r from tc21_).trans (congrArg some HR_.out)) (by simp)
                 ·rw [if_neg c150] at H
                  exact absurd (H.trans (congrArg some HR_.out)) (by simp)
                ·replace c149 := Bool.eq_false_iff.mpr c149
                 subst c149
                 exact absurd ((show (some false : Option Bool) = some r from tc21_).trans (congrArg some HR_.out)) (by simp)
               ·replace c148 := Bool.eq_false_iff.mpr c148
                subst c148
                exact absurd ((show (some false : Option Bool) = some r from tc21_).trans (congrArg some HR_.out)) (by simp)
              ·replace c147 := Bool.eq_false_iff.mpr c147
               subst c147
               exact absurd ((show (some false : Option Bool) = some r from tc21_).trans (congrArg some HR_.out)) (by simp)
             ·replace c145 := Bool.eq_false_iff.mpr c145
              subst c145
              exact absurd ((show (some false : Option Bool) = some r from tc21_).trans (congrArg some HR_.out)) (by simp)
            ·replace c144 := Bool.eq_false_iff.mpr c144
             subst c144
             exact absurd ((show (some false : Option Bool) = some r from tc21_).trans (congrArg some HR_.out)) (by simp)
           ·replace c142 := Bool.eq_false_iff.mpr c142
            subst c142
            exact absurd ((show (some false : Option Bool) = some r from tc21_).trans (congrArg some HR_.out)) (by simp)
          ·replace c141 := Bool.eq_false_iff.mpr c141
           subst c141
           exact absurd ((show (some false : Option Bool) = some r from tc21_).trans (congrArg some HR_.out)) (by simp)
      ·replace c97 := Bool.eq_false_iff.mpr c97
       subst c97
       have H1 : (laws_FnTurnsAndMirrors.j2 kj13 l1) = some r := by rw [if_neg (show ¬ (false = true) by decide)] at H; exact H
       clear H
       have H := H1
       clear H1
       have H' := am_ H
       clear H
       go_wp2
       go_meet
       case rel => exact ⟨_, H', ⟨by have := HJ13.out; first | omega | exact Nat.le_refl _⟩, ⟨by repeat (first | (with_reducible first | exact HB.out | apply below_alloc | apply pw_below_drewN | apply below_drew1) | exact HB.out)⟩⟩
     case rest => as_aux_lemma =>
      clear HC96
      try clear c1
      try clear c2
      try clear p2
      try clear c3
      try clear c4
      try clear c5
      try clear c6
      try clear p6
      try clear c9
      try clear c10
      try clear c14
      try clear c15
      try clear c17
      try clear c20
      try clear c21
      try clear c22
      try clear c23
      try clear c24
      try clear c25
      try clear c25b0
      try clear c25b1
      try clear c25b2
      try clear c26
      try clear c27
      try clear c28
      try clear c28b0
      try clear c28b1
      try clear c28b2
      try clear c29
      try clear c30
      try clear c32
      try clear c33
      try clear c33b0
      try clear c33b1
      try clear c33b2
      try clear c39
      try clear c40
      try clear c40b0
      try clear c40b1
      try clear c40b2
      try clear c48
      try clear c49
      try clear c49b0
      try clear c49b1
      try clear c49b2
      try clear c58
      try clear c58b0
      try clear c58b1
      try clear c58b2
      try clear p64
      try clear c95
      try clear c97
      try clear c98
      try clear c98b0
      try clear c101
      try clear c102
      try clear c104
      try clear c106
      try clear c141
      try clear c142
      try clear c144
      try clear c145
      try clear c147
      try clear c148
      try clear c149
      try clear c150
      try clear c150b0
      try clear c150b1
      try clear c151
      try clear c152
      try clear c153
      try clear c154
      try clear c154b0
      try clear c154b1
      try clear c155
      try clear c155b0
      try clear c155b1
      try clear p2
      obtain ⟨kq, HA, HJ95, HB⟩ := hcut
      cases kq with
      | zero => exact absurd HA.out (by simp [laws_FnTurnsAndMirrors.j2])
      | succ kj95 =>
       have H := HA.out
       clear HA
       simp only [laws_FnTurnsAndMirrors.j2] at H
       replace H := Option.bind_eq_some_iff.mp H
       obtain ⟨t172, A3320, H⟩ := H
       replace H : ((impl_InversionsOf.f kj95 t172).bind fun bt175 => ((spec_InversionsOf.f kj95 t172).bind fun bt177 => ((impl_FirstColumn.f kj95 t172).bind fun bt179 => ((spec_FirstColumn.f kj95 t172).bind fun bt181 => (if (bt175.2 != bt177.2) = true then (some false) else (if bt175.1 = bt177.1 then (if (bt179.2 != bt181.2) = true then (some false) else (if bt179.1 = bt181.1 then (if bt179.2 = true then (if 0 < (t172.length : Int) then (if 0 ≤ bt179.1 then (if bt179.1 < ((rd_L3 t172 0).length : Int) then (some ((rd (rd_L3 t172 0) bt179.1) == 1)) else (none)) else (none)) else (none)) else (some true)) else (some false))) else (some false))))))) = some r := H
       have A332 := am_ A3320
       clear A3320
       replace H := Option.bind_eq_some_iff.mp H
       obtain ⟨⟨t175, t176⟩, A3330, H⟩ := H
       replace H : ((spec_InversionsOf.f kj95 t172).bind fun bt177 => ((impl_FirstColumn.f kj95 t172).bind fun bt179 => ((spec_FirstColumn.f kj95 t172).bind fun bt181 => (if (t176 != bt177.2) = true then (some false) else (if t175 = bt177.1 then (if (bt179.2 != bt181.2) = true then (some false) else (if bt179.1 = bt181.1 then (if bt179.2 = true then (if 0 < (t172.length : Int) then (if 0 ≤ bt179.1 then (if bt179.1 < ((rd_L3 t172 0).length : Int) then (some ((rd (rd_L3 t172 0) bt179.1) == 1)) else (none)) else (none)) else (none)) else (some true)) else (some false))) else (some false)))))) = some r := H
       have A333 := am_ A3330
       clear A3330
       replace H := Option.bind_eq_some_iff.mp H
       obtain ⟨⟨t177, t178⟩, A3340, H⟩ := H
       replace H : ((impl_FirstColumn.f kj95 t172).bind fun bt179 => ((spec_FirstColumn.f kj95 t172).bind fun bt181 => (if (t176 != t178) = true then (some false) else (if t175 = t177 then (if (bt179.2 != bt181.2) = true then (some false) else (if bt179.1 = bt181.1 then (if bt179.2 = true then (if 0 < (t172.length : Int) then (if 0 ≤ bt179.1 then (if bt179.1 < ((rd_L3 t172 0).length : Int) then (some ((rd (rd_L3 t172 0) bt179.1) == 1)) else (none)) else (none)) else (none)) else (some true)) else (some false))) else (some false))))) = some r := H
       have A334 := am_ A3340
       clear A3340
       replace H := Option.bind_eq_some_iff.mp H
       obtain ⟨⟨t179, t180⟩, A3350, H⟩ := H
       replace H : ((spec_FirstColumn.f kj95 t172).bind fun bt181 => (if (t176 != t178) = true then (some false) else (if t175 = t177 then (if (t180 != bt181.2) = true then (some false) else (if t179 = bt181.1 then (if t180 = true then (if 0 < (t172.length : Int) then (if 0 ≤ t179 then (if t179 < ((rd_L3 t172 0).length : Int) then (some ((rd (rd_L3 t172 0) t179) == 1)) else (none)) else (none)) else (none)) else (some true)) else (some false))) else (some false)))) = some r := H
       have A335 := am_ A3350
       clear A3350
       replace H := Option.bind_eq_some_iff.mp H
       obtain ⟨⟨t181, t182⟩, A3360, H⟩ := H
       replace H : (if (t176 != t178) = true then (some false) else (if t175 = t177 then (if (t180 != t182) = true then (some false) else (if t179 = t181 then (if t180 = true then (if 0 < (t172.length : Int) then (if 0 ≤ t179 then (if t179 < ((rd_L3 t172 0).length : Int) then (some ((rd (rd_L3 t172 0) t179) == 1)) else (none)) else (none)) else (none)) else (some true)) else (some false))) else (some false))) = some r := H
       have A336 := am_ A3360
       clear A3360
       by_cases c337 : (t176 != t178) = true
       ·rw [if_pos c337] at H
        exact absurd (H.trans (congrArg some HR_.out)) (by simp)
       ·rw [if_neg c337] at H
        have c337b0 : (t176 != t178) = false := by simpa using c337
        (try (have c337b1 : decide (t176 = t178) = true := by simpa using c337))
        (try (have c337b2 : (t176 == t178) = true := by simpa using c337))
        clear c337
        by_cases c344 : t175 = t177
        ·rw [if_pos c344] at H
         have c344b0 : (t175 == t177) = true := beq_iff_eq.mpr c344
         have c344b1 : (t175 != t177) = false := bne_eq_false_iff_eq.mpr c344
         clear c344
         by_cases c345 : (t180 != t182) = true
         ·rw [if_pos c345] at H
          exact absurd (H.trans (congrArg some HR_.out)) (by simp)
         ·rw [if_neg c345] at H
          have c345b0 : (t180 != t182) = false := by simpa using c345
          (try (have c345b1 : decide (t180 = t182) = true := by simpa using c345))
          (try (have c345b2 : (t180 == t182) = true := by simpa using c345))
          clear c345
          by_cases c352 : t179 = t181
          ·rw [if_pos c352] at H
           have c352b0 : (t179 == t181) = true := beq_iff_eq.mpr c352
           have c352b1 : (t179 != t181) = false := bne_eq_false_iff_eq.mpr c352
           clear c352
           by_cases c353 : t180 = true
           ·subst c353
            have H1 : (if 0 < (t172.length : Int) then (if 0 ≤ t179 then (if t179 < ((rd_L3 t172 0).length : Int) then (some ((rd (rd_L3 t172 0) t179) == 1)) else (none)) else (none)) else (none)) = some r := by rw [if_pos rfl] at H; exact H
            clear H
            have H := H1
            clear H1
            by_cases c354 : 0 < (t172.length : Int)
            ·rw [if_pos c354] at H
             have c354b0 : decide (0 < (t172.length : Int)) = true := decide_eq_true c354
             have c354b1 : decide (0 < t172.length) = true := decide_eq_true (by omega)
             clear c354
             by_cases c355 : 0 ≤ t179
             ·rw [if_pos c355] at H
              have c355b0 : decide (0 ≤ t179) = true := decide_eq_true c355
              clear c355
              by_cases c356 : t179 < ((rd_L3 t172 0).length : Int)
              ·rw [if_pos c356] at H
               have c356b0 : decide (t179 < ((rd_L3 t172 0).length : Int)) = true := decide_eq_true c356
               clear c356
               obtain rfl := Option.some.inj H
               go_wp2_with (first | ((with_reducible refine gate_callee (f := 31) rfl ?_); refine goesL_ (some 293) rfl rfl Try.func31 (by kernel_rfl) rfl #[.slice A1 l1.length c1] rfl tc1_ ?_; (with_reducible refine (spec_DrawInversionsOf.calls kj95 _ _ l1 t172 _ ?side1 ?side2 A332.out).mono ?_); (case side1 => repeat (first | exact (Kd.C_below HR1.out HB.out) | (with_reducible refine Kd.C_alloc ?_ _) | (with_reducible refine Kd.C_drewN ?_ _) | (with_reducible refine Kd.C_drew ?_))); (case side2 => exact HC1.out); rintro e w357 ⟨v173, rfl, ho0, hb⟩; refine ⟨_, rfl, ?_⟩; have n0_ := am_ (Kd.N_lower (Kd.N_mono (ok' := fun _ => True) (Kd.S_N (Kd.S_bound ho0)) (fun _ _ => trivial)) (below_size tc0_)); have n1_ := am_ (below_step tc0_ hb); clear HB; have HO174 := n0_; have HB := n1_; clear n0_ n1_; (try clear hb ho0); obtain ⟨Ao358, co358, eo358⟩ := Kd.N_slice HO174.out; subst eo358) | ((with_reducible refine gate_callee (f := 30) rfl ?_); refine goesL_ (some 296) rfl rfl Try.func30 (by kernel_rfl) rfl #[.slice Ao358 t172.length co358] rfl tc1_ ?_; (with_reducible refine (impl_InversionsOf.calls kj95 _ _ t172 t175 t176 _ ?side1 ?side2 A333.out).mono ?_); (case side1 => exact tc15_); (case side2 => exact tc54_); rintro e w359 ⟨rfl, hb⟩; refine ⟨_, rfl, ?_⟩; have n0_ := am_ (Kd.N_below tc32_ hb); have n1_ := am_ (below_step tc0_ hb); clear HO174 HB; have HO174 := n0_; have HB := n1_; clear n0_ n1_; (try clear hb)) | ((with_reducible refine gate_callee (f := 32) rfl ?_); refine goesL_ (some 301) rfl rfl Try.func32 (by kernel_rfl) rfl #[.slice Ao358 t172.length co358] rfl tc1_ ?_; (with_reducible refine (spec_InversionsOf.calls kj95 _ _ t172 t177 t178 _ ?side1 ?side2 A334.out).mono ?_); (case side1 => exact tc15_); (case side2 => exact tc54_); rintro e w360 ⟨rfl, hb⟩; refine ⟨_, rfl, ?_⟩; have n0_ := am_ (Kd.N_below tc32_ hb); have n1_ := am_ (below_step tc0_ hb); clear HO174 HB; have HO174 := n0_; have HB := n1_; clear n0_ n1_; (try clear hb)) | ((with_reducible refine gate_callee (f := 33) rfl ?_); refine goesL_ (some 306) rfl rfl Try.func33 (by kernel_rfl) rfl #[.slice Ao358 t172.length co358] rfl tc1_ ?_; (with_reducible refine (impl_FirstColumn.calls kj95 _ _ t172 t179 true _ ?side1 ?side2 A335.out).mono ?_); (case side1 => exact tc15_); (case side2 => exact tc54_); rintro e w361 ⟨rfl, hb⟩; refine ⟨_, rfl, ?_⟩; have n0_ := am_ (Kd.N_below tc32_ hb); have n1_ := am_ (below_step tc0_ hb); clear HO174 HB; have HO174 := n0_; have HB := n1_; clear n0_ n1_; (try clear hb)) | ((with_reducible refine gate_callee (f := 34) rfl ?_); refine goesL_ (some 311) rfl rfl Try.func34 (by kernel_rfl) rfl #[.slice Ao358 t172.length co358] rfl tc1_ ?_; (with_reducible refine (spec_FirstColumn.calls kj95 _ _ t172 t181 t182 _ ?side1 ?side2 A336.out).mono ?_); (case side1 => exact tc15_); (case side2 => exact tc54_); rintro e w362 ⟨rfl, hb⟩; refine ⟨_, rfl, ?_⟩; have n0_ := am_ (Kd.N_below tc32_ hb); have n1_ := am_ (below_step tc0_ hb); clear HO174 HB; have HO174 := n0_; have HB := n1_; clear n0_ n1_; (try clear hb); have p183 : 0 ≤ (0 : Int) := (by omega); have q183 : 0 < (t172.length : Int) := of_decide_eq_true tc2_; obtain ⟨ad183, A183_0, c183_0, e183, hx183_0, hl183_0, hi183_0⟩ := at_L3 (Kd.N_reads' HO174.out).2.2 0 p183 q183; cases e183; obtain ⟨ce183, hce183, hMe183, hcc183⟩ := Kd.N_get HO174.out [] 0 p183 (by first | exact q183 | exact of_decide_eq_true tc2_ | (have e_ := (Kd.N_reads' HO174.out).1; omega)); obtain ⟨ua183_0, uc183_0, rfl, ul183_0, ge183_0⟩ := Kd.FK_slice_open hMe183; have hv183_0 := hcc183 0 _ rfl; rw [Nat.add_zero, show ((Kd.slice 3 (Kd.int .i64))).sz = 1 from rfl, Nat.mul_one] at hv183_0; replace hv183_0 := Option.some.inj (hv183_0.symm.trans hx183_0); injection hv183_0 with hva_ hvn_ hvc_; rw [hva_] at ge183_0; rw [hvc_] at ul183_0; have HL183_0 := am_ (show Kd.V (Kd.int .i64) 3 _ w.heap.size _ _ (rd_L3 t172 0) from Kd.V_mk ul183_0 ge183_0); clear hva_ hvn_ hvc_ ge183_0 ul183_0; clear hcc183 hce183; have qi183 : (0 < t172.length) = True := eq_true (by omega); (try rw [show ((0 : Int)).toNat = 0 from rfl] at hx183_0); (try rw [Addr.add_zero'] at hx183_0); have HR183_0 := am_ hi183_0; have HC183_0 := am_ hl183_0; clear hi183_0 hl183_0; replace p183 := eq_true p183; replace q183 := eq_true q183; have p184 : 0 ≤ (t179 : Int) := of_decide_eq_true tc2_; have q184 : t179 < ((rd_L3 t172 0).length : Int) := of_decide_eq_true tc2_; obtain ⟨ad184, e184, hx184_0⟩ := Kd.at_int (by repeat (first | (with_reducible exact HR183_0.out) | (with_reducible refine Kd.C_alloc ?_ _) | (with_reducible refine Kd.C_drewN ?_ _) | (with_reducible refine Kd.C_drew ?_) | exact HR183_0.out)) t179 p184 q184; cases e184; replace p184 := eq_true p184; replace q184 := eq_true q184))
               go_ret
               exact ⟨by first | rfl | (simp [errW_none, errW_some] <;> rfl) | (simp [*, errW_none, errW_some] <;> rfl), by repeat (first | (with_reducible first | exact HB.out | apply below_alloc | apply pw_below_drewN | apply below_drew1) | exact HB.out)⟩
              ·rw [if_neg c356] at H
               exact absurd H (by simp)
             ·rw [if_neg c355] at H
              exact absurd H (by simp)
            ·rw [if_neg c354] at H
             exact absurd H (by simp)
           ·replace c353 := Bool.eq_false_iff.mpr c353
            subst c353
            have H1 : (some true) = some r := by rw [if_neg (show ¬ (false = true) by decide)] at H; exact H
            clear H
            have H := H1
            clear H1
            obtain rfl := Option.some.inj H
            go_wp2_with (first | ((with_reducible refine gate_callee (f := 31) rfl ?_); refine goesL_ (some 293) rfl rfl Try.func31 (by kernel_rfl) rfl #[.slice A1 l1.length c1] rfl tc1_ ?_; (with_reducible refine (spec_DrawInversionsOf.calls kj95 _ _ l1 t172 _ ?side1 ?side2 A332.out).mono ?_); (case side1 => repeat (first | exact (Kd.C_below HR1.out HB.out) | (with_reducible refine Kd.C_alloc ?_ _) | (with_reducible refine Kd.C_drewN ?_ _) | (with_reducible refine Kd.C_drew ?_))); (case side2 => exact HC1.out); rintro e w363 ⟨v173, rfl, ho0, hb⟩; refine ⟨_, rfl, ?_⟩; have n0_ := am_ (Kd.N_lower (Kd.N_mono (ok' := fun _ => True) (Kd.S_N (Kd.S_bound ho0)) (fun _ _ => trivial)) (below_size tc0_)); have n1_ := am_ (below_step tc0_ hb); clear HB; have HO174 := n0_; have HB := n1_; clear n0_ n1_; (try clear hb ho0); obtain ⟨Ao364, co364, eo364⟩ := Kd.N_slice HO174.out; subst eo364) | ((with_reducible refine gate_callee (f := 30) rfl ?_); refine goesL_ (some 296) rfl rfl Try.func30 (by kernel_rfl) rfl #[.slice Ao364 t172.length co364] rfl tc1_ ?_; (with_reducible refine (impl_InversionsOf.calls kj95 _ _ t172 t175 t176 _ ?side1 ?side2 A333.out).mono ?_); (case side1 => exact tc15_); (case side2 => exact tc54_); rintro e w365 ⟨rfl, hb⟩; refine ⟨_, rfl, ?_⟩; have n0_ := am_ (Kd.N_below tc32_ hb); have n1_ := am_ (below_step tc0_ hb); clear HO174 HB; have HO174 := n0_; have HB := n1_; clear n0_ n1_; (try clear hb)) | ((with_reducible refine gate_callee (f := 32) rfl ?_); refine goesL_ (some 301) rfl rfl Try.func32 (by kernel_rfl) rfl #[.slice Ao364 t172.length co364] rfl tc1_ ?_; (with_reducible refine (spec_InversionsOf.calls kj95 _ _ t172 t177 t178 _ ?side1 ?side2 A334.out).mono ?_); (case side1 => exact tc15_); (case side2 => exact tc54_); rintro e w366 ⟨rfl, hb⟩; refine ⟨_, rfl, ?_⟩; have n0_ := am_ (Kd.N_below tc32_ hb); have n1_ := am_ (below_step tc0_ hb); clear HO174 HB; have HO174 := n0_; have HB := n1_; clear n0_ n1_; (try clear hb)) | ((with_reducible refine gate_callee (f := 33) rfl ?_); refine goesL_ (some 306) rfl rfl Try.func33 (by kernel_rfl) rfl #[.slice Ao364 t172.length co364] rfl tc1_ ?_; (with_reducible refine (impl_FirstColumn.calls kj95 _ _ t172 t179 false _ ?side1 ?side2 A335.out).mono ?_); (case side1 => exact tc15_); (case side2 => exact tc54_); rintro e w367 ⟨rfl, hb⟩; refine ⟨_, rfl, ?_⟩; have n0_ := am_ (Kd.N_below tc32_ hb); have n1_ := am_ (below_step tc0_ hb); clear HO174 HB; have HO174 := n0_; have HB := n1_; clear n0_ n1_; (try clear hb)) | ((with_reducible refine gate_callee (f := 34) rfl ?_); refine goesL_ (some 311) rfl rfl Try.func34 (by kernel_rfl) rfl #[.slice Ao364 t172.length co364] rfl tc1_ ?_; (with_reducible refine (spec_FirstColumn.calls kj95 _ _ t172 t181 t182 _ ?side1 ?side2 A336.out).mono ?_); (case side1 => exact tc15_); (case side2 => exact tc54_); rintro e w368 ⟨rfl, hb⟩; refine ⟨_, rfl, ?_⟩; have n0_ := am_ (Kd.N_below tc32_ hb); have n1_ := am_ (below_step tc0_ hb); clear HO174 HB; have HO174 := n0_; have HB := n1_; clear n0_ n1_; (try clear hb)))
            go_ret
            exact ⟨by first | rfl | (simp [errW_none, errW_some] <;> rfl) | (simp [*, errW_none, errW_some] <;> rfl), by repeat (first | (with_reducible first | exact HB.out | apply below_alloc | apply pw_below_drewN | apply below_drew1) | exact HB.out)⟩
          ·rw [if_neg c352] at H
           exact absurd (H.trans (congrArg some HR_.out)) (by simp)
        ·rw [if_neg c344] at H
         exact absurd (H.trans (congrArg some HR_.out)) (by simp)
/-- THE ONE PURE STATEMENT of laws_FnTurnsAndMirrors: yours. -/

def laws_FnTurnsAndMirrors.Pure : Prop := ∀ (l0 : List Int) (l1 : List Int), l0.length ≤ maxLen → l0.length * 1 ≤ 140737488351232 → (∀ x ∈ l0, (Lit.int .u8 x).wf = true) → l1.length ≤ maxLen → l1.length * 1 ≤ 140737488351232 → (∀ x ∈ l1, (Lit.int .u8 x).wf = true) → ∃ k, laws_FnTurnsAndMirrors.f k l0 l1 = some true
theorem laws_FnTurnsAndMirrors.walk (P : laws_FnTurnsAndMirrors.Pure) (a0 : Option Addr) (len0 cap0 : Nat) (z0 : List Int) (a1 : Option Addr) (len1 cap1 : Nat) (z1 : List Int) (w : World) (w0 : (a0 = none ∧ len0 = 0 ∧ cap0 = 0 ∧ z0 = []) ∨ ∃ x, a0 = some x ∧ len0 ≤ cap0 ∧ cap0 ≤ maxLen ∧ z0.length = cap0 ∧ (∀ i, i < z0.length → w.cell? (x.add i) = some (.int .u8 (z0.getD i 0))) ∧ ∀ n ∈ z0, (Lit.int .u8 n).wf = true) (y0 : len0 * 1 ≤ 140737488351232) (w1 : (a1 = none ∧ len1 = 0 ∧ cap1 = 0 ∧ z1 = []) ∨ ∃ x, a1 = some x ∧ len1 ≤ cap1 ∧ cap1 ≤ maxLen ∧ z1.length = cap1 ∧ (∀ i, i < z1.length → w.cell? (x.add i) = some (.int .u8 (z1.getD i 0))) ∧ ∀ n ∈ z1, (Lit.int .u8 n).wf = true) (y1 : len1 * 1 ≤ 140737488351232) :
  Calls Try.prog 4 #[.slice a0 len0 cap0, .slice a1 len1 cap1] w fun e w' => e = .returned (.bool true) ∧ Below w.heap.size w w' := by
 obtain ⟨l0, rfl, hr0, hm0, hw0, hc0⟩ := ReadsInt.ofRowC w0
 obtain ⟨l1, rfl, hr1, hm1, hw1, hc1⟩ := ReadsInt.ofRowC w1
 obtain ⟨k, h⟩ := P l0 l1 hm0 y0 hw0 hm1 y1 hw1
 refine (laws_FnTurnsAndMirrors.calls k _ _ l0 _ _ l1 true w rfl (Kd.C_of_reads (d := (0 : Int)) (h1 := fun _ => rfl) hr0) hc0 (Kd.C_of_reads (d := (0 : Int)) (h1 := fun _ => rfl) hr1) hc1 h).mono ?_
 rintro e w' ⟨rfl, hd⟩
 exact ⟨rfl, hd⟩

end Go.Proofs.Ytiajdpjfofbpnaa.X
