-- Written by a program of this session (wip/xprint.py) that drives the kit's print; the contracts of what it does not take are this session's own.
import Derived.Test.YtgpmlfggfhkifaaCFnFlipsx0
import Derived.Test.YtgpmlfggfhkifaaCFnFlipsx1
import Derived.Test.YtgpmlfggfhkifaaCFnFlipsx2
import Derived.Test.YtgpmlfggfhkifaaCFnFlipsx3
import Derived.Test.YtgpmlfggfhkifaaCFnFlipsx4
import Derived.Test.YtgpmlfggfhkifaaCFnFlipsx5
namespace Go.Proofs.Ytgpmlfggfhkifaa.X
open Go.RowKit Go.Proofs.YtgpmlfggfhkifaaW.PrintWords Go.Proofs.YtgpmlfggfhkifaaW.PrintLast Go.Proofs.YtgpmlfggfhkifaaW.PrintMore
attribute [local go_sem] max2_int min2_int max_two min_two max_three min_three max_four min_four   -- for this text's walks alone
set_option linter.unusedVariables false
set_option linter.unusedSimpArgs false

/-! ### slices_Compare_int_int: function 113 -/
def slices_Compare_int_int.l0 : Nat → List Int → List Int → List Int → Int → Int → Option (Int)
 | 0, _, _, _, _, _ => none
 | k + 1, x0, x1, x9, x10, x11 => if x11 < x10 then (if 0 ≤ x11 then (if x11 < (x9.length : Int) then (if x11 ≥ (x1.length : Int) then (some 1) else (if x11 < (x1.length : Int) then ((cmp_Compare_int.f (rd x9 x11) (rd x1 x11)).bind fun t103 => (if t103 = 0 then (slices_Compare_int_int.l0 k x0 x1 x9 x10 (wrap64 (x11 + 1))) else (some t103))) else (none))) else (none)) else (none)) else (if (x0.length : Int) < (x1.length : Int) then (some (-1)) else (some 0))
def slices_Compare_int_int.f (k : Nat) (l0 : List Int) (l1 : List Int) : Option (Int) := slices_Compare_int_int.l0 k l0 l1 l0 (l0.length : Int) 0
theorem slices_Compare_int_int.mono_l : ∀ k, (∀ y0 y1 y2 y3 y4, LeO (slices_Compare_int_int.l0 k y0 y1 y2 y3 y4) (slices_Compare_int_int.l0 (k + 1) y0 y1 y2 y3 y4))
 | 0 => fun _ _ _ _ _ r h => by simp [slices_Compare_int_int.l0] at h
 | k + 1 => by
  have ih0 := slices_Compare_int_int.mono_l k
  ·intro y0 y1 y2 y3 y4; unfold slices_Compare_int_int.l0
   repeat' first
   | (with_reducible exact ih0 _ _ _ _ _)
   | (with_reducible exact LeO.refl _)
   | (with_reducible exact LeO.none _)
   | (with_reducible refine LeO.ite ?_ ?_)
   | (with_reducible refine LeO.bind ?_ (fun _ => ?_))
   | exact ih0 _ _ _ _ _
   | exact LeO.none _
   | refine LeO.ite ?_ ?_
   | refine LeO.bind ?_ (fun _ => ?_)
theorem slices_Compare_int_int.mono : ∀ a0 a1  k, LeO (slices_Compare_int_int.f k a0 a1) (slices_Compare_int_int.f (k + 1) a0 a1) := by
 intro a0 a1 k; have ih0 := slices_Compare_int_int.mono_l k; unfold slices_Compare_int_int.f
 repeat' first
   | (with_reducible exact ih0 _ _ _ _ _)
   | (with_reducible exact LeO.refl _)
   | (with_reducible exact LeO.none _)
   | (with_reducible refine LeO.ite ?_ ?_)
   | (with_reducible refine LeO.bind ?_ (fun _ => ?_))
   | exact ih0 _ _ _ _ _
   | exact LeO.none _
   | refine LeO.ite ?_ ?_
   | refine LeO.bind ?_ (fun _ => ?_)
set_option maxHeartbeats 8000000 in
set_option maxRecDepth 100000 in
theorem slices_Compare_int_int.calls (k : Nat) (A0 : Option Addr) (c0 : Nat) (l0 : List Int) (A1 : Option Addr) (c1 : Nat) (l1 : List Int) (r : Int) (w : World) (hr0 : Kd.C (Kd.int .i64) w A0 l0.length l0) (hc0 : l0.length ≤ c0) (hr1 : Kd.C (Kd.int .i64) w A1 l1.length l1) (hc1 : l1.length ≤ c1) (h : slices_Compare_int_int.f k l0 l1 = some r) :
  Calls Try.prog 113 #[.slice A0 l0.length c0, .slice A1 l1.length c1] w fun e w' => e = .returned (.int .i64 r) ∧ Drawn0 w w' := by
 have HR0 := am_ hr0; have HC0 := am_ hc0; clear hr0 hc0; have HR1 := am_ hr1; have HC1 := am_ hc1; clear hr1 hc1; have H : (slices_Compare_int_int.l0 k l0 l1 l0 (l0.length : Int) 0) = some r := h; clear h; have H' := am_ H; clear H; go_enter Try.func113, Try.ntmps113; go_wp2
 go_loopg [11] k (fun kq v11 w' => ∃ (x11_1 : Int), v11 = .int .i64 x11_1 ∧ Aside0 (slices_Compare_int_int.l0 kq l0 l1 l0 (l0.length : Int) x11_1 = some r) ∧ Aside0 (kq ≤ k) ∧ Drawn0 w w')
 case atStart => exact ⟨(0), tc6_, H', ⟨Nat.le_refl _⟩, tc11_⟩
 case round =>
  clear H'; (try clear c1); (try clear p2); obtain ⟨x11_1, rfl, HA, HK1, ⟨m1, rfl⟩⟩ := hrel
  cases gk with
  | zero => exact absurd HA.out (by simp [slices_Compare_int_int.l0])
  | succ k1 =>
   have H := HA.out; clear HA; simp only [slices_Compare_int_int.l0] at H
   replace H := sp_ H; obtain ⟨c3b0, H⟩ | ⟨c3b0, H⟩ := H
   ·replace H := ps_ H; obtain ⟨c4b0, H⟩ := H; replace H := ps_ H; obtain ⟨c5b0, H⟩ := H
    replace H := pn_ H; obtain ⟨c6, H⟩ | ⟨c6, H⟩ := H
    ·have c6b0 : decide ((l1.length : Int) ≤ x11_1) = true := decide_eq_true c6; clear c6; obtain rfl := Option.some.inj H; have p101 : 0 ≤ (x11_1 : Int) := od_; have q101 : x11_1 < (l0.length : Int) := od_; obtain ⟨ad101, e101, hx101_0⟩ := Kd.at_int HR0.out x11_1 p101 q101; cases e101; replace p101 := eq_true p101; replace q101 := eq_true q101; go_wp2
     go_ret
     exact ⟨tc6_, tc11_⟩
    ·have c6b0 : decide ((l1.length : Int) ≤ x11_1) = false := decide_eq_false c6; clear c6; replace H := ps_ H; obtain ⟨c7b0, H⟩ := H; replace H := bd_ H; obtain ⟨t103, A8, H⟩ := H; (try dsimp only at H)
     replace H := pn_ H; obtain ⟨c9, H⟩ | ⟨c9, H⟩ := H
     ·have c9b0 : (t103 == 0) = true := beq_iff_eq.mpr c9; have c9b1 : (t103 != 0) = false := bne_eq_false_iff_eq.mpr c9; clear c9; have H' := am_ H; clear H; have p101 : 0 ≤ (x11_1 : Int) := od_; have q101 : x11_1 < (l0.length : Int) := od_; obtain ⟨ad101, e101, hx101_0⟩ := Kd.at_int HR0.out x11_1 p101 q101; cases e101; replace p101 := eq_true p101; replace q101 := eq_true q101; have p102 : 0 ≤ (x11_1 : Int) := od_; have q102 : x11_1 < (l1.length : Int) := od_; obtain ⟨ad102, e102, hx102_0⟩ := Kd.at_int HR1.out x11_1 p102 q102; cases e102; replace p102 := eq_true p102; replace q102 := eq_true q102
      go_wp2_with (first | ((with_reducible refine gate_callee (f := 118) rfl ?_); refine goesL_ (some 26) rfl rfl Try.func118 (by kernel_rfl) rfl #[.int .i64 (rd l0 x11_1), .int .i64 (rd l1 x11_1)] rfl tc1_ ?_; (with_reducible refine (cmp_Compare_int.calls (rd l0 x11_1) (rd l1 x11_1) t103 _ A8.out).mono ?_); rintro e w' ⟨rfl, ⟨nd, rfl⟩⟩; refine ⟨_, rfl, ?_⟩))
      go_roundg k1
      case measure => have := HK1.out; omega
      case rel => exact ⟨(wrap64 (x11_1 + 1)), tc6_, H', ⟨tc119_⟩, tc11_⟩
     ·have c9b0 : (t103 == 0) = false := beq_eq_false_iff_ne.mpr c9; have c9b1 : (t103 != 0) = true := bne_iff_ne.mpr c9; obtain rfl := Option.some.inj H; have p101 : 0 ≤ (x11_1 : Int) := od_; have q101 : x11_1 < (l0.length : Int) := od_; obtain ⟨ad101, e101, hx101_0⟩ := Kd.at_int HR0.out x11_1 p101 q101; cases e101; replace p101 := eq_true p101; replace q101 := eq_true q101; have p102 : 0 ≤ (x11_1 : Int) := od_; have q102 : x11_1 < (l1.length : Int) := od_; obtain ⟨ad102, e102, hx102_0⟩ := Kd.at_int HR1.out x11_1 p102 q102; cases e102; replace p102 := eq_true p102; replace q102 := eq_true q102
      go_wp2_with (first | ((with_reducible refine gate_callee (f := 118) rfl ?_); refine goesL_ (some 26) rfl rfl Try.func118 (by kernel_rfl) rfl #[.int .i64 (rd l0 x11_1), .int .i64 (rd l1 x11_1)] rfl tc1_ ?_; (with_reducible refine (cmp_Compare_int.calls (rd l0 x11_1) (rd l1 x11_1) t103 _ A8.out).mono ?_); rintro e w' ⟨rfl, ⟨nd, rfl⟩⟩; refine ⟨_, rfl, ?_⟩))
      go_ret
      exact ⟨tc6_, tc11_⟩
   ·replace H := pn_ H; obtain ⟨c10, H⟩ | ⟨c10, H⟩ := H
    ·have c10b0 : decide ((l0.length : Int) < (l1.length : Int)) = true := decide_eq_true c10; have c10b1 : decide (l0.length < l1.length) = true := decide_eq_true (Int.ofNat_lt.mp c10); clear c10; obtain rfl := Option.some.inj H; go_wp2
     go_ret
     exact ⟨tc6_, tc11_⟩
    ·have c10b0 : decide ((l0.length : Int) < (l1.length : Int)) = false := decide_eq_false c10; have c10b1 : decide (l0.length < l1.length) = false := decide_eq_false (fun h => c10 (Int.ofNat_lt.mpr h)); clear c10; obtain rfl := Option.some.inj H; go_wp2
     go_ret
     exact ⟨tc6_, tc11_⟩

/-! ### impl_compareTables_1: function 112 -/
def impl_compareTables_1.f (k : Nat) (l0 : List Int) (l1 : List Int) : Option (Int) := (slices_Compare_int_int.f k l0 l1).bind fun t101 => (some t101)
theorem impl_compareTables_1.mono : ∀ a0 a1  k, LeO (impl_compareTables_1.f k a0 a1) (impl_compareTables_1.f (k + 1) a0 a1) := by
 intro a0 a1 k; unfold impl_compareTables_1.f
 repeat' first
   | (with_reducible exact slices_Compare_int_int.mono _ _ _)
   | (with_reducible exact LeO.refl _)
   | (with_reducible exact LeO.none _)
   | (with_reducible refine LeO.ite ?_ ?_)
   | (with_reducible refine LeO.bind ?_ (fun _ => ?_))
   | exact slices_Compare_int_int.mono _ _ _
   | exact LeO.none _
   | refine LeO.ite ?_ ?_
   | refine LeO.bind ?_ (fun _ => ?_)
set_option maxHeartbeats 8000000 in
set_option maxRecDepth 100000 in
theorem impl_compareTables_1.calls (k : Nat) (A0 : Option Addr) (c0 : Nat) (l0 : List Int) (A1 : Option Addr) (c1 : Nat) (l1 : List Int) (r : Int) (w : World) (hr0 : Kd.C (Kd.int .i64) w A0 l0.length l0) (hc0 : l0.length ≤ c0) (hr1 : Kd.C (Kd.int .i64) w A1 l1.length l1) (hc1 : l1.length ≤ c1) (h : impl_compareTables_1.f k l0 l1 = some r) :
  Calls Try.prog 112 #[.slice A0 l0.length c0, .slice A1 l1.length c1] w fun e w' => e = .returned (.int .i64 r) ∧ Drawn0 w w' := by
 have HR0 := am_ hr0; have HC0 := am_ hc0; clear hr0 hc0; have HR1 := am_ hr1; have HC1 := am_ hc1; clear hr1 hc1; have H : ((slices_Compare_int_int.f k l0 l1).bind fun t101 => (some t101)) = some r := h; clear h; replace H := bd_ H; obtain ⟨t101, A3, H⟩ := H; (try dsimp only at H); obtain rfl := Option.some.inj H; go_enter Try.func112, Try.ntmps112
 go_wp2_with (first | ((with_reducible refine gate_callee (f := 113) rfl ?_); refine goesL_ (some 7) rfl rfl Try.func113 (by kernel_rfl) rfl #[.slice A0 l0.length c0, .slice A1 l1.length c1] rfl tc1_ ?_; (with_reducible refine (slices_Compare_int_int.calls k _ _ l0 _ _ l1 t101 _ ?side1 ?side2 ?side3 ?side4 A3.out).mono ?_); (case side1 => exact tc10_); (case side2 => exact HC0.out); (case side3 => exact tc33_); (case side4 => exact HC1.out); rintro e w' ⟨rfl, ⟨nd, rfl⟩⟩; refine ⟨_, rfl, ?_⟩))
 go_ret
 exact ⟨tc6_, tc11_⟩

/-! ### impl_compareTables: function 73 -/
def impl_compareTables.f (k : Nat) (l0 : List (List Int)) (l1 : List (List Int)) : Option (Int) := (slices_CompareFunc_int_int_int_int.f k l0 l1 (fun x0_ x1_ => impl_compareTables_1.f k x0_ x1_)).bind fun t101 => (some t101)
theorem impl_compareTables.mono : ∀ a0 a1  k, LeO (impl_compareTables.f k a0 a1) (impl_compareTables.f (k + 1) a0 a1) := by
 intro a0 a1 k; unfold impl_compareTables.f
 repeat' first
   | (with_reducible exact impl_compareTables_1.mono _ _ _)
   | (with_reducible refine slices_CompareFunc_int_int_int_int.mono _ _ _ _ (fun _ _ => ?_) _)
   | (with_reducible exact LeO.refl _)
   | (with_reducible exact LeO.none _)
   | (with_reducible refine LeO.ite ?_ ?_)
   | (with_reducible refine LeO.bind ?_ (fun _ => ?_))
   | exact impl_compareTables_1.mono _ _ _
   | exact LeO.none _
   | refine LeO.ite ?_ ?_
   | refine LeO.bind ?_ (fun _ => ?_)
set_option maxHeartbeats 8000000 in
set_option maxRecDepth 100000 in
theorem impl_compareTables.calls (k : Nat) (A0 : Option Addr) (c0 : Nat) (l0 : List (List Int)) (A1 : Option Addr) (c1 : Nat) (l1 : List (List Int)) (r : Int) (w : World) (hr0 : Kd.C (Kd.slice 3 (Kd.int .i64)) w A0 l0.length l0) (hc0 : l0.length ≤ c0) (hr1 : Kd.C (Kd.slice 3 (Kd.int .i64)) w A1 l1.length l1) (hc1 : l1.length ≤ c1) (h : impl_compareTables.f k l0 l1 = some r) :
  Calls Try.prog 73 #[.slice A0 l0.length c0, .slice A1 l1.length c1] w fun e w' => e = .returned (.int .i64 r) ∧ Below w.heap.size w w' := by
 have HR0 := am_ hr0; have HC0 := am_ hc0; clear hr0 hc0; have HR1 := am_ hr1; have HC1 := am_ hc1; clear hr1 hc1; have HB := am_ (Below.refl w.heap.size w); have H : ((slices_CompareFunc_int_int_int_int.f k l0 l1 (fun x0_ x1_ => impl_compareTables_1.f k x0_ x1_)).bind fun t101 => (some t101)) = some r := h; clear h; replace H := bd_ H; obtain ⟨t101, A3, H⟩ := H; (try dsimp only at H); obtain rfl := Option.some.inj H; go_enter Try.func73, Try.ntmps73
 go_wp2_with (first | ((with_reducible refine gate_callee (f := 111) rfl ?_); refine goesL_ (some 7) rfl rfl Try.func111 (by kernel_rfl) rfl #[.slice A0 l0.length c0, .slice A1 l1.length c1, .func (.func 112) #[] #[]] rfl tc1_ ?_; (with_reducible refine (slices_CompareFunc_int_int_int_int.calls k _ _ l0 _ _ l1 _ _ (fun x0_ x1_ => impl_compareTables_1.f k x0_ x1_) t101 _ ?side1 ?side2 ?side3 ?side4 ?side5 A3.out).mono ?_); (case side1 => exact tc10_); (case side2 => exact HC0.out); (case side3 => exact tc33_); (case side4 => exact HC1.out); (case side5 => refine ⟨enters_of Try.func112 (by kernel_rfl) rfl, fun W_ hW_ x0_ v0_ hK0_ x1_ v1_ hK1_ r_ hr_ => ?_⟩; obtain ⟨A0_, c0_, e0_, hl0_, hC0_⟩ := hK0_; cases e0_; obtain ⟨A1_, c1_, e1_, hl1_, hC1_⟩ := hK1_; cases e1_; refine (impl_compareTables_1.calls k A0_ c0_ x0_ A1_ c1_ x1_ r_ W_ hC0_ hl0_ hC1_ hl1_ hr_).mono ?_; exact fun _ _ h_ => ⟨h_.1, h_.2.below⟩); rintro e w4 ⟨rfl, hb⟩; refine ⟨_, rfl, ?_⟩; replace HB := am_ (below_step tc0_ hb); (try clear hb)))
 go_ret
 exact ⟨tc8_, tc0_⟩

/-! ### impl_FlipPath_1: function 74 -/
def impl_FlipPath_1.f (k : Nat) (a0 : Int) (a1 : Int) (l2_0 : List (List Int)) (l3_0 : List (List Int)) : Option (Bool) := if 0 ≤ a0 then (if a0 < (l2_0.length : Int) then (if 0 ≤ a1 then (if a1 < ((rd_L3 l2_0 a0).length : Int) then (if a0 < (l3_0.length : Int) then (if a1 < ((rd_L3 l3_0 a0).length : Int) then (if (rd (rd_L3 l2_0 a0) a1) < (rd (rd_L3 l3_0 a0) a1) then ((impl_way.f k l2_0 a0 a1).bind fun t105 => (some (decide (t105 > 0)))) else (some false)) else (none)) else (none)) else (none)) else (none)) else (none)) else (none)
theorem impl_FlipPath_1.mono : ∀ a0 a1 a2 a3  k, LeO (impl_FlipPath_1.f k a0 a1 a2 a3) (impl_FlipPath_1.f (k + 1) a0 a1 a2 a3) := by
 intro a0 a1 a2 a3 k; unfold impl_FlipPath_1.f
 repeat' first
   | (with_reducible exact impl_way.mono _ _ _ _)
   | (with_reducible exact LeO.refl _)
   | (with_reducible exact LeO.none _)
   | (with_reducible refine LeO.ite ?_ ?_)
   | (with_reducible refine LeO.bind ?_ (fun _ => ?_))
   | exact impl_way.mono _ _ _ _
   | exact LeO.none _
   | refine LeO.ite ?_ ?_
   | refine LeO.bind ?_ (fun _ => ?_)
def impl_FlipPath_1.T1 : Bool × List (List Nat × List Nat) := (true, [([], []), ([], []), ([0, 1], [0, 1]), ([2], [2]), ([], []), ([3, 4], [3, 4]), ([5], [5]), ([], []), ([], []), ([7, 8], [7, 8]), ([9], [9]), ([], []), ([10, 11], [10, 11]), ([12], [12]), ([6, 13], [6, 13]), ([14], [14]), ([15], [15]), ([15], [15]), ([15], [15]), ([16, 17, 18, 15, 15], [15, 16, 17, 18]), ([19, 15], [15, 19]), ([15, 20], [15, 20]), ([21, 19, 0, 1, 2, 3, 4, 5, 6, 7, 8, 9, 10, 11, 12, 13, 14, 15, 16, 17, 18, 19, 20, 21], [21])])
def impl_FlipPath_1.B1 : List Nat := [0, 0, 3, 7, 0, 31, 63, 0, 0, 384, 896, 0, 3968, 8064, 16383, 32767, 65535, 65535, 65535, 524287, 1048575, 2097151, 4194303]
theorem impl_FlipPath_1.tab1 : rtab .any (opsOf Try.f74 1) = impl_FlipPath_1.T1 := by kernel_rfl
theorem impl_FlipPath_1.bits1 : waitsOk impl_FlipPath_1.T1.2 impl_FlipPath_1.B1 = true := by kernel_rfl
set_option maxHeartbeats 8000000 in
set_option maxRecDepth 100000 in
theorem impl_FlipPath_1.calls (k : Nat) (a0 : Int) (a1 : Int) (B2 : Nat) (A2_0 : Option Addr) (c2_0 : Nat) (l2_0 : List (List Int)) (B3 : Nat) (A3_0 : Option Addr) (c3_0 : Nat) (l3_0 : List (List Int)) (r : Bool) (w : World) (hb2 : w.heap[B2]? = some (.cells #[.slice A2_0 l2_0.length c2_0] 24 (0, 0))) (hr2_0 : Kd.C (Kd.slice 3 (Kd.int .i64)) w A2_0 l2_0.length l2_0) (hc2_0 : l2_0.length ≤ c2_0) (hb3 : w.heap[B3]? = some (.cells #[.slice A3_0 l3_0.length c3_0] 24 (0, 0))) (hr3_0 : Kd.C (Kd.slice 3 (Kd.int .i64)) w A3_0 l3_0.length l3_0) (hc3_0 : l3_0.length ≤ c3_0) (h : impl_FlipPath_1.f k a0 a1 l2_0 l3_0 = some r) :
  Calls Try.prog 74 #[.int .i64 a0, .int .i64 a1, .pointer (some ⟨B2, 0, none⟩), .pointer (some ⟨B3, 0, none⟩)] w fun e w' => e = .returned (.bool r) ∧ Below w.heap.size w w' := by
 have HR2_0 := am_ hr2_0; have HC2_0 := am_ hc2_0; clear hr2_0 hc2_0; have HR3_0 := am_ hr3_0; have HC3_0 := am_ hc3_0; clear hr3_0 hc3_0; have BK62 := am_ hb2; clear hb2; have BK63 := am_ hb3; clear hb3; have HB := am_ (Below.refl w.heap.size w); have H : (if 0 ≤ a0 then (if a0 < (l2_0.length : Int) then (if 0 ≤ a1 then (if a1 < ((rd_L3 l2_0 a0).length : Int) then (if a0 < (l3_0.length : Int) then (if a1 < ((rd_L3 l3_0 a0).length : Int) then (if (rd (rd_L3 l2_0 a0) a1) < (rd (rd_L3 l3_0 a0) a1) then ((impl_way.f k l2_0 a0 a1).bind fun t105 => (some (decide (t105 > 0)))) else (some false)) else (none)) else (none)) else (none)) else (none)) else (none)) else (none)) = some r := h; clear h; replace H := ps_ H; obtain ⟨c5b0, H⟩ := H; replace H := ps_ H; obtain ⟨c6b0, H⟩ := H; replace H := ps_ H; obtain ⟨c7b0, H⟩ := H; replace H := ps_ H; obtain ⟨c8b0, H⟩ := H; replace H := ps_ H; obtain ⟨c9b0, H⟩ := H; replace H := ps_ H; obtain ⟨c10b0, H⟩ := H
 replace H := sp_ H; obtain ⟨c11b0, H⟩ | ⟨c11b0, H⟩ := H
 ·replace H := bd_ H; obtain ⟨t105, A12, H⟩ := H; (try dsimp only at H); obtain rfl := Option.some.inj H; go_enter Try.func74, Try.ntmps74
  try go_wp2
  replace BK62 := am_ (blk_drew BK62.out); replace BK63 := am_ (blk_drew BK63.out); replace HB := am_ (below_drew1 HB.out); have p101 : 0 ≤ (a0 : Int) := od_; have q101 : a0 < (l2_0.length : Int) := od_; obtain ⟨ad101, A101_0, c101_0, e101, hx101_0, hl101_0, hi101_0⟩ := at_L3 HR2_0.out a0 p101 q101; have hw101_0 := hx101_0; cases e101; replace hx101_0 := (HB.out.cell (World.block_lt_of_cell? w _ hx101_0)).trans hx101_0; have HR101_0 := am_ hi101_0; have HC101_0 := am_ hl101_0; clear hi101_0 hl101_0; replace p101 := eq_true p101; replace q101 := eq_true q101; have p102 : 0 ≤ (a1 : Int) := od_; have q102 : a1 < ((rd_L3 l2_0 a0).length : Int) := od_; obtain ⟨ad102, e102, hx102_0⟩ := Kd.at_int HR101_0.out a1 p102 q102; have hw102_0 := hx102_0; cases e102; replace hx102_0 := (HB.out.cell (World.block_lt_of_cell? w _ hx102_0)).trans hx102_0; replace p102 := eq_true p102; replace q102 := eq_true q102; have p103 : 0 ≤ (a0 : Int) := od_; have q103 : a0 < (l3_0.length : Int) := od_; obtain ⟨ad103, A103_0, c103_0, e103, hx103_0, hl103_0, hi103_0⟩ := at_L3 HR3_0.out a0 p103 q103; have hw103_0 := hx103_0; cases e103; replace hx103_0 := (HB.out.cell (World.block_lt_of_cell? w _ hx103_0)).trans hx103_0; have HR103_0 := am_ hi103_0; have HC103_0 := am_ hl103_0; clear hi103_0 hl103_0; replace p103 := eq_true p103; replace q103 := eq_true q103; have p104 : 0 ≤ (a1 : Int) := od_; have q104 : a1 < ((rd_L3 l3_0 a0).length : Int) := od_; obtain ⟨ad104, e104, hx104_0⟩ := Kd.at_int HR103_0.out a1 p104 q104; have hw104_0 := hx104_0; cases e104; replace hx104_0 := (HB.out.cell (World.block_lt_of_cell? w _ hx104_0)).trans hx104_0; replace p104 := eq_true p104; replace q104 := eq_true q104; refine start_ (n := 23) (S := fun w' => w'.cell? ⟨B2, 0, none⟩ = some (.slice (some ad101) l2_0.length c2_0) ∧ w'.cell? ⟨B3, 0, none⟩ = some (.slice (some ad103) l3_0.length c3_0) ∧ w'.cell? (ad101.add (a0).toNat) = some (.slice (some ad102) (rd_L3 l2_0 a0).length c101_0) ∧ w'.cell? (ad102.add (a1).toNat) = some (.int .i64 (rd (rd_L3 l2_0 a0) a1)) ∧ w'.cell? (ad103.add (a0).toNat) = some (.slice (some ad104) (rd_L3 l3_0 a0).length c103_0) ∧ w'.cell? (ad104.add (a1).toNat) = some (.int .i64 (rd (rd_L3 l3_0 a0) a1))) (ds := []) #[F,F,F,F,F,F,F,F,F,F,F,F,F,F,F,F,F,F,F,F,F,F,F] (by kernel_rfl) rfl rfl ⟨(blk_cell BK62.out 0).trans rfl, (blk_cell BK63.out 0).trans rfl, ((HB.out.cell (World.block_lt_of_cell? w _ hw101_0)).trans hw101_0), ((HB.out.cell (World.block_lt_of_cell? w _ hw102_0)).trans hw102_0), ((HB.out.cell (World.block_lt_of_cell? w _ hw103_0)).trans hw103_0), ((HB.out.cell (World.block_lt_of_cell? w _ hw104_0)).trans hw104_0)⟩ (fun hHeld => ?_); refine with_tabW impl_FlipPath_1.tab1 impl_FlipPath_1.bits1 (fun HT_ HW_ => ?_); generalize w.drew = w13 at BK62 BK63 HB HR101_0 HR103_0 hx101_0 hx102_0 hx103_0 hx104_0 hHeld ⊢; refine pure_ (i := 1) (N := some 8) #[F,T,F,F,F,F,F,F,F,F,F,F,F,F,F,F,F,F,F,F,F,F,F] rfl rfl an_ hq_ yi_ nm_ ?_; refine pure_ (i := 4) (N := some 11) #[F,T,F,F,T,F,F,F,F,F,F,F,F,F,F,F,F,F,F,F,F,F,F] rfl rfl an_ hq_ yi_ nm_ ?_; refine pure_ (i := 8) (N := some 15) #[F,T,F,F,T,F,F,F,T,F,F,F,F,F,F,F,F,F,F,F,F,F,F] rfl rfl an_ hq_ yi_ nm_ ?_; refine pure_ (i := 11) (N := some 18) #[F,T,F,F,T,F,F,F,T,F,F,T,F,F,F,F,F,F,F,F,F,F,F] rfl rfl an_ hq_ yi_ nm_ ?_; refine take_ (i := 0) (N := some 7) #[T,T,F,F,T,F,F,F,T,F,F,T,F,F,F,F,F,F,F,F,F,F,F] rfl rfl av_ hq_ yj6_ hHeld nm_ ?_; refine pure_ (i := 2) (N := some 9) #[T,T,T,F,T,F,F,F,T,F,F,T,F,F,F,F,F,F,F,F,F,F,F] rfl rfl an_ hq_ yi_ nm_ ?_; refine take_ (i := 3) (N := some 10) #[T,T,T,T,T,F,F,F,T,F,F,T,F,F,F,F,F,F,F,F,F,F,F] rfl rfl av_ hq_ yj6_ hHeld nm_ ?_; refine pure_ (i := 5) (N := some 12) #[T,T,T,T,T,T,F,F,T,F,F,T,F,F,F,F,F,F,F,F,F,F,F] rfl rfl an_ hq_ yi_ nm_ ?_; refine take_ (i := 6) (N := some 13) #[T,T,T,T,T,T,T,F,T,F,F,T,F,F,F,F,F,F,F,F,F,F,F] rfl rfl av_ hq_ yj6_ hHeld nm_ ?_; refine take_ (i := 7) (N := some 14) #[T,T,T,T,T,T,T,T,T,F,F,T,F,F,F,F,F,F,F,F,F,F,F] rfl rfl av_ hq_ yj6_ hHeld nm_ ?_; refine pure_ (i := 9) (N := some 16) #[T,T,T,T,T,T,T,T,T,T,F,T,F,F,F,F,F,F,F,F,F,F,F] rfl rfl an_ hq_ yi_ nm_ ?_; refine take_ (i := 10) (N := some 17) #[T,T,T,T,T,T,T,T,T,T,T,T,F,F,F,F,F,F,F,F,F,F,F] rfl rfl av_ hq_ yj6_ hHeld nm_ ?_; refine pure_ (i := 12) (N := some 19) #[T,T,T,T,T,T,T,T,T,T,T,T,T,F,F,F,F,F,F,F,F,F,F] rfl rfl an_ hq_ yi_ nm_ ?_; refine take_ (i := 13) (N := some 20) #[T,T,T,T,T,T,T,T,T,T,T,T,T,T,F,F,F,F,F,F,F,F,F] rfl rfl av_ hq_ yj6_ hHeld nm_ ?_; refine pure_ (i := 14) (N := some 21) #[T,T,T,T,T,T,T,T,T,T,T,T,T,T,T,F,F,F,F,F,F,F,F] rfl rfl an_ hq_ yi_ nm_ ?_; refine pure_ (i := 15) (N := some 22) #[T,T,T,T,T,T,T,T,T,T,T,T,T,T,T,T,F,F,F,F,F,F,F] rfl rfl an_ hq_ yi_ nm_ ?_; refine pure_ (i := 17) (N := some 24) #[T,T,T,T,T,T,T,T,T,T,T,T,T,T,T,T,F,T,F,F,F,F,F] rfl rfl an_ hq_ yi_ nm_ ?_; refine pure_ (i := 18) (N := some 25) #[T,T,T,T,T,T,T,T,T,T,T,T,T,T,T,T,F,T,T,F,F,F,F] rfl rfl an_ hq_ yi_ nm_ ?_; refine take_ (i := 16) (N := some 23) #[T,T,T,T,T,T,T,T,T,T,T,T,T,T,T,T,T,T,T,F,F,F,F] rfl rfl av_ hq_ yj6_ hHeld nm_ ?_; refine one_ (i := 19) (N := some 26) #[T,T,T,T,T,T,T,T,T,T,T,T,T,T,T,T,T,T,T,T,F,F,F] rfl rfl (one_of HT_.out (by kernel_rfl)) (by decide) (fun K hK => ?_); refine goes_ Try.func46 (by kernel_rfl) rfl #[.slice (some ad101) l2_0.length c2_0, .int .i64 a0, .int .i64 a1] (by rfl) rfl rfl tc1_ ?_
  with_reducible refine (impl_way.calls k _ _ l2_0 a0 a1 t105 _ ?side1 ?side2 A12.out).mono ?_
  (case side1 => exact tc50_)
  (case side2 => exact HC2_0.out)
  rintro e w14 ⟨rfl, hb⟩; refine ⟨_, rfl, ?_⟩; replace BK62 := am_ (blk_below (g := B2) (o := .cells #[.slice (some ad101) l2_0.length c2_0] 24 (0, 0)) tc43_ hb); replace BK63 := am_ (blk_below (g := B3) (o := .cells #[.slice (some ad103) l3_0.length c3_0] 24 (0, 0)) tc78_ hb); replace HB := am_ (below_step tc22_ hb); (try clear hb); (try clear hb2); (try clear hk); (try clear hi); refine hK.out _ _ ⟨(blk_cell BK62.out 0).trans rfl, (blk_cell BK63.out 0).trans rfl, ((HB.out.cell (World.block_lt_of_cell? w _ hw101_0)).trans hw101_0), ((HB.out.cell (World.block_lt_of_cell? w _ hw102_0)).trans hw102_0), ((HB.out.cell (World.block_lt_of_cell? w _ hw103_0)).trans hw103_0), ((HB.out.cell (World.block_lt_of_cell? w _ hw104_0)).trans hw104_0)⟩ (fun hHeld => ?_); clear hK K; refine norm_ (a' := ?_) ?_ ?_; rotate_left
  ·show Act.put _ (some 26) _ = _
   simp only [Act.put, List.setIfInBounds_toArray, List.set_cons_zero, List.set_cons_succ, i64_w, i32_w]
   rfl
  refine pure_ (i := 20) (N := some 27) #[T,T,T,T,T,T,T,T,T,T,T,T,T,T,T,T,T,T,T,T,T,F,F] rfl rfl an_ hq_ yi_ nm_ ?_; refine pure_ (i := 21) (N := some 28) #[T,T,T,T,T,T,T,T,T,T,T,T,T,T,T,T,T,T,T,T,T,T,F] rfl rfl an_ hq_ yi_ nm_ ?_; refine pure_ (i := 22) (N := some 6) #[T,T,T,T,T,T,T,T,T,T,T,T,T,T,T,T,T,T,T,T,T,T,T] rfl rfl an_ hq_ yi_ nm_ ?_; refine done_ (done_of HT_.out (by kernel_rfl)) ?_
  try go_wp2
  go_ret
  exact ⟨tc8_, tc22_⟩
 ·obtain rfl := Option.some.inj H; go_enter Try.func74, Try.ntmps74
  try go_wp2
  replace BK62 := am_ (blk_drew BK62.out); replace BK63 := am_ (blk_drew BK63.out); replace HB := am_ (below_drew1 HB.out); have p101 : 0 ≤ (a0 : Int) := od_; have q101 : a0 < (l2_0.length : Int) := od_; obtain ⟨ad101, A101_0, c101_0, e101, hx101_0, hl101_0, hi101_0⟩ := at_L3 HR2_0.out a0 p101 q101; have hw101_0 := hx101_0; cases e101; replace hx101_0 := (HB.out.cell (World.block_lt_of_cell? w _ hx101_0)).trans hx101_0; have HR101_0 := am_ hi101_0; have HC101_0 := am_ hl101_0; clear hi101_0 hl101_0; replace p101 := eq_true p101; replace q101 := eq_true q101; have p102 : 0 ≤ (a1 : Int) := od_; have q102 : a1 < ((rd_L3 l2_0 a0).length : Int) := od_; obtain ⟨ad102, e102, hx102_0⟩ := Kd.at_int HR101_0.out a1 p102 q102; have hw102_0 := hx102_0; cases e102; replace hx102_0 := (HB.out.cell (World.block_lt_of_cell? w _ hx102_0)).trans hx102_0; replace p102 := eq_true p102; replace q102 := eq_true q102; have p103 : 0 ≤ (a0 : Int) := od_; have q103 : a0 < (l3_0.length : Int) := od_; obtain ⟨ad103, A103_0, c103_0, e103, hx103_0, hl103_0, hi103_0⟩ := at_L3 HR3_0.out a0 p103 q103; have hw103_0 := hx103_0; cases e103; replace hx103_0 := (HB.out.cell (World.block_lt_of_cell? w _ hx103_0)).trans hx103_0; have HR103_0 := am_ hi103_0; have HC103_0 := am_ hl103_0; clear hi103_0 hl103_0; replace p103 := eq_true p103; replace q103 := eq_true q103; have p104 : 0 ≤ (a1 : Int) := od_; have q104 : a1 < ((rd_L3 l3_0 a0).length : Int) := od_; obtain ⟨ad104, e104, hx104_0⟩ := Kd.at_int HR103_0.out a1 p104 q104; have hw104_0 := hx104_0; cases e104; replace hx104_0 := (HB.out.cell (World.block_lt_of_cell? w _ hx104_0)).trans hx104_0; replace p104 := eq_true p104; replace q104 := eq_true q104; refine start_ (n := 23) (S := fun w' => w'.cell? ⟨B2, 0, none⟩ = some (.slice (some ad101) l2_0.length c2_0) ∧ w'.cell? ⟨B3, 0, none⟩ = some (.slice (some ad103) l3_0.length c3_0) ∧ w'.cell? (ad101.add (a0).toNat) = some (.slice (some ad102) (rd_L3 l2_0 a0).length c101_0) ∧ w'.cell? (ad102.add (a1).toNat) = some (.int .i64 (rd (rd_L3 l2_0 a0) a1)) ∧ w'.cell? (ad103.add (a0).toNat) = some (.slice (some ad104) (rd_L3 l3_0 a0).length c103_0) ∧ w'.cell? (ad104.add (a1).toNat) = some (.int .i64 (rd (rd_L3 l3_0 a0) a1))) (ds := []) #[F,F,F,F,F,F,F,F,F,F,F,F,F,F,F,F,F,F,F,F,F,F,F] (by kernel_rfl) rfl rfl ⟨(blk_cell BK62.out 0).trans rfl, (blk_cell BK63.out 0).trans rfl, ((HB.out.cell (World.block_lt_of_cell? w _ hw101_0)).trans hw101_0), ((HB.out.cell (World.block_lt_of_cell? w _ hw102_0)).trans hw102_0), ((HB.out.cell (World.block_lt_of_cell? w _ hw103_0)).trans hw103_0), ((HB.out.cell (World.block_lt_of_cell? w _ hw104_0)).trans hw104_0)⟩ (fun hHeld => ?_); refine with_tabW impl_FlipPath_1.tab1 impl_FlipPath_1.bits1 (fun HT_ HW_ => ?_); generalize w.drew = w15 at BK62 BK63 HB HR101_0 HR103_0 hx101_0 hx102_0 hx103_0 hx104_0 hHeld ⊢; refine pure_ (i := 1) (N := some 8) #[F,T,F,F,F,F,F,F,F,F,F,F,F,F,F,F,F,F,F,F,F,F,F] rfl rfl an_ hq_ yi_ nm_ ?_; refine pure_ (i := 4) (N := some 11) #[F,T,F,F,T,F,F,F,F,F,F,F,F,F,F,F,F,F,F,F,F,F,F] rfl rfl an_ hq_ yi_ nm_ ?_; refine pure_ (i := 8) (N := some 15) #[F,T,F,F,T,F,F,F,T,F,F,F,F,F,F,F,F,F,F,F,F,F,F] rfl rfl an_ hq_ yi_ nm_ ?_; refine pure_ (i := 11) (N := some 18) #[F,T,F,F,T,F,F,F,T,F,F,T,F,F,F,F,F,F,F,F,F,F,F] rfl rfl an_ hq_ yi_ nm_ ?_; refine take_ (i := 0) (N := some 7) #[T,T,F,F,T,F,F,F,T,F,F,T,F,F,F,F,F,F,F,F,F,F,F] rfl rfl av_ hq_ yj6_ hHeld nm_ ?_; refine pure_ (i := 2) (N := some 9) #[T,T,T,F,T,F,F,F,T,F,F,T,F,F,F,F,F,F,F,F,F,F,F] rfl rfl an_ hq_ yi_ nm_ ?_; refine take_ (i := 3) (N := some 10) #[T,T,T,T,T,F,F,F,T,F,F,T,F,F,F,F,F,F,F,F,F,F,F] rfl rfl av_ hq_ yj6_ hHeld nm_ ?_; refine pure_ (i := 5) (N := some 12) #[T,T,T,T,T,T,F,F,T,F,F,T,F,F,F,F,F,F,F,F,F,F,F] rfl rfl an_ hq_ yi_ nm_ ?_; refine take_ (i := 6) (N := some 13) #[T,T,T,T,T,T,T,F,T,F,F,T,F,F,F,F,F,F,F,F,F,F,F] rfl rfl av_ hq_ yj6_ hHeld nm_ ?_; refine take_ (i := 7) (N := some 14) #[T,T,T,T,T,T,T,T,T,F,F,T,F,F,F,F,F,F,F,F,F,F,F] rfl rfl av_ hq_ yj6_ hHeld nm_ ?_; refine pure_ (i := 9) (N := some 16) #[T,T,T,T,T,T,T,T,T,T,F,T,F,F,F,F,F,F,F,F,F,F,F] rfl rfl an_ hq_ yi_ nm_ ?_; refine take_ (i := 10) (N := some 17) #[T,T,T,T,T,T,T,T,T,T,T,T,F,F,F,F,F,F,F,F,F,F,F] rfl rfl av_ hq_ yj6_ hHeld nm_ ?_; refine pure_ (i := 12) (N := some 19) #[T,T,T,T,T,T,T,T,T,T,T,T,T,F,F,F,F,F,F,F,F,F,F] rfl rfl an_ hq_ yi_ nm_ ?_; refine take_ (i := 13) (N := some 20) #[T,T,T,T,T,T,T,T,T,T,T,T,T,T,F,F,F,F,F,F,F,F,F] rfl rfl av_ hq_ yj6_ hHeld nm_ ?_; refine pure_ (i := 14) (N := some 21) #[T,T,T,T,T,T,T,T,T,T,T,T,T,T,T,F,F,F,F,F,F,F,F] rfl rfl an_ hq_ yi_ nm_ ?_; refine pure_ (i := 15) (N := some 22) #[T,T,T,T,T,T,T,T,T,T,T,T,T,T,T,T,F,F,F,F,F,F,F] rfl rfl an_ hq_ yi_ nm_ ?_; refine pure_ (i := 16) (N := some 23) (v := undef) (a' := ?_) #[T,T,T,T,T,T,T,T,T,T,T,T,T,T,T,T,T,F,F,F,F,F,F] rfl rfl (any_of HT_.out (by kernel_rfl)) (fun _ _ _ h => h) (Or.inr ⟨by rfl, rfl⟩) ?_ ?_; rotate_left
  ·simp only [Act.put, List.setIfInBounds_toArray, List.set_cons_zero, List.set_cons_succ, i64_w, i32_w]
   rfl
  refine pure_ (i := 17) (N := some 24) (v := undef) (a' := ?_) #[T,T,T,T,T,T,T,T,T,T,T,T,T,T,T,T,T,T,F,F,F,F,F] rfl rfl (any_of HT_.out (by kernel_rfl)) (fun _ _ _ h => h) (Or.inr ⟨by rfl, rfl⟩) ?_ ?_; rotate_left
  ·simp only [Act.put, List.setIfInBounds_toArray, List.set_cons_zero, List.set_cons_succ, i64_w, i32_w]
   rfl
  refine pure_ (i := 18) (N := some 25) (v := undef) (a' := ?_) #[T,T,T,T,T,T,T,T,T,T,T,T,T,T,T,T,T,T,T,F,F,F,F] rfl rfl (any_of HT_.out (by kernel_rfl)) (fun _ _ _ h => h) (Or.inr ⟨by rfl, rfl⟩) ?_ ?_; rotate_left
  ·simp only [Act.put, List.setIfInBounds_toArray, List.set_cons_zero, List.set_cons_succ, i64_w, i32_w]
   rfl
  refine pure_ (i := 19) (N := some 26) (v := undef) (a' := ?_) #[T,T,T,T,T,T,T,T,T,T,T,T,T,T,T,T,T,T,T,T,F,F,F] rfl rfl (any_of HT_.out (by kernel_rfl)) (fun _ _ _ h => h) (Or.inr ⟨by rfl, rfl⟩) ?_ ?_; rotate_left
  ·simp only [Act.put, List.setIfInBounds_toArray, List.set_cons_zero, List.set_cons_succ, i64_w, i32_w]
   rfl
  refine pure_ (i := 20) (N := some 27) (v := undef) (a' := ?_) #[T,T,T,T,T,T,T,T,T,T,T,T,T,T,T,T,T,T,T,T,T,F,F] rfl rfl (any_of HT_.out (by kernel_rfl)) (fun _ _ _ h => h) (Or.inr ⟨by rfl, rfl⟩) ?_ ?_; rotate_left
  ·simp only [Act.put, List.setIfInBounds_toArray, List.set_cons_zero, List.set_cons_succ, i64_w, i32_w]
   rfl
  refine pure_ (i := 21) (N := some 28) #[T,T,T,T,T,T,T,T,T,T,T,T,T,T,T,T,T,T,T,T,T,T,F] rfl rfl an_ hq_ yi_ nm_ ?_; refine pure_ (i := 22) (N := some 6) #[T,T,T,T,T,T,T,T,T,T,T,T,T,T,T,T,T,T,T,T,T,T,T] rfl rfl an_ hq_ yi_ nm_ ?_; refine done_ (done_of HT_.out (by kernel_rfl)) ?_
  try go_wp2
  go_ret
  exact ⟨tc8_, tc22_⟩

/-! ### impl_FlipPath_2: function 75 -/
def impl_FlipPath_2.f (k : Nat) (a0 : Int) (a1 : Int) (l2_0 : List (List Int)) (l3_0 : List (List Int)) : Option (Bool) := if 0 ≤ a0 then (if a0 < (l2_0.length : Int) then (if 0 ≤ a1 then (if a1 < ((rd_L3 l2_0 a0).length : Int) then (if a0 < (l3_0.length : Int) then (if a1 < ((rd_L3 l3_0 a0).length : Int) then (if (rd (rd_L3 l2_0 a0) a1) > (rd (rd_L3 l3_0 a0) a1) then ((impl_way.f k l2_0 a0 a1).bind fun t105 => (some (decide (t105 < 0)))) else (some false)) else (none)) else (none)) else (none)) else (none)) else (none)) else (none)
theorem impl_FlipPath_2.mono : ∀ a0 a1 a2 a3  k, LeO (impl_FlipPath_2.f k a0 a1 a2 a3) (impl_FlipPath_2.f (k + 1) a0 a1 a2 a3) := by
 intro a0 a1 a2 a3 k; unfold impl_FlipPath_2.f
 repeat' first
   | (with_reducible exact impl_way.mono _ _ _ _)
   | (with_reducible exact LeO.refl _)
   | (with_reducible exact LeO.none _)
   | (with_reducible refine LeO.ite ?_ ?_)
   | (with_reducible refine LeO.bind ?_ (fun _ => ?_))
   | exact impl_way.mono _ _ _ _
   | exact LeO.none _
   | refine LeO.ite ?_ ?_
   | refine LeO.bind ?_ (fun _ => ?_)
def impl_FlipPath_2.T1 : Bool × List (List Nat × List Nat) := (true, [([], []), ([], []), ([0, 1], [0, 1]), ([2], [2]), ([], []), ([3, 4], [3, 4]), ([5], [5]), ([], []), ([], []), ([7, 8], [7, 8]), ([9], [9]), ([], []), ([10, 11], [10, 11]), ([12], [12]), ([6, 13], [6, 13]), ([14], [14]), ([15], [15]), ([15], [15]), ([15], [15]), ([16, 17, 18, 15, 15], [15, 16, 17, 18]), ([19, 15], [15, 19]), ([15, 20], [15, 20]), ([21, 19, 0, 1, 2, 3, 4, 5, 6, 7, 8, 9, 10, 11, 12, 13, 14, 15, 16, 17, 18, 19, 20, 21], [21])])
def impl_FlipPath_2.B1 : List Nat := [0, 0, 3, 7, 0, 31, 63, 0, 0, 384, 896, 0, 3968, 8064, 16383, 32767, 65535, 65535, 65535, 524287, 1048575, 2097151, 4194303]
theorem impl_FlipPath_2.tab1 : rtab .any (opsOf Try.f75 1) = impl_FlipPath_2.T1 := by kernel_rfl
theorem impl_FlipPath_2.bits1 : waitsOk impl_FlipPath_2.T1.2 impl_FlipPath_2.B1 = true := by kernel_rfl
set_option maxHeartbeats 8000000 in
set_option maxRecDepth 100000 in
theorem impl_FlipPath_2.calls (k : Nat) (a0 : Int) (a1 : Int) (B2 : Nat) (A2_0 : Option Addr) (c2_0 : Nat) (l2_0 : List (List Int)) (B3 : Nat) (A3_0 : Option Addr) (c3_0 : Nat) (l3_0 : List (List Int)) (r : Bool) (w : World) (hb2 : w.heap[B2]? = some (.cells #[.slice A2_0 l2_0.length c2_0] 24 (0, 0))) (hr2_0 : Kd.C (Kd.slice 3 (Kd.int .i64)) w A2_0 l2_0.length l2_0) (hc2_0 : l2_0.length ≤ c2_0) (hb3 : w.heap[B3]? = some (.cells #[.slice A3_0 l3_0.length c3_0] 24 (0, 0))) (hr3_0 : Kd.C (Kd.slice 3 (Kd.int .i64)) w A3_0 l3_0.length l3_0) (hc3_0 : l3_0.length ≤ c3_0) (h : impl_FlipPath_2.f k a0 a1 l2_0 l3_0 = some r) :
  Calls Try.prog 75 #[.int .i64 a0, .int .i64 a1, .pointer (some ⟨B2, 0, none⟩), .pointer (some ⟨B3, 0, none⟩)] w fun e w' => e = .returned (.bool r) ∧ Below w.heap.size w w' := by
 have HR2_0 := am_ hr2_0; have HC2_0 := am_ hc2_0; clear hr2_0 hc2_0; have HR3_0 := am_ hr3_0; have HC3_0 := am_ hc3_0; clear hr3_0 hc3_0; have BK62 := am_ hb2; clear hb2; have BK63 := am_ hb3; clear hb3; have HB := am_ (Below.refl w.heap.size w); have H : (if 0 ≤ a0 then (if a0 < (l2_0.length : Int) then (if 0 ≤ a1 then (if a1 < ((rd_L3 l2_0 a0).length : Int) then (if a0 < (l3_0.length : Int) then (if a1 < ((rd_L3 l3_0 a0).length : Int) then (if (rd (rd_L3 l2_0 a0) a1) > (rd (rd_L3 l3_0 a0) a1) then ((impl_way.f k l2_0 a0 a1).bind fun t105 => (some (decide (t105 < 0)))) else (some false)) else (none)) else (none)) else (none)) else (none)) else (none)) else (none)) = some r := h; clear h; replace H := ps_ H; obtain ⟨c5b0, H⟩ := H; replace H := ps_ H; obtain ⟨c6b0, H⟩ := H; replace H := ps_ H; obtain ⟨c7b0, H⟩ := H; replace H := ps_ H; obtain ⟨c8b0, H⟩ := H; replace H := ps_ H; obtain ⟨c9b0, H⟩ := H; replace H := ps_ H; obtain ⟨c10b0, H⟩ := H
 replace H := pn_ H; obtain ⟨c11, H⟩ | ⟨c11, H⟩ := H
 ·have c11b0 : decide ((rd (rd_L3 l3_0 a0) a1) < (rd (rd_L3 l2_0 a0) a1)) = true := decide_eq_true c11; clear c11; replace H := bd_ H; obtain ⟨t105, A12, H⟩ := H; (try dsimp only at H); obtain rfl := Option.some.inj H; go_enter Try.func75, Try.ntmps75
  try go_wp2
  replace BK62 := am_ (blk_drew BK62.out); replace BK63 := am_ (blk_drew BK63.out); replace HB := am_ (below_drew1 HB.out); have p101 : 0 ≤ (a0 : Int) := od_; have q101 : a0 < (l2_0.length : Int) := od_; obtain ⟨ad101, A101_0, c101_0, e101, hx101_0, hl101_0, hi101_0⟩ := at_L3 HR2_0.out a0 p101 q101; have hw101_0 := hx101_0; cases e101; replace hx101_0 := (HB.out.cell (World.block_lt_of_cell? w _ hx101_0)).trans hx101_0; have HR101_0 := am_ hi101_0; have HC101_0 := am_ hl101_0; clear hi101_0 hl101_0; replace p101 := eq_true p101; replace q101 := eq_true q101; have p102 : 0 ≤ (a1 : Int) := od_; have q102 : a1 < ((rd_L3 l2_0 a0).length : Int) := od_; obtain ⟨ad102, e102, hx102_0⟩ := Kd.at_int HR101_0.out a1 p102 q102; have hw102_0 := hx102_0; cases e102; replace hx102_0 := (HB.out.cell (World.block_lt_of_cell? w _ hx102_0)).trans hx102_0; replace p102 := eq_true p102; replace q102 := eq_true q102; have p103 : 0 ≤ (a0 : Int) := od_; have q103 : a0 < (l3_0.length : Int) := od_; obtain ⟨ad103, A103_0, c103_0, e103, hx103_0, hl103_0, hi103_0⟩ := at_L3 HR3_0.out a0 p103 q103; have hw103_0 := hx103_0; cases e103; replace hx103_0 := (HB.out.cell (World.block_lt_of_cell? w _ hx103_0)).trans hx103_0; have HR103_0 := am_ hi103_0; have HC103_0 := am_ hl103_0; clear hi103_0 hl103_0; replace p103 := eq_true p103; replace q103 := eq_true q103; have p104 : 0 ≤ (a1 : Int) := od_; have q104 : a1 < ((rd_L3 l3_0 a0).length : Int) := od_; obtain ⟨ad104, e104, hx104_0⟩ := Kd.at_int HR103_0.out a1 p104 q104; have hw104_0 := hx104_0; cases e104; replace hx104_0 := (HB.out.cell (World.block_lt_of_cell? w _ hx104_0)).trans hx104_0; replace p104 := eq_true p104; replace q104 := eq_true q104; refine start_ (n := 23) (S := fun w' => w'.cell? ⟨B2, 0, none⟩ = some (.slice (some ad101) l2_0.length c2_0) ∧ w'.cell? ⟨B3, 0, none⟩ = some (.slice (some ad103) l3_0.length c3_0) ∧ w'.cell? (ad101.add (a0).toNat) = some (.slice (some ad102) (rd_L3 l2_0 a0).length c101_0) ∧ w'.cell? (ad102.add (a1).toNat) = some (.int .i64 (rd (rd_L3 l2_0 a0) a1)) ∧ w'.cell? (ad103.add (a0).toNat) = some (.slice (some ad104) (rd_L3 l3_0 a0).length c103_0) ∧ w'.cell? (ad104.add (a1).toNat) = some (.int .i64 (rd (rd_L3 l3_0 a0) a1))) (ds := []) #[F,F,F,F,F,F,F,F,F,F,F,F,F,F,F,F,F,F,F,F,F,F,F] (by kernel_rfl) rfl rfl ⟨(blk_cell BK62.out 0).trans rfl, (blk_cell BK63.out 0).trans rfl, ((HB.out.cell (World.block_lt_of_cell? w _ hw101_0)).trans hw101_0), ((HB.out.cell (World.block_lt_of_cell? w _ hw102_0)).trans hw102_0), ((HB.out.cell (World.block_lt_of_cell? w _ hw103_0)).trans hw103_0), ((HB.out.cell (World.block_lt_of_cell? w _ hw104_0)).trans hw104_0)⟩ (fun hHeld => ?_); refine with_tabW impl_FlipPath_2.tab1 impl_FlipPath_2.bits1 (fun HT_ HW_ => ?_); generalize w.drew = w13 at BK62 BK63 HB HR101_0 HR103_0 hx101_0 hx102_0 hx103_0 hx104_0 hHeld ⊢; refine pure_ (i := 1) (N := some 8) #[F,T,F,F,F,F,F,F,F,F,F,F,F,F,F,F,F,F,F,F,F,F,F] rfl rfl an_ hq_ yi_ nm_ ?_; refine pure_ (i := 4) (N := some 11) #[F,T,F,F,T,F,F,F,F,F,F,F,F,F,F,F,F,F,F,F,F,F,F] rfl rfl an_ hq_ yi_ nm_ ?_; refine pure_ (i := 8) (N := some 15) #[F,T,F,F,T,F,F,F,T,F,F,F,F,F,F,F,F,F,F,F,F,F,F] rfl rfl an_ hq_ yi_ nm_ ?_; refine pure_ (i := 11) (N := some 18) #[F,T,F,F,T,F,F,F,T,F,F,T,F,F,F,F,F,F,F,F,F,F,F] rfl rfl an_ hq_ yi_ nm_ ?_; refine take_ (i := 0) (N := some 7) #[T,T,F,F,T,F,F,F,T,F,F,T,F,F,F,F,F,F,F,F,F,F,F] rfl rfl av_ hq_ yj6_ hHeld nm_ ?_; refine pure_ (i := 2) (N := some 9) #[T,T,T,F,T,F,F,F,T,F,F,T,F,F,F,F,F,F,F,F,F,F,F] rfl rfl an_ hq_ yi_ nm_ ?_; refine take_ (i := 3) (N := some 10) #[T,T,T,T,T,F,F,F,T,F,F,T,F,F,F,F,F,F,F,F,F,F,F] rfl rfl av_ hq_ yj6_ hHeld nm_ ?_; refine pure_ (i := 5) (N := some 12) #[T,T,T,T,T,T,F,F,T,F,F,T,F,F,F,F,F,F,F,F,F,F,F] rfl rfl an_ hq_ yi_ nm_ ?_; refine take_ (i := 6) (N := some 13) #[T,T,T,T,T,T,T,F,T,F,F,T,F,F,F,F,F,F,F,F,F,F,F] rfl rfl av_ hq_ yj6_ hHeld nm_ ?_; refine take_ (i := 7) (N := some 14) #[T,T,T,T,T,T,T,T,T,F,F,T,F,F,F,F,F,F,F,F,F,F,F] rfl rfl av_ hq_ yj6_ hHeld nm_ ?_; refine pure_ (i := 9) (N := some 16) #[T,T,T,T,T,T,T,T,T,T,F,T,F,F,F,F,F,F,F,F,F,F,F] rfl rfl an_ hq_ yi_ nm_ ?_; refine take_ (i := 10) (N := some 17) #[T,T,T,T,T,T,T,T,T,T,T,T,F,F,F,F,F,F,F,F,F,F,F] rfl rfl av_ hq_ yj6_ hHeld nm_ ?_; refine pure_ (i := 12) (N := some 19) #[T,T,T,T,T,T,T,T,T,T,T,T,T,F,F,F,F,F,F,F,F,F,F] rfl rfl an_ hq_ yi_ nm_ ?_; refine take_ (i := 13) (N := some 20) #[T,T,T,T,T,T,T,T,T,T,T,T,T,T,F,F,F,F,F,F,F,F,F] rfl rfl av_ hq_ yj6_ hHeld nm_ ?_; refine pure_ (i := 14) (N := some 21) #[T,T,T,T,T,T,T,T,T,T,T,T,T,T,T,F,F,F,F,F,F,F,F] rfl rfl an_ hq_ yi_ nm_ ?_; refine pure_ (i := 15) (N := some 22) #[T,T,T,T,T,T,T,T,T,T,T,T,T,T,T,T,F,F,F,F,F,F,F] rfl rfl an_ hq_ yi_ nm_ ?_; refine pure_ (i := 17) (N := some 24) #[T,T,T,T,T,T,T,T,T,T,T,T,T,T,T,T,F,T,F,F,F,F,F] rfl rfl an_ hq_ yi_ nm_ ?_; refine pure_ (i := 18) (N := some 25) #[T,T,T,T,T,T,T,T,T,T,T,T,T,T,T,T,F,T,T,F,F,F,F] rfl rfl an_ hq_ yi_ nm_ ?_; refine take_ (i := 16) (N := some 23) #[T,T,T,T,T,T,T,T,T,T,T,T,T,T,T,T,T,T,T,F,F,F,F] rfl rfl av_ hq_ yj6_ hHeld nm_ ?_; refine one_ (i := 19) (N := some 26) #[T,T,T,T,T,T,T,T,T,T,T,T,T,T,T,T,T,T,T,T,F,F,F] rfl rfl (one_of HT_.out (by kernel_rfl)) (by decide) (fun K hK => ?_); refine goes_ Try.func46 (by kernel_rfl) rfl #[.slice (some ad101) l2_0.length c2_0, .int .i64 a0, .int .i64 a1] (by rfl) rfl rfl tc1_ ?_
  with_reducible refine (impl_way.calls k _ _ l2_0 a0 a1 t105 _ ?side1 ?side2 A12.out).mono ?_
  (case side1 => exact tc50_)
  (case side2 => exact HC2_0.out)
  rintro e w14 ⟨rfl, hb⟩; refine ⟨_, rfl, ?_⟩; replace BK62 := am_ (blk_below (g := B2) (o := .cells #[.slice (some ad101) l2_0.length c2_0] 24 (0, 0)) tc43_ hb); replace BK63 := am_ (blk_below (g := B3) (o := .cells #[.slice (some ad103) l3_0.length c3_0] 24 (0, 0)) tc78_ hb); replace HB := am_ (below_step tc22_ hb); (try clear hb); (try clear hb2); (try clear hk); (try clear hi); refine hK.out _ _ ⟨(blk_cell BK62.out 0).trans rfl, (blk_cell BK63.out 0).trans rfl, ((HB.out.cell (World.block_lt_of_cell? w _ hw101_0)).trans hw101_0), ((HB.out.cell (World.block_lt_of_cell? w _ hw102_0)).trans hw102_0), ((HB.out.cell (World.block_lt_of_cell? w _ hw103_0)).trans hw103_0), ((HB.out.cell (World.block_lt_of_cell? w _ hw104_0)).trans hw104_0)⟩ (fun hHeld => ?_); clear hK K; refine norm_ (a' := ?_) ?_ ?_; rotate_left
  ·show Act.put _ (some 26) _ = _
   simp only [Act.put, List.setIfInBounds_toArray, List.set_cons_zero, List.set_cons_succ, i64_w, i32_w]
   rfl
  refine pure_ (i := 20) (N := some 27) #[T,T,T,T,T,T,T,T,T,T,T,T,T,T,T,T,T,T,T,T,T,F,F] rfl rfl an_ hq_ yi_ nm_ ?_; refine pure_ (i := 21) (N := some 28) #[T,T,T,T,T,T,T,T,T,T,T,T,T,T,T,T,T,T,T,T,T,T,F] rfl rfl an_ hq_ yi_ nm_ ?_; refine pure_ (i := 22) (N := some 6) #[T,T,T,T,T,T,T,T,T,T,T,T,T,T,T,T,T,T,T,T,T,T,T] rfl rfl an_ hq_ yi_ nm_ ?_; refine done_ (done_of HT_.out (by kernel_rfl)) ?_
  try go_wp2
  go_ret
  exact ⟨tc8_, tc22_⟩
 ·have c11b0 : decide ((rd (rd_L3 l3_0 a0) a1) < (rd (rd_L3 l2_0 a0) a1)) = false := decide_eq_false c11; clear c11; obtain rfl := Option.some.inj H; go_enter Try.func75, Try.ntmps75
  try go_wp2
  replace BK62 := am_ (blk_drew BK62.out); replace BK63 := am_ (blk_drew BK63.out); replace HB := am_ (below_drew1 HB.out); have p101 : 0 ≤ (a0 : Int) := od_; have q101 : a0 < (l2_0.length : Int) := od_; obtain ⟨ad101, A101_0, c101_0, e101, hx101_0, hl101_0, hi101_0⟩ := at_L3 HR2_0.out a0 p101 q101; have hw101_0 := hx101_0; cases e101; replace hx101_0 := (HB.out.cell (World.block_lt_of_cell? w _ hx101_0)).trans hx101_0; have HR101_0 := am_ hi101_0; have HC101_0 := am_ hl101_0; clear hi101_0 hl101_0; replace p101 := eq_true p101; replace q101 := eq_true q101; have p102 : 0 ≤ (a1 : Int) := od_; have q102 : a1 < ((rd_L3 l2_0 a0).length : Int) := od_; obtain ⟨ad102, e102, hx102_0⟩ := Kd.at_int HR101_0.out a1 p102 q102; have hw102_0 := hx102_0; cases e102; replace hx102_0 := (HB.out.cell (World.block_lt_of_cell? w _ hx102_0)).trans hx102_0; replace p102 := eq_true p102; replace q102 := eq_true q102; have p103 : 0 ≤ (a0 : Int) := od_; have q103 : a0 < (l3_0.length : Int) := od_; obtain ⟨ad103, A103_0, c103_0, e103, hx103_0, hl103_0, hi103_0⟩ := at_L3 HR3_0.out a0 p103 q103; have hw103_0 := hx103_0; cases e103; replace hx103_0 := (HB.out.cell (World.block_lt_of_cell? w _ hx103_0)).trans hx103_0; have HR103_0 := am_ hi103_0; have HC103_0 := am_ hl103_0; clear hi103_0 hl103_0; replace p103 := eq_true p103; replace q103 := eq_true q103; have p104 : 0 ≤ (a1 : Int) := od_; have q104 : a1 < ((rd_L3 l3_0 a0).length : Int) := od_; obtain ⟨ad104, e104, hx104_0⟩ := Kd.at_int HR103_0.out a1 p104 q104; have hw104_0 := hx104_0; cases e104; replace hx104_0 := (HB.out.cell (World.block_lt_of_cell? w _ hx104_0)).trans hx104_0; replace p104 := eq_true p104; replace q104 := eq_true q104; refine start_ (n := 23) (S := fun w' => w'.cell? ⟨B2, 0, none⟩ = some (.slice (some ad101) l2_0.length c2_0) ∧ w'.cell? ⟨B3, 0, none⟩ = some (.slice (some ad103) l3_0.length c3_0) ∧ w'.cell? (ad101.add (a0).toNat) = some (.slice (some ad102) (rd_L3 l2_0 a0).length c101_0) ∧ w'.cell? (ad102.add (a1).toNat) = some (.int .i64 (rd (rd_L3 l2_0 a0) a1)) ∧ w'.cell? (ad103.add (a0).toNat) = some (.slice (some ad104) (rd_L3 l3_0 a0).length c103_0) ∧ w'.cell? (ad104.add (a1).toNat) = some (.int .i64 (rd (rd_L3 l3_0 a0) a1))) (ds := []) #[F,F,F,F,F,F,F,F,F,F,F,F,F,F,F,F,F,F,F,F,F,F,F] (by kernel_rfl) rfl rfl ⟨(blk_cell BK62.out 0).trans rfl, (blk_cell BK63.out 0).trans rfl, ((HB.out.cell (World.block_lt_of_cell? w _ hw101_0)).trans hw101_0), ((HB.out.cell (World.block_lt_of_cell? w _ hw102_0)).trans hw102_0), ((HB.out.cell (World.block_lt_of_cell? w _ hw103_0)).trans hw103_0), ((HB.out.cell (World.block_lt_of_cell? w _ hw104_0)).trans hw104_0)⟩ (fun hHeld => ?_); refine with_tabW impl_FlipPath_2.tab1 impl_FlipPath_2.bits1 (fun HT_ HW_ => ?_); generalize w.drew = w15 at BK62 BK63 HB HR101_0 HR103_0 hx101_0 hx102_0 hx103_0 hx104_0 hHeld ⊢; refine pure_ (i := 1) (N := some 8) #[F,T,F,F,F,F,F,F,F,F,F,F,F,F,F,F,F,F,F,F,F,F,F] rfl rfl an_ hq_ yi_ nm_ ?_; refine pure_ (i := 4) (N := some 11) #[F,T,F,F,T,F,F,F,F,F,F,F,F,F,F,F,F,F,F,F,F,F,F] rfl rfl an_ hq_ yi_ nm_ ?_; refine pure_ (i := 8) (N := some 15) #[F,T,F,F,T,F,F,F,T,F,F,F,F,F,F,F,F,F,F,F,F,F,F] rfl rfl an_ hq_ yi_ nm_ ?_; refine pure_ (i := 11) (N := some 18) #[F,T,F,F,T,F,F,F,T,F,F,T,F,F,F,F,F,F,F,F,F,F,F] rfl rfl an_ hq_ yi_ nm_ ?_; refine take_ (i := 0) (N := some 7) #[T,T,F,F,T,F,F,F,T,F,F,T,F,F,F,F,F,F,F,F,F,F,F] rfl rfl av_ hq_ yj6_ hHeld nm_ ?_; refine pure_ (i := 2) (N := some 9) #[T,T,T,F,T,F,F,F,T,F,F,T,F,F,F,F,F,F,F,F,F,F,F] rfl rfl an_ hq_ yi_ nm_ ?_; refine take_ (i := 3) (N := some 10) #[T,T,T,T,T,F,F,F,T,F,F,T,F,F,F,F,F,F,F,F,F,F,F] rfl rfl av_ hq_ yj6_ hHeld nm_ ?_; refine pure_ (i := 5) (N := some 12) #[T,T,T,T,T,T,F,F,T,F,F,T,F,F,F,F,F,F,F,F,F,F,F] rfl rfl an_ hq_ yi_ nm_ ?_; refine take_ (i := 6) (N := some 13) #[T,T,T,T,T,T,T,F,T,F,F,T,F,F,F,F,F,F,F,F,F,F,F] rfl rfl av_ hq_ yj6_ hHeld nm_ ?_; refine take_ (i := 7) (N := some 14) #[T,T,T,T,T,T,T,T,T,F,F,T,F,F,F,F,F,F,F,F,F,F,F] rfl rfl av_ hq_ yj6_ hHeld nm_ ?_; refine pure_ (i := 9) (N := some 16) #[T,T,T,T,T,T,T,T,T,T,F,T,F,F,F,F,F,F,F,F,F,F,F] rfl rfl an_ hq_ yi_ nm_ ?_; refine take_ (i := 10) (N := some 17) #[T,T,T,T,T,T,T,T,T,T,T,T,F,F,F,F,F,F,F,F,F,F,F] rfl rfl av_ hq_ yj6_ hHeld nm_ ?_; refine pure_ (i := 12) (N := some 19) #[T,T,T,T,T,T,T,T,T,T,T,T,T,F,F,F,F,F,F,F,F,F,F] rfl rfl an_ hq_ yi_ nm_ ?_; refine take_ (i := 13) (N := some 20) #[T,T,T,T,T,T,T,T,T,T,T,T,T,T,F,F,F,F,F,F,F,F,F] rfl rfl av_ hq_ yj6_ hHeld nm_ ?_; refine pure_ (i := 14) (N := some 21) #[T,T,T,T,T,T,T,T,T,T,T,T,T,T,T,F,F,F,F,F,F,F,F] rfl rfl an_ hq_ yi_ nm_ ?_; refine pure_ (i := 15) (N := some 22) #[T,T,T,T,T,T,T,T,T,T,T,T,T,T,T,T,F,F,F,F,F,F,F] rfl rfl an_ hq_ yi_ nm_ ?_; refine pure_ (i := 16) (N := some 23) (v := undef) (a' := ?_) #[T,T,T,T,T,T,T,T,T,T,T,T,T,T,T,T,T,F,F,F,F,F,F] rfl rfl (any_of HT_.out (by kernel_rfl)) (fun _ _ _ h => h) (Or.inr ⟨by rfl, rfl⟩) ?_ ?_; rotate_left
  ·simp only [Act.put, List.setIfInBounds_toArray, List.set_cons_zero, List.set_cons_succ, i64_w, i32_w]
   rfl
  refine pure_ (i := 17) (N := some 24) (v := undef) (a' := ?_) #[T,T,T,T,T,T,T,T,T,T,T,T,T,T,T,T,T,T,F,F,F,F,F] rfl rfl (any_of HT_.out (by kernel_rfl)) (fun _ _ _ h => h) (Or.inr ⟨by rfl, rfl⟩) ?_ ?_; rotate_left
  ·simp only [Act.put, List.setIfInBounds_toArray, List.set_cons_zero, List.set_cons_succ, i64_w, i32_w]
   rfl
  refine pure_ (i := 18) (N := some 25) (v := undef) (a' := ?_) #[T,T,T,T,T,T,T,T,T,T,T,T,T,T,T,T,T,T,T,F,F,F,F] rfl rfl (any_of HT_.out (by kernel_rfl)) (fun _ _ _ h => h) (Or.inr ⟨by rfl, rfl⟩) ?_ ?_; rotate_left
  ·simp only [Act.put, List.setIfInBounds_toArray, List.set_cons_zero, List.set_cons_succ, i64_w, i32_w]
   rfl
  refine pure_ (i := 19) (N := some 26) (v := undef) (a' := ?_) #[T,T,T,T,T,T,T,T,T,T,T,T,T,T,T,T,T,T,T,T,F,F,F] rfl rfl (any_of HT_.out (by kernel_rfl)) (fun _ _ _ h => h) (Or.inr ⟨by rfl, rfl⟩) ?_ ?_; rotate_left
  ·simp only [Act.put, List.setIfInBounds_toArray, List.set_cons_zero, List.set_cons_succ, i64_w, i32_w]
   rfl
  refine pure_ (i := 20) (N := some 27) (v := undef) (a' := ?_) #[T,T,T,T,T,T,T,T,T,T,T,T,T,T,T,T,T,T,T,T,T,F,F] rfl rfl (any_of HT_.out (by kernel_rfl)) (fun _ _ _ h => h) (Or.inr ⟨by rfl, rfl⟩) ?_ ?_; rotate_left
  ·simp only [Act.put, List.setIfInBounds_toArray, List.set_cons_zero, List.set_cons_succ, i64_w, i32_w]
   rfl
  refine pure_ (i := 21) (N := some 28) #[T,T,T,T,T,T,T,T,T,T,T,T,T,T,T,T,T,T,T,T,T,T,F] rfl rfl an_ hq_ yi_ nm_ ?_; refine pure_ (i := 22) (N := some 6) #[T,T,T,T,T,T,T,T,T,T,T,T,T,T,T,T,T,T,T,T,T,T,T] rfl rfl an_ hq_ yi_ nm_ ?_; refine done_ (done_of HT_.out (by kernel_rfl)) ?_
  try go_wp2
  go_ret
  exact ⟨tc8_, tc22_⟩

/-! ### impl_FlipPath: function 27 (by hand) -/
def impl_FlipPath.stp (k : Nat) (go : List (List Int) → List (List Int) → Option (List (List Int) × Bool)) (h out L : List (List Int)) : Option (List (List Int) × Bool) := if 0 < (L.length : Int) then (if 0 < ((rd_L3 L 0).length : Int) then (if 1 < ((rd_L3 L 0).length : Int) then (if 0 ≤ rd (rd_L3 L 0) 0 then (if rd (rd_L3 L 0) 0 < (h.length : Int) then (if 0 ≤ rd (rd_L3 L 0) 1 then (if rd (rd_L3 L 0) 1 < ((rd_L3 h (rd (rd_L3 L 0) 0)).length : Int) then (if out.length < 5864062014805 then ((impl_way.f k h (rd (rd_L3 L 0) 0) (rd (rd_L3 L 0) 1)).bind fun t => go (h.set (rd (rd_L3 L 0) 0).toNat ((rd_L3 h (rd (rd_L3 L 0) 0)).set (rd (rd_L3 L 0) 1).toNat (wrap64 (rd (rd_L3 h (rd (rd_L3 L 0) 0)) (rd (rd_L3 L 0) 1) + t)))) (out ++ [([rd (rd_L3 L 0) 0, rd (rd_L3 L 0) 1] : List Int)])) else none) else none) else none) else none) else none) else none) else none) else none
def impl_FlipPath.l0 : Nat → Nat → List (List Int) → List (List Int) → List (List Int) → Option (List (List Int) × Bool)
  | 0, _, _, _, _ => none
  | k + 1, n, h, g, out => (impl_compareTables.f k h g).bind fun t => if t = 0 then some (out, true) else ((impl_cells.f k n (fun i j => impl_FlipPath_1.f k i j h g)).bind fun L => if (L.length : Int) = 0 then ((impl_cells.f k n (fun i j => impl_FlipPath_2.f k i j h g)).bind fun L => impl_FlipPath.stp k (fun h out => impl_FlipPath.l0 k n h g out) h out L) else impl_FlipPath.stp k (fun h out => impl_FlipPath.l0 k n h g out) h out L)
def impl_FlipPath.f (k : Nat) (l0 l1 : List (List Int)) : Option (List (List Int) × Bool) := (impl_arePair.f k l0 l1).bind fun t => if t = true then ((impl_heights.f k l0).bind fun h => (impl_heights.f k l1).bind fun g => impl_FlipPath.l0 k l0.length h g []) else some ([], false)
theorem impl_FlipPath.mono_s {k : Nat} {go go' : List (List Int) → List (List Int) → Option (List (List Int) × Bool)} (hg : ∀ a b, LeO (go a b) (go' a b)) (h out L) : LeO (impl_FlipPath.stp k go h out L) (impl_FlipPath.stp (k + 1) go' h out L) := by
  unfold impl_FlipPath.stp
  exact LeO.ite (LeO.ite (LeO.ite (LeO.ite (LeO.ite (LeO.ite (LeO.ite (LeO.ite (LeO.bind (impl_way.mono _ _ _ _) (fun _ => hg _ _)) (LeO.refl _)) (LeO.refl _)) (LeO.refl _)) (LeO.refl _)) (LeO.refl _)) (LeO.refl _)) (LeO.refl _)) (LeO.refl _)
theorem impl_FlipPath.mono0 : ∀ k n h g out, LeO (impl_FlipPath.l0 k n h g out) (impl_FlipPath.l0 (k + 1) n h g out)
  | 0, _, _, _, _ => fun r h => by simp [impl_FlipPath.l0] at h
  | k + 1, n, h, g, out => by
    unfold impl_FlipPath.l0
    exact LeO.bind (impl_compareTables.mono _ _ _) (fun _ => LeO.ite (LeO.refl _) (LeO.bind (impl_cells.mono _ _ _ (fun _ _ => impl_FlipPath_1.mono _ _ _ _ _) _) (fun _ => LeO.ite (LeO.bind (impl_cells.mono _ _ _ (fun _ _ => impl_FlipPath_2.mono _ _ _ _ _) _) (fun _ => impl_FlipPath.mono_s (fun a b => impl_FlipPath.mono0 k n a g b) _ _ _)) (impl_FlipPath.mono_s (fun a b => impl_FlipPath.mono0 k n a g b) _ _ _))))
set_option maxHeartbeats 4000000 in
set_option maxRecDepth 100000 in
theorem impl_FlipPath.calls (k : Nat) (A0 : Option Addr) (c0 : Nat) (l0 : List (List Int)) (A1 : Option Addr) (c1 : Nat) (l1 : List (List Int)) (r1 : List (List Int)) (r2 : Bool) (w : World) (hr0 : Kd.C (Kd.slice 3 (Kd.int .i64)) w A0 l0.length l0) (hc0 : l0.length ≤ c0) (hr1 : Kd.C (Kd.slice 3 (Kd.int .i64)) w A1 l1.length l1) (hc1 : l1.length ≤ c1) (h : impl_FlipPath.f k l0 l1 = some (r1, r2)) :
    Calls Try.prog 27 #[.slice A0 l0.length c0, .slice A1 l1.length c1] w fun e w' => ∃ v0_ : Value, e = .returned (.tuple #[v0_, .bool r2]) ∧ Kd.S (Kd.slice 3 (Kd.int .i64)) 32 w' w.heap.size (fun _ => True) v0_ r1 ∧ Below w.heap.size w w' := by
  obtain ⟨t, ht, h⟩ := Option.bind_eq_some_iff.mp h
  have HR0 := am_ hr0
  have HC0 := am_ hc0
  have HR1 := am_ hr1
  have HC1 := am_ hc1
  have HT := am_ ht
  clear hr0 hc0 hr1 hc1 ht
  cases t with
  | false =>
    rw [if_neg (by simp)] at h
    obtain ⟨rfl, rfl⟩ := Prod.mk.inj (Option.some.inj h)
    clear h
    go_enter Try.func27, Try.ntmps27
    go_wp2_with (first | (go_at_call 50; go_must (refine (impl_arePair.calls k A0 c0 l0 A1 c1 l1 false w HR0.out HC0.out HR1.out HC1.out HT.out).mono ?_); rintro e w1 ⟨rfl, hb1⟩; have HB1 := am_ hb1; clear hb1))
    go_ret2
    exact ⟨_, rfl, Kd.S_nil _ _ _ _ _, HB1.out⟩
  | true =>
    rw [if_pos rfl] at h
    obtain ⟨h0, hh0, h⟩ := Option.bind_eq_some_iff.mp h
    obtain ⟨g, hg, h⟩ := Option.bind_eq_some_iff.mp h
    have HH := am_ hh0
    have HG := am_ hg
    have HL := am_ h
    clear hh0 hg h
    obtain ⟨n, hn⟩ : ∃ n, h0.length = n := ⟨_, rfl⟩
    obtain ⟨m, hm⟩ : ∃ m, g.length = m := ⟨_, rfl⟩
    have HN := am_ hn
    have HM := am_ hm
    clear hn hm
    go_enter Try.func27, Try.ntmps27
    go_wp2_with (first
      | (go_at_call 50; go_must (with_reducible refine (impl_arePair.calls k A0 c0 l0 A1 c1 l1 true w HR0.out HC0.out HR1.out HC1.out HT.out).mono ?_); rintro e w1 ⟨rfl, hb1⟩; have HB1 := am_ hb1; clear hb1)
      | (go_at_call 42; (with_reducible refine (impl_heights.calls k A0 c0 l0 h0 w1 (Kd.C_below HR0.out HB1.out) HC0.out HH.out).mono ?_); rintro e w2 ⟨v2, rfl, ho2, hb2⟩; have HO2 := am_ (Kd.S_mono (Kd.S_bound (Kd.S_lower ho2 (below_size HB1.out))) (ok' := fun k_ => k_ < w2.heap.size) (fun k_ hk => hk.2.2.1)); have HB2 := am_ (below_step HB1.out hb2); clear ho2 hb2; obtain ⟨A6, c6, e6⟩ := Kd.S_slice HO2.out; subst e6; rw [HN.out] at HO2 ⊢)
      | (go_at_call 42; (with_reducible refine (impl_heights.calls k A1 c1 l1 g w2 (Kd.C_below HR1.out HB2.out) HC1.out HG.out).mono ?_); rintro e w3 ⟨v3, rfl, ho3, hb3⟩; have HG3 := am_ (Kd.S_mono (Kd.S_bound ho3) (ok' := fun k_ => w2.heap.size ≤ k_ ∧ k_ < w3.heap.size) (fun k_ hk => ⟨hk.2.1, hk.2.2.1⟩)); have HO3 := am_ (Kd.S_below HO2.out hb3); have HB3 := am_ (And.intro (below_step HB2.out hb3) (And.intro (below_size HB2.out) (below_size hb3))); clear ho3 hb3; obtain ⟨A7, c7, e7⟩ := Kd.S_slice HG3.out; subst e7; rw [HM.out] at HG3 ⊢))
    clear HT HH HG HR0 HC0 HR1 HC1 HO2 HB1 HB2
    obtain ⟨N, eN⟩ : ∃ N, w2.heap.size = N := ⟨_, rfl⟩
    rw [eN] at HG3 HO3 HB3
    clear eN
    have hK0 := below_alloc (below_alloc (below_alloc (Below.refl w3.heap.size w3) (.cells #[] 32)) (.cells #[.slice A6 n c6] 24)) (.cells #[.slice A7 m c7] 24)
    have HO := am_ (Kd.S_below HO3.out hK0)
    have HG := am_ (Kd.S_below HG3.out hK0)
    have BH := am_ (blk_alloc (blk_new' (w := w3.alloc (.cells #[] 32)) (o := .cells #[.slice A6 n c6] 24) (n := w3.heap.size + 1) (by simp)) (.cells #[.slice A7 m c7] 24))
    have BG := am_ (blk_new' (w := (w3.alloc (.cells #[] 32)).alloc (.cells #[.slice A6 n c6] 24)) (o := .cells #[.slice A7 m c7] 24) (n := w3.heap.size + 1 + 1) (by simp))
    have HU : Aside0 (Kd.S (Kd.slice 3 (Kd.int .i64)) 32 (((w3.alloc (.cells #[] 32)).alloc (.cells #[.slice A6 n c6] 24)).alloc (.cells #[.slice A7 m c7] 24)) w3.heap.size (fun _ => True) (.slice (some ⟨w3.heap.size, 0, none⟩) 0 0) []) := ⟨⟨fun _ => 0, R_empty (blk_alloc (blk_alloc (blk_new _ _) _) _) (Nat.le_refl _) trivial⟩⟩
    have HBW := am_ (And.intro (below_step HB3.out.1 hK0) HB3.out.2)
    have HS := am_ hK0.size
    clear HO3 HG3 HB3 hK0
    obtain ⟨M, eM⟩ : ∃ M, w3.heap.size = M := ⟨_, rfl⟩
    obtain ⟨b6, e6b⟩ : ∃ b, M + 1 = b := ⟨_, rfl⟩
    obtain ⟨b7, e7b⟩ : ∃ b, M + 1 + 1 = b := ⟨_, rfl⟩
    rw [eM] at BH BG HU HBW HS HG ⊢
    rw [e7b] at BG ⊢
    rw [e6b] at BH ⊢
    have HBB := am_ (show M ≤ b6 ∧ M ≤ b7 ∧ b6 ≠ b7 by omega)
    clear e6b e7b
    generalize ((w3.alloc (.cells #[] 32)).alloc (.cells #[.slice A6 n c6] 24)).alloc (.cells #[.slice A7 m c7] 24) = W0 at HO HG BH BG HU HBW HS ⊢
    clear eM
    go_loopg [8] k (fun kq v8 w' => ∃ (hh out : List (List Int)), Aside0 (impl_FlipPath.l0 kq l0.length hh g out = some (r1, r2)) ∧ Aside0 (kq ≤ k) ∧ Aside0 (Kd.S (Kd.slice 3 (Kd.int .i64)) 32 w' w.heap.size (fun k_ => k_ < N) (.slice A6 n c6) hh) ∧ Aside0 (Kd.S (Kd.slice 3 (Kd.int .i64)) 32 w' N (fun k_ => N ≤ k_ ∧ k_ < M) (.slice A7 m c7) g) ∧ Aside0 (Kd.S (Kd.slice 3 (Kd.int .i64)) 32 w' M (fun _ => True) v8 out) ∧ Aside0 (w'.heap[b6]? = some (.cells #[.slice A6 n c6] 24 (0, 0))) ∧ Aside0 (w'.heap[b7]? = some (.cells #[.slice A7 m c7] 24 (0, 0))) ∧ Aside0 (Below w.heap.size w w' ∧ w.heap.size ≤ N ∧ N ≤ M) ∧ Aside0 (M ≤ w'.heap.size))
    case atStart => exact ⟨h0, [], HL, ⟨Nat.le_refl _⟩, HO, HG, HU, BH, BG, HBW, HS⟩
    case round =>
      clear HL HO HG HU BH BG HBW HS HN
      obtain ⟨wo, rfl⟩ : ∃ w_ : World, w_ = wr := ⟨_, rfl⟩
      obtain ⟨hh, out, HL, HK, HO, HG, HU, BH, BG, HB, HS⟩ := hrel
      have H := HL.out
      clear HL
      cases gk with
      | zero => exact absurd H (by simp [impl_FlipPath.l0])
      | succ k1 =>
      simp only [impl_FlipPath.l0] at H
      obtain ⟨t, ht, H⟩ := Option.bind_eq_some_iff.mp H
      have HT := am_ ht
      clear ht
      have HN := am_ (Kd.S_reads' HO.out).1
      obtain ⟨A8, c8, e8⟩ := Kd.S_slice HU.out
      subst e8
      obtain ⟨no, hno⟩ : ∃ no, out.length = no := ⟨_, rfl⟩
      rw [hno] at HU ⊢
      clear hno
      have hl6 : wo.cell? ⟨b6, 0, none⟩ = some (.slice A6 n c6) := (blk_cell BH.out 0).trans rfl
      have hl7 : wo.cell? ⟨b7, 0, none⟩ = some (.slice A7 m c7) := (blk_cell BG.out 0).trans rfl
      have HM2 := am_ (Kd.S_reads' HG.out).1
      by_cases ct : t = 0
      · rw [if_pos ct] at H
        subst ct
        obtain ⟨rfl, rfl⟩ := Prod.mk.inj (Option.some.inj H)
        clear H
        go_wp2_with (first | (go_at_call 73; (try rw [HN.out]); (try rw [HM2.out]); go_must (with_reducible refine (impl_compareTables.calls k1 A6 c6 hh A7 c7 g 0 _ (Kd.S_reads' HO.out).2.2 tc73_ (Kd.S_reads' HG.out).2.2 tc104_ HT.out).mono ?_); rintro e w4 ⟨rfl, hb4⟩; (try rw [← HN.out]); (try rw [← HM2.out]); have HU4 := am_ (Kd.S_below HU.out hb4); have HB4 := am_ (below_step HB.out.1 hb4); clear hb4))
        go_ret2
        exact ⟨_, rfl, Kd.S_mono (Kd.S_lower HU4.out (by have := HB.out; omega)) (fun _ _ => trivial), HB4.out⟩
      · rw [if_neg ct] at H
        have z1 : (t != 0) = true := by simpa using ct
        obtain ⟨L, hL, H⟩ := Option.bind_eq_some_iff.mp H
        have HL1 := am_ hL
        clear hL
        obtain ⟨nl, hnl⟩ : ∃ nl, L.length = nl := ⟨_, rfl⟩
        have HNL := am_ hnl
        by_cases cl : (L.length : Int) = 0
        · rw [if_pos cl] at H
          have z2 : ((nl : Int) == 0) = true := by have : nl = 0 := by omega
                                                   simp [this]
          clear hnl cl
          obtain ⟨L, hL, H⟩ := Option.bind_eq_some_iff.mp H
          have HL2 := am_ hL
          clear hL
          obtain ⟨nl2, hnl⟩ : ∃ nl, L.length = nl := ⟨_, rfl⟩
          have HNL2 := am_ hnl
          have q1 : 0 < (L.length : Int) := Classical.byContradiction fun q => by unfold impl_FlipPath.stp at H; rw [if_neg q] at H; cases H
          have q2 : 0 < ((rd_L3 L 0).length : Int) := Classical.byContradiction fun q => by unfold impl_FlipPath.stp at H; rw [if_pos q1, if_neg q] at H; cases H
          have q3 : 1 < ((rd_L3 L 0).length : Int) := Classical.byContradiction fun q => by unfold impl_FlipPath.stp at H; rw [if_pos q1, if_pos q2, if_neg q] at H; cases H
          have q4 : 0 ≤ rd (rd_L3 L 0) 0 := Classical.byContradiction fun q => by unfold impl_FlipPath.stp at H; rw [if_pos q1, if_pos q2, if_pos q3, if_neg q] at H; cases H
          have q5 : rd (rd_L3 L 0) 0 < (hh.length : Int) := Classical.byContradiction fun q => by unfold impl_FlipPath.stp at H; rw [if_pos q1, if_pos q2, if_pos q3, if_pos q4, if_neg q] at H; cases H
          have q6 : 0 ≤ rd (rd_L3 L 0) 1 := Classical.byContradiction fun q => by unfold impl_FlipPath.stp at H; rw [if_pos q1, if_pos q2, if_pos q3, if_pos q4, if_pos q5, if_neg q] at H; cases H
          have q7 : rd (rd_L3 L 0) 1 < ((rd_L3 hh (rd (rd_L3 L 0) 0)).length : Int) := Classical.byContradiction fun q => by unfold impl_FlipPath.stp at H; rw [if_pos q1, if_pos q2, if_pos q3, if_pos q4, if_pos q5, if_pos q6, if_neg q] at H; cases H
          have q8 : out.length < 5864062014805 := Classical.byContradiction fun q => by unfold impl_FlipPath.stp at H; rw [if_pos q1, if_pos q2, if_pos q3, if_pos q4, if_pos q5, if_pos q6, if_pos q7, if_neg q] at H; cases H
          unfold impl_FlipPath.stp at H
          rw [if_pos q1, if_pos q2, if_pos q3, if_pos q4, if_pos q5, if_pos q6, if_pos q7, if_pos q8] at H
          obtain ⟨t2, ht2, HF⟩ := Option.bind_eq_some_iff.mp H
          have HWAY := am_ ht2
          replace HF := am_ HF
          clear H ht2
          rw [hnl] at q1
          have z4 : ((nl2 : Int) == 0) = false := by simp; omega
          have Q8 := am_ q8
          clear hnl q8
          obtain ⟨rw_, hrw⟩ : ∃ x, rd_L3 L 0 = x := ⟨_, rfl⟩
          obtain ⟨i, hi⟩ : ∃ x, rd rw_ 0 = x := ⟨_, rfl⟩
          obtain ⟨j, hj⟩ : ∃ x, rd rw_ 1 = x := ⟨_, rfl⟩
          rw [hrw] at q2 q3 q4 q5 q6 q7 HF HWAY
          rw [hi] at q4 q5 q7 HF HWAY
          rw [hj] at q6 q7 HF HWAY
          rw [← HN.out] at q5
          have HRW := am_ hrw
          have HI := am_ hi
          have HJ := am_ hj
          clear hrw hi hj
          go_wp2_with (first | (go_at_call 73; (try rw [HN.out]); (try rw [HM2.out]); go_must (with_reducible refine (impl_compareTables.calls k1 A6 c6 hh A7 c7 g t _ (Kd.S_reads' HO.out).2.2 tc73_ (Kd.S_reads' HG.out).2.2 tc104_ HT.out).mono ?_); rintro e w4 ⟨rfl, hb4⟩; (try rw [← HN.out]); (try rw [← HM2.out]); have HO4 := am_ (Kd.S_below HO.out hb4); have HG4 := am_ (Kd.S_below HG.out hb4); have HU4 := am_ (Kd.S_below HU.out hb4); have BH4 := am_ (blk_below BH.out hb4); have BG4 := am_ (blk_below BG.out hb4); have HB4 := am_ (below_step HB.out.1 hb4); have HS4 := am_ (Nat.le_trans HS.out (below_size hb4)); clear hb4) | (go_at_call 64; (with_reducible refine (impl_cells.calls k1 (l0.length : Int) 74 #[.pointer (some ⟨b6, 0, none⟩), .pointer (some ⟨b7, 0, none⟩)] (fun i j => impl_FlipPath_1.f k1 i j hh g) _ _ ?fn HL1.out).mono ?_); (case fn => exact ⟨enters_of Try.func74 (by kernel_rfl) rfl, fun W_ hW_ x0_ v0_ hK0_ x1_ v1_ hK1_ r_ hr_ => by (cases (show v0_ = .int .i64 x0_ from by simpa [Kd.int, Kd.bool, Kd.string, Kd.scalar] using hK0_); cases (show v1_ = .int .i64 x1_ from by simpa [Kd.int, Kd.bool, Kd.string, Kd.scalar] using hK1_); exact impl_FlipPath_1.calls k1 x0_ x1_ b6 A6 c6 hh b7 A7 c7 g r_ W_ (by rw [← HN.out]; exact blk_below BH4.out hW_) (Kd.C_below (Kd.S_reads' HO4.out).2.2 hW_) tc123_ (by rw [← HM2.out]; exact blk_below BG4.out hW_) (Kd.C_below (Kd.S_reads' HG4.out).2.2 hW_) tc124_ hr_)⟩); rintro e w5 ⟨v5, rfl, hc5, hb5⟩; have HO5 := am_ (Kd.S_below HO4.out hb5); have HG5 := am_ (Kd.S_below HG4.out hb5); have HU5 := am_ (Kd.S_below HU4.out hb5); have BH5 := am_ (blk_below BH4.out hb5); have BG5 := am_ (blk_below BG4.out hb5); have HB5 := am_ (below_step HB4.out hb5); have HS5 := am_ (Nat.le_trans HS4.out (below_size hb5)); have HC5 := am_ hc5; clear hc5 hb5; obtain ⟨A5, c5_, e5⟩ := Kd.S_slice HC5.out; subst e5; rw [HNL.out] at HC5 ⊢) | (go_at_call 64; (with_reducible refine (impl_cells.calls k1 (l0.length : Int) 75 #[.pointer (some ⟨b6, 0, none⟩), .pointer (some ⟨b7, 0, none⟩)] (fun i j => impl_FlipPath_2.f k1 i j hh g) L _ ?fn HL2.out).mono ?_); (case fn => exact ⟨enters_of Try.func75 (by kernel_rfl) rfl, fun W_ hW_ x0_ v0_ hK0_ x1_ v1_ hK1_ r_ hr_ => by (cases (show v0_ = .int .i64 x0_ from by simpa [Kd.int, Kd.bool, Kd.string, Kd.scalar] using hK0_); cases (show v1_ = .int .i64 x1_ from by simpa [Kd.int, Kd.bool, Kd.string, Kd.scalar] using hK1_); exact impl_FlipPath_2.calls k1 x0_ x1_ b6 A6 c6 hh b7 A7 c7 g r_ W_ (by rw [← HN.out]; exact blk_below BH5.out hW_) (Kd.C_below (Kd.S_reads' HO5.out).2.2 hW_) (by have h1_ := (Kd.S_reads' HO5.out).1; have h2_ := (Kd.S_reads' HO5.out).2.1; omega) (by rw [← HM2.out]; exact blk_below BG5.out hW_) (Kd.C_below (Kd.S_reads' HG5.out).2.2 hW_) (by have h1_ := (Kd.S_reads' HG5.out).1; have h2_ := (Kd.S_reads' HG5.out).2.1; omega) hr_)⟩); rintro e w6 ⟨v6, rfl, hc6, hb6⟩; have HO6 := am_ (Kd.S_below HO5.out hb6); have HG6 := am_ (Kd.S_below HG5.out hb6); have HU6 := am_ (Kd.S_below HU5.out hb6); have BH6 := am_ (blk_below BH5.out hb6); have BG6 := am_ (blk_below BG5.out hb6); have HB6 := am_ (below_step HB5.out hb6); have HS6 := am_ (Nat.le_trans HS5.out (below_size hb6)); have HC6 := am_ hc6; clear hc6 hb6; obtain ⟨A6, c6_, e6⟩ := Kd.S_slice HC6.out; subst e6; rw [HNL2.out] at HC6 ⊢))
          clear HO HG HU BH BG HS hl6 hl7
          have HNB := am_ HB.out.2
          clear HB
          have HO := am_ (Kd.S_drew HO6.out)
          have HG := am_ (Kd.S_drew HG6.out)
          have HU := am_ (Kd.S_drew HU6.out)
          have BH := am_ (blk_drew BH6.out)
          have BG := am_ (blk_drew BG6.out)
          have HB := am_ (below_drew1 HB6.out)
          have HS := am_ (show M ≤ (World.drew w6).heap.size from HS6.out)
          have HC := am_ (Kd.S_drew HC6.out)
          clear HO4 HG4 HU4 BH4 BG4 HB4 HS4 HO5 HG5 HU5 BH5 BG5 HB5 HS5 HO6 HG6 HU6 BH6 BG6 HB6 HS6 HC5 HC6
          have HCN := am_ (Kd.S_reads' HC.out).1
          obtain ⟨adL, Ar, cr, eAL, hxL, hlr, hir⟩ := at_L3 (Kd.S_reads' HC.out).2.2 0 (by omega) (by rw [HNL2.out]; omega)
          subst eAL
          rw [HRW.out] at hxL hlr hir
          rw [show ((0 : Int)).toNat = 0 from rfl, Addr.add_zero'] at hxL
          obtain ⟨ar, ear, hc0⟩ := Kd.at_int hir 0 (by omega) q2
          subst ear
          obtain ⟨ar2, ear2, hc1⟩ := Kd.at_int hir 1 (by omega) q3
          obtain rfl := Option.some.inj ear2
          clear ear2
          rw [show ((0 : Int)).toNat = 0 from rfl, Addr.add_zero', HI.out] at hc0
          rw [HJ.out] at hc1
          simp only [show (1 : Int).toNat = 1 from rfl, Nat.reduceMul, Nat.reduceEqDiff, Go.Addr.add, ↓reduceIte] at hc1
          obtain ⟨nr, hnr⟩ : ∃ x, rw_.length = x := ⟨_, rfl⟩
          rw [hnr] at hxL q2 q3
          have y1 : (0 < nl2) = True := eq_true (by omega)
          have y2 : (0 < nr) = True := eq_true (by omega)
          have y3 : (1 < nr) = True := eq_true (by omega)
          have p1 := eq_true q1
          have p2 := eq_true q2
          have p3 := eq_true q3
          clear hlr hir hnr
          refine start_ (n := 12) (S := fun w' => w'.cell? adL = some (.slice (some ar) nr cr) ∧ w'.cell? ar = some (.int .i64 i) ∧ w'.cell? ⟨ar.block, ar.off + 1, none⟩ = some (.int .i64 j)) (ds := []) #[F_, F_, F_, F_, F_, F_, F_, F_, F_, F_, F_, F_] (by kernel_rfl) rfl rfl ⟨hxL, hc0, hc1⟩ (fun hHeld => ?_)
          generalize hW_ : World.drew _ = W at HO HG HU BH BG HB HS HC hxL hc0 hc1 hHeld ⊢
          clear hW_
          refine pure_ (i := 0) (N := some 36) #[T_, F_, F_, F_, F_, F_, F_, F_, F_, F_, F_, F_] rfl rfl ak_ hq_ yi_ nm_ ?_
          refine pure_ (i := 1) (N := some 37) #[T_, T_, F_, F_, F_, F_, F_, F_, F_, F_, F_, F_] rfl rfl ak_ hq_ yi_ nm_ ?_
          refine pure_ (i := 5) (N := some 41) #[T_, T_, F_, F_, F_, T_, F_, F_, F_, F_, F_, F_] rfl rfl ak_ hq_ yi_ nm_ ?_
          refine pure_ (i := 6) (N := some 42) #[T_, T_, F_, F_, F_, T_, T_, F_, F_, F_, F_, F_] rfl rfl ak_ hq_ yi_ nm_ ?_
          refine take_ (i := 2) (N := some 38) #[T_, T_, T_, F_, F_, T_, T_, F_, F_, F_, F_, F_] rfl rfl ak_ hq_ yj3_ hHeld nm_ ?_
          refine pure_ (i := 3) (N := some 39) #[T_, T_, T_, T_, F_, T_, T_, F_, F_, F_, F_, F_] rfl rfl ak_ hq_ yi_ nm_ ?_
          refine take_ (i := 4) (N := some 40) #[T_, T_, T_, T_, T_, T_, T_, F_, F_, F_, F_, F_] rfl rfl ak_ hq_ yj3_ hHeld nm_ ?_
          refine pure_ (i := 10) (N := some 10) #[T_, T_, T_, T_, T_, T_, T_, F_, F_, F_, T_, F_] rfl rfl ak_ hq_ yi_ nm_ ?_
          refine take_ (i := 7) (N := some 43) #[T_, T_, T_, T_, T_, T_, T_, T_, F_, F_, T_, F_] rfl rfl ak_ hq_ yj3_ hHeld nm_ ?_
          refine pure_ (i := 8) (N := some 44) #[T_, T_, T_, T_, T_, T_, T_, T_, T_, F_, T_, F_] rfl rfl ak_ hq_ yi_ nm_ ?_
          refine take_ (i := 9) (N := some 45) #[T_, T_, T_, T_, T_, T_, T_, T_, T_, T_, T_, F_] rfl rfl ak_ hq_ yj3_ hHeld nm_ ?_
          refine pure_ (i := 11) (N := some 11) #[T_, T_, T_, T_, T_, T_, T_, T_, T_, T_, T_, T_] rfl rfl ak_ hq_ yi_ nm_ ?_
          refine done_ (by kernel_rfl) ?_
          clear hxL hc0 hc1 y1 y2 y3 p1 p2 p3 HC HCN HRW HI HJ
          go_wp2
          replace HO := am_ (Kd.S_drew HO.out)
          replace HG := am_ (Kd.S_drew HG.out)
          replace HU := am_ (Kd.S_drew HU.out)
          replace BH := am_ (blk_drew BH.out)
          replace BG := am_ (blk_drew BG.out)
          replace HB := am_ (below_drew1 HB.out)
          replace HS := am_ (show M ≤ (World.drew W).heap.size from HS.out)
          obtain ⟨g6, cap6, e6_, _⟩ := Kd.S_form HO.out (by have := HN.out; omega)
          injection e6_ with e6a e6b e6c
          subst e6a
          clear e6b e6c
          obtain ⟨Aw, cw, hx, hall⟩ := S_cell2k HO.out i q4 q5
          obtain ⟨aw, eaw, hy, _, _, _, _⟩ := hall j q6 q7
          subst eaw
          clear hall
          rw [show hh.getD i.toNat [] = rd_L3 hh i from rfl] at hx hy
          rw [Addr.add_lit, Nat.zero_add] at hx
          have hl6 : (World.drew W).cell? ⟨b6, 0, none⟩ = some (.slice (some ⟨g6, 0, none⟩) n c6) := (blk_cell BH.out 0).trans rfl
          have p4 := eq_true q4
          have p5 := eq_true q5
          have p6 := eq_true q6
          have p7 := eq_true q7
          refine start_ (n := 14) (S := fun w' => w'.cell? ⟨b6, 0, none⟩ = some (.slice (some ⟨g6, 0, none⟩) n c6) ∧ w'.cell? ⟨g6, i.toNat, none⟩ = some (.slice (some aw) (rd_L3 hh i).length cw) ∧ w'.cell? (aw.add j.toNat) = some (.int .i64 (rd (rd_L3 hh i) j))) (ds := [13]) #[F_, F_, F_, F_, F_, F_, F_, F_, F_, F_, F_, F_, F_, F_] (by kernel_rfl) rfl rfl ⟨hl6, hx, hy⟩ (fun hHeld => ?_)
          generalize hW_ : World.drew _ = W2 at HO HG HU BH BG HB HS hl6 hx hy hHeld ⊢
          clear hW_
          have HX := am_ hx
          have HY := am_ hy
          have HZ := am_ hl6
          clear hx hy hl6
          refine pure_ (i := 1) (N := some 47) #[F_, T_, F_, F_, F_, F_, F_, F_, F_, F_, F_, F_, F_, F_] rfl rfl ak_ hq_ yi_ nm_ ?_
          refine pure_ (i := 4) (N := some 50) #[F_, T_, F_, F_, T_, F_, F_, F_, F_, F_, F_, F_, F_, F_] rfl rfl ak_ hq_ yi_ nm_ ?_
          refine pure_ (i := 8) (N := some 54) #[F_, T_, F_, F_, T_, F_, F_, F_, T_, F_, F_, F_, F_, F_] rfl rfl ak_ hq_ yi_ nm_ ?_
          refine pure_ (i := 9) (N := some 55) #[F_, T_, F_, F_, T_, F_, F_, F_, T_, T_, F_, F_, F_, F_] rfl rfl ak_ hq_ yi_ nm_ ?_
          refine take_ (i := 0) (N := some 46) #[T_, T_, F_, F_, T_, F_, F_, F_, T_, T_, F_, F_, F_, F_] rfl rfl ak_ hq_ yj3_ hHeld nm_ ?_
          refine pure_ (i := 2) (N := some 48) #[T_, T_, T_, F_, T_, F_, F_, F_, T_, T_, F_, F_, F_, F_] rfl rfl ak_ hq_ yi_ nm_ ?_
          refine take_ (i := 3) (N := some 49) #[T_, T_, T_, T_, T_, F_, F_, F_, T_, T_, F_, F_, F_, F_] rfl rfl ak_ hq_ yj3_ hHeld nm_ ?_
          refine pure_ (i := 5) (N := some 51) #[T_, T_, T_, T_, T_, T_, F_, F_, T_, T_, F_, F_, F_, F_] rfl rfl ak_ hq_ yi_ nm_ ?_
          refine take_ (i := 6) (N := some 52) #[T_, T_, T_, T_, T_, T_, T_, F_, T_, T_, F_, F_, F_, F_] rfl rfl ak_ hq_ yj3_ hHeld nm_ ?_
          refine take_ (i := 7) (N := some 53) #[T_, T_, T_, T_, T_, T_, T_, T_, T_, T_, F_, F_, F_, F_] rfl rfl ak_ hq_ yj3_ hHeld nm_ ?_
          refine one_ (i := 10) (N := some 56) #[T_, T_, T_, T_, T_, T_, T_, T_, T_, T_, T_, F_, F_, F_] rfl rfl (by kernel_rfl) (by decide) (fun K hK => ?_)
          refine goes_ Try.func46 (by kernel_rfl) rfl #[.slice (some ⟨g6, 0, none⟩) n c6, .int .i64 i, .int .i64 j] (by rfl) rfl rfl tc40_ ?_
          refine calls_of_args (show (#[.slice (some ⟨g6, 0, none⟩) n c6, .int .i64 i, .int .i64 j] : Array Value) = #[.slice (some ⟨g6, 0, none⟩) hh.length c6, .int .i64 i, .int .i64 j] by rw [HN.out]) ?_
          refine (impl_way.calls k1 (some ⟨g6, 0, none⟩) c6 hh i j t2 _ (Kd.S_reads' HO.out).2.2 tc73_ HWAY.out).mono ?_
          rintro e w8 ⟨rfl, hb⟩
          refine ⟨_, rfl, ?_⟩
          have n1_ := am_ (Kd.S_below HO.out hb)
          have n2_ := am_ (Kd.S_below HG.out hb)
          have n3_ := am_ (Kd.S_below HU.out hb)
          have n4_ := am_ (blk_below BH.out hb)
          have n5_ := am_ (blk_below BG.out hb)
          have n6_ := am_ (below_step HB.out hb)
          have n7_ := am_ (Nat.le_trans HS.out (below_size hb))
          have n8_ := am_ (cell_of_below hb HX.out)
          have n9_ := am_ (cell_of_below hb HY.out)
          have n0_ := am_ (cell_of_below hb HZ.out)
          clear HO HG HU BH BG HB HS HX HY HZ hb
          have HO := n1_
          have HG := n2_
          have HU := n3_
          have BH := n4_
          have BG := n5_
          have HB := n6_
          have HS := n7_
          have HX := n8_
          have HY := n9_
          have HZ := n0_
          clear n1_ n2_ n3_ n4_ n5_ n6_ n7_ n8_ n9_ n0_
          refine hK.out _ _ ⟨HZ.out, HX.out, HY.out⟩ (fun hHeld => ?_)
          clear hK K
          refine norm_ (a' := ?_) ?_ ?_
          rotate_left
          · show Act.put _ (some 56) _ = _
            simp only [Act.put, List.setIfInBounds_toArray, List.set_cons_zero, List.set_cons_succ, i64_w, i32_w]
            rfl
          refine pure_ (i := 11) (N := some 57) #[T_, T_, T_, T_, T_, T_, T_, T_, T_, T_, T_, T_, F_, F_] rfl rfl ak_ hq_ yi_ nm_ ?_
          refine pure_ (i := 12) (N := some 58) #[T_, T_, T_, T_, T_, T_, T_, T_, T_, T_, T_, T_, T_, F_] rfl rfl ak_ hq_ yi_ nm_ ?_
          refine last_ (i := 13) (N := none) #[T_, T_, T_, T_, T_, T_, T_, T_, T_, T_, T_, T_, T_, T_] rfl rfl (by kernel_rfl) (by decide) (fun K hK => ?_)
          obtain ⟨Aw2, cw2, hx2, hall2⟩ := S_cell2k HO.out i (of_eq_true p4) (of_eq_true p5)
          rw [Addr.add_lit, Nat.zero_add] at hx2
          have e2_ := Option.some.inj (hx2.symm.trans HX.out)
          injection e2_ with e3_ e4_ e5_
          subst e3_ e5_
          clear e4_ hx2
          obtain ⟨aw2, ea2, hc2, hf2, hg2, hok2, hback2⟩ := hall2 j (of_eq_true p6) (of_eq_true p7)
          obtain rfl := Option.some.inj ea2
          clear ea2 hall2
          refine skip_ (w1 := ?_) (by rfl) rfl ?_ ?_
          rotate_left
          · go_simp
            rfl
          refine hK.out _ _ ?_
          clear hK K
          refine done_ (by kernel_rfl) ?_
          have HB3 := hback2 (wrap64 (rd (rd_L3 hh i) j + t2))
          clear HO hback2
          have HO := am_ HB3
          clear HB3
          have hbb := HBB.out
          have hnb := HNB.out
          have HG7 := am_ (Kd.S_far HG.out (p := aw.add j.toNat) (fun k_ hk he => by omega) (.int .i64 (wrap64 (rd (rd_L3 hh i) j + t2))))
          have HU7 := am_ (Kd.S_far (Kd.S_mono (Kd.S_bound HU.out) (ok' := fun k_ => M ≤ k_) (fun k_ hk => hk.2.1)) (p := aw.add j.toNat) (fun k_ hk he => by omega) (.int .i64 (wrap64 (rd (rd_L3 hh i) j + t2))))
          have BH7 := am_ ((Below.heap_setCell w8 (aw.add j.toNat) (.int .i64 (wrap64 (rd (rd_L3 hh i) j + t2))) b6 (by omega)).trans BH.out)
          have BG7 := am_ ((Below.heap_setCell w8 (aw.add j.toNat) (.int .i64 (wrap64 (rd (rd_L3 hh i) j + t2))) b7 (by omega)).trans BG.out)
          have HB7 := am_ (HB.out.setCell hg2 (.int .i64 (wrap64 (rd (rd_L3 hh i) j + t2))))
          have HS7 := am_ (Nat.le_trans HS.out ((Below.refl 0 w8).setCell (p := aw.add j.toNat) (Nat.zero_le _) (.int .i64 (wrap64 (rd (rd_L3 hh i) j + t2)))).size)
          clear HG HU BH BG HB HS HX HY HZ hf2 hg2 hok2 hc2
          generalize World.setCell w8 _ _ = W8 at HO HG7 HU7 BH7 BG7 HB7 HS7 ⊢
          have HU8 := am_ (Kd.S_mono (Kd.S_bound HU7.out) (ok' := fun k_ => k_ < W8.heap.size) (fun k_ hk => hk.2.2.1))
          clear HU7
          go_wp2_with (first | ((with_reducible refine gate_builtin (b := .append) (xs := #[.tmp 59, .tmp 63]) rfl ?_); at_builtin; go_must (refine Kd.S_append (Kd.slice 3 (Kd.int .i64)) (w0 := W8.alloc (.cells #[.int .i64 i, .int .i64 j] 3 (0, 0))) M rfl (.tmp 59) (.tmp 63) 24 32 (.slice none 0 0) 24 rfl Try.underlying24 info32 rfl (by decide) (by omega) (.slice A8 no c8) out [i, j] [.slice (some ⟨W8.heap.size, 0, none⟩) 2 2] (fun _ => True) (fun k_ => k_ = W8.heap.size) rfl (by rw [show (W8.alloc (.cells #[.int .i64 i, .int .i64 j] 3 (0, 0))).heap.size = W8.heap.size + 1 by simp]; rfl) ?aP ?aQ (fun _ _ => trivial) ?aO (Below.refl _ _) (by simp; have := HS7.out; omega) (by have := Q8.out; omega) ?_); go_must (case aP => exact Kd.M_row (R_nums (ok := fun k_ => k_ = W8.heap.size) (e := 3) (base := M) (xs := [i, j]) (k := .i64) (blk_new W8 (.cells #[.int .i64 i, .int .i64 j] 3 (0, 0))) HS7.out (by simp) rfl)); go_must (case aQ => exact fun k_ hk_ => ⟨trivial, fun e_ => by have h_ := (Kd.S_R HU8.out).1 k_ e_.symm; omega⟩); go_must (case aO => exact Kd.S_mono (Kd.S_alloc HU8.out (.cells #[.int .i64 i, .int .i64 j] 3 (0, 0))) (fun k_ hk => ⟨trivial, by omega⟩)); intro v9 w9 ho hb hg hat; have HU9 := am_ ho; have HB9 := am_ ((below_alloc HB7.out (.cells #[.int .i64 i, .int .i64 j] 3 (0, 0))).trans (hb.mono (Nat.le_trans hnb.1 hnb.2))); have HO9 := am_ (Kd.S_grown (Kd.S_alloc HO.out (.cells #[.int .i64 i, .int .i64 j] 3 (0, 0))) hg (fun k_ hk e_ => by have h_ := Kd.S_base HU8.out k_ e_.symm; omega)); have HG9 := am_ (Kd.S_grown (Kd.S_alloc HG7.out (.cells #[.int .i64 i, .int .i64 j] 3 (0, 0))) hg (fun k_ hk e_ => by have h_ := Kd.S_base HU8.out k_ e_.symm; omega)); have BH9 := am_ (blk_grown (blk_alloc BH7.out (.cells #[.int .i64 i, .int .i64 j] 3 (0, 0))) hg (Kd.S_ne HU8.out BH7.out (by decide))); have BG9 := am_ (blk_grown (blk_alloc BG7.out (.cells #[.int .i64 i, .int .i64 j] 3 (0, 0))) hg (Kd.S_ne HU8.out BG7.out (by decide))); have HS9 := am_ (Nat.le_trans (show M ≤ (W8.alloc (.cells #[.int .i64 i, .int .i64 j] 3 (0, 0))).heap.size by simp; have := HS7.out; omega) hb.size); clear ho hb hg hat))
          go_roundg k1
          case measure => have := HK.out; omega
          case rel => exact ⟨_, _, HF, ⟨by have := HK.out; omega⟩, HO9, HG9, HU9, BH9, BG9, ⟨HB9.out, HNB.out⟩, HS9⟩
        · rw [if_neg cl] at H
          have z2 : ((nl : Int) == 0) = false := by simp; omega
          have q1 : 0 < (L.length : Int) := Classical.byContradiction fun q => by unfold impl_FlipPath.stp at H; rw [if_neg q] at H; cases H
          have q2 : 0 < ((rd_L3 L 0).length : Int) := Classical.byContradiction fun q => by unfold impl_FlipPath.stp at H; rw [if_pos q1, if_neg q] at H; cases H
          have q3 : 1 < ((rd_L3 L 0).length : Int) := Classical.byContradiction fun q => by unfold impl_FlipPath.stp at H; rw [if_pos q1, if_pos q2, if_neg q] at H; cases H
          have q4 : 0 ≤ rd (rd_L3 L 0) 0 := Classical.byContradiction fun q => by unfold impl_FlipPath.stp at H; rw [if_pos q1, if_pos q2, if_pos q3, if_neg q] at H; cases H
          have q5 : rd (rd_L3 L 0) 0 < (hh.length : Int) := Classical.byContradiction fun q => by unfold impl_FlipPath.stp at H; rw [if_pos q1, if_pos q2, if_pos q3, if_pos q4, if_neg q] at H; cases H
          have q6 : 0 ≤ rd (rd_L3 L 0) 1 := Classical.byContradiction fun q => by unfold impl_FlipPath.stp at H; rw [if_pos q1, if_pos q2, if_pos q3, if_pos q4, if_pos q5, if_neg q] at H; cases H
          have q7 : rd (rd_L3 L 0) 1 < ((rd_L3 hh (rd (rd_L3 L 0) 0)).length : Int) := Classical.byContradiction fun q => by unfold impl_FlipPath.stp at H; rw [if_pos q1, if_pos q2, if_pos q3, if_pos q4, if_pos q5, if_pos q6, if_neg q] at H; cases H
          have q8 : out.length < 5864062014805 := Classical.byContradiction fun q => by unfold impl_FlipPath.stp at H; rw [if_pos q1, if_pos q2, if_pos q3, if_pos q4, if_pos q5, if_pos q6, if_pos q7, if_neg q] at H; cases H
          unfold impl_FlipPath.stp at H
          rw [if_pos q1, if_pos q2, if_pos q3, if_pos q4, if_pos q5, if_pos q6, if_pos q7, if_pos q8] at H
          obtain ⟨t2, ht2, HF⟩ := Option.bind_eq_some_iff.mp H
          have HWAY := am_ ht2
          replace HF := am_ HF
          clear H ht2
          rw [hnl] at q1
          have z4 : ((nl : Int) == 0) = false := by simp; omega
          have Q8 := am_ q8
          clear hnl q8
          obtain ⟨rw_, hrw⟩ : ∃ x, rd_L3 L 0 = x := ⟨_, rfl⟩
          obtain ⟨i, hi⟩ : ∃ x, rd rw_ 0 = x := ⟨_, rfl⟩
          obtain ⟨j, hj⟩ : ∃ x, rd rw_ 1 = x := ⟨_, rfl⟩
          rw [hrw] at q2 q3 q4 q5 q6 q7 HF HWAY
          rw [hi] at q4 q5 q7 HF HWAY
          rw [hj] at q6 q7 HF HWAY
          rw [← HN.out] at q5
          have HRW := am_ hrw
          have HI := am_ hi
          have HJ := am_ hj
          clear hrw hi hj
          go_wp2_with (first | (go_at_call 73; (try rw [HN.out]); (try rw [HM2.out]); go_must (with_reducible refine (impl_compareTables.calls k1 A6 c6 hh A7 c7 g t _ (Kd.S_reads' HO.out).2.2 tc73_ (Kd.S_reads' HG.out).2.2 tc104_ HT.out).mono ?_); rintro e w4 ⟨rfl, hb4⟩; (try rw [← HN.out]); (try rw [← HM2.out]); have HO4 := am_ (Kd.S_below HO.out hb4); have HG4 := am_ (Kd.S_below HG.out hb4); have HU4 := am_ (Kd.S_below HU.out hb4); have BH4 := am_ (blk_below BH.out hb4); have BG4 := am_ (blk_below BG.out hb4); have HB4 := am_ (below_step HB.out.1 hb4); have HS4 := am_ (Nat.le_trans HS.out (below_size hb4)); clear hb4) | (go_at_call 64; (with_reducible refine (impl_cells.calls k1 (l0.length : Int) 74 #[.pointer (some ⟨b6, 0, none⟩), .pointer (some ⟨b7, 0, none⟩)] (fun i j => impl_FlipPath_1.f k1 i j hh g) L _ ?fn HL1.out).mono ?_); (case fn => exact ⟨enters_of Try.func74 (by kernel_rfl) rfl, fun W_ hW_ x0_ v0_ hK0_ x1_ v1_ hK1_ r_ hr_ => by (cases (show v0_ = .int .i64 x0_ from by simpa [Kd.int, Kd.bool, Kd.string, Kd.scalar] using hK0_); cases (show v1_ = .int .i64 x1_ from by simpa [Kd.int, Kd.bool, Kd.string, Kd.scalar] using hK1_); exact impl_FlipPath_1.calls k1 x0_ x1_ b6 A6 c6 hh b7 A7 c7 g r_ W_ (by rw [← HN.out]; exact blk_below BH4.out hW_) (Kd.C_below (Kd.S_reads' HO4.out).2.2 hW_) tc123_ (by rw [← HM2.out]; exact blk_below BG4.out hW_) (Kd.C_below (Kd.S_reads' HG4.out).2.2 hW_) tc124_ hr_)⟩); rintro e w5 ⟨v5, rfl, hc5, hb5⟩; have HO5 := am_ (Kd.S_below HO4.out hb5); have HG5 := am_ (Kd.S_below HG4.out hb5); have HU5 := am_ (Kd.S_below HU4.out hb5); have BH5 := am_ (blk_below BH4.out hb5); have BG5 := am_ (blk_below BG4.out hb5); have HB5 := am_ (below_step HB4.out hb5); have HS5 := am_ (Nat.le_trans HS4.out (below_size hb5)); have HC5 := am_ hc5; clear hc5 hb5; obtain ⟨A5, c5_, e5⟩ := Kd.S_slice HC5.out; subst e5; rw [HNL.out] at HC5 ⊢))
          clear HO HG HU BH BG HS hl6 hl7
          have HNB := am_ HB.out.2
          clear HB
          have HO := am_ (Kd.S_drew HO5.out)
          have HG := am_ (Kd.S_drew HG5.out)
          have HU := am_ (Kd.S_drew HU5.out)
          have BH := am_ (blk_drew BH5.out)
          have BG := am_ (blk_drew BG5.out)
          have HB := am_ (below_drew1 HB5.out)
          have HS := am_ (show M ≤ (World.drew w5).heap.size from HS5.out)
          have HC := am_ (Kd.S_drew HC5.out)
          clear HO4 HG4 HU4 BH4 BG4 HB4 HS4 HO5 HG5 HU5 BH5 BG5 HB5 HS5 HC5
          have HCN := am_ (Kd.S_reads' HC.out).1
          obtain ⟨adL, Ar, cr, eAL, hxL, hlr, hir⟩ := at_L3 (Kd.S_reads' HC.out).2.2 0 (by omega) (by rw [HNL.out]; omega)
          subst eAL
          rw [HRW.out] at hxL hlr hir
          rw [show ((0 : Int)).toNat = 0 from rfl, Addr.add_zero'] at hxL
          obtain ⟨ar, ear, hc0⟩ := Kd.at_int hir 0 (by omega) q2
          subst ear
          obtain ⟨ar2, ear2, hc1⟩ := Kd.at_int hir 1 (by omega) q3
          obtain rfl := Option.some.inj ear2
          clear ear2
          rw [show ((0 : Int)).toNat = 0 from rfl, Addr.add_zero', HI.out] at hc0
          rw [HJ.out] at hc1
          simp only [show (1 : Int).toNat = 1 from rfl, Nat.reduceMul, Nat.reduceEqDiff, Go.Addr.add, ↓reduceIte] at hc1
          obtain ⟨nr, hnr⟩ : ∃ x, rw_.length = x := ⟨_, rfl⟩
          rw [hnr] at hxL q2 q3
          have y1 : (0 < nl) = True := eq_true (by omega)
          have y2 : (0 < nr) = True := eq_true (by omega)
          have y3 : (1 < nr) = True := eq_true (by omega)
          have p1 := eq_true q1
          have p2 := eq_true q2
          have p3 := eq_true q3
          clear hlr hir hnr
          refine start_ (n := 12) (S := fun w' => w'.cell? adL = some (.slice (some ar) nr cr) ∧ w'.cell? ar = some (.int .i64 i) ∧ w'.cell? ⟨ar.block, ar.off + 1, none⟩ = some (.int .i64 j)) (ds := []) #[F_, F_, F_, F_, F_, F_, F_, F_, F_, F_, F_, F_] (by kernel_rfl) rfl rfl ⟨hxL, hc0, hc1⟩ (fun hHeld => ?_)
          generalize hW_ : World.drew _ = W at HO HG HU BH BG HB HS HC hxL hc0 hc1 hHeld ⊢
          clear hW_
          refine pure_ (i := 0) (N := some 36) #[T_, F_, F_, F_, F_, F_, F_, F_, F_, F_, F_, F_] rfl rfl ak_ hq_ yi_ nm_ ?_
          refine pure_ (i := 1) (N := some 37) #[T_, T_, F_, F_, F_, F_, F_, F_, F_, F_, F_, F_] rfl rfl ak_ hq_ yi_ nm_ ?_
          refine pure_ (i := 5) (N := some 41) #[T_, T_, F_, F_, F_, T_, F_, F_, F_, F_, F_, F_] rfl rfl ak_ hq_ yi_ nm_ ?_
          refine pure_ (i := 6) (N := some 42) #[T_, T_, F_, F_, F_, T_, T_, F_, F_, F_, F_, F_] rfl rfl ak_ hq_ yi_ nm_ ?_
          refine take_ (i := 2) (N := some 38) #[T_, T_, T_, F_, F_, T_, T_, F_, F_, F_, F_, F_] rfl rfl ak_ hq_ yj3_ hHeld nm_ ?_
          refine pure_ (i := 3) (N := some 39) #[T_, T_, T_, T_, F_, T_, T_, F_, F_, F_, F_, F_] rfl rfl ak_ hq_ yi_ nm_ ?_
          refine take_ (i := 4) (N := some 40) #[T_, T_, T_, T_, T_, T_, T_, F_, F_, F_, F_, F_] rfl rfl ak_ hq_ yj3_ hHeld nm_ ?_
          refine pure_ (i := 10) (N := some 10) #[T_, T_, T_, T_, T_, T_, T_, F_, F_, F_, T_, F_] rfl rfl ak_ hq_ yi_ nm_ ?_
          refine take_ (i := 7) (N := some 43) #[T_, T_, T_, T_, T_, T_, T_, T_, F_, F_, T_, F_] rfl rfl ak_ hq_ yj3_ hHeld nm_ ?_
          refine pure_ (i := 8) (N := some 44) #[T_, T_, T_, T_, T_, T_, T_, T_, T_, F_, T_, F_] rfl rfl ak_ hq_ yi_ nm_ ?_
          refine take_ (i := 9) (N := some 45) #[T_, T_, T_, T_, T_, T_, T_, T_, T_, T_, T_, F_] rfl rfl ak_ hq_ yj3_ hHeld nm_ ?_
          refine pure_ (i := 11) (N := some 11) #[T_, T_, T_, T_, T_, T_, T_, T_, T_, T_, T_, T_] rfl rfl ak_ hq_ yi_ nm_ ?_
          refine done_ (by kernel_rfl) ?_
          clear hxL hc0 hc1 y1 y2 y3 p1 p2 p3 HC HCN HRW HI HJ
          go_wp2
          replace HO := am_ (Kd.S_drew HO.out)
          replace HG := am_ (Kd.S_drew HG.out)
          replace HU := am_ (Kd.S_drew HU.out)
          replace BH := am_ (blk_drew BH.out)
          replace BG := am_ (blk_drew BG.out)
          replace HB := am_ (below_drew1 HB.out)
          replace HS := am_ (show M ≤ (World.drew W).heap.size from HS.out)
          obtain ⟨g6, cap6, e6_, _⟩ := Kd.S_form HO.out (by have := HN.out; omega)
          injection e6_ with e6a e6b e6c
          subst e6a
          clear e6b e6c
          obtain ⟨Aw, cw, hx, hall⟩ := S_cell2k HO.out i q4 q5
          obtain ⟨aw, eaw, hy, _, _, _, _⟩ := hall j q6 q7
          subst eaw
          clear hall
          rw [show hh.getD i.toNat [] = rd_L3 hh i from rfl] at hx hy
          rw [Addr.add_lit, Nat.zero_add] at hx
          have hl6 : (World.drew W).cell? ⟨b6, 0, none⟩ = some (.slice (some ⟨g6, 0, none⟩) n c6) := (blk_cell BH.out 0).trans rfl
          have p4 := eq_true q4
          have p5 := eq_true q5
          have p6 := eq_true q6
          have p7 := eq_true q7
          refine start_ (n := 14) (S := fun w' => w'.cell? ⟨b6, 0, none⟩ = some (.slice (some ⟨g6, 0, none⟩) n c6) ∧ w'.cell? ⟨g6, i.toNat, none⟩ = some (.slice (some aw) (rd_L3 hh i).length cw) ∧ w'.cell? (aw.add j.toNat) = some (.int .i64 (rd (rd_L3 hh i) j))) (ds := [13]) #[F_, F_, F_, F_, F_, F_, F_, F_, F_, F_, F_, F_, F_, F_] (by kernel_rfl) rfl rfl ⟨hl6, hx, hy⟩ (fun hHeld => ?_)
          generalize hW_ : World.drew _ = W2 at HO HG HU BH BG HB HS hl6 hx hy hHeld ⊢
          clear hW_
          have HX := am_ hx
          have HY := am_ hy
          have HZ := am_ hl6
          clear hx hy hl6
          refine pure_ (i := 1) (N := some 47) #[F_, T_, F_, F_, F_, F_, F_, F_, F_, F_, F_, F_, F_, F_] rfl rfl ak_ hq_ yi_ nm_ ?_
          refine pure_ (i := 4) (N := some 50) #[F_, T_, F_, F_, T_, F_, F_, F_, F_, F_, F_, F_, F_, F_] rfl rfl ak_ hq_ yi_ nm_ ?_
          refine pure_ (i := 8) (N := some 54) #[F_, T_, F_, F_, T_, F_, F_, F_, T_, F_, F_, F_, F_, F_] rfl rfl ak_ hq_ yi_ nm_ ?_
          refine pure_ (i := 9) (N := some 55) #[F_, T_, F_, F_, T_, F_, F_, F_, T_, T_, F_, F_, F_, F_] rfl rfl ak_ hq_ yi_ nm_ ?_
          refine take_ (i := 0) (N := some 46) #[T_, T_, F_, F_, T_, F_, F_, F_, T_, T_, F_, F_, F_, F_] rfl rfl ak_ hq_ yj3_ hHeld nm_ ?_
          refine pure_ (i := 2) (N := some 48) #[T_, T_, T_, F_, T_, F_, F_, F_, T_, T_, F_, F_, F_, F_] rfl rfl ak_ hq_ yi_ nm_ ?_
          refine take_ (i := 3) (N := some 49) #[T_, T_, T_, T_, T_, F_, F_, F_, T_, T_, F_, F_, F_, F_] rfl rfl ak_ hq_ yj3_ hHeld nm_ ?_
          refine pure_ (i := 5) (N := some 51) #[T_, T_, T_, T_, T_, T_, F_, F_, T_, T_, F_, F_, F_, F_] rfl rfl ak_ hq_ yi_ nm_ ?_
          refine take_ (i := 6) (N := some 52) #[T_, T_, T_, T_, T_, T_, T_, F_, T_, T_, F_, F_, F_, F_] rfl rfl ak_ hq_ yj3_ hHeld nm_ ?_
          refine take_ (i := 7) (N := some 53) #[T_, T_, T_, T_, T_, T_, T_, T_, T_, T_, F_, F_, F_, F_] rfl rfl ak_ hq_ yj3_ hHeld nm_ ?_
          refine one_ (i := 10) (N := some 56) #[T_, T_, T_, T_, T_, T_, T_, T_, T_, T_, T_, F_, F_, F_] rfl rfl (by kernel_rfl) (by decide) (fun K hK => ?_)
          refine goes_ Try.func46 (by kernel_rfl) rfl #[.slice (some ⟨g6, 0, none⟩) n c6, .int .i64 i, .int .i64 j] (by rfl) rfl rfl tc40_ ?_
          refine calls_of_args (show (#[.slice (some ⟨g6, 0, none⟩) n c6, .int .i64 i, .int .i64 j] : Array Value) = #[.slice (some ⟨g6, 0, none⟩) hh.length c6, .int .i64 i, .int .i64 j] by rw [HN.out]) ?_
          refine (impl_way.calls k1 (some ⟨g6, 0, none⟩) c6 hh i j t2 _ (Kd.S_reads' HO.out).2.2 tc73_ HWAY.out).mono ?_
          rintro e w8 ⟨rfl, hb⟩
          refine ⟨_, rfl, ?_⟩
          have n1_ := am_ (Kd.S_below HO.out hb)
          have n2_ := am_ (Kd.S_below HG.out hb)
          have n3_ := am_ (Kd.S_below HU.out hb)
          have n4_ := am_ (blk_below BH.out hb)
          have n5_ := am_ (blk_below BG.out hb)
          have n6_ := am_ (below_step HB.out hb)
          have n7_ := am_ (Nat.le_trans HS.out (below_size hb))
          have n8_ := am_ (cell_of_below hb HX.out)
          have n9_ := am_ (cell_of_below hb HY.out)
          have n0_ := am_ (cell_of_below hb HZ.out)
          clear HO HG HU BH BG HB HS HX HY HZ hb
          have HO := n1_
          have HG := n2_
          have HU := n3_
          have BH := n4_
          have BG := n5_
          have HB := n6_
          have HS := n7_
          have HX := n8_
          have HY := n9_
          have HZ := n0_
          clear n1_ n2_ n3_ n4_ n5_ n6_ n7_ n8_ n9_ n0_
          refine hK.out _ _ ⟨HZ.out, HX.out, HY.out⟩ (fun hHeld => ?_)
          clear hK K
          refine norm_ (a' := ?_) ?_ ?_
          rotate_left
          · show Act.put _ (some 56) _ = _
            simp only [Act.put, List.setIfInBounds_toArray, List.set_cons_zero, List.set_cons_succ, i64_w, i32_w]
            rfl
          refine pure_ (i := 11) (N := some 57) #[T_, T_, T_, T_, T_, T_, T_, T_, T_, T_, T_, T_, F_, F_] rfl rfl ak_ hq_ yi_ nm_ ?_
          refine pure_ (i := 12) (N := some 58) #[T_, T_, T_, T_, T_, T_, T_, T_, T_, T_, T_, T_, T_, F_] rfl rfl ak_ hq_ yi_ nm_ ?_
          refine last_ (i := 13) (N := none) #[T_, T_, T_, T_, T_, T_, T_, T_, T_, T_, T_, T_, T_, T_] rfl rfl (by kernel_rfl) (by decide) (fun K hK => ?_)
          obtain ⟨Aw2, cw2, hx2, hall2⟩ := S_cell2k HO.out i (of_eq_true p4) (of_eq_true p5)
          rw [Addr.add_lit, Nat.zero_add] at hx2
          have e2_ := Option.some.inj (hx2.symm.trans HX.out)
          injection e2_ with e3_ e4_ e5_
          subst e3_ e5_
          clear e4_ hx2
          obtain ⟨aw2, ea2, hc2, hf2, hg2, hok2, hback2⟩ := hall2 j (of_eq_true p6) (of_eq_true p7)
          obtain rfl := Option.some.inj ea2
          clear ea2 hall2
          refine skip_ (w1 := ?_) (by rfl) rfl ?_ ?_
          rotate_left
          · go_simp
            rfl
          refine hK.out _ _ ?_
          clear hK K
          refine done_ (by kernel_rfl) ?_
          have HB3 := hback2 (wrap64 (rd (rd_L3 hh i) j + t2))
          clear HO hback2
          have HO := am_ HB3
          clear HB3
          have hbb := HBB.out
          have hnb := HNB.out
          have HG7 := am_ (Kd.S_far HG.out (p := aw.add j.toNat) (fun k_ hk he => by omega) (.int .i64 (wrap64 (rd (rd_L3 hh i) j + t2))))
          have HU7 := am_ (Kd.S_far (Kd.S_mono (Kd.S_bound HU.out) (ok' := fun k_ => M ≤ k_) (fun k_ hk => hk.2.1)) (p := aw.add j.toNat) (fun k_ hk he => by omega) (.int .i64 (wrap64 (rd (rd_L3 hh i) j + t2))))
          have BH7 := am_ ((Below.heap_setCell w8 (aw.add j.toNat) (.int .i64 (wrap64 (rd (rd_L3 hh i) j + t2))) b6 (by omega)).trans BH.out)
          have BG7 := am_ ((Below.heap_setCell w8 (aw.add j.toNat) (.int .i64 (wrap64 (rd (rd_L3 hh i) j + t2))) b7 (by omega)).trans BG.out)
          have HB7 := am_ (HB.out.setCell hg2 (.int .i64 (wrap64 (rd (rd_L3 hh i) j + t2))))
          have HS7 := am_ (Nat.le_trans HS.out ((Below.refl 0 w8).setCell (p := aw.add j.toNat) (Nat.zero_le _) (.int .i64 (wrap64 (rd (rd_L3 hh i) j + t2)))).size)
          clear HG HU BH BG HB HS HX HY HZ hf2 hg2 hok2 hc2
          generalize World.setCell w8 _ _ = W8 at HO HG7 HU7 BH7 BG7 HB7 HS7 ⊢
          have HU8 := am_ (Kd.S_mono (Kd.S_bound HU7.out) (ok' := fun k_ => k_ < W8.heap.size) (fun k_ hk => hk.2.2.1))
          clear HU7
          go_wp2_with (first | ((with_reducible refine gate_builtin (b := .append) (xs := #[.tmp 59, .tmp 63]) rfl ?_); at_builtin; go_must (refine Kd.S_append (Kd.slice 3 (Kd.int .i64)) (w0 := W8.alloc (.cells #[.int .i64 i, .int .i64 j] 3 (0, 0))) M rfl (.tmp 59) (.tmp 63) 24 32 (.slice none 0 0) 24 rfl Try.underlying24 info32 rfl (by decide) (by omega) (.slice A8 no c8) out [i, j] [.slice (some ⟨W8.heap.size, 0, none⟩) 2 2] (fun _ => True) (fun k_ => k_ = W8.heap.size) rfl (by rw [show (W8.alloc (.cells #[.int .i64 i, .int .i64 j] 3 (0, 0))).heap.size = W8.heap.size + 1 by simp]; rfl) ?aP ?aQ (fun _ _ => trivial) ?aO (Below.refl _ _) (by simp; have := HS7.out; omega) (by have := Q8.out; omega) ?_); go_must (case aP => exact Kd.M_row (R_nums (ok := fun k_ => k_ = W8.heap.size) (e := 3) (base := M) (xs := [i, j]) (k := .i64) (blk_new W8 (.cells #[.int .i64 i, .int .i64 j] 3 (0, 0))) HS7.out (by simp) rfl)); go_must (case aQ => exact fun k_ hk_ => ⟨trivial, fun e_ => by have h_ := (Kd.S_R HU8.out).1 k_ e_.symm; omega⟩); go_must (case aO => exact Kd.S_mono (Kd.S_alloc HU8.out (.cells #[.int .i64 i, .int .i64 j] 3 (0, 0))) (fun k_ hk => ⟨trivial, by omega⟩)); intro v9 w9 ho hb hg hat; have HU9 := am_ ho; have HB9 := am_ ((below_alloc HB7.out (.cells #[.int .i64 i, .int .i64 j] 3 (0, 0))).trans (hb.mono (Nat.le_trans hnb.1 hnb.2))); have HO9 := am_ (Kd.S_grown (Kd.S_alloc HO.out (.cells #[.int .i64 i, .int .i64 j] 3 (0, 0))) hg (fun k_ hk e_ => by have h_ := Kd.S_base HU8.out k_ e_.symm; omega)); have HG9 := am_ (Kd.S_grown (Kd.S_alloc HG7.out (.cells #[.int .i64 i, .int .i64 j] 3 (0, 0))) hg (fun k_ hk e_ => by have h_ := Kd.S_base HU8.out k_ e_.symm; omega)); have BH9 := am_ (blk_grown (blk_alloc BH7.out (.cells #[.int .i64 i, .int .i64 j] 3 (0, 0))) hg (Kd.S_ne HU8.out BH7.out (by decide))); have BG9 := am_ (blk_grown (blk_alloc BG7.out (.cells #[.int .i64 i, .int .i64 j] 3 (0, 0))) hg (Kd.S_ne HU8.out BG7.out (by decide))); have HS9 := am_ (Nat.le_trans (show M ≤ (W8.alloc (.cells #[.int .i64 i, .int .i64 j] 3 (0, 0))).heap.size by simp; have := HS7.out; omega) hb.size); clear ho hb hg hat))
          go_roundg k1
          case measure => have := HK.out; omega
          case rel => exact ⟨_, _, HF, ⟨by have := HK.out; omega⟩, HO9, HG9, HU9, BH9, BG9, ⟨HB9.out, HNB.out⟩, HS9⟩

/-! ### spec_hePair: function 76 -/
def spec_hePair.f (k : Nat) (l0 : List (List Int)) (l1 : List (List Int)) : Option (Bool) := (spec_sgGood.f k l0).bind fun t101 => (if t101 = true then ((spec_sgGood.f k l1).bind fun t102 => (if t102 = true then (some ((l0.length : Int) == (l1.length : Int))) else (some false))) else (some false))
set_option maxHeartbeats 8000000 in
set_option maxRecDepth 100000 in
theorem spec_hePair.calls (k : Nat) (A0 : Option Addr) (c0 : Nat) (l0 : List (List Int)) (A1 : Option Addr) (c1 : Nat) (l1 : List (List Int)) (r : Bool) (w : World) (hr0 : Kd.C (Kd.slice 3 (Kd.int .i64)) w A0 l0.length l0) (hc0 : l0.length ≤ c0) (hr1 : Kd.C (Kd.slice 3 (Kd.int .i64)) w A1 l1.length l1) (hc1 : l1.length ≤ c1) (h : spec_hePair.f k l0 l1 = some r) :
  Calls Try.prog 76 #[.slice A0 l0.length c0, .slice A1 l1.length c1] w fun e w' => e = .returned (.bool r) ∧ Below w.heap.size w w' := by
 have HR0 := am_ hr0; have HC0 := am_ hc0; clear hr0 hc0; have HR1 := am_ hr1; have HC1 := am_ hc1; clear hr1 hc1; have HB := am_ (Below.refl w.heap.size w); have H : ((spec_sgGood.f k l0).bind fun t101 => (if t101 = true then ((spec_sgGood.f k l1).bind fun t102 => (if t102 = true then (some ((l0.length : Int) == (l1.length : Int))) else (some false))) else (some false))) = some r := h; clear h; replace H := bd_ H; obtain ⟨t101, A3, H⟩ := H; (try dsimp only at H)
 by_cases c4 : t101 = true
 ·subst c4; have H1 : ((spec_sgGood.f k l1).bind fun t102 => (if t102 = true then (some ((l0.length : Int) == (l1.length : Int))) else (some false))) = some r := tc19_; clear H; have H := H1; clear H1; replace H := bd_ H; obtain ⟨t102, A5, H⟩ := H; (try dsimp only at H)
  by_cases c6 : t102 = true
  ·subst c6; have H1 : (some ((l0.length : Int) == (l1.length : Int))) = some r := tc19_; clear H; have H := H1; clear H1; obtain rfl := Option.some.inj H; go_enter Try.func76, Try.ntmps76
   go_wp2_with (first | ((with_reducible refine gate_callee (f := 39) rfl ?_); refine goesL_ (some 6) rfl rfl Try.func39 (by kernel_rfl) rfl #[.slice A0 l0.length c0] rfl tc1_ ?_; (with_reducible refine (spec_sgGood.calls k _ _ l0 true _ ?side1 ?side2 A3.out).mono ?_); (case side1 => exact tc10_); (case side2 => exact HC0.out); rintro e w7 ⟨rfl, hb⟩; refine ⟨_, rfl, ?_⟩; replace HB := am_ (below_step tc0_ hb); (try clear hb)) | (go_at_call 39; (with_reducible refine (spec_sgGood.calls k _ _ l1 true _ ?side1 ?side2 A5.out).mono ?_); (case side1 => exact tc17_); (case side2 => exact HC1.out); rintro e w8 ⟨rfl, hb⟩; replace HB := am_ (below_step tc0_ hb); (try clear hb hb2 hk hi)))
   go_ret
   exact ⟨tc8_, tc0_⟩
  ·replace c6 := Bool.eq_false_iff.mpr c6; subst c6; have H1 : (some false) = some r := tc12_; clear H; have H := H1; clear H1; obtain rfl := Option.some.inj H; go_enter Try.func76, Try.ntmps76
   go_wp2_with (first | ((with_reducible refine gate_callee (f := 39) rfl ?_); refine goesL_ (some 6) rfl rfl Try.func39 (by kernel_rfl) rfl #[.slice A0 l0.length c0] rfl tc1_ ?_; (with_reducible refine (spec_sgGood.calls k _ _ l0 true _ ?side1 ?side2 A3.out).mono ?_); (case side1 => exact tc10_); (case side2 => exact HC0.out); rintro e w9 ⟨rfl, hb⟩; refine ⟨_, rfl, ?_⟩; replace HB := am_ (below_step tc0_ hb); (try clear hb)) | (go_at_call 39; (with_reducible refine (spec_sgGood.calls k _ _ l1 false _ ?side1 ?side2 A5.out).mono ?_); (case side1 => exact tc17_); (case side2 => exact HC1.out); rintro e w10 ⟨rfl, hb⟩; replace HB := am_ (below_step tc0_ hb); (try clear hb hb2 hk hi)))
   go_ret
   exact ⟨tc8_, tc0_⟩
 ·replace c4 := Bool.eq_false_iff.mpr c4; subst c4; have H1 : (some false) = some r := tc12_; clear H; have H := H1; clear H1; obtain rfl := Option.some.inj H; go_enter Try.func76, Try.ntmps76
  go_wp2_with (first | ((with_reducible refine gate_callee (f := 39) rfl ?_); refine goesL_ (some 6) rfl rfl Try.func39 (by kernel_rfl) rfl #[.slice A0 l0.length c0] rfl tc1_ ?_; (with_reducible refine (spec_sgGood.calls k _ _ l0 false _ ?side1 ?side2 A3.out).mono ?_); (case side1 => exact tc10_); (case side2 => exact HC0.out); rintro e w11 ⟨rfl, hb⟩; refine ⟨_, rfl, ?_⟩; replace HB := am_ (below_step tc0_ hb); (try clear hb)))
  go_ret
  exact ⟨tc8_, tc0_⟩

/-! ### spec_l1Same: function 114 -/
def spec_l1Same.l0 : Nat → List Int → List Int → Int → Int → Option (Bool)
 | 0, _, _, _, _ => none
 | k + 1, x0, x1, x12, x13 => if x13 < x12 then (if 0 ≤ x13 then (if x13 < (x0.length : Int) then (if x13 < (x1.length : Int) then (if (rd x0 x13) = (rd x1 x13) then (spec_l1Same.l0 k x0 x1 x12 (wrap64 (x13 + 1))) else (some false)) else (none)) else (none)) else (none)) else (some true)
def spec_l1Same.f (k : Nat) (l0 : List Int) (l1 : List Int) : Option (Bool) := if (l0.length : Int) = (l1.length : Int) then (spec_l1Same.l0 k l0 l1 (l0.length : Int) 0) else (some false)
theorem spec_l1Same.mono_l : ∀ k, (∀ y0 y1 y2 y3, LeO (spec_l1Same.l0 k y0 y1 y2 y3) (spec_l1Same.l0 (k + 1) y0 y1 y2 y3))
 | 0 => fun _ _ _ _ r h => by simp [spec_l1Same.l0] at h
 | k + 1 => by
  have ih0 := spec_l1Same.mono_l k
  ·intro y0 y1 y2 y3; unfold spec_l1Same.l0
   repeat' first
   | (with_reducible exact ih0 _ _ _ _)
   | (with_reducible exact LeO.refl _)
   | (with_reducible exact LeO.none _)
   | (with_reducible refine LeO.ite ?_ ?_)
   | (with_reducible refine LeO.bind ?_ (fun _ => ?_))
   | exact ih0 _ _ _ _
   | exact LeO.none _
   | refine LeO.ite ?_ ?_
   | refine LeO.bind ?_ (fun _ => ?_)
theorem spec_l1Same.mono : ∀ a0 a1  k, LeO (spec_l1Same.f k a0 a1) (spec_l1Same.f (k + 1) a0 a1) := by
 intro a0 a1 k; have ih0 := spec_l1Same.mono_l k; unfold spec_l1Same.f
 repeat' first
   | (with_reducible exact ih0 _ _ _ _)
   | (with_reducible exact LeO.refl _)
   | (with_reducible exact LeO.none _)
   | (with_reducible refine LeO.ite ?_ ?_)
   | (with_reducible refine LeO.bind ?_ (fun _ => ?_))
   | exact ih0 _ _ _ _
   | exact LeO.none _
   | refine LeO.ite ?_ ?_
   | refine LeO.bind ?_ (fun _ => ?_)
set_option maxHeartbeats 8000000 in
set_option maxRecDepth 100000 in
theorem spec_l1Same.calls (k : Nat) (A0 : Option Addr) (c0 : Nat) (l0 : List Int) (A1 : Option Addr) (c1 : Nat) (l1 : List Int) (r : Bool) (w : World) (hr0 : Kd.C (Kd.int .i64) w A0 l0.length l0) (hc0 : l0.length ≤ c0) (hr1 : Kd.C (Kd.int .i64) w A1 l1.length l1) (hc1 : l1.length ≤ c1) (h : spec_l1Same.f k l0 l1 = some r) :
  Calls Try.prog 114 #[.slice A0 l0.length c0, .slice A1 l1.length c1] w fun e w' => e = .returned (.bool r) ∧ Drawn0 w w' := by
 have HR0 := am_ hr0; have HC0 := am_ hc0; clear hr0 hc0; have HR1 := am_ hr1; have HC1 := am_ hc1; clear hr1 hc1; have H : (if (l0.length : Int) = (l1.length : Int) then (spec_l1Same.l0 k l0 l1 (l0.length : Int) 0) else (some false)) = some r := h; clear h
 replace H := pn_ H; obtain ⟨c3, H⟩ | ⟨c3, H⟩ := H
 ·have c3b0 : ((l0.length : Int) == (l1.length : Int)) = true := beq_iff_eq.mpr c3; have c3b1 : ((l0.length : Int) != (l1.length : Int)) = false := bne_eq_false_iff_eq.mpr c3; have c3b2 : (l0.length == l1.length) = true := tc118_; clear c3; have H' := am_ H; clear H; go_enter Try.func114, Try.ntmps114; go_wp2
  repeat (go_quiet (fail); try go_wp2)
  go_loopg [13] k (fun kq v13 w' => ∃ (x13_1 : Int), v13 = .int .i64 x13_1 ∧ Aside0 (spec_l1Same.l0 kq l0 l1 (l0.length : Int) x13_1 = some r) ∧ Aside0 (kq ≤ k) ∧ Drawn0 w w')
  case atStart => exact ⟨(0), tc6_, H', ⟨Nat.le_refl _⟩, tc11_⟩
  case round =>
   clear H'; (try clear c1); (try clear p2); (try clear c3); (try clear c3b0); (try clear c3b1); (try clear c3b2); obtain ⟨x13_1, rfl, HA, HK1, ⟨m1, rfl⟩⟩ := hrel
   cases gk with
   | zero => exact absurd HA.out (by simp [spec_l1Same.l0])
   | succ k1 =>
    have H := HA.out; clear HA; simp only [spec_l1Same.l0] at H
    replace H := sp_ H; obtain ⟨c4b0, H⟩ | ⟨c4b0, H⟩ := H
    ·replace H := ps_ H; obtain ⟨c5b0, H⟩ := H; replace H := ps_ H; obtain ⟨c6b0, H⟩ := H; replace H := ps_ H; obtain ⟨c7b0, H⟩ := H
     replace H := pn_ H; obtain ⟨c8, H⟩ | ⟨c8, H⟩ := H
     ·have c8b0 : ((rd l0 x13_1) == (rd l1 x13_1)) = true := beq_iff_eq.mpr c8; have c8b1 : ((rd l0 x13_1) != (rd l1 x13_1)) = false := bne_eq_false_iff_eq.mpr c8; clear c8; have H' := am_ H; clear H; have p101 : 0 ≤ (x13_1 : Int) := od_; have q101 : x13_1 < (l0.length : Int) := od_; obtain ⟨ad101, e101, hx101_0⟩ := Kd.at_int HR0.out x13_1 p101 q101; cases e101; replace p101 := eq_true p101; replace q101 := eq_true q101; have p102 : 0 ≤ (x13_1 : Int) := od_; have q102 : x13_1 < (l1.length : Int) := od_; obtain ⟨ad102, e102, hx102_0⟩ := Kd.at_int HR1.out x13_1 p102 q102; cases e102; replace p102 := eq_true p102; replace q102 := eq_true q102; go_wp2
      repeat (go_quiet (fail); try go_wp2)
      go_roundg k1
      case measure => have := HK1.out; omega
      case rel => exact ⟨(wrap64 (x13_1 + 1)), tc6_, H', ⟨tc119_⟩, tc11_⟩
     ·have c8b0 : ((rd l0 x13_1) == (rd l1 x13_1)) = false := beq_eq_false_iff_ne.mpr c8; have c8b1 : ((rd l0 x13_1) != (rd l1 x13_1)) = true := bne_iff_ne.mpr c8; obtain rfl := Option.some.inj H; have p101 : 0 ≤ (x13_1 : Int) := od_; have q101 : x13_1 < (l0.length : Int) := od_; obtain ⟨ad101, e101, hx101_0⟩ := Kd.at_int HR0.out x13_1 p101 q101; cases e101; replace p101 := eq_true p101; replace q101 := eq_true q101; have p102 : 0 ≤ (x13_1 : Int) := od_; have q102 : x13_1 < (l1.length : Int) := od_; obtain ⟨ad102, e102, hx102_0⟩ := Kd.at_int HR1.out x13_1 p102 q102; cases e102; replace p102 := eq_true p102; replace q102 := eq_true q102; go_wp2
      repeat (go_quiet (fail); try go_wp2)
      go_ret
      exact ⟨tc6_, tc11_⟩
    ·obtain rfl := Option.some.inj H; go_wp2
     repeat (go_quiet (fail); try go_wp2)
     go_ret
     exact ⟨tc6_, tc11_⟩
 ·have c3b0 : ((l0.length : Int) == (l1.length : Int)) = false := beq_eq_false_iff_ne.mpr c3; have c3b1 : ((l0.length : Int) != (l1.length : Int)) = true := bne_iff_ne.mpr c3; have c3b2 : (l0.length == l1.length) = false := tc118_; obtain rfl := Option.some.inj H; go_enter Try.func114, Try.ntmps114; go_wp2
  repeat (go_quiet (fail); try go_wp2)
  go_ret
  exact ⟨tc6_, tc11_⟩

/-! ### spec_heSame: function 77 -/
def spec_heSame.l0 : Nat → List (List Int) → List (List Int) → Int → Int → Option (Bool)
 | 0, _, _, _, _ => none
 | k + 1, x1, x12, x13, x14 => if x14 < x13 then (if 0 ≤ x14 then (if x14 < (x12.length : Int) then (if x14 < (x1.length : Int) then ((spec_l1Same.f k (rd_L3 x12 x14) (rd_L3 x1 x14)).bind fun t103 => (if t103 = true then (spec_heSame.l0 k x1 x12 x13 (wrap64 (x14 + 1))) else (some false))) else (none)) else (none)) else (none)) else (some true)
def spec_heSame.f (k : Nat) (l0 : List (List Int)) (l1 : List (List Int)) : Option (Bool) := if (l0.length : Int) = (l1.length : Int) then (spec_heSame.l0 k l1 l0 (l0.length : Int) 0) else (some false)
theorem spec_heSame.mono_l : ∀ k, (∀ y0 y1 y2 y3, LeO (spec_heSame.l0 k y0 y1 y2 y3) (spec_heSame.l0 (k + 1) y0 y1 y2 y3))
 | 0 => fun _ _ _ _ r h => by simp [spec_heSame.l0] at h
 | k + 1 => by
  have ih0 := spec_heSame.mono_l k
  ·intro y0 y1 y2 y3; unfold spec_heSame.l0
   repeat' first
   | (with_reducible exact ih0 _ _ _ _)
   | (with_reducible exact spec_l1Same.mono _ _ _)
   | (with_reducible exact LeO.refl _)
   | (with_reducible exact LeO.none _)
   | (with_reducible refine LeO.ite ?_ ?_)
   | (with_reducible refine LeO.bind ?_ (fun _ => ?_))
   | exact ih0 _ _ _ _
   | exact spec_l1Same.mono _ _ _
   | exact LeO.none _
   | refine LeO.ite ?_ ?_
   | refine LeO.bind ?_ (fun _ => ?_)
theorem spec_heSame.mono : ∀ a0 a1  k, LeO (spec_heSame.f k a0 a1) (spec_heSame.f (k + 1) a0 a1) := by
 intro a0 a1 k; have ih0 := spec_heSame.mono_l k; unfold spec_heSame.f
 repeat' first
   | (with_reducible exact ih0 _ _ _ _)
   | (with_reducible exact spec_l1Same.mono _ _ _)
   | (with_reducible exact LeO.refl _)
   | (with_reducible exact LeO.none _)
   | (with_reducible refine LeO.ite ?_ ?_)
   | (with_reducible refine LeO.bind ?_ (fun _ => ?_))
   | exact ih0 _ _ _ _
   | exact spec_l1Same.mono _ _ _
   | exact LeO.none _
   | refine LeO.ite ?_ ?_
   | refine LeO.bind ?_ (fun _ => ?_)
set_option maxHeartbeats 8000000 in
set_option maxRecDepth 100000 in
theorem spec_heSame.calls (k : Nat) (A0 : Option Addr) (c0 : Nat) (l0 : List (List Int)) (A1 : Option Addr) (c1 : Nat) (l1 : List (List Int)) (r : Bool) (w : World) (hr0 : Kd.C (Kd.slice 3 (Kd.int .i64)) w A0 l0.length l0) (hc0 : l0.length ≤ c0) (hr1 : Kd.C (Kd.slice 3 (Kd.int .i64)) w A1 l1.length l1) (hc1 : l1.length ≤ c1) (h : spec_heSame.f k l0 l1 = some r) :
  Calls Try.prog 77 #[.slice A0 l0.length c0, .slice A1 l1.length c1] w fun e w' => e = .returned (.bool r) ∧ Drawn0 w w' := by
 have HR0 := am_ hr0; have HC0 := am_ hc0; clear hr0 hc0; have HR1 := am_ hr1; have HC1 := am_ hc1; clear hr1 hc1; have H : (if (l0.length : Int) = (l1.length : Int) then (spec_heSame.l0 k l1 l0 (l0.length : Int) 0) else (some false)) = some r := h; clear h
 replace H := pn_ H; obtain ⟨c3, H⟩ | ⟨c3, H⟩ := H
 ·have c3b0 : ((l0.length : Int) == (l1.length : Int)) = true := beq_iff_eq.mpr c3; have c3b1 : ((l0.length : Int) != (l1.length : Int)) = false := bne_eq_false_iff_eq.mpr c3; have c3b2 : (l0.length == l1.length) = true := tc118_; clear c3; have H' := am_ H; clear H; go_enter Try.func77, Try.ntmps77; go_wp2
  go_loopg [14] k (fun kq v14 w' => ∃ (x14_1 : Int), v14 = .int .i64 x14_1 ∧ Aside0 (spec_heSame.l0 kq l1 l0 (l0.length : Int) x14_1 = some r) ∧ Aside0 (kq ≤ k) ∧ Drawn0 w w')
  case atStart => exact ⟨(0), tc6_, H', ⟨Nat.le_refl _⟩, tc11_⟩
  case round =>
   clear H'; (try clear c1); (try clear p2); (try clear c3); (try clear c3b0); (try clear c3b1); (try clear c3b2); obtain ⟨x14_1, rfl, HA, HK1, ⟨m1, rfl⟩⟩ := hrel
   cases gk with
   | zero => exact absurd HA.out (by simp [spec_heSame.l0])
   | succ k1 =>
    have H := HA.out; clear HA; simp only [spec_heSame.l0] at H
    replace H := sp_ H; obtain ⟨c4b0, H⟩ | ⟨c4b0, H⟩ := H
    ·replace H := ps_ H; obtain ⟨c5b0, H⟩ := H; replace H := ps_ H; obtain ⟨c6b0, H⟩ := H; replace H := ps_ H; obtain ⟨c7b0, H⟩ := H; replace H := bd_ H; obtain ⟨t103, A8, H⟩ := H; (try dsimp only at H)
     by_cases c9 : t103 = true
     ·subst c9; have H1 : (spec_heSame.l0 k1 l1 l0 (l0.length : Int) (wrap64 (x14_1 + 1))) = some r := tc19_; clear H; have H := H1; clear H1; have H' := am_ H; clear H; have p101 : 0 ≤ (x14_1 : Int) := od_; have q101 : x14_1 < (l0.length : Int) := od_; obtain ⟨ad101, A101_0, c101_0, e101, hx101_0, hl101_0, hi101_0⟩ := at_L3 HR0.out x14_1 p101 q101; cases e101; have HR101_0 := am_ hi101_0; have HC101_0 := am_ hl101_0; clear hi101_0 hl101_0; replace p101 := eq_true p101; replace q101 := eq_true q101; have p102 : 0 ≤ (x14_1 : Int) := od_; have q102 : x14_1 < (l1.length : Int) := od_; obtain ⟨ad102, A102_0, c102_0, e102, hx102_0, hl102_0, hi102_0⟩ := at_L3 HR1.out x14_1 p102 q102; cases e102; have HR102_0 := am_ hi102_0; have HC102_0 := am_ hl102_0; clear hi102_0 hl102_0; replace p102 := eq_true p102; replace q102 := eq_true q102
      go_wp2_with (first | ((with_reducible refine gate_callee (f := 114) rfl ?_); refine goesL_ (some 24) rfl rfl Try.func114 (by kernel_rfl) rfl #[.slice A101_0 (rd_L3 l0 x14_1).length c101_0, .slice A102_0 (rd_L3 l1 x14_1).length c102_0] rfl tc1_ ?_; (with_reducible refine (spec_l1Same.calls k1 _ _ (rd_L3 l0 x14_1) _ _ (rd_L3 l1 x14_1) true _ ?side1 ?side2 ?side3 ?side4 A8.out).mono ?_); (case side1 => exact tc37_); (case side2 => exact HC101_0.out); (case side3 => exact tc38_); (case side4 => exact HC102_0.out); rintro e w' ⟨rfl, ⟨nd, rfl⟩⟩; refine ⟨_, rfl, ?_⟩))
      go_roundg k1
      case measure => have := HK1.out; omega
      case rel => exact ⟨(wrap64 (x14_1 + 1)), tc6_, H', ⟨tc119_⟩, tc11_⟩
     ·replace c9 := Bool.eq_false_iff.mpr c9; subst c9; have H1 : (some false) = some r := tc12_; clear H; have H := H1; clear H1; obtain rfl := Option.some.inj H; have p101 : 0 ≤ (x14_1 : Int) := od_; have q101 : x14_1 < (l0.length : Int) := od_; obtain ⟨ad101, A101_0, c101_0, e101, hx101_0, hl101_0, hi101_0⟩ := at_L3 HR0.out x14_1 p101 q101; cases e101; have HR101_0 := am_ hi101_0; have HC101_0 := am_ hl101_0; clear hi101_0 hl101_0; replace p101 := eq_true p101; replace q101 := eq_true q101; have p102 : 0 ≤ (x14_1 : Int) := od_; have q102 : x14_1 < (l1.length : Int) := od_; obtain ⟨ad102, A102_0, c102_0, e102, hx102_0, hl102_0, hi102_0⟩ := at_L3 HR1.out x14_1 p102 q102; cases e102; have HR102_0 := am_ hi102_0; have HC102_0 := am_ hl102_0; clear hi102_0 hl102_0; replace p102 := eq_true p102; replace q102 := eq_true q102
      go_wp2_with (first | ((with_reducible refine gate_callee (f := 114) rfl ?_); refine goesL_ (some 24) rfl rfl Try.func114 (by kernel_rfl) rfl #[.slice A101_0 (rd_L3 l0 x14_1).length c101_0, .slice A102_0 (rd_L3 l1 x14_1).length c102_0] rfl tc1_ ?_; (with_reducible refine (spec_l1Same.calls k1 _ _ (rd_L3 l0 x14_1) _ _ (rd_L3 l1 x14_1) false _ ?side1 ?side2 ?side3 ?side4 A8.out).mono ?_); (case side1 => exact tc37_); (case side2 => exact HC101_0.out); (case side3 => exact tc38_); (case side4 => exact HC102_0.out); rintro e w' ⟨rfl, ⟨nd, rfl⟩⟩; refine ⟨_, rfl, ?_⟩))
      go_ret
      exact ⟨tc6_, tc11_⟩
    ·obtain rfl := Option.some.inj H; go_wp2
     go_ret
     exact ⟨tc6_, tc11_⟩
 ·have c3b0 : ((l0.length : Int) == (l1.length : Int)) = false := beq_eq_false_iff_ne.mpr c3; have c3b1 : ((l0.length : Int) != (l1.length : Int)) = true := bne_iff_ne.mpr c3; have c3b2 : (l0.length == l1.length) = false := tc118_; obtain rfl := Option.some.inj H; go_enter Try.func77, Try.ntmps77; go_wp2
  go_ret
  exact ⟨tc6_, tc11_⟩

/-! ### spec_heFirst: function 78 -/
def spec_heFirst.l0 : Nat → List (List Int) → List (List Int) → Int → List (List Int) → Int → Int → Option (List Int)
 | 0, _, _, _, _, _, _ => none
 | k + 1, x0, x1, x2, x11, x12, x13 => if x13 < x12 then (if 0 ≤ x13 then (if x13 < (x11.length : Int) then (if 0 < ((rd_L3 x11 x13).length : Int) then (if 0 ≤ (rd (rd_L3 x11 x13) 0) then (if (rd (rd_L3 x11 x13) 0) < (x1.length : Int) then (if 1 < ((rd_L3 x11 x13).length : Int) then (if 0 ≤ (rd (rd_L3 x11 x13) 1) then (if (rd (rd_L3 x11 x13) 1) < ((rd_L3 x1 (rd (rd_L3 x11 x13) 0)).length : Int) then (if (rd (rd_L3 x11 x13) 0) < (x0.length : Int) then (if (rd (rd_L3 x11 x13) 1) < ((rd_L3 x0 (rd (rd_L3 x11 x13) 0)).length : Int) then (if (wrap64 (x2 * (wrap64 ((rd (rd_L3 x1 (rd (rd_L3 x11 x13) 0)) (rd (rd_L3 x11 x13) 1)) - (rd (rd_L3 x0 (rd (rd_L3 x11 x13) 0)) (rd (rd_L3 x11 x13) 1)))))) > 0 then (some (rd_L3 x11 x13)) else (spec_heFirst.l0 k x0 x1 x2 x11 x12 (wrap64 (x13 + 1)))) else (none)) else (none)) else (none)) else (none)) else (none)) else (none)) else (none)) else (none)) else (none)) else (none)) else (some ([] : List Int))
def spec_heFirst.f (k : Nat) (l0 : List (List Int)) (l1 : List (List Int)) (a2 : Int) : Option (List Int) := (spec_heFlips.f k l0 a2).bind fun t101 => (spec_heFirst.l0 k l0 l1 a2 t101 (t101.length : Int) 0)
theorem spec_heFirst.mono_l : ∀ k, (∀ y0 y1 y2 y3 y4 y5, LeO (spec_heFirst.l0 k y0 y1 y2 y3 y4 y5) (spec_heFirst.l0 (k + 1) y0 y1 y2 y3 y4 y5))
 | 0 => fun _ _ _ _ _ _ r h => by simp [spec_heFirst.l0] at h
 | k + 1 => by
  have ih0 := spec_heFirst.mono_l k
  ·intro y0 y1 y2 y3 y4 y5; unfold spec_heFirst.l0
   repeat' first
   | (with_reducible exact ih0 _ _ _ _ _ _)
   | (with_reducible exact spec_heFlips.mono _ _ _)
   | (with_reducible exact LeO.refl _)
   | (with_reducible exact LeO.none _)
   | (with_reducible refine LeO.ite ?_ ?_)
   | (with_reducible refine LeO.bind ?_ (fun _ => ?_))
   | exact ih0 _ _ _ _ _ _
   | exact spec_heFlips.mono _ _ _
   | exact LeO.none _
   | refine LeO.ite ?_ ?_
   | refine LeO.bind ?_ (fun _ => ?_)
theorem spec_heFirst.mono : ∀ a0 a1 a2  k, LeO (spec_heFirst.f k a0 a1 a2) (spec_heFirst.f (k + 1) a0 a1 a2) := by
 intro a0 a1 a2 k; have ih0 := spec_heFirst.mono_l k; unfold spec_heFirst.f
 repeat' first
   | (with_reducible exact ih0 _ _ _ _ _ _)
   | (with_reducible exact spec_heFlips.mono _ _ _)
   | (with_reducible exact LeO.refl _)
   | (with_reducible exact LeO.none _)
   | (with_reducible refine LeO.ite ?_ ?_)
   | (with_reducible refine LeO.bind ?_ (fun _ => ?_))
   | exact ih0 _ _ _ _ _ _
   | exact spec_heFlips.mono _ _ _
   | exact LeO.none _
   | refine LeO.ite ?_ ?_
   | refine LeO.bind ?_ (fun _ => ?_)
set_option maxHeartbeats 8000000 in
set_option maxRecDepth 100000 in
theorem spec_heFirst.calls (k : Nat) (A0 : Option Addr) (c0 : Nat) (l0 : List (List Int)) (A1 : Option Addr) (c1 : Nat) (l1 : List (List Int)) (a2 : Int) (r : List Int) (w : World) (hr0 : Kd.C (Kd.slice 3 (Kd.int .i64)) w A0 l0.length l0) (hc0 : l0.length ≤ c0) (hr1 : Kd.C (Kd.slice 3 (Kd.int .i64)) w A1 l1.length l1) (hc1 : l1.length ≤ c1) (h : spec_heFirst.f k l0 l1 a2 = some r) :
  Calls Try.prog 78 #[.slice A0 l0.length c0, .slice A1 l1.length c1, .int .i64 a2] w fun e w' => ∃ v0_ : Value, e = .returned (v0_) ∧ Kd.R (Kd.int .i64) 3 w' w.heap.size (fun _ => True) v0_ r ∧ Below w.heap.size w w' := by
 have HR0 := am_ hr0; have HC0 := am_ hc0; clear hr0 hc0; have HR1 := am_ hr1; have HC1 := am_ hc1; clear hr1 hc1; have HB := am_ (Below.refl w.heap.size w); have H : ((spec_heFlips.f k l0 a2).bind fun t101 => (spec_heFirst.l0 k l0 l1 a2 t101 (t101.length : Int) 0)) = some r := h; clear h; replace H := bd_ H; obtain ⟨t101, A4, H⟩ := H; (try dsimp only at H); have H' := am_ H; clear H; go_enter Try.func78, Try.ntmps78
 go_wp2_with (first | (go_at_call 82; (with_reducible refine (spec_heFlips.calls k _ _ l0 a2 t101 _ ?side1 ?side2 A4.out).mono ?_); (case side1 => exact tc10_); (case side2 => exact HC0.out); rintro e w5 ⟨v102, rfl, ho0, hb⟩; have HO103 := am_ (Kd.S_lower ho0 (below_size tc0_)); replace HB := am_ (below_step tc0_ hb); (try clear hb ho0); obtain ⟨Ao6, co6, eo6⟩ := Kd.S_slice HO103.out; subst eo6))
 repeat (go_quiet (first | (go_at_call 82; (with_reducible refine (spec_heFlips.calls k _ _ l0 a2 t101 _ ?side1 ?side2 A4.out).mono ?_); (case side1 => exact tc10_); (case side2 => exact HC0.out); rintro e w5 ⟨v102, rfl, ho0, hb⟩; have HO103 := am_ (Kd.S_lower ho0 (below_size tc0_)); replace HB := am_ (below_step tc0_ hb); (try clear hb ho0); obtain ⟨Ao6, co6, eo6⟩ := Kd.S_slice HO103.out; subst eo6)); try go_wp2_with (first | (go_at_call 82; (with_reducible refine (spec_heFlips.calls k _ _ l0 a2 t101 _ ?side1 ?side2 A4.out).mono ?_); (case side1 => exact tc10_); (case side2 => exact HC0.out); rintro e w5 ⟨v102, rfl, ho0, hb⟩; have HO103 := am_ (Kd.S_lower ho0 (below_size tc0_)); replace HB := am_ (below_step tc0_ hb); (try clear hb hb2 hk hi ho0); obtain ⟨Ao6, co6, eo6⟩ := Kd.S_slice HO103.out; subst eo6)))
 go_loopg [13] k (fun kq v13 w' => ∃ (x13_1 : Int), v13 = .int .i64 x13_1 ∧ Aside0 (spec_heFirst.l0 kq l0 l1 a2 t101 (t101.length : Int) x13_1 = some r) ∧ Aside0 (kq ≤ k) ∧ Aside0 (Kd.S (Kd.slice 3 (Kd.int .i64)) 32 w' w.heap.size (fun _ => True) (.slice Ao6 t101.length co6) t101) ∧ Aside0 (Below w.heap.size w w'))
 case atStart => exact ⟨(0), tc6_, H', ⟨Nat.le_refl _⟩, ⟨tc21_⟩, ⟨tc0_⟩⟩
 case round =>
  clear H'; (try clear c1); (try clear p2); obtain ⟨x13_1, rfl, HA, HK1, HO_11, HB⟩ := hrel
  cases gk with
  | zero => exact absurd HA.out (by simp [spec_heFirst.l0])
  | succ k1 =>
   have H := HA.out; clear HA; simp only [spec_heFirst.l0] at H
   replace H := sp_ H; obtain ⟨c7b0, H⟩ | ⟨c7b0, H⟩ := H
   ·replace H := ps_ H; obtain ⟨c8b0, H⟩ := H; replace H := ps_ H; obtain ⟨c9b0, H⟩ := H; replace H := pp_ H; obtain ⟨c10, H⟩ := H; have c10b0 : decide (0 < ((rd_L3 t101 x13_1).length : Int)) = true := decide_eq_true c10; have c10b1 : decide (0 < (rd_L3 t101 x13_1).length) = true := decide_eq_true (by omega); clear c10; replace H := ps_ H; obtain ⟨c11b0, H⟩ := H; replace H := ps_ H; obtain ⟨c12b0, H⟩ := H; replace H := pp_ H; obtain ⟨c13, H⟩ := H; have c13b0 : decide (1 < ((rd_L3 t101 x13_1).length : Int)) = true := decide_eq_true c13; have c13b1 : decide (1 < (rd_L3 t101 x13_1).length) = true := decide_eq_true (by omega); clear c13; replace H := ps_ H; obtain ⟨c14b0, H⟩ := H; replace H := ps_ H; obtain ⟨c15b0, H⟩ := H; replace H := ps_ H; obtain ⟨c16b0, H⟩ := H; replace H := ps_ H; obtain ⟨c17b0, H⟩ := H
    replace H := pn_ H; obtain ⟨c18, H⟩ | ⟨c18, H⟩ := H
    ·have c18b0 : decide (0 < (wrap64 (a2 * (wrap64 ((rd (rd_L3 l1 (rd (rd_L3 t101 x13_1) 0)) (rd (rd_L3 t101 x13_1) 1)) - (rd (rd_L3 l0 (rd (rd_L3 t101 x13_1) 0)) (rd (rd_L3 t101 x13_1) 1))))))) = true := decide_eq_true c18; clear c18; obtain rfl := Option.some.inj H; have p104 : 0 ≤ (x13_1 : Int) := od_; have q104 : x13_1 < (t101.length : Int) := od_; obtain ⟨ad104, A104_0, c104_0, e104, hx104_0, hl104_0, hi104_0⟩ := at_L3 (Kd.S_reads' HO_11.out).2.2 x13_1 p104 q104; cases e104; obtain ⟨ce104, hce104, hMe104, hcc104⟩ := Kd.S_get HO_11.out [] x13_1 p104 tc143_; obtain ⟨ve104_0, rfl, ge104_0⟩ := hMe104; have hv104_0 := hcc104 0 _ rfl; rw [Nat.add_zero, show ((Kd.slice 3 (Kd.int .i64))).sz = 1 from rfl, Nat.mul_one] at hv104_0; replace hv104_0 := Option.some.inj (hv104_0.symm.trans hx104_0); rw [hv104_0] at ge104_0; have HL104_0 := am_ (show Kd.R (Kd.int .i64) 3 _ _ _ _ (rd_L3 t101 x13_1) from ge104_0); clear hv104_0 ge104_0; clear hcc104 hce104; have HR104_0 := am_ hi104_0; have HC104_0 := am_ hl104_0; clear hi104_0 hl104_0; replace p104 := eq_true p104; replace q104 := eq_true q104; have p105 : 0 ≤ (0 : Int) := (by omega); have q105 : 0 < ((rd_L3 t101 x13_1).length : Int) := od_; obtain ⟨ad105, e105, hx105_0⟩ := Kd.at_int tc31_ 0 p105 q105; cases e105; have qi105 : (0 < (rd_L3 t101 x13_1).length) = True := eq_true (by omega); (try rw [show ((0 : Int)).toNat = 0 from rfl] at hx105_0); (try rw [Addr.add_zero'] at hx105_0); replace p105 := eq_true p105; replace q105 := eq_true q105; have p106 : 0 ≤ ((rd (rd_L3 t101 x13_1) 0) : Int) := od_; have q106 : (rd (rd_L3 t101 x13_1) 0) < (l1.length : Int) := od_; obtain ⟨ad106, A106_0, c106_0, e106, hx106_0, hl106_0, hi106_0⟩ := at_L3 HR1.out (rd (rd_L3 t101 x13_1) 0) p106 q106; cases e106; replace hx106_0 := (HB.out.cell (World.block_lt_of_cell? w _ hx106_0)).trans hx106_0; have HR106_0 := am_ hi106_0; have HC106_0 := am_ hl106_0; clear hi106_0 hl106_0; replace p106 := eq_true p106; replace q106 := eq_true q106; have p107 : 0 ≤ (1 : Int) := (by omega); have q107 : 1 < ((rd_L3 t101 x13_1).length : Int) := od_; obtain ⟨ad107, e107, hx107_0⟩ := Kd.at_int tc31_ 1 p107 q107; obtain rfl : ad105 = ad107 := (by injection e107); (try simp only [show (1 : Int).toNat = 1 from rfl, Nat.reduceMul, Nat.reduceEqDiff, Go.Addr.add, ↓reduceIte] at hx107_0); have qi107 : (1 < (rd_L3 t101 x13_1).length) = True := eq_true (by omega); (try rw [show ((1 : Int)).toNat = 1 from rfl] at hx107_0); replace p107 := eq_true p107; replace q107 := eq_true q107; have p108 : 0 ≤ ((rd (rd_L3 t101 x13_1) 1) : Int) := od_; have q108 : (rd (rd_L3 t101 x13_1) 1) < ((rd_L3 l1 (rd (rd_L3 t101 x13_1) 0)).length : Int) := od_; obtain ⟨ad108, e108, hx108_0⟩ := Kd.at_int HR106_0.out (rd (rd_L3 t101 x13_1) 1) p108 q108; cases e108; replace hx108_0 := (HB.out.cell (World.block_lt_of_cell? w _ hx108_0)).trans hx108_0; replace p108 := eq_true p108; replace q108 := eq_true q108; have p109 : 0 ≤ (0 : Int) := (by omega); have q109 : 0 < ((rd_L3 t101 x13_1).length : Int) := od_; obtain ⟨ad109, e109, hx109_0⟩ := Kd.at_int tc31_ 0 p109 q109; obtain rfl : ad105 = ad109 := (by injection e109); have qi109 : (0 < (rd_L3 t101 x13_1).length) = True := eq_true (by omega); (try rw [show ((0 : Int)).toNat = 0 from rfl] at hx109_0); (try rw [Addr.add_zero'] at hx109_0); replace p109 := eq_true p109; replace q109 := eq_true q109; have p110 : 0 ≤ ((rd (rd_L3 t101 x13_1) 0) : Int) := od_; have q110 : (rd (rd_L3 t101 x13_1) 0) < (l0.length : Int) := od_; obtain ⟨ad110, A110_0, c110_0, e110, hx110_0, hl110_0, hi110_0⟩ := at_L3 HR0.out (rd (rd_L3 t101 x13_1) 0) p110 q110; cases e110; replace hx110_0 := (HB.out.cell (World.block_lt_of_cell? w _ hx110_0)).trans hx110_0; have HR110_0 := am_ hi110_0; have HC110_0 := am_ hl110_0; clear hi110_0 hl110_0; replace p110 := eq_true p110; replace q110 := eq_true q110; have p111 : 0 ≤ (1 : Int) := (by omega); have q111 : 1 < ((rd_L3 t101 x13_1).length : Int) := od_; obtain ⟨ad111, e111, hx111_0⟩ := Kd.at_int tc31_ 1 p111 q111; obtain rfl : ad105 = ad111 := (by injection e111); (try simp only [show (1 : Int).toNat = 1 from rfl, Nat.reduceMul, Nat.reduceEqDiff, Go.Addr.add, ↓reduceIte] at hx111_0); have qi111 : (1 < (rd_L3 t101 x13_1).length) = True := eq_true (by omega); (try rw [show ((1 : Int)).toNat = 1 from rfl] at hx111_0); replace p111 := eq_true p111; replace q111 := eq_true q111; have p112 : 0 ≤ ((rd (rd_L3 t101 x13_1) 1) : Int) := od_; have q112 : (rd (rd_L3 t101 x13_1) 1) < ((rd_L3 l0 (rd (rd_L3 t101 x13_1) 0)).length : Int) := od_; obtain ⟨ad112, e112, hx112_0⟩ := Kd.at_int HR110_0.out (rd (rd_L3 t101 x13_1) 1) p112 q112; cases e112; replace hx112_0 := (HB.out.cell (World.block_lt_of_cell? w _ hx112_0)).trans hx112_0; replace p112 := eq_true p112; replace q112 := eq_true q112; go_wp2
     repeat (go_quiet (fail); try go_wp2)
     go_ret
     exact ⟨_, tc8_, (by (with_reducible repeat (first | apply Kd.R_alloc | apply Kd.R_drewN | apply Kd.R_drew)); exact Kd.R_mono HL104_0.out (fun _ hk => trivial)), tc0_⟩
    ·have c18b0 : decide (0 < (wrap64 (a2 * (wrap64 ((rd (rd_L3 l1 (rd (rd_L3 t101 x13_1) 0)) (rd (rd_L3 t101 x13_1) 1)) - (rd (rd_L3 l0 (rd (rd_L3 t101 x13_1) 0)) (rd (rd_L3 t101 x13_1) 1))))))) = false := decide_eq_false c18; clear c18; have H' := am_ H; clear H; have p104 : 0 ≤ (x13_1 : Int) := od_; have q104 : x13_1 < (t101.length : Int) := od_; obtain ⟨ad104, A104_0, c104_0, e104, hx104_0, hl104_0, hi104_0⟩ := at_L3 (Kd.S_reads' HO_11.out).2.2 x13_1 p104 q104; cases e104; obtain ⟨ce104, hce104, hMe104, hcc104⟩ := Kd.S_get HO_11.out [] x13_1 p104 tc143_; obtain ⟨ve104_0, rfl, ge104_0⟩ := hMe104; have hv104_0 := hcc104 0 _ rfl; rw [Nat.add_zero, show ((Kd.slice 3 (Kd.int .i64))).sz = 1 from rfl, Nat.mul_one] at hv104_0; replace hv104_0 := Option.some.inj (hv104_0.symm.trans hx104_0); rw [hv104_0] at ge104_0; have HL104_0 := am_ (show Kd.R (Kd.int .i64) 3 _ _ _ _ (rd_L3 t101 x13_1) from ge104_0); clear hv104_0 ge104_0; clear hcc104 hce104; have HR104_0 := am_ hi104_0; have HC104_0 := am_ hl104_0; clear hi104_0 hl104_0; replace p104 := eq_true p104; replace q104 := eq_true q104; have p105 : 0 ≤ (0 : Int) := (by omega); have q105 : 0 < ((rd_L3 t101 x13_1).length : Int) := od_; obtain ⟨ad105, e105, hx105_0⟩ := Kd.at_int tc31_ 0 p105 q105; cases e105; have qi105 : (0 < (rd_L3 t101 x13_1).length) = True := eq_true (by omega); (try rw [show ((0 : Int)).toNat = 0 from rfl] at hx105_0); (try rw [Addr.add_zero'] at hx105_0); replace p105 := eq_true p105; replace q105 := eq_true q105; have p106 : 0 ≤ ((rd (rd_L3 t101 x13_1) 0) : Int) := od_; have q106 : (rd (rd_L3 t101 x13_1) 0) < (l1.length : Int) := od_; obtain ⟨ad106, A106_0, c106_0, e106, hx106_0, hl106_0, hi106_0⟩ := at_L3 HR1.out (rd (rd_L3 t101 x13_1) 0) p106 q106; cases e106; replace hx106_0 := (HB.out.cell (World.block_lt_of_cell? w _ hx106_0)).trans hx106_0; have HR106_0 := am_ hi106_0; have HC106_0 := am_ hl106_0; clear hi106_0 hl106_0; replace p106 := eq_true p106; replace q106 := eq_true q106; have p107 : 0 ≤ (1 : Int) := (by omega); have q107 : 1 < ((rd_L3 t101 x13_1).length : Int) := od_; obtain ⟨ad107, e107, hx107_0⟩ := Kd.at_int tc31_ 1 p107 q107; obtain rfl : ad105 = ad107 := (by injection e107); (try simp only [show (1 : Int).toNat = 1 from rfl, Nat.reduceMul, Nat.reduceEqDiff, Go.Addr.add, ↓reduceIte] at hx107_0); have qi107 : (1 < (rd_L3 t101 x13_1).length) = True := eq_true (by omega); (try rw [show ((1 : Int)).toNat = 1 from rfl] at hx107_0); replace p107 := eq_true p107; replace q107 := eq_true q107; have p108 : 0 ≤ ((rd (rd_L3 t101 x13_1) 1) : Int) := od_; have q108 : (rd (rd_L3 t101 x13_1) 1) < ((rd_L3 l1 (rd (rd_L3 t101 x13_1) 0)).length : Int) := od_; obtain ⟨ad108, e108, hx108_0⟩ := Kd.at_int HR106_0.out (rd (rd_L3 t101 x13_1) 1) p108 q108; cases e108; replace hx108_0 := (HB.out.cell (World.block_lt_of_cell? w _ hx108_0)).trans hx108_0; replace p108 := eq_true p108; replace q108 := eq_true q108; have p109 : 0 ≤ (0 : Int) := (by omega); have q109 : 0 < ((rd_L3 t101 x13_1).length : Int) := od_; obtain ⟨ad109, e109, hx109_0⟩ := Kd.at_int tc31_ 0 p109 q109; obtain rfl : ad105 = ad109 := (by injection e109); have qi109 : (0 < (rd_L3 t101 x13_1).length) = True := eq_true (by omega); (try rw [show ((0 : Int)).toNat = 0 from rfl] at hx109_0); (try rw [Addr.add_zero'] at hx109_0); replace p109 := eq_true p109; replace q109 := eq_true q109; have p110 : 0 ≤ ((rd (rd_L3 t101 x13_1) 0) : Int) := od_; have q110 : (rd (rd_L3 t101 x13_1) 0) < (l0.length : Int) := od_; obtain ⟨ad110, A110_0, c110_0, e110, hx110_0, hl110_0, hi110_0⟩ := at_L3 HR0.out (rd (rd_L3 t101 x13_1) 0) p110 q110; cases e110; replace hx110_0 := (HB.out.cell (World.block_lt_of_cell? w _ hx110_0)).trans hx110_0; have HR110_0 := am_ hi110_0; have HC110_0 := am_ hl110_0; clear hi110_0 hl110_0; replace p110 := eq_true p110; replace q110 := eq_true q110; have p111 : 0 ≤ (1 : Int) := (by omega); have q111 : 1 < ((rd_L3 t101 x13_1).length : Int) := od_; obtain ⟨ad111, e111, hx111_0⟩ := Kd.at_int tc31_ 1 p111 q111; obtain rfl : ad105 = ad111 := (by injection e111); (try simp only [show (1 : Int).toNat = 1 from rfl, Nat.reduceMul, Nat.reduceEqDiff, Go.Addr.add, ↓reduceIte] at hx111_0); have qi111 : (1 < (rd_L3 t101 x13_1).length) = True := eq_true (by omega); (try rw [show ((1 : Int)).toNat = 1 from rfl] at hx111_0); replace p111 := eq_true p111; replace q111 := eq_true q111; have p112 : 0 ≤ ((rd (rd_L3 t101 x13_1) 1) : Int) := od_; have q112 : (rd (rd_L3 t101 x13_1) 1) < ((rd_L3 l0 (rd (rd_L3 t101 x13_1) 0)).length : Int) := od_; obtain ⟨ad112, e112, hx112_0⟩ := Kd.at_int HR110_0.out (rd (rd_L3 t101 x13_1) 1) p112 q112; cases e112; replace hx112_0 := (HB.out.cell (World.block_lt_of_cell? w _ hx112_0)).trans hx112_0; replace p112 := eq_true p112; replace q112 := eq_true q112; go_wp2
     repeat (go_quiet (fail); try go_wp2)
     go_roundg k1
     case measure => have := HK1.out; omega
     case rel => exact ⟨(wrap64 (x13_1 + 1)), tc6_, H', ⟨tc119_⟩, ⟨(by (with_reducible repeat (first | apply Kd.S_alloc | apply Kd.S_drewN | apply Kd.S_drew)); exact HO_11.out)⟩, ⟨tc0_⟩⟩
   ·obtain rfl := Option.some.inj H; go_wp2
    repeat (go_quiet (fail); try go_wp2)
    go_ret
    exact ⟨_, tc8_, tc116_, tc0_⟩

/-! ### spec_FlipPath: function 28 (by hand) -/
def spec_FlipPath.stp (go : List (List Int) → List (List Int) → Option (List (List Int) × Bool)) (h out : List (List Int)) (c : List Int) (way : Int) : Option (List (List Int) × Bool) := if 0 < (c.length : Int) then (if 1 < (c.length : Int) then (if 0 ≤ rd c 0 then (if rd c 0 < (h.length : Int) then (if 0 ≤ rd c 1 then (if rd c 1 < ((rd_L3 h (rd c 0)).length : Int) then (if out.length < 5864062014805 then go (h.set (rd c 0).toNat ((rd_L3 h (rd c 0)).set (rd c 1).toNat (wrap64 (rd (rd_L3 h (rd c 0)) (rd c 1) + wrap64 (2 * way))))) (out ++ [c]) else none) else none) else none) else none) else none) else none) else none
def spec_FlipPath.l0 : Nat → List (List Int) → List (List Int) → List (List Int) → Option (List (List Int) × Bool)
  | 0, _, _, _ => none
  | k + 1, h, g, out => (spec_heSame.f k h g).bind fun t => if t = true then some (out, true) else ((spec_heFirst.f k h g 1).bind fun c => if (c.length : Int) = 0 then ((spec_heFirst.f k h g (-1)).bind fun c => spec_FlipPath.stp (fun h out => spec_FlipPath.l0 k h g out) h out c (-1)) else spec_FlipPath.stp (fun h out => spec_FlipPath.l0 k h g out) h out c 1)
def spec_FlipPath.f (k : Nat) (l0 l1 : List (List Int)) : Option (List (List Int) × Bool) := (spec_hePair.f k l0 l1).bind fun t => if t = true then ((spec_heOf.f k l0).bind fun h => (spec_heOf.f k l1).bind fun g => spec_FlipPath.l0 k h g []) else some ([], false)
theorem spec_FlipPath.mono_s {go go' : List (List Int) → List (List Int) → Option (List (List Int) × Bool)} (hg : ∀ a b, LeO (go a b) (go' a b)) (h out c way) : LeO (spec_FlipPath.stp go h out c way) (spec_FlipPath.stp go' h out c way) := by
  unfold spec_FlipPath.stp
  exact LeO.ite (LeO.ite (LeO.ite (LeO.ite (LeO.ite (LeO.ite (LeO.ite (hg _ _) (LeO.refl _)) (LeO.refl _)) (LeO.refl _)) (LeO.refl _)) (LeO.refl _)) (LeO.refl _)) (LeO.refl _)
theorem spec_FlipPath.mono0 : ∀ k h g out, LeO (spec_FlipPath.l0 k h g out) (spec_FlipPath.l0 (k + 1) h g out)
  | 0, _, _, _ => fun r h => by simp [spec_FlipPath.l0] at h
  | k + 1, h, g, out => by
    unfold spec_FlipPath.l0
    exact LeO.bind (spec_heSame.mono _ _ _) (fun _ => LeO.ite (LeO.refl _) (LeO.bind (spec_heFirst.mono _ _ _ _) (fun _ => LeO.ite (LeO.bind (spec_heFirst.mono _ _ _ _) (fun _ => spec_FlipPath.mono_s (fun a b => spec_FlipPath.mono0 k a g b) _ _ _ _)) (spec_FlipPath.mono_s (fun a b => spec_FlipPath.mono0 k a g b) _ _ _ _))))
set_option maxHeartbeats 4000000 in
set_option maxRecDepth 100000 in
theorem spec_FlipPath.calls (k : Nat) (A0 : Option Addr) (c0 : Nat) (l0 : List (List Int)) (A1 : Option Addr) (c1 : Nat) (l1 : List (List Int)) (r1 : List (List Int)) (r2 : Bool) (w : World) (hr0 : Kd.C (Kd.slice 3 (Kd.int .i64)) w A0 l0.length l0) (hc0 : l0.length ≤ c0) (hr1 : Kd.C (Kd.slice 3 (Kd.int .i64)) w A1 l1.length l1) (hc1 : l1.length ≤ c1) (h : spec_FlipPath.f k l0 l1 = some (r1, r2)) :
    Calls Try.prog 28 #[.slice A0 l0.length c0, .slice A1 l1.length c1] w fun e w' => ∃ v0_ : Value, e = .returned (.tuple #[v0_, .bool r2]) ∧ Kd.S (Kd.slice 3 (Kd.int .i64)) 32 w' w.heap.size (fun _ => True) v0_ r1 ∧ Below w.heap.size w w' := by
  obtain ⟨t, ht, h⟩ := Option.bind_eq_some_iff.mp h
  have HR0 := am_ hr0
  have HC0 := am_ hc0
  have HR1 := am_ hr1
  have HC1 := am_ hc1
  have HT := am_ ht
  clear hr0 hc0 hr1 hc1 ht
  cases t with
  | false =>
    rw [if_neg (by simp)] at h
    obtain ⟨rfl, rfl⟩ := Prod.mk.inj (Option.some.inj h)
    clear h
    go_enter Try.func28, Try.ntmps28
    go_wp2_with (first | (go_at_call 76; go_must (with_reducible refine (spec_hePair.calls k A0 c0 l0 A1 c1 l1 false w HR0.out HC0.out HR1.out HC1.out HT.out).mono ?_); rintro e w1 ⟨rfl, hb1⟩; have HB1 := am_ hb1; clear hb1))
    go_ret2
    exact ⟨_, rfl, Kd.S_nil _ _ _ _ _, HB1.out⟩
  | true =>
    rw [if_pos rfl] at h
    obtain ⟨h0, hh0, h⟩ := Option.bind_eq_some_iff.mp h
    obtain ⟨g, hg, h⟩ := Option.bind_eq_some_iff.mp h
    have HH := am_ hh0
    have HG := am_ hg
    have HL := am_ h
    clear hh0 hg h
    obtain ⟨n, hn⟩ : ∃ n, h0.length = n := ⟨_, rfl⟩
    obtain ⟨m, hm⟩ : ∃ m, g.length = m := ⟨_, rfl⟩
    have HN := am_ hn
    have HM := am_ hm
    clear hn hm
    go_enter Try.func28, Try.ntmps28
    go_wp2_with (first
      | (go_at_call 76; go_must (with_reducible refine (spec_hePair.calls k A0 c0 l0 A1 c1 l1 true w HR0.out HC0.out HR1.out HC1.out HT.out).mono ?_); rintro e w1 ⟨rfl, hb1⟩; have HB1 := am_ hb1; clear hb1)
      | (go_at_call 47; (with_reducible refine (spec_heOf.calls k A0 c0 l0 h0 w1 (Kd.C_below HR0.out HB1.out) HC0.out HH.out).mono ?_); rintro e w2 ⟨v2, rfl, ho2, hb2⟩; have HO2 := am_ (Kd.S_mono (Kd.S_bound (Kd.S_lower ho2 (below_size HB1.out))) (ok' := fun k_ => k_ < w2.heap.size) (fun k_ hk => hk.2.2.1)); have HB2 := am_ (below_step HB1.out hb2); clear ho2 hb2; obtain ⟨A6, c6, e6⟩ := Kd.S_slice HO2.out; subst e6; rw [HN.out] at HO2 ⊢)
      | (go_at_call 47; go_must (with_reducible refine (spec_heOf.calls k A1 c1 l1 g w2 (Kd.C_below HR1.out HB2.out) HC1.out HG.out).mono ?_); rintro e w3 ⟨v3, rfl, ho3, hb3⟩; have HG3 := am_ (Kd.S_mono (Kd.S_bound ho3) (ok' := fun k_ => w2.heap.size ≤ k_ ∧ k_ < w3.heap.size) (fun k_ hk => ⟨hk.2.1, hk.2.2.1⟩)); have HO3 := am_ (Kd.S_below HO2.out hb3); have HB3 := am_ (And.intro (below_step HB2.out hb3) (And.intro (below_size HB2.out) (below_size hb3))); clear ho3 hb3; obtain ⟨A7, c7, e7⟩ := Kd.S_slice HG3.out; subst e7; rw [HM.out] at HG3 ⊢))
    clear HT HH HG HR0 HC0 HR1 HC1 HO2 HB1 HB2
    obtain ⟨N, eN⟩ : ∃ N, w2.heap.size = N := ⟨_, rfl⟩
    obtain ⟨M, eM⟩ : ∃ M, w3.heap.size = M := ⟨_, rfl⟩
    rw [eN] at HG3 HO3 HB3
    rw [eM] at HG3 HB3
    clear eN
    go_loopg [8] k (fun kq v8 w' => ∃ (hh out : List (List Int)), Aside0 (spec_FlipPath.l0 kq hh g out = some (r1, r2)) ∧ Aside0 (kq ≤ k) ∧ Aside0 (Kd.S (Kd.slice 3 (Kd.int .i64)) 32 w' w.heap.size (fun k_ => k_ < N) (.slice A6 n c6) hh) ∧ Aside0 (Kd.S (Kd.slice 3 (Kd.int .i64)) 32 w' N (fun k_ => N ≤ k_ ∧ k_ < M) (.slice A7 m c7) g) ∧ Aside0 (Kd.S (Kd.slice 3 (Kd.int .i64)) 32 w' M (fun _ => True) v8 out) ∧ Aside0 (Below w.heap.size w w' ∧ w.heap.size ≤ N ∧ N ≤ M) ∧ Aside0 (M ≤ w'.heap.size))
    case atStart => exact ⟨h0, [], HL, ⟨Nat.le_refl _⟩, HO3, HG3, ⟨Kd.S_nil _ _ _ _ _⟩, HB3, ⟨Nat.le_of_eq eM.symm⟩⟩
    case round =>
      clear HL HO3 HG3 HB3 eM HN
      obtain ⟨wo, rfl⟩ : ∃ w_ : World, w_ = wr := ⟨_, rfl⟩
      obtain ⟨hh, out, HL, HK, HO, HG, HU, HB, HS⟩ := hrel
      have H := HL.out
      clear HL
      cases gk with
      | zero => exact absurd H (by simp [spec_FlipPath.l0])
      | succ k1 =>
      simp only [spec_FlipPath.l0] at H
      obtain ⟨t, ht, H⟩ := Option.bind_eq_some_iff.mp H
      have HT := am_ ht
      clear ht
      have HN := am_ (Kd.S_reads' HO.out).1
      obtain ⟨A8, c8, e8⟩ := Kd.S_slice HU.out
      subst e8
      obtain ⟨no, hno⟩ : ∃ no, out.length = no := ⟨_, rfl⟩
      have HNO := am_ hno
      rw [hno] at HU ⊢
      clear hno
      cases t with
      | true =>
        rw [if_pos rfl] at H
        obtain ⟨rfl, rfl⟩ := Prod.mk.inj (Option.some.inj H)
        clear H
        go_wp2_with (first | (go_at_call 77; (try rw [HN.out]); (try rw [← HM.out]); go_must (with_reducible refine (spec_heSame.calls k1 A6 c6 hh A7 c7 g true _ (Kd.S_reads' HO.out).2.2 tc73_ (Kd.S_reads' HG.out).2.2 tc104_ HT.out).mono ?_); rintro e w4 ⟨rfl, ⟨nd, rfl⟩⟩; (try rw [← HN.out]); (try rw [HM.out])))
        go_ret2
        exact ⟨_, rfl, Kd.S_mono (Kd.S_lower (Kd.S_drewN HU.out _) (by have := HB.out; omega)) (fun _ _ => trivial), pw_below_drewN HB.out.1 _⟩
      | false =>
        rw [if_neg (by simp)] at H
        obtain ⟨c, hc, H⟩ := Option.bind_eq_some_iff.mp H
        have HCE := am_ hc
        clear hc
        obtain ⟨nc, hnc⟩ : ∃ nc, c.length = nc := ⟨_, rfl⟩
        have HNC := am_ hnc
        by_cases c1 : (c.length : Int) = 0
        · rw [if_pos c1] at H
          have z1 : nc = 0 := by omega
          have z2 : ((nc : Int) == 0) = true := by simp [z1]
          clear hnc c1
          obtain ⟨c, hc, H⟩ := Option.bind_eq_some_iff.mp H
          have HCE2 := am_ hc
          clear hc
          obtain ⟨nc2, hnc⟩ : ∃ nc, c.length = nc := ⟨_, rfl⟩
          have HNC2 := am_ hnc
          have q1 : 0 < (c.length : Int) := Classical.byContradiction fun q => by unfold spec_FlipPath.stp at H; rw [if_neg q] at H; cases H
          have q2 : 1 < (c.length : Int) := Classical.byContradiction fun q => by unfold spec_FlipPath.stp at H; rw [if_pos q1, if_neg q] at H; cases H
          have q3 : 0 ≤ rd c 0 := Classical.byContradiction fun q => by unfold spec_FlipPath.stp at H; rw [if_pos q1, if_pos q2, if_neg q] at H; cases H
          have q4 : rd c 0 < (hh.length : Int) := Classical.byContradiction fun q => by unfold spec_FlipPath.stp at H; rw [if_pos q1, if_pos q2, if_pos q3, if_neg q] at H; cases H
          have q5 : 0 ≤ rd c 1 := Classical.byContradiction fun q => by unfold spec_FlipPath.stp at H; rw [if_pos q1, if_pos q2, if_pos q3, if_pos q4, if_neg q] at H; cases H
          have q6 : rd c 1 < ((rd_L3 hh (rd c 0)).length : Int) := Classical.byContradiction fun q => by unfold spec_FlipPath.stp at H; rw [if_pos q1, if_pos q2, if_pos q3, if_pos q4, if_pos q5, if_neg q] at H; cases H
          have q7 : out.length < 5864062014805 := Classical.byContradiction fun q => by unfold spec_FlipPath.stp at H; rw [if_pos q1, if_pos q2, if_pos q3, if_pos q4, if_pos q5, if_pos q6, if_neg q] at H; cases H
          unfold spec_FlipPath.stp at H
          rw [if_pos q1, if_pos q2, if_pos q3, if_pos q4, if_pos q5, if_pos q6, if_pos q7] at H
          have HF := am_ H
          clear H
          rw [hnc] at q1 q2
          rw [← HN.out] at q4
          have z4 : ((nc2 : Int) == 0) = false := by simp; omega
          have Q7 := am_ q7
          clear hnc q7
          go_wp2_with (first | (go_at_call 77; (try rw [HN.out]); (try rw [← HM.out]); go_must (with_reducible refine (spec_heSame.calls k1 A6 c6 hh A7 c7 g false _ (Kd.S_reads' HO.out).2.2 tc73_ (Kd.S_reads' HG.out).2.2 tc104_ HT.out).mono ?_); rintro e w4 ⟨rfl, hd4⟩; (try rw [← HN.out]); (try rw [HM.out]); have hb4 := below_of_drawn hd4; have HO4 := am_ (Kd.S_below HO.out hb4); have HG4 := am_ (Kd.S_below HG.out hb4); have HU4 := am_ (Kd.S_mono (Kd.S_bound (Kd.S_below HU.out hb4)) (ok' := fun k_ => k_ < w4.heap.size) (fun k_ hk => hk.2.2.1)); have HB4 := am_ (below_step HB.out.1 hb4); have HS4 := am_ (Nat.le_trans HS.out (below_size hb4)); clear hd4 hb4) | (go_at_call 78; (try rw [HN.out]); (try rw [← HM.out]); (with_reducible refine (spec_heFirst.calls k1 A6 c6 hh A7 c7 g (1) _ _ (Kd.S_reads' HO4.out).2.2 tc123_ (Kd.S_reads' HG4.out).2.2 tc124_ HCE.out).mono ?_); rintro e w5 ⟨v5, rfl, hc5, hb5⟩; (try rw [← HN.out]); (try rw [HM.out]); have HO5 := am_ (Kd.S_below HO4.out hb5); have HG5 := am_ (Kd.S_below HG4.out hb5); have HU5 := am_ (Kd.S_below HU4.out hb5); have HB5 := am_ (below_step HB4.out hb5); have HSA5 := am_ (And.intro HS4.out (below_size hb5)); have HS5 := am_ (Nat.le_trans HS4.out (below_size hb5)); have HC5 := am_ (Kd.R_mono (Kd.R_bound hc5) (ok' := fun k_ => w4.heap.size ≤ k_ ∧ k_ < w5.heap.size) (fun k_ hk => ⟨hk.2.1, hk.2.2.1⟩)); clear hc5 hb5; obtain ⟨A5, c5_, e5⟩ := Kd.R_slice HC5.out; subst e5; rw [HNC.out] at HC5 ⊢) | (go_at_call 78; (try rw [HN.out]); (try rw [← HM.out]); (with_reducible refine (spec_heFirst.calls k1 A6 c6 hh A7 c7 g ((-1)) _ _ (Kd.S_reads' HO5.out).2.2 (by have h1_ := (Kd.S_reads' HO5.out).1; have h2_ := (Kd.S_reads' HO5.out).2.1; omega) (Kd.S_reads' HG5.out).2.2 (by have h1_ := (Kd.S_reads' HG5.out).1; have h2_ := (Kd.S_reads' HG5.out).2.1; omega) HCE2.out).mono ?_); rintro e w6 ⟨v6, rfl, hc6, hb6⟩; (try rw [← HN.out]); (try rw [HM.out]); have HO6 := am_ (Kd.S_below HO5.out hb6); have HG6 := am_ (Kd.S_below HG5.out hb6); have HU6 := am_ (Kd.S_below HU5.out hb6); have HB6 := am_ (below_step HB5.out hb6); have HSA6 := am_ (And.intro HS5.out (below_size hb6)); have HS6 := am_ (Nat.le_trans HS5.out (below_size hb6)); have HC6 := am_ (Kd.R_mono (Kd.R_bound hc6) (ok' := fun k_ => w5.heap.size ≤ k_ ∧ k_ < w6.heap.size) (fun k_ hk => ⟨hk.2.1, hk.2.2.1⟩)); clear hc6 hb6; obtain ⟨A6, c6_, e6⟩ := Kd.R_slice HC6.out; subst e6; rw [HNC2.out] at HC6 ⊢))
          have HO := am_ (Kd.S_drew HO6.out)
          have HG := am_ (Kd.S_drew HG6.out)
          have HU := am_ (Kd.S_drew HU6.out)
          have HC := am_ (Kd.R_drew HC6.out)
          have HB_ := am_ (below_drew1 HB6.out)
          have HS_ := am_ (show M ≤ (World.drew w6).heap.size from HS6.out)
          have HW_ := am_ (show M ≤ w5.heap.size ∧ w4.heap.size ≤ w5.heap.size from ⟨Nat.le_trans HSA5.out.1 HSA5.out.2, HSA5.out.2⟩)
          have HNB := am_ HB.out.2
          clear HO4 HG4 HU4 HB4 HS4 HO5 HG5 HU5 HB5 HS5 HSA5 HC5 HO6 HG6 HU6 HB6 HS6 HSA6 HC6 HB HS
          obtain ⟨g6, cap6, e6_, _⟩ := Kd.S_form HO.out (by have := HN.out; omega)
          injection e6_ with e6a e6b e6c
          subst e6a
          clear e6b e6c
          obtain ⟨Aw, cw, hx, hall⟩ := S_cell2k HO.out (rd c 0) q3 q4
          obtain ⟨aw, eaw, hy, hfz, hgw, hok, hback⟩ := hall (rd c 1) q5 q6
          subst eaw
          rw [show hh.getD (rd c 0).toNat [] = (rd_L3 hh (rd c 0)) from rfl] at hx hy
          rw [Addr.add_lit, Nat.zero_add] at hx
          obtain ⟨adc, eac, hc0⟩ := Kd.at_int (Kd.R_reads' HC.out).2.2 0 (by omega) (by rw [HNC2.out]; omega)
          subst eac
          obtain ⟨adc2, eac2, hc1⟩ := Kd.at_int (Kd.R_reads' HC.out).2.2 1 (by omega) (by rw [HNC2.out]; omega)
          obtain rfl := Option.some.inj eac2
          clear eac2
          rw [show ((0 : Int)).toNat = 0 from rfl, Addr.add_zero'] at hc0
          simp only [show (1 : Int).toNat = 1 from rfl, Nat.reduceMul, Nat.reduceEqDiff, Go.Addr.add, ↓reduceIte] at hc1
          have HBK := am_ hback
          have HGW := am_ hgw
          have HOK := am_ hok
          clear hback hgw hok hall
          have z5 : (0 < nc2) = True := eq_true (by omega)
          have z6 : (1 < nc2) = True := eq_true (by omega)
          have p1 := eq_true q1
          have p2 := eq_true q2
          have p3 := eq_true q3
          have p4 := eq_true q4
          have p5 := eq_true q5
          have p6 := eq_true q6
          rw [show (2 : Int) * (-1) = -2 from rfl] at HF
          refine start_ (n := 16) (S := fun w' => w'.cell? adc = some (.int .i64 (rd c 0)) ∧ w'.cell? ⟨adc.block, adc.off + 1, none⟩ = some (.int .i64 (rd c 1)) ∧ w'.cell? ⟨g6, (rd c 0).toNat, none⟩ = some (.slice (some aw) (rd_L3 hh (rd c 0)).length cw) ∧ w'.cell? (aw.add (rd c 1).toNat) = some (.int .i64 (rd (rd_L3 hh (rd c 0)) (rd c 1)))) (ds := [15]) #[F_, F_, F_, F_, F_, F_, F_, F_, F_, F_, F_, F_, F_, F_, F_, F_] (by kernel_rfl) rfl rfl ⟨hc0, hc1, hx, hy⟩ (fun hHeld => ?_)
          generalize hW_ : World.drew _ = W at HO HG HU HC HB_ HS_ hx hy hc0 hc1 hfz HBK hHeld ⊢
          clear hW_
          refine pure_ (i := 0) (N := some 34) #[T_, F_, F_, F_, F_, F_, F_, F_, F_, F_, F_, F_, F_, F_, F_, F_] rfl rfl ak_ hq_ yi_ nm_ ?_
          refine pure_ (i := 1) (N := some 35) #[T_, T_, F_, F_, F_, F_, F_, F_, F_, F_, F_, F_, F_, F_, F_, F_] rfl rfl ak_ hq_ yi_ nm_ ?_
          refine pure_ (i := 2) (N := some 36) #[T_, T_, T_, F_, F_, F_, F_, F_, F_, F_, F_, F_, F_, F_, F_, F_] rfl rfl ak_ hq_ yi_ nm_ ?_
          refine pure_ (i := 6) (N := some 40) #[T_, T_, T_, F_, F_, F_, T_, F_, F_, F_, F_, F_, F_, F_, F_, F_] rfl rfl ak_ hq_ yi_ nm_ ?_
          refine pure_ (i := 7) (N := some 41) #[T_, T_, T_, F_, F_, F_, T_, T_, F_, F_, F_, F_, F_, F_, F_, F_] rfl rfl ak_ hq_ yi_ nm_ ?_
          refine pure_ (i := 11) (N := some 45) #[T_, T_, T_, F_, F_, F_, T_, T_, F_, F_, F_, T_, F_, F_, F_, F_] rfl rfl ak_ hq_ yi_ nm_ ?_
          refine pure_ (i := 12) (N := some 46) #[T_, T_, T_, F_, F_, F_, T_, T_, F_, F_, F_, T_, T_, F_, F_, F_] rfl rfl ak_ hq_ yi_ nm_ ?_
          refine take_ (i := 3) (N := some 37) #[T_, T_, T_, T_, F_, F_, T_, T_, F_, F_, F_, T_, T_, F_, F_, F_] rfl rfl ak_ hq_ yj4_ hHeld nm_ ?_
          refine pure_ (i := 4) (N := some 38) #[T_, T_, T_, T_, T_, F_, T_, T_, F_, F_, F_, T_, T_, F_, F_, F_] rfl rfl ak_ hq_ yi_ nm_ ?_
          refine take_ (i := 5) (N := some 39) #[T_, T_, T_, T_, T_, T_, T_, T_, F_, F_, F_, T_, T_, F_, F_, F_] rfl rfl ak_ hq_ yj4_ hHeld nm_ ?_
          refine take_ (i := 8) (N := some 42) #[T_, T_, T_, T_, T_, T_, T_, T_, T_, F_, F_, T_, T_, F_, F_, F_] rfl rfl ak_ hq_ yj4_ hHeld nm_ ?_
          refine pure_ (i := 9) (N := some 43) #[T_, T_, T_, T_, T_, T_, T_, T_, T_, T_, F_, T_, T_, F_, F_, F_] rfl rfl ak_ hq_ yi_ nm_ ?_
          refine take_ (i := 10) (N := some 44) #[T_, T_, T_, T_, T_, T_, T_, T_, T_, T_, T_, T_, T_, F_, F_, F_] rfl rfl ak_ hq_ yj4_ hHeld nm_ ?_
          refine pure_ (i := 13) (N := some 47) #[T_, T_, T_, T_, T_, T_, T_, T_, T_, T_, T_, T_, T_, T_, F_, F_] rfl rfl ak_ hq_ yi_ nm_ ?_
          refine pure_ (i := 14) (N := some 48) #[T_, T_, T_, T_, T_, T_, T_, T_, T_, T_, T_, T_, T_, T_, T_, F_] rfl rfl ak_ hq_ yi_ nm_ ?_
          refine last_ (i := 15) (N := none) #[T_, T_, T_, T_, T_, T_, T_, T_, T_, T_, T_, T_, T_, T_, T_, T_] rfl rfl (by kernel_rfl) (by decide) (fun K hK => ?_)
          refine skip_ (w1 := ?_) (by rfl) rfl ?_ ?_
          rotate_left
          · go_simp
            rfl
          refine hK.out _ _ ?_
          clear hK K
          refine done_ (by kernel_rfl) ?_
          have HB3 := HBK.out (wrap64 (rd (rd_L3 hh (rd c 0)) (rd c 1) + wrap64 (-2)))
          clear HBK HO
          have HO := am_ HB3
          clear HB3
          have hlt := HOK.out
          have HG7 := am_ (Kd.S_far HG.out (p := aw.add (rd c 1).toNat) (fun k_ hk he => by omega) (.int .i64 (wrap64 (rd (rd_L3 hh (rd c 0)) (rd c 1) + wrap64 (-2)))))
          have HU7 := am_ (Kd.S_far (Kd.S_mono (Kd.S_bound HU.out) (ok' := fun k_ => M ≤ k_ ∧ k_ < w4.heap.size) (fun k_ hk => ⟨hk.2.1, hk.1⟩)) (p := aw.add (rd c 1).toNat) (fun k_ hk he => by have := HNB.out; omega) (.int .i64 (wrap64 (rd (rd_L3 hh (rd c 0)) (rd c 1) + wrap64 (-2)))))
          have HC7 := am_ (Kd.R_far HC.out (p := aw.add (rd c 1).toNat) (fun k_ hk he => by have := HNB.out; have := HW_.out; omega) (.int .i64 (wrap64 (rd (rd_L3 hh (rd c 0)) (rd c 1) + wrap64 (-2)))))
          have HB7 := am_ (HB_.out.setCell HGW.out (.int .i64 (wrap64 (rd (rd_L3 hh (rd c 0)) (rd c 1) + wrap64 (-2)))))
          have HS7 := am_ (Nat.le_trans HS_.out ((Below.refl 0 W).setCell (p := aw.add (rd c 1).toNat) (Nat.zero_le _) (.int .i64 (wrap64 (rd (rd_L3 hh (rd c 0)) (rd c 1) + wrap64 (-2))))).size)
          clear HG HU HC HB_ HS_ hx hy hc0 hc1 hfz hlt
          have HK7 := am_ HK.out
          generalize hW8_ : World.setCell W _ _ = W8 at HO HG7 HU7 HC7 HB7 HS7 ⊢
          clear hW8_
          go_wp2_with (first | ((with_reducible refine gate_builtin (b := .append) (xs := #[.tmp 49, .tmp 51]) rfl ?_); at_builtin; go_must (refine Kd.S_append (Kd.slice 3 (Kd.int .i64)) (w0 := W8) M rfl (.tmp 49) (.tmp 51) 24 32 (.slice none 0 0) 24 rfl Try.underlying24 info32 rfl (by decide) (by omega) (.slice A8 no c8) out c [(.slice (some adc) nc2 c6_)] (fun _ => True) (fun k_ => w5.heap.size ≤ k_ ∧ k_ < w6.heap.size) rfl rfl ?aP ?aQ (fun _ _ => trivial) ?aO (Below.refl _ _) HS7.out (by have := Q7.out; omega) ?_); (case aP => exact Kd.M_row (Kd.R_lower HC7.out HW_.out.1)); (case aQ => exact fun k_ hk_ => ⟨trivial, fun e_ => by have h_ := (Kd.S_R HU7.out).1 k_ e_.symm; have := HW_.out; omega⟩); (case aO => exact Kd.S_mono HU7.out (fun k_ hk => ⟨trivial, fun h_ => by have := HW_.out; omega⟩)); intro v9 w9 ho hb hg hat; have HU9 := am_ ho; have HB9 := am_ (HB7.out.trans (hb.mono (Nat.le_trans HNB.out.1 HNB.out.2))); have HO9 := am_ (Kd.S_grown HO.out hg (fun k_ hk e_ => by have h_ := (Kd.S_R HU7.out).1 k_ e_.symm; have := HNB.out; omega)); have HG9 := am_ (Kd.S_grown HG7.out hg (fun k_ hk e_ => by have h_ := (Kd.S_R HU7.out).1 k_ e_.symm; omega)); have HS9 := am_ (Nat.le_trans HS7.out hb.size); clear ho hb hg hat))
          go_roundg k1
          case measure => have := HK.out; omega
          case rel => exact ⟨_, _, HF, ⟨by have := HK.out; omega⟩, HO9, HG9, HU9, ⟨HB9.out, HNB.out⟩, HS9⟩
        · rw [if_neg c1] at H
          have z2 : ((nc : Int) == 0) = false := by simp; omega
          have q1 : 0 < (c.length : Int) := Classical.byContradiction fun q => by unfold spec_FlipPath.stp at H; rw [if_neg q] at H; cases H
          have q2 : 1 < (c.length : Int) := Classical.byContradiction fun q => by unfold spec_FlipPath.stp at H; rw [if_pos q1, if_neg q] at H; cases H
          have q3 : 0 ≤ rd c 0 := Classical.byContradiction fun q => by unfold spec_FlipPath.stp at H; rw [if_pos q1, if_pos q2, if_neg q] at H; cases H
          have q4 : rd c 0 < (hh.length : Int) := Classical.byContradiction fun q => by unfold spec_FlipPath.stp at H; rw [if_pos q1, if_pos q2, if_pos q3, if_neg q] at H; cases H
          have q5 : 0 ≤ rd c 1 := Classical.byContradiction fun q => by unfold spec_FlipPath.stp at H; rw [if_pos q1, if_pos q2, if_pos q3, if_pos q4, if_neg q] at H; cases H
          have q6 : rd c 1 < ((rd_L3 hh (rd c 0)).length : Int) := Classical.byContradiction fun q => by unfold spec_FlipPath.stp at H; rw [if_pos q1, if_pos q2, if_pos q3, if_pos q4, if_pos q5, if_neg q] at H; cases H
          have q7 : out.length < 5864062014805 := Classical.byContradiction fun q => by unfold spec_FlipPath.stp at H; rw [if_pos q1, if_pos q2, if_pos q3, if_pos q4, if_pos q5, if_pos q6, if_neg q] at H; cases H
          unfold spec_FlipPath.stp at H
          rw [if_pos q1, if_pos q2, if_pos q3, if_pos q4, if_pos q5, if_pos q6, if_pos q7] at H
          have HF := am_ H
          clear H
          rw [hnc] at q1 q2
          rw [← HN.out] at q4
          have z4 : ((nc : Int) == 0) = false := by simp; omega
          have Q7 := am_ q7
          clear hnc q7
          go_wp2_with (first | (go_at_call 77; (try rw [HN.out]); (try rw [← HM.out]); go_must (with_reducible refine (spec_heSame.calls k1 A6 c6 hh A7 c7 g false _ (Kd.S_reads' HO.out).2.2 tc73_ (Kd.S_reads' HG.out).2.2 tc104_ HT.out).mono ?_); rintro e w4 ⟨rfl, hd4⟩; (try rw [← HN.out]); (try rw [HM.out]); have hb4 := below_of_drawn hd4; have HO4 := am_ (Kd.S_below HO.out hb4); have HG4 := am_ (Kd.S_below HG.out hb4); have HU4 := am_ (Kd.S_mono (Kd.S_bound (Kd.S_below HU.out hb4)) (ok' := fun k_ => k_ < w4.heap.size) (fun k_ hk => hk.2.2.1)); have HB4 := am_ (below_step HB.out.1 hb4); have HS4 := am_ (Nat.le_trans HS.out (below_size hb4)); clear hd4 hb4) | (go_at_call 78; (try rw [HN.out]); (try rw [← HM.out]); (with_reducible refine (spec_heFirst.calls k1 A6 c6 hh A7 c7 g (1) _ _ (Kd.S_reads' HO4.out).2.2 tc123_ (Kd.S_reads' HG4.out).2.2 tc124_ HCE.out).mono ?_); rintro e w5 ⟨v5, rfl, hc5, hb5⟩; (try rw [← HN.out]); (try rw [HM.out]); have HO5 := am_ (Kd.S_below HO4.out hb5); have HG5 := am_ (Kd.S_below HG4.out hb5); have HU5 := am_ (Kd.S_below HU4.out hb5); have HB5 := am_ (below_step HB4.out hb5); have HSA5 := am_ (And.intro HS4.out (below_size hb5)); have HS5 := am_ (Nat.le_trans HS4.out (below_size hb5)); have HC5 := am_ (Kd.R_mono (Kd.R_bound hc5) (ok' := fun k_ => w4.heap.size ≤ k_ ∧ k_ < w5.heap.size) (fun k_ hk => ⟨hk.2.1, hk.2.2.1⟩)); clear hc5 hb5; obtain ⟨A5, c5_, e5⟩ := Kd.R_slice HC5.out; subst e5; rw [HNC.out] at HC5 ⊢))
          have HO := am_ (Kd.S_drew HO5.out)
          have HG := am_ (Kd.S_drew HG5.out)
          have HU := am_ (Kd.S_drew HU5.out)
          have HC := am_ (Kd.R_drew HC5.out)
          have HB_ := am_ (below_drew1 HB5.out)
          have HS_ := am_ (show M ≤ (World.drew w5).heap.size from HS5.out)
          have HW_ := am_ (show M ≤ w4.heap.size ∧ w4.heap.size ≤ w4.heap.size from ⟨HSA5.out.1, Nat.le_refl _⟩)
          have HNB := am_ HB.out.2
          clear HO4 HG4 HU4 HB4 HS4 HO5 HG5 HU5 HB5 HS5 HSA5 HC5 HB HS
          obtain ⟨g6, cap6, e6_, _⟩ := Kd.S_form HO.out (by have := HN.out; omega)
          injection e6_ with e6a e6b e6c
          subst e6a
          clear e6b e6c
          obtain ⟨Aw, cw, hx, hall⟩ := S_cell2k HO.out (rd c 0) q3 q4
          obtain ⟨aw, eaw, hy, hfz, hgw, hok, hback⟩ := hall (rd c 1) q5 q6
          subst eaw
          rw [show hh.getD (rd c 0).toNat [] = (rd_L3 hh (rd c 0)) from rfl] at hx hy
          rw [Addr.add_lit, Nat.zero_add] at hx
          obtain ⟨adc, eac, hc0⟩ := Kd.at_int (Kd.R_reads' HC.out).2.2 0 (by omega) (by rw [HNC.out]; omega)
          subst eac
          obtain ⟨adc2, eac2, hc1⟩ := Kd.at_int (Kd.R_reads' HC.out).2.2 1 (by omega) (by rw [HNC.out]; omega)
          obtain rfl := Option.some.inj eac2
          clear eac2
          rw [show ((0 : Int)).toNat = 0 from rfl, Addr.add_zero'] at hc0
          simp only [show (1 : Int).toNat = 1 from rfl, Nat.reduceMul, Nat.reduceEqDiff, Go.Addr.add, ↓reduceIte] at hc1
          have HBK := am_ hback
          have HGW := am_ hgw
          have HOK := am_ hok
          clear hback hgw hok hall
          have z5 : (0 < nc) = True := eq_true (by omega)
          have z6 : (1 < nc) = True := eq_true (by omega)
          have p1 := eq_true q1
          have p2 := eq_true q2
          have p3 := eq_true q3
          have p4 := eq_true q4
          have p5 := eq_true q5
          have p6 := eq_true q6
          rw [show (2 : Int) * 1 = 2 from rfl] at HF
          refine start_ (n := 16) (S := fun w' => w'.cell? adc = some (.int .i64 (rd c 0)) ∧ w'.cell? ⟨adc.block, adc.off + 1, none⟩ = some (.int .i64 (rd c 1)) ∧ w'.cell? ⟨g6, (rd c 0).toNat, none⟩ = some (.slice (some aw) (rd_L3 hh (rd c 0)).length cw) ∧ w'.cell? (aw.add (rd c 1).toNat) = some (.int .i64 (rd (rd_L3 hh (rd c 0)) (rd c 1)))) (ds := [15]) #[F_, F_, F_, F_, F_, F_, F_, F_, F_, F_, F_, F_, F_, F_, F_, F_] (by kernel_rfl) rfl rfl ⟨hc0, hc1, hx, hy⟩ (fun hHeld => ?_)
          generalize hW_ : World.drew _ = W at HO HG HU HC HB_ HS_ hx hy hc0 hc1 hfz HBK hHeld ⊢
          clear hW_
          refine pure_ (i := 0) (N := some 34) #[T_, F_, F_, F_, F_, F_, F_, F_, F_, F_, F_, F_, F_, F_, F_, F_] rfl rfl ak_ hq_ yi_ nm_ ?_
          refine pure_ (i := 1) (N := some 35) #[T_, T_, F_, F_, F_, F_, F_, F_, F_, F_, F_, F_, F_, F_, F_, F_] rfl rfl ak_ hq_ yi_ nm_ ?_
          refine pure_ (i := 2) (N := some 36) #[T_, T_, T_, F_, F_, F_, F_, F_, F_, F_, F_, F_, F_, F_, F_, F_] rfl rfl ak_ hq_ yi_ nm_ ?_
          refine pure_ (i := 6) (N := some 40) #[T_, T_, T_, F_, F_, F_, T_, F_, F_, F_, F_, F_, F_, F_, F_, F_] rfl rfl ak_ hq_ yi_ nm_ ?_
          refine pure_ (i := 7) (N := some 41) #[T_, T_, T_, F_, F_, F_, T_, T_, F_, F_, F_, F_, F_, F_, F_, F_] rfl rfl ak_ hq_ yi_ nm_ ?_
          refine pure_ (i := 11) (N := some 45) #[T_, T_, T_, F_, F_, F_, T_, T_, F_, F_, F_, T_, F_, F_, F_, F_] rfl rfl ak_ hq_ yi_ nm_ ?_
          refine pure_ (i := 12) (N := some 46) #[T_, T_, T_, F_, F_, F_, T_, T_, F_, F_, F_, T_, T_, F_, F_, F_] rfl rfl ak_ hq_ yi_ nm_ ?_
          refine take_ (i := 3) (N := some 37) #[T_, T_, T_, T_, F_, F_, T_, T_, F_, F_, F_, T_, T_, F_, F_, F_] rfl rfl ak_ hq_ yj4_ hHeld nm_ ?_
          refine pure_ (i := 4) (N := some 38) #[T_, T_, T_, T_, T_, F_, T_, T_, F_, F_, F_, T_, T_, F_, F_, F_] rfl rfl ak_ hq_ yi_ nm_ ?_
          refine take_ (i := 5) (N := some 39) #[T_, T_, T_, T_, T_, T_, T_, T_, F_, F_, F_, T_, T_, F_, F_, F_] rfl rfl ak_ hq_ yj4_ hHeld nm_ ?_
          refine take_ (i := 8) (N := some 42) #[T_, T_, T_, T_, T_, T_, T_, T_, T_, F_, F_, T_, T_, F_, F_, F_] rfl rfl ak_ hq_ yj4_ hHeld nm_ ?_
          refine pure_ (i := 9) (N := some 43) #[T_, T_, T_, T_, T_, T_, T_, T_, T_, T_, F_, T_, T_, F_, F_, F_] rfl rfl ak_ hq_ yi_ nm_ ?_
          refine take_ (i := 10) (N := some 44) #[T_, T_, T_, T_, T_, T_, T_, T_, T_, T_, T_, T_, T_, F_, F_, F_] rfl rfl ak_ hq_ yj4_ hHeld nm_ ?_
          refine pure_ (i := 13) (N := some 47) #[T_, T_, T_, T_, T_, T_, T_, T_, T_, T_, T_, T_, T_, T_, F_, F_] rfl rfl ak_ hq_ yi_ nm_ ?_
          refine pure_ (i := 14) (N := some 48) #[T_, T_, T_, T_, T_, T_, T_, T_, T_, T_, T_, T_, T_, T_, T_, F_] rfl rfl ak_ hq_ yi_ nm_ ?_
          refine last_ (i := 15) (N := none) #[T_, T_, T_, T_, T_, T_, T_, T_, T_, T_, T_, T_, T_, T_, T_, T_] rfl rfl (by kernel_rfl) (by decide) (fun K hK => ?_)
          refine skip_ (w1 := ?_) (by rfl) rfl ?_ ?_
          rotate_left
          · go_simp
            rfl
          refine hK.out _ _ ?_
          clear hK K
          refine done_ (by kernel_rfl) ?_
          have HB3 := HBK.out (wrap64 (rd (rd_L3 hh (rd c 0)) (rd c 1) + wrap64 2))
          clear HBK HO
          have HO := am_ HB3
          clear HB3
          have hlt := HOK.out
          have HG7 := am_ (Kd.S_far HG.out (p := aw.add (rd c 1).toNat) (fun k_ hk he => by omega) (.int .i64 (wrap64 (rd (rd_L3 hh (rd c 0)) (rd c 1) + wrap64 2))))
          have HU7 := am_ (Kd.S_far (Kd.S_mono (Kd.S_bound HU.out) (ok' := fun k_ => M ≤ k_ ∧ k_ < w4.heap.size) (fun k_ hk => ⟨hk.2.1, hk.1⟩)) (p := aw.add (rd c 1).toNat) (fun k_ hk he => by have := HNB.out; omega) (.int .i64 (wrap64 (rd (rd_L3 hh (rd c 0)) (rd c 1) + wrap64 2))))
          have HC7 := am_ (Kd.R_far HC.out (p := aw.add (rd c 1).toNat) (fun k_ hk he => by have := HNB.out; have := HW_.out; omega) (.int .i64 (wrap64 (rd (rd_L3 hh (rd c 0)) (rd c 1) + wrap64 2))))
          have HB7 := am_ (HB_.out.setCell HGW.out (.int .i64 (wrap64 (rd (rd_L3 hh (rd c 0)) (rd c 1) + wrap64 2))))
          have HS7 := am_ (Nat.le_trans HS_.out ((Below.refl 0 W).setCell (p := aw.add (rd c 1).toNat) (Nat.zero_le _) (.int .i64 (wrap64 (rd (rd_L3 hh (rd c 0)) (rd c 1) + wrap64 2)))).size)
          clear HG HU HC HB_ HS_ hx hy hc0 hc1 hfz hlt
          have HK7 := am_ HK.out
          generalize hW8_ : World.setCell W _ _ = W8 at HO HG7 HU7 HC7 HB7 HS7 ⊢
          clear hW8_
          go_wp2_with (first | ((with_reducible refine gate_builtin (b := .append) (xs := #[.tmp 49, .tmp 51]) rfl ?_); at_builtin; go_must (refine Kd.S_append (Kd.slice 3 (Kd.int .i64)) (w0 := W8) M rfl (.tmp 49) (.tmp 51) 24 32 (.slice none 0 0) 24 rfl Try.underlying24 info32 rfl (by decide) (by omega) (.slice A8 no c8) out c [(.slice (some adc) nc c5_)] (fun _ => True) (fun k_ => w4.heap.size ≤ k_ ∧ k_ < w5.heap.size) rfl rfl ?aP ?aQ (fun _ _ => trivial) ?aO (Below.refl _ _) HS7.out (by have := Q7.out; omega) ?_); (case aP => exact Kd.M_row (Kd.R_lower HC7.out HW_.out.1)); (case aQ => exact fun k_ hk_ => ⟨trivial, fun e_ => by have h_ := (Kd.S_R HU7.out).1 k_ e_.symm; have := HW_.out; omega⟩); (case aO => exact Kd.S_mono HU7.out (fun k_ hk => ⟨trivial, fun h_ => by have := HW_.out; omega⟩)); intro v9 w9 ho hb hg hat; have HU9 := am_ ho; have HB9 := am_ (HB7.out.trans (hb.mono (Nat.le_trans HNB.out.1 HNB.out.2))); have HO9 := am_ (Kd.S_grown HO.out hg (fun k_ hk e_ => by have h_ := (Kd.S_R HU7.out).1 k_ e_.symm; have := HNB.out; omega)); have HG9 := am_ (Kd.S_grown HG7.out hg (fun k_ hk e_ => by have h_ := (Kd.S_R HU7.out).1 k_ e_.symm; omega)); have HS9 := am_ (Nat.le_trans HS7.out hb.size); clear ho hb hg hat))
          go_roundg k1
          case measure => have := HK.out; omega
          case rel => exact ⟨_, _, HF, ⟨by have := HK.out; omega⟩, HO9, HG9, HU9, ⟨HB9.out, HNB.out⟩, HS9⟩

/-! ### spec_l1Abs: function 115 -/
def spec_l1Abs.f (a0 : Int) : Option (Int) := (spec_l1Most.f a0 (wrap64 (-a0))).bind fun t101 => (some t101)
set_option maxHeartbeats 8000000 in
set_option maxRecDepth 100000 in
theorem spec_l1Abs.calls (a0 : Int) (r : Int) (w : World) (h : spec_l1Abs.f a0 = some r) :
  Calls Try.prog 115 #[.int .i64 a0] w fun e w' => e = .returned (.int .i64 r) ∧ Drawn0 w w' := by
 have H : ((spec_l1Most.f a0 (wrap64 (-a0))).bind fun t101 => (some t101)) = some r := h; clear h; replace H := bd_ H; obtain ⟨t101, A2, H⟩ := H; (try dsimp only at H); obtain rfl := Option.some.inj H; go_enter Try.func115, Try.ntmps115
 go_wp2_with (first | ((with_reducible refine gate_callee (f := 55) rfl ?_); refine goesL_ (some 6) rfl rfl Try.func55 (by kernel_rfl) rfl #[.int .i64 a0, .int .i64 (wrap64 (-a0))] rfl tc1_ ?_; (with_reducible refine (spec_l1Most.calls a0 (wrap64 (-a0)) t101 _ A2.out).mono ?_); rintro e w' ⟨rfl, ⟨nd, rfl⟩⟩; refine ⟨_, rfl, ?_⟩))
 go_ret
 exact ⟨tc6_, tc11_⟩

end Go.Proofs.Ytgpmlfggfhkifaa.X
