-- Written by a program of this session (wip/xprint.py) that drives the kit's print; the contracts of what it does not take are this session's own.
import Derived.Test.YtkbehdgneojdbaaCFnSymmetricCountedx0
import Derived.Test.YtkbehdgneojdbaaCFnSymmetricCountedx1
import Derived.Test.YtkbehdgneojdbaaCFnSymmetricCountedx2
namespace Go.Proofs.Ytkbehdgneojdbaa.X
open Go.RowKit Go.Proofs.YtkbehdgneojdbaaW.PrintWords Go.Proofs.YtkbehdgneojdbaaW.PrintLast Go.Proofs.YtkbehdgneojdbaaW.PrintMore
attribute [local go_sem] max2_int min2_int max_two min_two max_three min_three max_four min_four   -- for this text's walks alone
set_option linter.unusedVariables false
set_option linter.unusedSimpArgs false

/-! ### spec_DrawHalfTurnFormula: function 52 -/
def spec_DrawHalfTurnFormula.f (l0 : List Int) : Option (Int) := (spec_l1Cur_side.f l0 0 0 6).bind fun bt102 => (some bt102.1)
set_option maxHeartbeats 8000000 in
set_option maxRecDepth 100000 in
theorem spec_DrawHalfTurnFormula.calls (A0 : Option Addr) (c0 : Nat) (l0 : List Int) (r : Int) (w : World) (hr0 : Kd.C (Kd.int .u8) w A0 l0.length l0) (hc0 : l0.length ≤ c0) (h : spec_DrawHalfTurnFormula.f l0 = some r) :
  Calls Try.prog 52 #[.slice A0 l0.length c0] w fun e w' => e = .returned (.int .i64 r) ∧ Below w.heap.size w w' := by
 have hu74 := Try.underlying74
 have HR0 := am_ hr0
 have HC0 := am_ hc0
 clear hr0 hc0
 have HB := am_ (Below.refl w.heap.size w)
 have H : ((spec_l1Cur_side.f l0 0 0 6).bind fun bt102 => (some bt102.1)) = some r := h
 clear h
 replace H := Option.bind_eq_some_iff.mp H
 obtain ⟨⟨t102, t103, t104⟩, A20, H⟩ := H
 replace H : (some t102) = some r := H
 have A2 := am_ A20
 clear A20
 obtain rfl := Option.some.inj H
 go_enter Try.func52, Try.ntmps52
 go_wp2_with (first | ((with_reducible refine gate_dst (N := 6) rfl ?_); refine box_event ?hg (N := 6) ?hd (cs := #[.slice A0 l0.length c0, .int .i64 0, .int .u64 0]) (t := 74) ?hr ?_; (case hd => rfl); (case hg => rfl); (case hr => exact tc19_); intro gb101 hg w3 hbox hb; have n0_ := am_ (below_step tc0_ hb); have n1_ := am_ ((by rw [hg]; exact (below_size tc0_) : w.heap.size ≤ gb101)); have n2_ := am_ ((by rw [hg]; exact (below_size tc0_) : w.heap.size ≤ gb101)); have n3_ := am_ ((show IsS74 w w3 gb101 l0 0 0 from ⟨A0, c0, hbox, (by rw [hg]; exact (below_size tc0_) : w.heap.size ≤ gb101), HR0.out⟩)); clear HB; have HB := n0_; have GW101 := n1_; have GE101 := n2_; have HI101 := n3_; clear n0_ n1_ n2_ n3_; clear hb hbox hg) | ((with_reducible refine gate_callee (f := 105) rfl ?_); refine goesL_ (some 8) rfl rfl Try.func105 (by kernel_rfl) rfl #[.pointer (some ⟨gb101, 0, none⟩), .int .i64 6] rfl tc1_ ?_; (with_reducible refine (spec_l1Cur_side.calls gb101 l0 0 0 6 t102 t103 t104 w _ ?side1 ?side2 A2.out).mono ?_); (case side1 => exact tc17_); (case side2 => exact tc18_); rintro e w4 ⟨rfl, hi, hb, hk⟩; refine ⟨_, rfl, ?_⟩; have n0_ := am_ (hb); have n1_ := am_ (hi); clear HB HI101; have HB := n0_; have HI101 := n1_; clear n0_ n1_; (try clear hb hk hi)))
 go_ret
 exact ⟨by first | rfl | (simp [errW_none, errW_some] <;> rfl) | (simp [*, errW_none, errW_some] <;> rfl), by repeat (first | (with_reducible first | exact HB.out | apply below_alloc | apply pw_below_drewN | apply below_drew1 | refine below_set ?_ (IsS74.ge HI101.out)) | exact HB.out)⟩

/-! ### impl_product: function 125 -/
def impl_product.l0 : Nat → Int → Int → Int → Option (Int)
 | 0, _, _, _ => none
 | k + 1, x1, x5, x6 => if x6 ≤ x1 then (impl_product.l0 k x1 (wrap64 (x5 * x6)) (wrap64 (x6 + 1))) else (some x5)
def impl_product.f (k : Nat) (a0 : Int) (a1 : Int) : Option (Int) := impl_product.l0 k a1 1 a0
theorem impl_product.mono_l : ∀ k, (∀ y0 y1 y2, LeO (impl_product.l0 k y0 y1 y2) (impl_product.l0 (k + 1) y0 y1 y2))
 | 0 => fun _ _ _ r h => by simp [impl_product.l0] at h
 | k + 1 => by
  have ih0 := impl_product.mono_l k
  ·intro y0 y1 y2
   unfold impl_product.l0
   repeat' first
   | (with_reducible exact ih0 _ _ _)
   | (with_reducible exact LeO.refl _)
   | (with_reducible exact LeO.none _)
   | (with_reducible refine LeO.ite ?_ ?_)
   | (with_reducible refine LeO.bind ?_ (fun _ => ?_))
   | exact ih0 _ _ _
   | exact LeO.none _
   | refine LeO.ite ?_ ?_
   | refine LeO.bind ?_ (fun _ => ?_)
theorem impl_product.mono : ∀ a0 a1  k, LeO (impl_product.f k a0 a1) (impl_product.f (k + 1) a0 a1) := by
 intro a0 a1 k
 have ih0 := impl_product.mono_l k
 unfold impl_product.f
 repeat' first
   | (with_reducible exact ih0 _ _ _)
   | (with_reducible exact LeO.refl _)
   | (with_reducible exact LeO.none _)
   | (with_reducible refine LeO.ite ?_ ?_)
   | (with_reducible refine LeO.bind ?_ (fun _ => ?_))
   | exact ih0 _ _ _
   | exact LeO.none _
   | refine LeO.ite ?_ ?_
   | refine LeO.bind ?_ (fun _ => ?_)
set_option maxHeartbeats 8000000 in
set_option maxRecDepth 100000 in
theorem impl_product.calls (k : Nat) (a0 : Int) (a1 : Int) (r : Int) (w : World) (h : impl_product.f k a0 a1 = some r) :
  Calls Try.prog 125 #[.int .i64 a0, .int .i64 a1] w fun e w' => e = .returned (.int .i64 r) ∧ Drawn0 w w' := by
 have H : (impl_product.l0 k a1 1 a0) = some r := h
 clear h
 have H' := am_ H
 clear H
 go_enter Try.func125, Try.ntmps125
 go_wp2
 go_loopg [5, 6] k (fun kq v5 v6 w' => ∃ (x5_1 : Int) (x6_1 : Int), v5 = .int .i64 x5_1 ∧ v6 = .int .i64 x6_1 ∧ Aside0 (impl_product.l0 kq a1 x5_1 x6_1 = some r) ∧ Aside0 (kq ≤ k) ∧ Drawn0 w w')
 case atStart => exact ⟨(1), (a0), tc7_, tc7_, H', ⟨Nat.le_refl _⟩, by repeat (first | exact Drawn0.refl _ | apply Drawn0.step)⟩
 case round =>
  clear H'
  try clear c1
  try clear p2
  obtain ⟨x5_1, x6_1, rfl, rfl, HA, HK1, ⟨m1, rfl⟩⟩ := hrel
  cases gk with
  | zero => exact absurd HA.out (by simp [impl_product.l0])
  | succ k1 =>
   have H := HA.out
   clear HA
   simp only [impl_product.l0] at H
   by_cases c3 : x6_1 ≤ a1
   ·rw [if_pos c3] at H
    have c3b0 : decide (x6_1 ≤ a1) = true := decide_eq_true c3
    clear c3
    have H' := am_ H
    clear H
    go_wp2
    go_roundg k1
    case measure => have := HK1.out; omega
    case rel => exact ⟨(wrap64 (x5_1 * x6_1)), (wrap64 (x6_1 + 1)), tc7_, tc7_, H', ⟨by have := HK1.out; omega⟩, by repeat (first | exact Drawn0.refl _ | apply Drawn0.step)⟩
   ·rw [if_neg c3] at H
    have c3b0 : decide (x6_1 ≤ a1) = false := decide_eq_false c3
    clear c3
    obtain rfl := Option.some.inj H
    go_wp2
    go_ret
    exact ⟨by first | rfl | (simp; done) | (simp [*]; done), by repeat (first | exact Drawn0.refl _ | apply Drawn0.step)⟩

/-! ### impl_countSigns: function 120 -/
def impl_countSigns.l0 : Nat → Int → Int → Int → Option (Int)
 | 0, _, _, _ => none
 | k + 1, x0, x3, x4 => if x4 < x0 then ((impl_product.f k (wrap64 ((wrap64 (2 * x4)) + 2)) (wrap64 ((wrap64 (3 * x4)) + 1))).bind fun t101 => ((impl_product.f k (wrap64 (x4 + 1)) (wrap64 (2 * x4))).bind fun t102 => (if t102 = 0 then (none) else (impl_countSigns.l0 k x0 (wrap64 (Int.tdiv (wrap64 (x3 * t101)) t102)) (wrap64 (x4 + 1)))))) else (some x3)
def impl_countSigns.f (k : Nat) (a0 : Int) : Option (Int) := impl_countSigns.l0 k a0 1 1
theorem impl_countSigns.mono_l : ∀ k, (∀ y0 y1 y2, LeO (impl_countSigns.l0 k y0 y1 y2) (impl_countSigns.l0 (k + 1) y0 y1 y2))
 | 0 => fun _ _ _ r h => by simp [impl_countSigns.l0] at h
 | k + 1 => by
  have ih0 := impl_countSigns.mono_l k
  ·intro y0 y1 y2
   unfold impl_countSigns.l0
   repeat' first
   | (with_reducible exact ih0 _ _ _)
   | (with_reducible exact impl_product.mono _ _ _)
   | (with_reducible exact LeO.refl _)
   | (with_reducible exact LeO.none _)
   | (with_reducible refine LeO.ite ?_ ?_)
   | (with_reducible refine LeO.bind ?_ (fun _ => ?_))
   | exact ih0 _ _ _
   | exact impl_product.mono _ _ _
   | exact LeO.none _
   | refine LeO.ite ?_ ?_
   | refine LeO.bind ?_ (fun _ => ?_)
theorem impl_countSigns.mono : ∀ a0  k, LeO (impl_countSigns.f k a0) (impl_countSigns.f (k + 1) a0) := by
 intro a0 k
 have ih0 := impl_countSigns.mono_l k
 unfold impl_countSigns.f
 repeat' first
   | (with_reducible exact ih0 _ _ _)
   | (with_reducible exact impl_product.mono _ _ _)
   | (with_reducible exact LeO.refl _)
   | (with_reducible exact LeO.none _)
   | (with_reducible refine LeO.ite ?_ ?_)
   | (with_reducible refine LeO.bind ?_ (fun _ => ?_))
   | exact ih0 _ _ _
   | exact impl_product.mono _ _ _
   | exact LeO.none _
   | refine LeO.ite ?_ ?_
   | refine LeO.bind ?_ (fun _ => ?_)
set_option maxHeartbeats 8000000 in
set_option maxRecDepth 100000 in
theorem impl_countSigns.calls (k : Nat) (a0 : Int) (r : Int) (w : World) (h : impl_countSigns.f k a0 = some r) :
  Calls Try.prog 120 #[.int .i64 a0] w fun e w' => e = .returned (.int .i64 r) ∧ Drawn0 w w' := by
 have H : (impl_countSigns.l0 k a0 1 1) = some r := h
 clear h
 have H' := am_ H
 clear H
 go_enter Try.func120, Try.ntmps120
 go_wp2
 go_loopg [3, 4] k (fun kq v3 v4 w' => ∃ (x3_1 : Int) (x4_1 : Int), v3 = .int .i64 x3_1 ∧ v4 = .int .i64 x4_1 ∧ Aside0 (impl_countSigns.l0 kq a0 x3_1 x4_1 = some r) ∧ Aside0 (kq ≤ k) ∧ Drawn0 w w')
 case atStart => exact ⟨(1), (1), tc7_, tc7_, H', ⟨Nat.le_refl _⟩, by repeat (first | exact Drawn0.refl _ | apply Drawn0.step)⟩
 case round =>
  clear H'
  try clear c1
  obtain ⟨x3_1, x4_1, rfl, rfl, HA, HK1, ⟨m1, rfl⟩⟩ := hrel
  cases gk with
  | zero => exact absurd HA.out (by simp [impl_countSigns.l0])
  | succ k1 =>
   have H := HA.out
   clear HA
   simp only [impl_countSigns.l0] at H
   by_cases c2 : x4_1 < a0
   ·rw [if_pos c2] at H
    have c2b0 : decide (x4_1 < a0) = true := decide_eq_true c2
    clear c2
    replace H := Option.bind_eq_some_iff.mp H
    obtain ⟨t101, A30, H⟩ := H
    replace H : ((impl_product.f k1 (wrap64 (x4_1 + 1)) (wrap64 (2 * x4_1))).bind fun t102 => (if t102 = 0 then (none) else (impl_countSigns.l0 k1 a0 (wrap64 (Int.tdiv (wrap64 (x3_1 * t101)) t102)) (wrap64 (x4_1 + 1))))) = some r := H
    have A3 := am_ A30
    clear A30
    replace H := Option.bind_eq_some_iff.mp H
    obtain ⟨t102, A40, H⟩ := H
    replace H : (if t102 = 0 then (none) else (impl_countSigns.l0 k1 a0 (wrap64 (Int.tdiv (wrap64 (x3_1 * t101)) t102)) (wrap64 (x4_1 + 1)))) = some r := H
    have A4 := am_ A40
    clear A40
    by_cases c5 : t102 = 0
    ·rw [if_pos c5] at H
     exact absurd H (by simp)
    ·rw [if_neg c5] at H
     have c5b0 : (t102 == 0) = false := beq_eq_false_iff_ne.mpr c5
     have c5b1 : (t102 != 0) = true := bne_iff_ne.mpr c5
     have H' := am_ H
     clear H
     go_wp2_with (first | ((with_reducible refine gate_callee (f := 125) rfl ?_); refine goesL_ (some 17) rfl rfl Try.func125 (by kernel_rfl) rfl #[.int .i64 (wrap64 ((wrap64 (2 * x4_1)) + 2)), .int .i64 (wrap64 ((wrap64 (3 * x4_1)) + 1))] rfl tc1_ ?_; (with_reducible refine (impl_product.calls k1 (wrap64 ((wrap64 (2 * x4_1)) + 2)) (wrap64 ((wrap64 (3 * x4_1)) + 1)) t101 _ A3.out).mono ?_); rintro e w' ⟨rfl, ⟨nd, rfl⟩⟩; refine ⟨_, rfl, ?_⟩) | ((with_reducible refine gate_callee (f := 125) rfl ?_); refine goesL_ (some 23) rfl rfl Try.func125 (by kernel_rfl) rfl #[.int .i64 (wrap64 (x4_1 + 1)), .int .i64 (wrap64 (2 * x4_1))] rfl tc1_ ?_; (with_reducible refine (impl_product.calls k1 (wrap64 (x4_1 + 1)) (wrap64 (2 * x4_1)) t102 _ A4.out).mono ?_); rintro e w' ⟨rfl, ⟨nd, rfl⟩⟩; refine ⟨_, rfl, ?_⟩))
     go_roundg k1
     case measure => have := HK1.out; omega
     case rel => exact ⟨(wrap64 (Int.tdiv (wrap64 (x3_1 * t101)) t102)), (wrap64 (x4_1 + 1)), tc7_, tc7_, H', ⟨by have := HK1.out; omega⟩, by repeat (first | exact Drawn0.refl _ | apply Drawn0.step)⟩
   ·rw [if_neg c2] at H
    have c2b0 : decide (x4_1 < a0) = false := decide_eq_false c2
    clear c2
    obtain rfl := Option.some.inj H
    go_wp2
    go_ret
    exact ⟨by first | rfl | (simp; done) | (simp [*]; done), by repeat (first | exact Drawn0.refl _ | apply Drawn0.step)⟩

/-! ### impl_common: function 179 -/
def impl_common.l0 : Nat → Int → Int → Option (Int)
 | 0, _, _ => none
 | k + 1, x0, x1 => if x1 > 0 then (if x1 = 0 then (none) else (impl_common.l0 k x1 (Int.tmod x0 x1))) else (some x0)
def impl_common.f (k : Nat) (a0 : Int) (a1 : Int) : Option (Int) := impl_common.l0 k a0 a1
theorem impl_common.mono_l : ∀ k, (∀ y0 y1, LeO (impl_common.l0 k y0 y1) (impl_common.l0 (k + 1) y0 y1))
 | 0 => fun _ _ r h => by simp [impl_common.l0] at h
 | k + 1 => by
  have ih0 := impl_common.mono_l k
  ·intro y0 y1
   unfold impl_common.l0
   repeat' first
   | (with_reducible exact ih0 _ _)
   | (with_reducible exact LeO.refl _)
   | (with_reducible exact LeO.none _)
   | (with_reducible refine LeO.ite ?_ ?_)
   | (with_reducible refine LeO.bind ?_ (fun _ => ?_))
   | exact ih0 _ _
   | exact LeO.none _
   | refine LeO.ite ?_ ?_
   | refine LeO.bind ?_ (fun _ => ?_)
theorem impl_common.mono : ∀ a0 a1  k, LeO (impl_common.f k a0 a1) (impl_common.f (k + 1) a0 a1) := by
 intro a0 a1 k
 have ih0 := impl_common.mono_l k
 unfold impl_common.f
 repeat' first
   | (with_reducible exact ih0 _ _)
   | (with_reducible exact LeO.refl _)
   | (with_reducible exact LeO.none _)
   | (with_reducible refine LeO.ite ?_ ?_)
   | (with_reducible refine LeO.bind ?_ (fun _ => ?_))
   | exact ih0 _ _
   | exact LeO.none _
   | refine LeO.ite ?_ ?_
   | refine LeO.bind ?_ (fun _ => ?_)
set_option maxHeartbeats 8000000 in
set_option maxRecDepth 100000 in
theorem impl_common.calls (k : Nat) (a0 : Int) (a1 : Int) (r : Int) (w : World) (h : impl_common.f k a0 a1 = some r) :
  Calls Try.prog 179 #[.int .i64 a0, .int .i64 a1] w fun e w' => e = .returned (.int .i64 r) ∧ Drawn0 w w' := by
 have H : (impl_common.l0 k a0 a1) = some r := h
 clear h
 have H' := am_ H
 clear H
 go_enter Try.func179, Try.ntmps179
 go_wp2
 repeat (go_quiet (fail); try go_wp2)
 go_loopg [0, 1] k (fun kq v0 v1 w' => ∃ (x0_1 : Int) (x1_1 : Int), v0 = .int .i64 x0_1 ∧ v1 = .int .i64 x1_1 ∧ Aside0 (impl_common.l0 kq x0_1 x1_1 = some r) ∧ Aside0 (kq ≤ k) ∧ Drawn0 w w')
 case atStart => exact ⟨(a0), (a1), tc7_, tc7_, H', ⟨Nat.le_refl _⟩, by repeat (first | exact Drawn0.refl _ | apply Drawn0.step)⟩
 case round =>
  clear H'
  try clear c1
  try clear p2
  obtain ⟨x0_1, x1_1, rfl, rfl, HA, HK1, ⟨m1, rfl⟩⟩ := hrel
  cases gk with
  | zero => exact absurd HA.out (by simp [impl_common.l0])
  | succ k1 =>
   have H := HA.out
   clear HA
   simp only [impl_common.l0] at H
   by_cases c3 : x1_1 > 0
   ·rw [if_pos c3] at H
    have c3b0 : decide (0 < x1_1) = true := decide_eq_true c3
    clear c3
    by_cases c4 : x1_1 = 0
    ·rw [if_pos c4] at H
     exact absurd H (by simp)
    ·rw [if_neg c4] at H
     have c4b0 : (x1_1 == 0) = false := beq_eq_false_iff_ne.mpr c4
     have c4b1 : (x1_1 != 0) = true := bne_iff_ne.mpr c4
     have H' := am_ H
     clear H
     go_wp2
     repeat (go_quiet (fail); try go_wp2)
     go_roundg k1
     case measure => have := HK1.out; omega
     case rel => exact ⟨(x1_1), (Int.tmod x0_1 x1_1), tc7_, tc7_, H', ⟨by have := HK1.out; omega⟩, by repeat (first | exact Drawn0.refl _ | apply Drawn0.step)⟩
   ·rw [if_neg c3] at H
    have c3b0 : decide (0 < x1_1) = false := decide_eq_false c3
    clear c3
    obtain rfl := Option.some.inj H
    go_wp2
    repeat (go_quiet (fail); try go_wp2)
    go_ret
    exact ⟨by first | rfl | (simp; done) | (simp [*]; done), by repeat (first | exact Drawn0.refl _ | apply Drawn0.step)⟩

/-! ### impl_ratio: function 122 -/
def impl_ratio.f (k : Nat) (a0 : Int) (a1 : Int) : Option (Int × Int) := (impl_common.f k a0 a1).bind fun t102 => (if t102 = 0 then (none) else (some (wrap64 (Int.tdiv a0 t102), wrap64 (Int.tdiv a1 t102))))
theorem impl_ratio.mono : ∀ a0 a1  k, LeO (impl_ratio.f k a0 a1) (impl_ratio.f (k + 1) a0 a1) := by
 intro a0 a1 k
 unfold impl_ratio.f
 repeat' first
   | (with_reducible exact impl_common.mono _ _ _)
   | (with_reducible exact LeO.refl _)
   | (with_reducible exact LeO.none _)
   | (with_reducible refine LeO.ite ?_ ?_)
   | (with_reducible refine LeO.bind ?_ (fun _ => ?_))
   | exact impl_common.mono _ _ _
   | exact LeO.none _
   | refine LeO.ite ?_ ?_
   | refine LeO.bind ?_ (fun _ => ?_)
def impl_ratio.T2 : Bool × List (List Nat × List Nat) := (true, [([], []), ([], []), ([0, 1], [0, 1]), ([], []), ([], []), ([3, 4], [3, 4]), ([2, 5], [2, 5]), ([6, 0, 1, 2, 3, 4, 5, 6], [6])])
def impl_ratio.B2 : List Nat := [0, 0, 3, 0, 0, 24, 63, 127]
theorem impl_ratio.tab2 : rtab .any (opsOf Try.f122 2) = impl_ratio.T2 := by kernel_rfl
theorem impl_ratio.bits2 : waitsOk impl_ratio.T2.2 impl_ratio.B2 = true := by kernel_rfl
set_option maxHeartbeats 8000000 in
set_option maxRecDepth 100000 in
theorem impl_ratio.calls (k : Nat) (a0 : Int) (a1 : Int) (r1 : Int) (r2 : Int) (w : World) (h : impl_ratio.f k a0 a1 = some (r1, r2)) :
  Calls Try.prog 122 #[.int .i64 a0, .int .i64 a1] w fun e w' => e = .returned (.agg #[.int .i64 r1, .int .i64 r2]) ∧ Below w.heap.size w w' := by
 have hu85 := Try.underlying85
 have HB := am_ (Below.refl w.heap.size w)
 have H : ((impl_common.f k a0 a1).bind fun t102 => (if t102 = 0 then (none) else (some (wrap64 (Int.tdiv a0 t102), wrap64 (Int.tdiv a1 t102))))) = some (r1, r2) := h
 clear h
 replace H := Option.bind_eq_some_iff.mp H
 obtain ⟨t102, A30, H⟩ := H
 replace H : (if t102 = 0 then (none) else (some (wrap64 (Int.tdiv a0 t102), wrap64 (Int.tdiv a1 t102)))) = some (r1, r2) := H
 have A3 := am_ A30
 clear A30
 by_cases c4 : t102 = 0
 ·rw [if_pos c4] at H
  exact absurd H (by simp)
 ·rw [if_neg c4] at H
  have c4b0 : (t102 == 0) = false := beq_eq_false_iff_ne.mpr c4
  have c4b1 : (t102 != 0) = true := bne_iff_ne.mpr c4
  simp only [Option.some.injEq, Prod.mk.injEq] at H
  obtain ⟨rfl, rfl⟩ := H
  go_enter Try.func122, Try.ntmps122
  try go_wp2_with (first | ((with_reducible refine gate_dst (N := 4) rfl ?_); refine box_event ?hg (N := 4) ?hd (cs := #[.int .i64 0, .int .i64 0]) (t := 85) ?hr ?_; (case hd => rfl); (case hg => rfl); (case hr => exact tc19_); intro gb101 hg w5 hbox hb; have n0_ := am_ (below_step tc0_ hb); have n1_ := am_ (hbox); have n2_ := am_ ((by rw [hg]; exact (below_size tc0_) : w.heap.size ≤ gb101)); have n3_ := am_ ((by rw [hg]; exact (below_size tc0_) : w.heap.size ≤ gb101)); clear HB; have HB := n0_; have BK101 := n1_; have GW101 := n2_; have GE101 := n3_; clear n0_ n1_ n2_ n3_; clear hb hbox hg) | ((with_reducible refine gate_callee (f := 179) rfl ?_); refine goesL_ (some 8) rfl rfl Try.func179 (by kernel_rfl) rfl #[.int .i64 a0, .int .i64 a1] rfl tc1_ ?_; (with_reducible refine (impl_common.calls k a0 a1 t102 _ A3.out).mono ?_); rintro e w' ⟨rfl, ⟨nd, rfl⟩⟩; refine ⟨_, rfl, ?_⟩; (try (rw [drewN_self w5]; generalize hq_ : World.drewN w5 _ = w5; have n0_ : Aside0 (w5.heap[gb101]? = some (.cells #[.int .i64 0, .int .i64 0] 85 (0, 0))) := ⟨by rw [← hq_]; exact tc2_⟩; have n1_ : Aside0 (Below w.heap.size w w5) := ⟨by rw [← hq_]; exact tc6_⟩; clear BK101 HB hq_; have BK101 := n0_; have HB := n1_; clear n0_ n1_))))
  have n0_ := am_ (blk_drew BK101.out)
  have n1_ := am_ (below_drew1 HB.out)
  clear BK101
  clear HB
  have BK101 := n0_
  have HB := n1_
  clear n0_ n1_
  refine start_ (n := 8) (S := fun w' => True) (ds := []) #[false, false, false, false, false, false, false, false] (by kernel_rfl) rfl rfl trivial (fun hHeld => ?_); refine with_tabW impl_ratio.tab2 impl_ratio.bits2 (fun HT_ HW_ => ?_)
  generalize w5.drew = w6 at BK101 HB hHeld ⊢
  refine pure_ (i := 0) (N := some 9) (v := ?_) (a' := ?_) #[true, false, false, false, false, false, false, false] rfl rfl (any_of HT_.out (by kernel_rfl)) (fun _ _ _ h => h) (Or.inl ⟨by rfl, ?_⟩) ?_ ?_
  rotate_left
  ·intro w'
   go_simp
   with_reducible rfl
  rotate_left
  ·simp only [Act.put, List.setIfInBounds_toArray, List.set_cons_zero, List.set_cons_succ, i64_w, i32_w]
   rfl
  refine pure_ (i := 1) (N := some 10) (v := ?_) (a' := ?_) #[true, true, false, false, false, false, false, false] rfl rfl (any_of HT_.out (by kernel_rfl)) (fun _ _ _ h => h) (Or.inl ⟨by rfl, ?_⟩) ?_ ?_
  rotate_left
  ·intro w'
   go_simp
   with_reducible rfl
  rotate_left
  ·simp only [Act.put, List.setIfInBounds_toArray, List.set_cons_zero, List.set_cons_succ, i64_w, i32_w]
   rfl
  refine pure_ (i := 2) (N := some 11) (v := ?_) (a' := ?_) #[true, true, true, false, false, false, false, false] rfl rfl (any_of HT_.out (by kernel_rfl)) (fun _ _ _ h => h) (Or.inl ⟨by rfl, ?_⟩) ?_ ?_
  rotate_left
  ·intro w'
   go_simp
   with_reducible rfl
  rotate_left
  ·simp only [Act.put, List.setIfInBounds_toArray, List.set_cons_zero, List.set_cons_succ, i64_w, i32_w]
   rfl
  refine pure_ (i := 3) (N := some 12) (v := ?_) (a' := ?_) #[true, true, true, true, false, false, false, false] rfl rfl (any_of HT_.out (by kernel_rfl)) (fun _ _ _ h => h) (Or.inl ⟨by rfl, ?_⟩) ?_ ?_
  rotate_left
  ·intro w'
   go_simp
   with_reducible rfl
  rotate_left
  ·simp only [Act.put, List.setIfInBounds_toArray, List.set_cons_zero, List.set_cons_succ, i64_w, i32_w]
   rfl
  refine pure_ (i := 4) (N := some 13) (v := ?_) (a' := ?_) #[true, true, true, true, true, false, false, false] rfl rfl (any_of HT_.out (by kernel_rfl)) (fun _ _ _ h => h) (Or.inl ⟨by rfl, ?_⟩) ?_ ?_
  rotate_left
  ·intro w'
   go_simp
   with_reducible rfl
  rotate_left
  ·simp only [Act.put, List.setIfInBounds_toArray, List.set_cons_zero, List.set_cons_succ, i64_w, i32_w]
   rfl
  refine pure_ (i := 5) (N := some 14) (v := ?_) (a' := ?_) #[true, true, true, true, true, true, false, false] rfl rfl (any_of HT_.out (by kernel_rfl)) (fun _ _ _ h => h) (Or.inl ⟨by rfl, ?_⟩) ?_ ?_
  rotate_left
  ·intro w'
   go_simp
   with_reducible rfl
  rotate_left
  ·simp only [Act.put, List.setIfInBounds_toArray, List.set_cons_zero, List.set_cons_succ, i64_w, i32_w]
   rfl
  refine pure_ (i := 6) (N := some 15) (v := ?_) (a' := ?_) #[true, true, true, true, true, true, true, false] rfl rfl (any_of HT_.out (by kernel_rfl)) (fun _ _ _ h => h) (Or.inl ⟨by rfl, ?_⟩) ?_ ?_
  rotate_left
  ·intro w'
   go_simp
   with_reducible rfl
  rotate_left
  ·simp only [Act.put, List.setIfInBounds_toArray, List.set_cons_zero, List.set_cons_succ, i64_w, i32_w]
   rfl
  refine one_ (i := 7) (N := none) #[true, true, true, true, true, true, true, true] rfl rfl (one_of HT_.out (by kernel_rfl)) (by decide) (fun K hK => ?_)
  have hs7 : w6.cell? ⟨gb101, 0, none⟩ = some (.int .i64 0) := (blk_cell BK101.out 0).trans rfl
  have hfs7 := blk_frozen BK101.out 0
  have hs8 : w6.cell? ⟨gb101, 1, none⟩ = some (.int .i64 0) := (blk_cell BK101.out 1).trans rfl
  have hfs8 := blk_frozen BK101.out 1
  refine skip_ (w1 := ?_) (by rfl) rfl ?_ ?_
  rotate_left
  ·go_simp
   rfl
  refine hK.out _ _ trivial (fun hHeld => ?_)
  clear hK K
  refine done_ (done_of HT_.out (by kernel_rfl)) ?_
  try go_wp2
  refine bodyPost_ret (results_cell_row rfl _ _ gb101 85 #[.int .i64 (wrap64 (Int.tdiv a0 t102)), .int .i64 (wrap64 (Int.tdiv a1 t102))] (0, 0) _ rfl (by (with_reducible repeat (first | refine blk_drewN ?_ _ | refine blk_drew ?_ | refine blk_alloc ?_ _)); refine blk_put (cs := #[.int .i64 (wrap64 (Int.tdiv a0 t102)), .int .i64 0]) ?_ 1 _ rfl; (with_reducible repeat (first | refine blk_drewN ?_ _ | refine blk_drew ?_ | refine blk_alloc ?_ _)); refine blk_put (cs := #[.int .i64 0, .int .i64 0]) ?_ 0 _ rfl; (with_reducible repeat (first | refine blk_drewN ?_ _ | refine blk_drew ?_ | refine blk_alloc ?_ _)); exact BK101.out) Try.underlying85 rfl (by kernel_rfl)) rfl ?_
  exact ⟨by first | rfl | (simp [errW_none, errW_some] <;> rfl) | (simp [*, errW_none, errW_some] <;> rfl), by repeat (first | (with_reducible first | exact HB.out | apply below_alloc | apply pw_below_drewN | apply below_drew1 | refine below_set ?_ GE101.out) | exact HB.out)⟩

/-! ### impl_Ratio_times: function 121 -/
def impl_Ratio_times.f (k : Nat) (a0_0 : Int) (a0_1 : Int) (a1_0 : Int) (a1_1 : Int) : Option (Int × Int) := (impl_ratio.f k a0_0 a1_1).bind fun bt104 => ((impl_ratio.f k a1_0 a0_1).bind fun bt106 => (some (wrap64 (bt104.1 * bt106.1), wrap64 (bt104.2 * bt106.2))))
theorem impl_Ratio_times.mono : ∀ a0 a1 a2 a3  k, LeO (impl_Ratio_times.f k a0 a1 a2 a3) (impl_Ratio_times.f (k + 1) a0 a1 a2 a3) := by
 intro a0 a1 a2 a3 k
 unfold impl_Ratio_times.f
 repeat' first
   | (with_reducible exact impl_ratio.mono _ _ _)
   | (with_reducible exact LeO.refl _)
   | (with_reducible exact LeO.none _)
   | (with_reducible refine LeO.ite ?_ ?_)
   | (with_reducible refine LeO.bind ?_ (fun _ => ?_))
   | exact impl_ratio.mono _ _ _
   | exact LeO.none _
   | refine LeO.ite ?_ ?_
   | refine LeO.bind ?_ (fun _ => ?_)
def impl_Ratio_times.T1 : Bool × List (List Nat × List Nat) := (true, [([], []), ([0], [0]), ([], []), ([2], [2]), ([1, 3], [1, 3]), ([], []), ([5], [5]), ([], []), ([7], [7]), ([6, 8, 4], [6, 8]), ([], []), ([], []), ([10, 4, 9, 0, 1, 2, 3, 4, 10, 11], [4, 10]), ([11, 9, 12, 0, 1, 2, 3, 4, 5, 6, 7, 8, 9, 10, 11, 12], [9, 11])])
def impl_Ratio_times.B1 : List Nat := [0, 1, 0, 4, 15, 0, 32, 0, 128, 511, 0, 0, 4095, 8191]
theorem impl_Ratio_times.tab1 : rtab .any (opsOf Try.f121 1) = impl_Ratio_times.T1 := by kernel_rfl
theorem impl_Ratio_times.bits1 : waitsOk impl_Ratio_times.T1.2 impl_Ratio_times.B1 = true := by kernel_rfl
set_option maxHeartbeats 8000000 in
set_option maxRecDepth 100000 in
theorem impl_Ratio_times.calls (k : Nat) (a0_0 : Int) (a0_1 : Int) (a1_0 : Int) (a1_1 : Int) (r1 : Int) (r2 : Int) (w : World) (h : impl_Ratio_times.f k a0_0 a0_1 a1_0 a1_1 = some (r1, r2)) :
  Calls Try.prog 121 #[.agg #[.int .i64 a0_0, .int .i64 a0_1], .agg #[.int .i64 a1_0, .int .i64 a1_1]] w fun e w' => e = .returned (.agg #[.int .i64 r1, .int .i64 r2]) ∧ Below w.heap.size w w' := by
 have hu85 := Try.underlying85
 have HB := am_ (Below.refl w.heap.size w)
 have H : ((impl_ratio.f k a0_0 a1_1).bind fun bt104 => ((impl_ratio.f k a1_0 a0_1).bind fun bt106 => (some (wrap64 (bt104.1 * bt106.1), wrap64 (bt104.2 * bt106.2))))) = some (r1, r2) := h
 clear h
 replace H := Option.bind_eq_some_iff.mp H
 obtain ⟨⟨t104, t105⟩, A30, H⟩ := H
 replace H : ((impl_ratio.f k a1_0 a0_1).bind fun bt106 => (some (wrap64 (t104 * bt106.1), wrap64 (t105 * bt106.2)))) = some (r1, r2) := H
 have A3 := am_ A30
 clear A30
 replace H := Option.bind_eq_some_iff.mp H
 obtain ⟨⟨t106, t107⟩, A40, H⟩ := H
 replace H : (some (wrap64 (t104 * t106), wrap64 (t105 * t107))) = some (r1, r2) := H
 have A4 := am_ A40
 clear A40
 simp only [Option.some.injEq, Prod.mk.injEq] at H
 obtain ⟨rfl, rfl⟩ := H
 go_enter Try.func121, Try.ntmps121
 try go_wp2_with (first | ((with_reducible refine gate_dst (N := 2) rfl ?_); refine box_event ?hg (N := 2) ?hd (cs := #[.int .i64 a0_0, .int .i64 a0_1]) (t := 85) ?hr ?_; (case hd => rfl); (case hg => rfl); (case hr => exact tc19_); intro gb101 hg w5 hbox hb; have n0_ := am_ (below_step tc0_ hb); have n1_ := am_ (hbox); have n2_ := am_ ((by rw [hg]; exact (below_size tc0_) : w.heap.size ≤ gb101)); have n3_ := am_ ((by rw [hg]; exact (below_size tc0_) : w.heap.size ≤ gb101)); clear HB; have HB := n0_; have BK101 := n1_; have GW101 := n2_; have GE101 := n3_; clear n0_ n1_ n2_ n3_; clear hb hbox hg) | ((with_reducible refine gate_dst (N := 3) rfl ?_); refine box_event ?hg (N := 3) ?hd (cs := #[.int .i64 a1_0, .int .i64 a1_1]) (t := 85) ?hr ?_; (case hd => rfl); (case hg => rfl); (case hr => exact tc19_); intro gb102 hg w6 hbox hb; have n0_ := am_ (blk_below (g := gb101) (o := .cells #[.int .i64 a0_0, .int .i64 a0_1] 85 (0, 0)) tc2_ hb); have n1_ := am_ (below_step tc6_ hb); have n2_ := am_ (hbox); have n3_ := am_ ((by rw [hg]; exact (below_size tc6_) : w.heap.size ≤ gb102)); have n4_ := am_ ((by rw [hg]; exact (below_size tc6_) : w.heap.size ≤ gb102)); have n5_ := am_ ((by rw [hg]; exact Nat.ne_of_lt (blk_lt (g := gb101) (o := .cells #[.int .i64 a0_0, .int .i64 a0_1] 85 (0, 0)) tc2_) : gb101 ≠ gb102)); have n6_ := am_ ((by rw [hg]; exact Nat.ne_of_gt (blk_lt (g := gb101) (o := .cells #[.int .i64 a0_0, .int .i64 a0_1] 85 (0, 0)) tc2_) : gb102 ≠ gb101)); clear BK101 HB; have BK101 := n0_; have HB := n1_; have BK102 := n2_; have GW102 := n3_; have GE102 := n4_; have NB101_102 := n5_; have NB102_101 := n6_; clear n0_ n1_ n2_ n3_ n4_ n5_ n6_; clear hb hbox hg) | ((with_reducible refine gate_dst (N := 4) rfl ?_); refine box_event ?hg (N := 4) ?hd (cs := #[.int .i64 0, .int .i64 0]) (t := 85) ?hr ?_; (case hd => rfl); (case hg => rfl); (case hr => exact tc19_); intro gb103 hg w7 hbox hb; have n0_ := am_ (blk_below (g := gb101) (o := .cells #[.int .i64 a0_0, .int .i64 a0_1] 85 (0, 0)) tc2_ hb); have n1_ := am_ (blk_below (g := gb102) (o := .cells #[.int .i64 a1_0, .int .i64 a1_1] 85 (0, 0)) tc4_ hb); have n2_ := am_ (below_step tc26_ hb); have n3_ := am_ (hbox); have n4_ := am_ ((by rw [hg]; exact (below_size tc26_) : w.heap.size ≤ gb103)); have n5_ := am_ ((by rw [hg]; exact (below_size tc26_) : w.heap.size ≤ gb103)); have n6_ := am_ ((by rw [hg]; exact Nat.ne_of_lt (blk_lt (g := gb101) (o := .cells #[.int .i64 a0_0, .int .i64 a0_1] 85 (0, 0)) tc2_) : gb101 ≠ gb103)); have n7_ := am_ ((by rw [hg]; exact Nat.ne_of_gt (blk_lt (g := gb101) (o := .cells #[.int .i64 a0_0, .int .i64 a0_1] 85 (0, 0)) tc2_) : gb103 ≠ gb101)); have n8_ := am_ ((by rw [hg]; exact Nat.ne_of_lt (blk_lt (g := gb102) (o := .cells #[.int .i64 a1_0, .int .i64 a1_1] 85 (0, 0)) tc4_) : gb102 ≠ gb103)); have n9_ := am_ ((by rw [hg]; exact Nat.ne_of_gt (blk_lt (g := gb102) (o := .cells #[.int .i64 a1_0, .int .i64 a1_1] 85 (0, 0)) tc4_) : gb103 ≠ gb102)); clear BK101 BK102 HB; have BK101 := n0_; have BK102 := n1_; have HB := n2_; have BK103 := n3_; have GW103 := n4_; have GE103 := n5_; have NB101_103 := n6_; have NB103_101 := n7_; have NB102_103 := n8_; have NB103_102 := n9_; clear n0_ n1_ n2_ n3_ n4_ n5_ n6_ n7_ n8_ n9_; clear hb hbox hg))
 have n0_ := am_ (blk_drew BK101.out)
 have n1_ := am_ (blk_drew BK102.out)
 have n2_ := am_ (blk_drew BK103.out)
 have n3_ := am_ (below_drew1 HB.out)
 clear BK101
 clear BK102
 clear BK103
 clear HB
 have BK101 := n0_
 have BK102 := n1_
 have BK103 := n2_
 have HB := n3_
 clear n0_ n1_ n2_ n3_
 refine start_ (n := 14) (S := fun w' => w'.cell? ⟨gb101, 0, none⟩ = some (.int .i64 a0_0) ∧ w'.cell? ⟨gb101, 1, none⟩ = some (.int .i64 a0_1) ∧ w'.cell? ⟨gb102, 0, none⟩ = some (.int .i64 a1_0) ∧ w'.cell? ⟨gb102, 1, none⟩ = some (.int .i64 a1_1)) (ds := []) #[false, false, false, false, false, false, false, false, false, false, false, false, false, false] (by kernel_rfl) rfl rfl ⟨(blk_cell BK101.out 0).trans rfl, (blk_cell BK101.out 1).trans rfl, (blk_cell BK102.out 0).trans rfl, (blk_cell BK102.out 1).trans rfl⟩ (fun hHeld => ?_); refine with_tabW impl_Ratio_times.tab1 impl_Ratio_times.bits1 (fun HT_ HW_ => ?_)
 generalize w7.drew = w8 at BK101 BK102 BK103 HB hHeld ⊢
 refine pure_ (i := 0) (N := some 7) (v := ?_) (a' := ?_) #[true, false, false, false, false, false, false, false, false, false, false, false, false, false] rfl rfl (any_of HT_.out (by kernel_rfl)) (fun _ _ _ h => h) (Or.inl ⟨by rfl, ?_⟩) ?_ ?_
 rotate_left
 ·intro w'
  go_simp
  with_reducible rfl
 rotate_left
 ·simp only [Act.put, List.setIfInBounds_toArray, List.set_cons_zero, List.set_cons_succ, i64_w, i32_w]
  rfl
 refine pure_ (i := 2) (N := some 9) (v := ?_) (a' := ?_) #[true, false, true, false, false, false, false, false, false, false, false, false, false, false] rfl rfl (any_of HT_.out (by kernel_rfl)) (fun _ _ _ h => h) (Or.inl ⟨by rfl, ?_⟩) ?_ ?_
 rotate_left
 ·intro w'
  go_simp
  with_reducible rfl
 rotate_left
 ·simp only [Act.put, List.setIfInBounds_toArray, List.set_cons_zero, List.set_cons_succ, i64_w, i32_w]
  rfl
 refine pure_ (i := 5) (N := some 12) (v := ?_) (a' := ?_) #[true, false, true, false, false, true, false, false, false, false, false, false, false, false] rfl rfl (any_of HT_.out (by kernel_rfl)) (fun _ _ _ h => h) (Or.inl ⟨by rfl, ?_⟩) ?_ ?_
 rotate_left
 ·intro w'
  go_simp
  with_reducible rfl
 rotate_left
 ·simp only [Act.put, List.setIfInBounds_toArray, List.set_cons_zero, List.set_cons_succ, i64_w, i32_w]
  rfl
 refine pure_ (i := 7) (N := some 14) (v := ?_) (a' := ?_) #[true, false, true, false, false, true, false, true, false, false, false, false, false, false] rfl rfl (any_of HT_.out (by kernel_rfl)) (fun _ _ _ h => h) (Or.inl ⟨by rfl, ?_⟩) ?_ ?_
 rotate_left
 ·intro w'
  go_simp
  with_reducible rfl
 rotate_left
 ·simp only [Act.put, List.setIfInBounds_toArray, List.set_cons_zero, List.set_cons_succ, i64_w, i32_w]
  rfl
 refine take_ (i := 1) (N := some 8) (v := ?_) (a' := ?_) #[true, true, true, false, false, true, false, true, false, false, false, false, false, false] rfl rfl (take_ofW HT_.out HW_.out (by kernel_rfl)) (fun _ _ _ h => h) (Or.inl ⟨by rfl, ?_⟩) hHeld ?_ ?_
 rotate_left
 ·rintro w' ⟨s0, s1, s2, s3⟩
  go_simp
  with_reducible rfl
 rotate_left
 ·simp only [Act.put, List.setIfInBounds_toArray, List.set_cons_zero, List.set_cons_succ, i64_w, i32_w]
  rfl
 refine take_ (i := 3) (N := some 10) (v := ?_) (a' := ?_) #[true, true, true, true, false, true, false, true, false, false, false, false, false, false] rfl rfl (take_ofW HT_.out HW_.out (by kernel_rfl)) (fun _ _ _ h => h) (Or.inl ⟨by rfl, ?_⟩) hHeld ?_ ?_
 rotate_left
 ·rintro w' ⟨s0, s1, s2, s3⟩
  go_simp
  with_reducible rfl
 rotate_left
 ·simp only [Act.put, List.setIfInBounds_toArray, List.set_cons_zero, List.set_cons_succ, i64_w, i32_w]
  rfl
 refine take_ (i := 6) (N := some 13) (v := ?_) (a' := ?_) #[true, true, true, true, false, true, true, true, false, false, false, false, false, false] rfl rfl (take_ofW HT_.out HW_.out (by kernel_rfl)) (fun _ _ _ h => h) (Or.inl ⟨by rfl, ?_⟩) hHeld ?_ ?_
 rotate_left
 ·rintro w' ⟨s0, s1, s2, s3⟩
  go_simp
  with_reducible rfl
 rotate_left
 ·simp only [Act.put, List.setIfInBounds_toArray, List.set_cons_zero, List.set_cons_succ, i64_w, i32_w]
  rfl
 refine take_ (i := 8) (N := some 15) (v := ?_) (a' := ?_) #[true, true, true, true, false, true, true, true, true, false, false, false, false, false] rfl rfl (take_ofW HT_.out HW_.out (by kernel_rfl)) (fun _ _ _ h => h) (Or.inl ⟨by rfl, ?_⟩) hHeld ?_ ?_
 rotate_left
 ·rintro w' ⟨s0, s1, s2, s3⟩
  go_simp
  with_reducible rfl
 rotate_left
 ·simp only [Act.put, List.setIfInBounds_toArray, List.set_cons_zero, List.set_cons_succ, i64_w, i32_w]
  rfl
 refine join_ (σ := Nat × Nat) 2 #[true, true, true, true, true, true, true, true, true, true, true, true, false, false] (fun s_ => [(11, .agg #[.int .i64 t104, .int .i64 t105]), (16, .agg #[.int .i64 t106, .int .i64 t107]), (5, .pointer (some ⟨s_.1, 0, none⟩)), (6, .pointer (some ⟨s_.2, 0, none⟩))]) (fun s_ w' => (w'.cell? ⟨gb101, 0, none⟩ = some (.int .i64 a0_0) ∧ w'.cell? ⟨gb101, 1, none⟩ = some (.int .i64 a0_1) ∧ w'.cell? ⟨gb102, 0, none⟩ = some (.int .i64 a1_0) ∧ w'.cell? ⟨gb102, 1, none⟩ = some (.int .i64 a1_1)) ∧ (w'.heap[gb101]? = some (.cells #[.int .i64 a0_0, .int .i64 a0_1] 85 (0, 0))) ∧ (w'.heap[gb102]? = some (.cells #[.int .i64 a1_0, .int .i64 a1_1] 85 (0, 0))) ∧ (w'.heap[gb103]? = some (.cells #[.int .i64 0, .int .i64 0] 85 (0, 0))) ∧ (w'.heap[s_.1]? = some (.cells #[.int .i64 0, .int .i64 0] 85 (0, 0))) ∧ (w'.heap[s_.2]? = some (.cells #[.int .i64 0, .int .i64 0] 85 (0, 0))) ∧ (w.heap.size ≤ s_.1) ∧ (w.heap.size ≤ s_.1) ∧ (gb101 ≠ s_.1) ∧ (s_.1 ≠ gb101) ∧ (gb102 ≠ s_.1) ∧ (s_.1 ≠ gb102) ∧ (gb103 ≠ s_.1) ∧ (s_.1 ≠ gb103) ∧ (s_.2 ≠ s_.1) ∧ (s_.1 ≠ s_.2) ∧ (w.heap.size ≤ s_.2) ∧ (w.heap.size ≤ s_.2) ∧ (gb101 ≠ s_.2) ∧ (s_.2 ≠ gb101) ∧ (gb102 ≠ s_.2) ∧ (s_.2 ≠ gb102) ∧ (gb103 ≠ s_.2) ∧ (s_.2 ≠ gb103) ∧ (Below w.heap.size w w')) ?_ ?_
 rotate_left
 ·intro hJ4_9_10_11
  refine join_ (σ := Nat) 3 #[true, true, true, true, true, true, true, true, true, true, true, false, false, false] (fun s_ => [(11, .agg #[.int .i64 t104, .int .i64 t105]), (16, .agg #[.int .i64 t106, .int .i64 t107]), (5, .pointer (some ⟨s_, 0, none⟩))]) (fun s_ w' => (w'.cell? ⟨gb101, 0, none⟩ = some (.int .i64 a0_0) ∧ w'.cell? ⟨gb101, 1, none⟩ = some (.int .i64 a0_1) ∧ w'.cell? ⟨gb102, 0, none⟩ = some (.int .i64 a1_0) ∧ w'.cell? ⟨gb102, 1, none⟩ = some (.int .i64 a1_1)) ∧ (w'.heap[gb101]? = some (.cells #[.int .i64 a0_0, .int .i64 a0_1] 85 (0, 0))) ∧ (w'.heap[gb102]? = some (.cells #[.int .i64 a1_0, .int .i64 a1_1] 85 (0, 0))) ∧ (w'.heap[gb103]? = some (.cells #[.int .i64 0, .int .i64 0] 85 (0, 0))) ∧ (w'.heap[s_]? = some (.cells #[.int .i64 0, .int .i64 0] 85 (0, 0))) ∧ (w.heap.size ≤ s_) ∧ (w.heap.size ≤ s_) ∧ (gb101 ≠ s_) ∧ (s_ ≠ gb101) ∧ (gb102 ≠ s_) ∧ (s_ ≠ gb102) ∧ (gb103 ≠ s_) ∧ (s_ ≠ gb103) ∧ (Below w.heap.size w w')) ?_ ?_
  rotate_left
  ·intro hJ4_9_10
   refine join_ (σ := Nat) 3 #[true, true, true, true, true, true, true, true, true, true, false, true, false, false] (fun s_ => [(11, .agg #[.int .i64 t104, .int .i64 t105]), (16, .agg #[.int .i64 t106, .int .i64 t107]), (6, .pointer (some ⟨s_, 0, none⟩))]) (fun s_ w' => (w'.cell? ⟨gb101, 0, none⟩ = some (.int .i64 a0_0) ∧ w'.cell? ⟨gb101, 1, none⟩ = some (.int .i64 a0_1) ∧ w'.cell? ⟨gb102, 0, none⟩ = some (.int .i64 a1_0) ∧ w'.cell? ⟨gb102, 1, none⟩ = some (.int .i64 a1_1)) ∧ (w'.heap[gb101]? = some (.cells #[.int .i64 a0_0, .int .i64 a0_1] 85 (0, 0))) ∧ (w'.heap[gb102]? = some (.cells #[.int .i64 a1_0, .int .i64 a1_1] 85 (0, 0))) ∧ (w'.heap[gb103]? = some (.cells #[.int .i64 0, .int .i64 0] 85 (0, 0))) ∧ (w'.heap[s_]? = some (.cells #[.int .i64 0, .int .i64 0] 85 (0, 0))) ∧ (w.heap.size ≤ s_) ∧ (w.heap.size ≤ s_) ∧ (gb101 ≠ s_) ∧ (s_ ≠ gb101) ∧ (gb102 ≠ s_) ∧ (s_ ≠ gb102) ∧ (gb103 ≠ s_) ∧ (s_ ≠ gb103) ∧ (Below w.heap.size w w')) ?_ ?_
   rotate_left
   ·intro hJ4_9_11
    refine join_ (σ := Nat × Nat) 3 #[true, true, true, true, true, true, true, true, true, false, true, true, false, false] (fun s_ => [(11, .agg #[.int .i64 t104, .int .i64 t105]), (5, .pointer (some ⟨s_.1, 0, none⟩)), (6, .pointer (some ⟨s_.2, 0, none⟩))]) (fun s_ w' => (w'.cell? ⟨gb101, 0, none⟩ = some (.int .i64 a0_0) ∧ w'.cell? ⟨gb101, 1, none⟩ = some (.int .i64 a0_1) ∧ w'.cell? ⟨gb102, 0, none⟩ = some (.int .i64 a1_0) ∧ w'.cell? ⟨gb102, 1, none⟩ = some (.int .i64 a1_1)) ∧ (w'.heap[gb101]? = some (.cells #[.int .i64 a0_0, .int .i64 a0_1] 85 (0, 0))) ∧ (w'.heap[gb102]? = some (.cells #[.int .i64 a1_0, .int .i64 a1_1] 85 (0, 0))) ∧ (w'.heap[gb103]? = some (.cells #[.int .i64 0, .int .i64 0] 85 (0, 0))) ∧ (w'.heap[s_.1]? = some (.cells #[.int .i64 0, .int .i64 0] 85 (0, 0))) ∧ (w'.heap[s_.2]? = some (.cells #[.int .i64 0, .int .i64 0] 85 (0, 0))) ∧ (w.heap.size ≤ s_.1) ∧ (w.heap.size ≤ s_.1) ∧ (gb101 ≠ s_.1) ∧ (s_.1 ≠ gb101) ∧ (gb102 ≠ s_.1) ∧ (s_.1 ≠ gb102) ∧ (gb103 ≠ s_.1) ∧ (s_.1 ≠ gb103) ∧ (s_.2 ≠ s_.1) ∧ (s_.1 ≠ s_.2) ∧ (w.heap.size ≤ s_.2) ∧ (w.heap.size ≤ s_.2) ∧ (gb101 ≠ s_.2) ∧ (s_.2 ≠ gb101) ∧ (gb102 ≠ s_.2) ∧ (s_.2 ≠ gb102) ∧ (gb103 ≠ s_.2) ∧ (s_.2 ≠ gb103) ∧ (Below w.heap.size w w')) ?_ ?_
    rotate_left
    ·intro hJ4_10_11
     refine join_ (σ := Unit) 4 #[true, true, true, true, true, true, true, true, true, true, false, false, false, false] (fun s_ => [(11, .agg #[.int .i64 t104, .int .i64 t105]), (16, .agg #[.int .i64 t106, .int .i64 t107])]) (fun s_ w' => (w'.cell? ⟨gb101, 0, none⟩ = some (.int .i64 a0_0) ∧ w'.cell? ⟨gb101, 1, none⟩ = some (.int .i64 a0_1) ∧ w'.cell? ⟨gb102, 0, none⟩ = some (.int .i64 a1_0) ∧ w'.cell? ⟨gb102, 1, none⟩ = some (.int .i64 a1_1)) ∧ (w'.heap[gb101]? = some (.cells #[.int .i64 a0_0, .int .i64 a0_1] 85 (0, 0))) ∧ (w'.heap[gb102]? = some (.cells #[.int .i64 a1_0, .int .i64 a1_1] 85 (0, 0))) ∧ (w'.heap[gb103]? = some (.cells #[.int .i64 0, .int .i64 0] 85 (0, 0))) ∧ (Below w.heap.size w w')) ?_ ?_
     rotate_left
     ·intro hJ4_9
      refine join_ (σ := Nat) 4 #[true, true, true, true, true, true, true, true, true, false, true, false, false, false] (fun s_ => [(11, .agg #[.int .i64 t104, .int .i64 t105]), (5, .pointer (some ⟨s_, 0, none⟩))]) (fun s_ w' => (w'.cell? ⟨gb101, 0, none⟩ = some (.int .i64 a0_0) ∧ w'.cell? ⟨gb101, 1, none⟩ = some (.int .i64 a0_1) ∧ w'.cell? ⟨gb102, 0, none⟩ = some (.int .i64 a1_0) ∧ w'.cell? ⟨gb102, 1, none⟩ = some (.int .i64 a1_1)) ∧ (w'.heap[gb101]? = some (.cells #[.int .i64 a0_0, .int .i64 a0_1] 85 (0, 0))) ∧ (w'.heap[gb102]? = some (.cells #[.int .i64 a1_0, .int .i64 a1_1] 85 (0, 0))) ∧ (w'.heap[gb103]? = some (.cells #[.int .i64 0, .int .i64 0] 85 (0, 0))) ∧ (w'.heap[s_]? = some (.cells #[.int .i64 0, .int .i64 0] 85 (0, 0))) ∧ (w.heap.size ≤ s_) ∧ (w.heap.size ≤ s_) ∧ (gb101 ≠ s_) ∧ (s_ ≠ gb101) ∧ (gb102 ≠ s_) ∧ (s_ ≠ gb102) ∧ (gb103 ≠ s_) ∧ (s_ ≠ gb103) ∧ (Below w.heap.size w w')) ?_ ?_
      rotate_left
      ·intro hJ4_10
       refine join_ (σ := Nat) 4 #[true, true, true, true, true, true, true, true, true, false, false, true, false, false] (fun s_ => [(11, .agg #[.int .i64 t104, .int .i64 t105]), (6, .pointer (some ⟨s_, 0, none⟩))]) (fun s_ w' => (w'.cell? ⟨gb101, 0, none⟩ = some (.int .i64 a0_0) ∧ w'.cell? ⟨gb101, 1, none⟩ = some (.int .i64 a0_1) ∧ w'.cell? ⟨gb102, 0, none⟩ = some (.int .i64 a1_0) ∧ w'.cell? ⟨gb102, 1, none⟩ = some (.int .i64 a1_1)) ∧ (w'.heap[gb101]? = some (.cells #[.int .i64 a0_0, .int .i64 a0_1] 85 (0, 0))) ∧ (w'.heap[gb102]? = some (.cells #[.int .i64 a1_0, .int .i64 a1_1] 85 (0, 0))) ∧ (w'.heap[gb103]? = some (.cells #[.int .i64 0, .int .i64 0] 85 (0, 0))) ∧ (w'.heap[s_]? = some (.cells #[.int .i64 0, .int .i64 0] 85 (0, 0))) ∧ (w.heap.size ≤ s_) ∧ (w.heap.size ≤ s_) ∧ (gb101 ≠ s_) ∧ (s_ ≠ gb101) ∧ (gb102 ≠ s_) ∧ (s_ ≠ gb102) ∧ (gb103 ≠ s_) ∧ (s_ ≠ gb103) ∧ (Below w.heap.size w w')) ?_ ?_
       rotate_left
       ·intro hJ4_11
        refine join_ (σ := Nat × Nat) 4 #[true, true, true, true, false, true, true, true, true, false, true, true, false, false] (fun s_ => [(5, .pointer (some ⟨s_.1, 0, none⟩)), (6, .pointer (some ⟨s_.2, 0, none⟩))]) (fun s_ w' => (w'.cell? ⟨gb101, 0, none⟩ = some (.int .i64 a0_0) ∧ w'.cell? ⟨gb101, 1, none⟩ = some (.int .i64 a0_1) ∧ w'.cell? ⟨gb102, 0, none⟩ = some (.int .i64 a1_0) ∧ w'.cell? ⟨gb102, 1, none⟩ = some (.int .i64 a1_1)) ∧ (w'.heap[gb101]? = some (.cells #[.int .i64 a0_0, .int .i64 a0_1] 85 (0, 0))) ∧ (w'.heap[gb102]? = some (.cells #[.int .i64 a1_0, .int .i64 a1_1] 85 (0, 0))) ∧ (w'.heap[gb103]? = some (.cells #[.int .i64 0, .int .i64 0] 85 (0, 0))) ∧ (w'.heap[s_.1]? = some (.cells #[.int .i64 0, .int .i64 0] 85 (0, 0))) ∧ (w'.heap[s_.2]? = some (.cells #[.int .i64 0, .int .i64 0] 85 (0, 0))) ∧ (w.heap.size ≤ s_.1) ∧ (w.heap.size ≤ s_.1) ∧ (gb101 ≠ s_.1) ∧ (s_.1 ≠ gb101) ∧ (gb102 ≠ s_.1) ∧ (s_.1 ≠ gb102) ∧ (gb103 ≠ s_.1) ∧ (s_.1 ≠ gb103) ∧ (s_.2 ≠ s_.1) ∧ (s_.1 ≠ s_.2) ∧ (w.heap.size ≤ s_.2) ∧ (w.heap.size ≤ s_.2) ∧ (gb101 ≠ s_.2) ∧ (s_.2 ≠ gb101) ∧ (gb102 ≠ s_.2) ∧ (s_.2 ≠ gb102) ∧ (gb103 ≠ s_.2) ∧ (s_.2 ≠ gb103) ∧ (Below w.heap.size w w')) ?_ ?_
        rotate_left
        ·intro hJ10_11
         refine join_ (σ := Unit) 5 #[true, true, true, true, true, true, true, true, true, false, false, false, false, false] (fun s_ => [(11, .agg #[.int .i64 t104, .int .i64 t105])]) (fun s_ w' => (w'.cell? ⟨gb101, 0, none⟩ = some (.int .i64 a0_0) ∧ w'.cell? ⟨gb101, 1, none⟩ = some (.int .i64 a0_1) ∧ w'.cell? ⟨gb102, 0, none⟩ = some (.int .i64 a1_0) ∧ w'.cell? ⟨gb102, 1, none⟩ = some (.int .i64 a1_1)) ∧ (w'.heap[gb101]? = some (.cells #[.int .i64 a0_0, .int .i64 a0_1] 85 (0, 0))) ∧ (w'.heap[gb102]? = some (.cells #[.int .i64 a1_0, .int .i64 a1_1] 85 (0, 0))) ∧ (w'.heap[gb103]? = some (.cells #[.int .i64 0, .int .i64 0] 85 (0, 0))) ∧ (Below w.heap.size w w')) ?_ ?_
         rotate_left
         ·intro hJ4
          refine join_ (σ := Nat) 5 #[true, true, true, true, false, true, true, true, true, false, true, false, false, false] (fun s_ => [(5, .pointer (some ⟨s_, 0, none⟩))]) (fun s_ w' => (w'.cell? ⟨gb101, 0, none⟩ = some (.int .i64 a0_0) ∧ w'.cell? ⟨gb101, 1, none⟩ = some (.int .i64 a0_1) ∧ w'.cell? ⟨gb102, 0, none⟩ = some (.int .i64 a1_0) ∧ w'.cell? ⟨gb102, 1, none⟩ = some (.int .i64 a1_1)) ∧ (w'.heap[gb101]? = some (.cells #[.int .i64 a0_0, .int .i64 a0_1] 85 (0, 0))) ∧ (w'.heap[gb102]? = some (.cells #[.int .i64 a1_0, .int .i64 a1_1] 85 (0, 0))) ∧ (w'.heap[gb103]? = some (.cells #[.int .i64 0, .int .i64 0] 85 (0, 0))) ∧ (w'.heap[s_]? = some (.cells #[.int .i64 0, .int .i64 0] 85 (0, 0))) ∧ (w.heap.size ≤ s_) ∧ (w.heap.size ≤ s_) ∧ (gb101 ≠ s_) ∧ (s_ ≠ gb101) ∧ (gb102 ≠ s_) ∧ (s_ ≠ gb102) ∧ (gb103 ≠ s_) ∧ (s_ ≠ gb103) ∧ (Below w.heap.size w w')) ?_ ?_
          rotate_left
          ·intro hJ10
           refine join_ (σ := Nat) 5 #[true, true, true, true, false, true, true, true, true, false, false, true, false, false] (fun s_ => [(6, .pointer (some ⟨s_, 0, none⟩))]) (fun s_ w' => (w'.cell? ⟨gb101, 0, none⟩ = some (.int .i64 a0_0) ∧ w'.cell? ⟨gb101, 1, none⟩ = some (.int .i64 a0_1) ∧ w'.cell? ⟨gb102, 0, none⟩ = some (.int .i64 a1_0) ∧ w'.cell? ⟨gb102, 1, none⟩ = some (.int .i64 a1_1)) ∧ (w'.heap[gb101]? = some (.cells #[.int .i64 a0_0, .int .i64 a0_1] 85 (0, 0))) ∧ (w'.heap[gb102]? = some (.cells #[.int .i64 a1_0, .int .i64 a1_1] 85 (0, 0))) ∧ (w'.heap[gb103]? = some (.cells #[.int .i64 0, .int .i64 0] 85 (0, 0))) ∧ (w'.heap[s_]? = some (.cells #[.int .i64 0, .int .i64 0] 85 (0, 0))) ∧ (w.heap.size ≤ s_) ∧ (w.heap.size ≤ s_) ∧ (gb101 ≠ s_) ∧ (s_ ≠ gb101) ∧ (gb102 ≠ s_) ∧ (s_ ≠ gb102) ∧ (gb103 ≠ s_) ∧ (s_ ≠ gb103) ∧ (Below w.heap.size w w')) ?_ ?_
           rotate_left
           ·intro hJ11
            refine three_ (i := 4) (j := 10) (k := 11) (Ni := some 11) (Nj := some 5) (Nk := some 6) #[true, true, true, true, true, true, true, true, true, false, false, false, false, false] #[true, true, true, true, false, true, true, true, true, false, true, false, false, false] #[true, true, true, true, false, true, true, true, true, false, false, true, false, false] rfl rfl rfl rfl rfl rfl (three_of HT_.out (by kernel_rfl)) (by decide) (by decide) (by decide) (fun K hK => ?_) (fun K hK => ?_) (fun K hK => ?_)
            ·skip
             refine goes_ Try.func122 (by kernel_rfl) rfl #[.int .i64 a0_0, .int .i64 a1_1] (by rfl) rfl rfl tc1_ ?_
             with_reducible refine (impl_ratio.calls k a0_0 a1_1 t104 t105 _ A3.out).mono ?_
             rintro e w9 ⟨rfl, hb⟩
             refine ⟨_, rfl, ?_⟩
             have n0_ := am_ (blk_below (g := gb101) (o := .cells #[.int .i64 a0_0, .int .i64 a0_1] 85 (0, 0)) tc2_ hb)
             have n1_ := am_ (blk_below (g := gb102) (o := .cells #[.int .i64 a1_0, .int .i64 a1_1] 85 (0, 0)) tc4_ hb)
             have n2_ := am_ (blk_below (g := gb103) (o := .cells #[.int .i64 0, .int .i64 0] 85 (0, 0)) tc5_ hb)
             have n3_ := am_ (below_step tc8_ hb)
             clear BK101
             clear BK102
             clear BK103
             clear HB
             have BK101 := n0_
             have BK102 := n1_
             have BK103 := n2_
             have HB := n3_
             clear n0_ n1_ n2_ n3_
             (try clear hb)
             (try clear hb2)
             (try clear hk)
             (try clear hi)
             refine hK.out _ _ ⟨(blk_cell BK101.out 0).trans rfl, (blk_cell BK101.out 1).trans rfl, (blk_cell BK102.out 0).trans rfl, (blk_cell BK102.out 1).trans rfl⟩ (fun hHeld => ?_)
             clear hK K
             refine norm_ (a' := ?_) ?_ ?_
             rotate_left
             ·show Act.put _ (some 11) _ = _
              simp only [Act.put, List.setIfInBounds_toArray, List.set_cons_zero, List.set_cons_succ, i64_w, i32_w]
              rfl
             exact norm_ tc9_ (hJ4 () _ ⟨hHeld, tc2_, tc4_, tc5_, tc8_⟩)
            ·skip
             refine box_step ?hg (N := 5) ?hd (cs := #[.int .i64 0, .int .i64 0]) (t := 85) ?hr ?_; (case hd => rfl); (case hg => rfl); (case hr => exact tc19_)
             intro gb108 hg w9 hbox hb
             have n0_ := am_ (blk_below (g := gb101) (o := .cells #[.int .i64 a0_0, .int .i64 a0_1] 85 (0, 0)) tc2_ hb)
             have n1_ := am_ (blk_below (g := gb102) (o := .cells #[.int .i64 a1_0, .int .i64 a1_1] 85 (0, 0)) tc4_ hb)
             have n2_ := am_ (blk_below (g := gb103) (o := .cells #[.int .i64 0, .int .i64 0] 85 (0, 0)) tc5_ hb)
             have n3_ := am_ (below_step tc8_ hb)
             have n4_ := am_ (hbox)
             have n5_ := am_ ((by rw [hg]; exact (below_size tc8_) : w.heap.size ≤ gb108))
             have n6_ := am_ ((by rw [hg]; exact (below_size tc8_) : w.heap.size ≤ gb108))
             have n7_ := am_ ((by rw [hg]; exact Nat.ne_of_lt (blk_lt (g := gb101) (o := .cells #[.int .i64 a0_0, .int .i64 a0_1] 85 (0, 0)) tc2_) : gb101 ≠ gb108))
             have n8_ := am_ ((by rw [hg]; exact Nat.ne_of_gt (blk_lt (g := gb101) (o := .cells #[.int .i64 a0_0, .int .i64 a0_1] 85 (0, 0)) tc2_) : gb108 ≠ gb101))
             have n9_ := am_ ((by rw [hg]; exact Nat.ne_of_lt (blk_lt (g := gb102) (o := .cells #[.int .i64 a1_0, .int .i64 a1_1] 85 (0, 0)) tc4_) : gb102 ≠ gb108))
             have n10_ := am_ ((by rw [hg]; exact Nat.ne_of_gt (blk_lt (g := gb102) (o := .cells #[.int .i64 a1_0, .int .i64 a1_1] 85 (0, 0)) tc4_) : gb108 ≠ gb102))
             have n11_ := am_ ((by rw [hg]; exact Nat.ne_of_lt (blk_lt (g := gb103) (o := .cells #[.int .i64 0, .int .i64 0] 85 (0, 0)) tc5_) : gb103 ≠ gb108))
             have n12_ := am_ ((by rw [hg]; exact Nat.ne_of_gt (blk_lt (g := gb103) (o := .cells #[.int .i64 0, .int .i64 0] 85 (0, 0)) tc5_) : gb108 ≠ gb103))
             clear BK101
             clear BK102
             clear BK103
             clear HB
             have BK101 := n0_
             have BK102 := n1_
             have BK103 := n2_
             have HB := n3_
             have BK108 := n4_
             have GW108 := n5_
             have GE108 := n6_
             have NB101_108 := n7_
             have NB108_101 := n8_
             have NB102_108 := n9_
             have NB108_102 := n10_
             have NB103_108 := n11_
             have NB108_103 := n12_
             clear n0_ n1_ n2_ n3_ n4_ n5_ n6_ n7_ n8_ n9_ n10_ n11_ n12_
             clear hb hbox hg
             refine hK.out _ _ ⟨(blk_cell BK101.out 0).trans rfl, (blk_cell BK101.out 1).trans rfl, (blk_cell BK102.out 0).trans rfl, (blk_cell BK102.out 1).trans rfl⟩ (fun hHeld => ?_)
             clear hK K
             refine norm_ (a' := ?_) ?_ ?_
             rotate_left
             ·show Act.put _ (some 5) _ = _
              simp only [Act.put, List.setIfInBounds_toArray, List.set_cons_zero, List.set_cons_succ, i64_w, i32_w]
              rfl
             exact norm_ tc9_ (hJ10 (gb108) _ ⟨hHeld, tc2_, tc4_, tc5_, tc14_, GW108.out, GE108.out, NB101_108.out, NB108_101.out, NB102_108.out, NB108_102.out, NB103_108.out, NB108_103.out, tc10_⟩)
            ·skip
             refine box_step ?hg (N := 6) ?hd (cs := #[.int .i64 0, .int .i64 0]) (t := 85) ?hr ?_; (case hd => rfl); (case hg => rfl); (case hr => exact tc19_)
             intro gb109 hg w9 hbox hb
             have n0_ := am_ (blk_below (g := gb101) (o := .cells #[.int .i64 a0_0, .int .i64 a0_1] 85 (0, 0)) tc2_ hb)
             have n1_ := am_ (blk_below (g := gb102) (o := .cells #[.int .i64 a1_0, .int .i64 a1_1] 85 (0, 0)) tc4_ hb)
             have n2_ := am_ (blk_below (g := gb103) (o := .cells #[.int .i64 0, .int .i64 0] 85 (0, 0)) tc5_ hb)
             have n3_ := am_ (below_step tc8_ hb)
             have n4_ := am_ (hbox)
             have n5_ := am_ ((by rw [hg]; exact (below_size tc8_) : w.heap.size ≤ gb109))
             have n6_ := am_ ((by rw [hg]; exact (below_size tc8_) : w.heap.size ≤ gb109))
             have n7_ := am_ ((by rw [hg]; exact Nat.ne_of_lt (blk_lt (g := gb101) (o := .cells #[.int .i64 a0_0, .int .i64 a0_1] 85 (0, 0)) tc2_) : gb101 ≠ gb109))
             have n8_ := am_ ((by rw [hg]; exact Nat.ne_of_gt (blk_lt (g := gb101) (o := .cells #[.int .i64 a0_0, .int .i64 a0_1] 85 (0, 0)) tc2_) : gb109 ≠ gb101))
             have n9_ := am_ ((by rw [hg]; exact Nat.ne_of_lt (blk_lt (g := gb102) (o := .cells #[.int .i64 a1_0, .int .i64 a1_1] 85 (0, 0)) tc4_) : gb102 ≠ gb109))
             have n10_ := am_ ((by rw [hg]; exact Nat.ne_of_gt (blk_lt (g := gb102) (o := .cells #[.int .i64 a1_0, .int .i64 a1_1] 85 (0, 0)) tc4_) : gb109 ≠ gb102))
             have n11_ := am_ ((by rw [hg]; exact Nat.ne_of_lt (blk_lt (g := gb103) (o := .cells #[.int .i64 0, .int .i64 0] 85 (0, 0)) tc5_) : gb103 ≠ gb109))
             have n12_ := am_ ((by rw [hg]; exact Nat.ne_of_gt (blk_lt (g := gb103) (o := .cells #[.int .i64 0, .int .i64 0] 85 (0, 0)) tc5_) : gb109 ≠ gb103))
             clear BK101
             clear BK102
             clear BK103
             clear HB
             have BK101 := n0_
             have BK102 := n1_
             have BK103 := n2_
             have HB := n3_
             have BK109 := n4_
             have GW109 := n5_
             have GE109 := n6_
             have NB101_109 := n7_
             have NB109_101 := n8_
             have NB102_109 := n9_
             have NB109_102 := n10_
             have NB103_109 := n11_
             have NB109_103 := n12_
             clear n0_ n1_ n2_ n3_ n4_ n5_ n6_ n7_ n8_ n9_ n10_ n11_ n12_
             clear hb hbox hg
             refine hK.out _ _ ⟨(blk_cell BK101.out 0).trans rfl, (blk_cell BK101.out 1).trans rfl, (blk_cell BK102.out 0).trans rfl, (blk_cell BK102.out 1).trans rfl⟩ (fun hHeld => ?_)
             clear hK K
             refine norm_ (a' := ?_) ?_ ?_
             rotate_left
             ·show Act.put _ (some 6) _ = _
              simp only [Act.put, List.setIfInBounds_toArray, List.set_cons_zero, List.set_cons_succ, i64_w, i32_w]
              rfl
             exact norm_ tc9_ (hJ11 (gb109) _ ⟨hHeld, tc2_, tc4_, tc5_, tc15_, GW109.out, GE109.out, NB101_109.out, NB109_101.out, NB102_109.out, NB109_102.out, NB103_109.out, NB109_103.out, tc11_⟩)
           ·skip
            rintro gb109 w10 ⟨hS_, h0_, h1_, h2_, h3_, h4_, h5_, h6_, h7_, h8_, h9_, h10_, h11_, h12_⟩
            have n0_ : Aside0 (w10.heap[gb101]? = some (.cells #[.int .i64 a0_0, .int .i64 a0_1] 85 (0, 0))) := ⟨h0_⟩
            have n1_ : Aside0 (w10.heap[gb102]? = some (.cells #[.int .i64 a1_0, .int .i64 a1_1] 85 (0, 0))) := ⟨h1_⟩
            have n2_ : Aside0 (w10.heap[gb103]? = some (.cells #[.int .i64 0, .int .i64 0] 85 (0, 0))) := ⟨h2_⟩
            have n3_ : Aside0 (w10.heap[gb109]? = some (.cells #[.int .i64 0, .int .i64 0] 85 (0, 0))) := ⟨h3_⟩
            have n4_ : Aside0 (w.heap.size ≤ gb109) := ⟨h4_⟩
            have n5_ : Aside0 (w.heap.size ≤ gb109) := ⟨h5_⟩
            have n6_ : Aside0 (gb101 ≠ gb109) := ⟨h6_⟩
            have n7_ : Aside0 (gb109 ≠ gb101) := ⟨h7_⟩
            have n8_ : Aside0 (gb102 ≠ gb109) := ⟨h8_⟩
            have n9_ : Aside0 (gb109 ≠ gb102) := ⟨h9_⟩
            have n10_ : Aside0 (gb103 ≠ gb109) := ⟨h10_⟩
            have n11_ : Aside0 (gb109 ≠ gb103) := ⟨h11_⟩
            have n12_ : Aside0 (Below w.heap.size w w10) := ⟨h12_⟩
            clear BK101
            clear BK102
            clear BK103
            clear HB
            clear h0_ h1_ h2_ h3_ h4_ h5_ h6_ h7_ h8_ h9_ h10_ h11_ h12_
            have BK101 := n0_
            have BK102 := n1_
            have BK103 := n2_
            have BK109 := n3_
            have GW109 := n4_
            have GE109 := n5_
            have NB101_109 := n6_
            have NB109_101 := n7_
            have NB102_109 := n8_
            have NB109_102 := n9_
            have NB103_109 := n10_
            have NB109_103 := n11_
            have HB := n12_
            clear n0_ n1_ n2_ n3_ n4_ n5_ n6_ n7_ n8_ n9_ n10_ n11_ n12_
            have hHeld : w10.cell? ⟨gb101, 0, none⟩ = some (.int .i64 a0_0) ∧ w10.cell? ⟨gb101, 1, none⟩ = some (.int .i64 a0_1) ∧ w10.cell? ⟨gb102, 0, none⟩ = some (.int .i64 a1_0) ∧ w10.cell? ⟨gb102, 1, none⟩ = some (.int .i64 a1_1) := hS_
            refine norm_ (a' := ?_) ?_ ?_
            rotate_left
            ·simp only [putAll, Act.put, List.setIfInBounds_toArray, List.set_cons_zero, List.set_cons_succ]
             rfl
            refine two_ (i := 4) (j := 10) (Ni := some 11) (Nj := some 5) #[true, true, true, true, true, true, true, true, true, false, false, true, false, false] #[true, true, true, true, false, true, true, true, true, false, true, true, false, false] rfl rfl rfl rfl (two_of HT_.out (by kernel_rfl)) (by decide) (by decide) (fun K hK => ?_) (fun K hK => ?_)
            ·skip
             refine goes_ Try.func122 (by kernel_rfl) rfl #[.int .i64 a0_0, .int .i64 a1_1] (by rfl) rfl rfl tc1_ ?_
             with_reducible refine (impl_ratio.calls k a0_0 a1_1 t104 t105 _ A3.out).mono ?_
             rintro e w11 ⟨rfl, hb⟩
             refine ⟨_, rfl, ?_⟩
             have n0_ := am_ (blk_below (g := gb101) (o := .cells #[.int .i64 a0_0, .int .i64 a0_1] 85 (0, 0)) tc2_ hb)
             have n1_ := am_ (blk_below (g := gb102) (o := .cells #[.int .i64 a1_0, .int .i64 a1_1] 85 (0, 0)) tc4_ hb)
             have n2_ := am_ (blk_below (g := gb103) (o := .cells #[.int .i64 0, .int .i64 0] 85 (0, 0)) tc5_ hb)
             have n3_ := am_ (blk_below (g := gb109) (o := .cells #[.int .i64 0, .int .i64 0] 85 (0, 0)) tc15_ hb)
             have n4_ := am_ (below_step tc11_ hb)
             clear BK101
             clear BK102
             clear BK103
             clear BK109
             clear HB
             have BK101 := n0_
             have BK102 := n1_
             have BK103 := n2_
             have BK109 := n3_
             have HB := n4_
             clear n0_ n1_ n2_ n3_ n4_
             (try clear hb)
             (try clear hb2)
             (try clear hk)
             (try clear hi)
             refine hK.out _ _ ⟨(blk_cell BK101.out 0).trans rfl, (blk_cell BK101.out 1).trans rfl, (blk_cell BK102.out 0).trans rfl, (blk_cell BK102.out 1).trans rfl⟩ (fun hHeld => ?_)
             clear hK K
             refine norm_ (a' := ?_) ?_ ?_
             rotate_left
             ·show Act.put _ (some 11) _ = _
              simp only [Act.put, List.setIfInBounds_toArray, List.set_cons_zero, List.set_cons_succ, i64_w, i32_w]
              rfl
             exact norm_ tc9_ (hJ4_11 (gb109) _ ⟨hHeld, tc2_, tc4_, tc5_, tc15_, GW109.out, GE109.out, NB101_109.out, NB109_101.out, NB102_109.out, NB109_102.out, NB103_109.out, NB109_103.out, tc11_⟩)
            ·skip
             refine box_step ?hg (N := 5) ?hd (cs := #[.int .i64 0, .int .i64 0]) (t := 85) ?hr ?_; (case hd => rfl); (case hg => rfl); (case hr => exact tc19_)
             intro gb108 hg w11 hbox hb
             have n0_ := am_ (blk_below (g := gb101) (o := .cells #[.int .i64 a0_0, .int .i64 a0_1] 85 (0, 0)) tc2_ hb)
             have n1_ := am_ (blk_below (g := gb102) (o := .cells #[.int .i64 a1_0, .int .i64 a1_1] 85 (0, 0)) tc4_ hb)
             have n2_ := am_ (blk_below (g := gb103) (o := .cells #[.int .i64 0, .int .i64 0] 85 (0, 0)) tc5_ hb)
             have n3_ := am_ (blk_below (g := gb109) (o := .cells #[.int .i64 0, .int .i64 0] 85 (0, 0)) tc15_ hb)
             have n4_ := am_ (below_step tc11_ hb)
             have n5_ := am_ (hbox)
             have n6_ := am_ ((by rw [hg]; exact (below_size tc11_) : w.heap.size ≤ gb108))
             have n7_ := am_ ((by rw [hg]; exact (below_size tc11_) : w.heap.size ≤ gb108))
             have n8_ := am_ ((by rw [hg]; exact Nat.ne_of_lt (blk_lt (g := gb101) (o := .cells #[.int .i64 a0_0, .int .i64 a0_1] 85 (0, 0)) tc2_) : gb101 ≠ gb108))
             have n9_ := am_ ((by rw [hg]; exact Nat.ne_of_gt (blk_lt (g := gb101) (o := .cells #[.int .i64 a0_0, .int .i64 a0_1] 85 (0, 0)) tc2_) : gb108 ≠ gb101))
             have n10_ := am_ ((by rw [hg]; exact Nat.ne_of_lt (blk_lt (g := gb102) (o := .cells #[.int .i64 a1_0, .int .i64 a1_1] 85 (0, 0)) tc4_) : gb102 ≠ gb108))
             have n11_ := am_ ((by rw [hg]; exact Nat.ne_of_gt (blk_lt (g := gb102) (o := .cells #[.int .i64 a1_0, .int .i64 a1_1] 85 (0, 0)) tc4_) : gb108 ≠ gb102))
             have n12_ := am_ ((by rw [hg]; exact Nat.ne_of_lt (blk_lt (g := gb103) (o := .cells #[.int .i64 0, .int .i64 0] 85 (0, 0)) tc5_) : gb103 ≠ gb108))
             have n13_ := am_ ((by rw [hg]; exact Nat.ne_of_gt (blk_lt (g := gb103) (o := .cells #[.int .i64 0, .int .i64 0] 85 (0, 0)) tc5_) : gb108 ≠ gb103))
             have n14_ := am_ ((by rw [hg]; exact Nat.ne_of_lt (blk_lt (g := gb109) (o := .cells #[.int .i64 0, .int .i64 0] 85 (0, 0)) tc15_) : gb109 ≠ gb108))
             have n15_ := am_ ((by rw [hg]; exact Nat.ne_of_gt (blk_lt (g := gb109) (o := .cells #[.int .i64 0, .int .i64 0] 85 (0, 0)) tc15_) : gb108 ≠ gb109))
             clear BK101
             clear BK102
             clear BK103
             clear BK109
             clear HB
             have BK101 := n0_
             have BK102 := n1_
             have BK103 := n2_
             have BK109 := n3_
             have HB := n4_
             have BK108 := n5_
             have GW108 := n6_
             have GE108 := n7_
             have NB101_108 := n8_
             have NB108_101 := n9_
             have NB102_108 := n10_
             have NB108_102 := n11_
             have NB103_108 := n12_
             have NB108_103 := n13_
             have NB109_108 := n14_
             have NB108_109 := n15_
             clear n0_ n1_ n2_ n3_ n4_ n5_ n6_ n7_ n8_ n9_ n10_ n11_ n12_ n13_ n14_ n15_
             clear hb hbox hg
             refine hK.out _ _ ⟨(blk_cell BK101.out 0).trans rfl, (blk_cell BK101.out 1).trans rfl, (blk_cell BK102.out 0).trans rfl, (blk_cell BK102.out 1).trans rfl⟩ (fun hHeld => ?_)
             clear hK K
             refine norm_ (a' := ?_) ?_ ?_
             rotate_left
             ·show Act.put _ (some 5) _ = _
              simp only [Act.put, List.setIfInBounds_toArray, List.set_cons_zero, List.set_cons_succ, i64_w, i32_w]
              rfl
             exact norm_ tc9_ (hJ10_11 (gb108, gb109) _ ⟨hHeld, tc2_, tc4_, tc5_, tc14_, tc15_, GW108.out, GE108.out, NB101_108.out, NB108_101.out, NB102_108.out, NB108_102.out, NB103_108.out, NB108_103.out, NB109_108.out, NB108_109.out, GW109.out, GE109.out, NB101_109.out, NB109_101.out, NB102_109.out, NB109_102.out, NB103_109.out, NB109_103.out, tc45_⟩)
          ·skip
           rintro gb108 w10 ⟨hS_, h0_, h1_, h2_, h3_, h4_, h5_, h6_, h7_, h8_, h9_, h10_, h11_, h12_⟩
           have n0_ : Aside0 (w10.heap[gb101]? = some (.cells #[.int .i64 a0_0, .int .i64 a0_1] 85 (0, 0))) := ⟨h0_⟩
           have n1_ : Aside0 (w10.heap[gb102]? = some (.cells #[.int .i64 a1_0, .int .i64 a1_1] 85 (0, 0))) := ⟨h1_⟩
           have n2_ : Aside0 (w10.heap[gb103]? = some (.cells #[.int .i64 0, .int .i64 0] 85 (0, 0))) := ⟨h2_⟩
           have n3_ : Aside0 (w10.heap[gb108]? = some (.cells #[.int .i64 0, .int .i64 0] 85 (0, 0))) := ⟨h3_⟩
           have n4_ : Aside0 (w.heap.size ≤ gb108) := ⟨h4_⟩
           have n5_ : Aside0 (w.heap.size ≤ gb108) := ⟨h5_⟩
           have n6_ : Aside0 (gb101 ≠ gb108) := ⟨h6_⟩
           have n7_ : Aside0 (gb108 ≠ gb101) := ⟨h7_⟩
           have n8_ : Aside0 (gb102 ≠ gb108) := ⟨h8_⟩
           have n9_ : Aside0 (gb108 ≠ gb102) := ⟨h9_⟩
           have n10_ : Aside0 (gb103 ≠ gb108) := ⟨h10_⟩
           have n11_ : Aside0 (gb108 ≠ gb103) := ⟨h11_⟩
           have n12_ : Aside0 (Below w.heap.size w w10) := ⟨h12_⟩
           clear BK101
           clear BK102
           clear BK103
           clear HB
           clear h0_ h1_ h2_ h3_ h4_ h5_ h6_ h7_ h8_ h9_ h10_ h11_ h12_
           have BK101 := n0_
           have BK102 := n1_
           have BK103 := n2_
           have BK108 := n3_
           have GW108 := n4_
           have GE108 := n5_
           have NB101_108 := n6_
           have NB108_101 := n7_
           have NB102_108 := n8_
           have NB108_102 := n9_
           have NB103_108 := n10_
           have NB108_103 := n11_
           have HB := n12_
           clear n0_ n1_ n2_ n3_ n4_ n5_ n6_ n7_ n8_ n9_ n10_ n11_ n12_
           have hHeld : w10.cell? ⟨gb101, 0, none⟩ = some (.int .i64 a0_0) ∧ w10.cell? ⟨gb101, 1, none⟩ = some (.int .i64 a0_1) ∧ w10.cell? ⟨gb102, 0, none⟩ = some (.int .i64 a1_0) ∧ w10.cell? ⟨gb102, 1, none⟩ = some (.int .i64 a1_1) := hS_
           refine norm_ (a' := ?_) ?_ ?_
           rotate_left
           ·simp only [putAll, Act.put, List.setIfInBounds_toArray, List.set_cons_zero, List.set_cons_succ]
            rfl
           refine two_ (i := 4) (j := 11) (Ni := some 11) (Nj := some 6) #[true, true, true, true, true, true, true, true, true, false, true, false, false, false] #[true, true, true, true, false, true, true, true, true, false, true, true, false, false] rfl rfl rfl rfl (two_of HT_.out (by kernel_rfl)) (by decide) (by decide) (fun K hK => ?_) (fun K hK => ?_)
           ·skip
            refine goes_ Try.func122 (by kernel_rfl) rfl #[.int .i64 a0_0, .int .i64 a1_1] (by rfl) rfl rfl tc1_ ?_
            with_reducible refine (impl_ratio.calls k a0_0 a1_1 t104 t105 _ A3.out).mono ?_
            rintro e w11 ⟨rfl, hb⟩
            refine ⟨_, rfl, ?_⟩
            have n0_ := am_ (blk_below (g := gb101) (o := .cells #[.int .i64 a0_0, .int .i64 a0_1] 85 (0, 0)) tc2_ hb)
            have n1_ := am_ (blk_below (g := gb102) (o := .cells #[.int .i64 a1_0, .int .i64 a1_1] 85 (0, 0)) tc4_ hb)
            have n2_ := am_ (blk_below (g := gb103) (o := .cells #[.int .i64 0, .int .i64 0] 85 (0, 0)) tc5_ hb)
            have n3_ := am_ (blk_below (g := gb108) (o := .cells #[.int .i64 0, .int .i64 0] 85 (0, 0)) tc14_ hb)
            have n4_ := am_ (below_step tc10_ hb)
            clear BK101
            clear BK102
            clear BK103
            clear BK108
            clear HB
            have BK101 := n0_
            have BK102 := n1_
            have BK103 := n2_
            have BK108 := n3_
            have HB := n4_
            clear n0_ n1_ n2_ n3_ n4_
            (try clear hb)
            (try clear hb2)
            (try clear hk)
            (try clear hi)
            refine hK.out _ _ ⟨(blk_cell BK101.out 0).trans rfl, (blk_cell BK101.out 1).trans rfl, (blk_cell BK102.out 0).trans rfl, (blk_cell BK102.out 1).trans rfl⟩ (fun hHeld => ?_)
            clear hK K
            refine norm_ (a' := ?_) ?_ ?_
            rotate_left
            ·show Act.put _ (some 11) _ = _
             simp only [Act.put, List.setIfInBounds_toArray, List.set_cons_zero, List.set_cons_succ, i64_w, i32_w]
             rfl
            exact norm_ tc9_ (hJ4_10 (gb108) _ ⟨hHeld, tc2_, tc4_, tc5_, tc14_, GW108.out, GE108.out, NB101_108.out, NB108_101.out, NB102_108.out, NB108_102.out, NB103_108.out, NB108_103.out, tc10_⟩)
           ·skip
            refine box_step ?hg (N := 6) ?hd (cs := #[.int .i64 0, .int .i64 0]) (t := 85) ?hr ?_; (case hd => rfl); (case hg => rfl); (case hr => exact tc19_)
            intro gb109 hg w11 hbox hb
            have n0_ := am_ (blk_below (g := gb101) (o := .cells #[.int .i64 a0_0, .int .i64 a0_1] 85 (0, 0)) tc2_ hb)
            have n1_ := am_ (blk_below (g := gb102) (o := .cells #[.int .i64 a1_0, .int .i64 a1_1] 85 (0, 0)) tc4_ hb)
            have n2_ := am_ (blk_below (g := gb103) (o := .cells #[.int .i64 0, .int .i64 0] 85 (0, 0)) tc5_ hb)
            have n3_ := am_ (blk_below (g := gb108) (o := .cells #[.int .i64 0, .int .i64 0] 85 (0, 0)) tc14_ hb)
            have n4_ := am_ (below_step tc10_ hb)
            have n5_ := am_ (hbox)
            have n6_ := am_ ((by rw [hg]; exact (below_size tc10_) : w.heap.size ≤ gb109))
            have n7_ := am_ ((by rw [hg]; exact (below_size tc10_) : w.heap.size ≤ gb109))
            have n8_ := am_ ((by rw [hg]; exact Nat.ne_of_lt (blk_lt (g := gb101) (o := .cells #[.int .i64 a0_0, .int .i64 a0_1] 85 (0, 0)) tc2_) : gb101 ≠ gb109))
            have n9_ := am_ ((by rw [hg]; exact Nat.ne_of_gt (blk_lt (g := gb101) (o := .cells #[.int .i64 a0_0, .int .i64 a0_1] 85 (0, 0)) tc2_) : gb109 ≠ gb101))
            have n10_ := am_ ((by rw [hg]; exact Nat.ne_of_lt (blk_lt (g := gb102) (o := .cells #[.int .i64 a1_0, .int .i64 a1_1] 85 (0, 0)) tc4_) : gb102 ≠ gb109))
            have n11_ := am_ ((by rw [hg]; exact Nat.ne_of_gt (blk_lt (g := gb102) (o := .cells #[.int .i64 a1_0, .int .i64 a1_1] 85 (0, 0)) tc4_) : gb109 ≠ gb102))
            have n12_ := am_ ((by rw [hg]; exact Nat.ne_of_lt (blk_lt (g := gb103) (o := .cells #[.int .i64 0, .int .i64 0] 85 (0, 0)) tc5_) : gb103 ≠ gb109))
            have n13_ := am_ ((by rw [hg]; exact Nat.ne_of_gt (blk_lt (g := gb103) (o := .cells #[.int .i64 0, .int .i64 0] 85 (0, 0)) tc5_) : gb109 ≠ gb103))
            have n14_ := am_ ((by rw [hg]; exact Nat.ne_of_lt (blk_lt (g := gb108) (o := .cells #[.int .i64 0, .int .i64 0] 85 (0, 0)) tc14_) : gb108 ≠ gb109))
            have n15_ := am_ ((by rw [hg]; exact Nat.ne_of_gt (blk_lt (g := gb108) (o := .cells #[.int .i64 0, .int .i64 0] 85 (0, 0)) tc14_) : gb109 ≠ gb108))
            clear BK101
            clear BK102
            clear BK103
            clear BK108
            clear HB
            have BK101 := n0_
            have BK102 := n1_
            have BK103 := n2_
            have BK108 := n3_
            have HB := n4_
            have BK109 := n5_
            have GW109 := n6_
            have GE109 := n7_
            have NB101_109 := n8_
            have NB109_101 := n9_
            have NB102_109 := n10_
            have NB109_102 := n11_
            have NB103_109 := n12_
            have NB109_103 := n13_
            have NB108_109 := n14_
            have NB109_108 := n15_
            clear n0_ n1_ n2_ n3_ n4_ n5_ n6_ n7_ n8_ n9_ n10_ n11_ n12_ n13_ n14_ n15_
            clear hb hbox hg
            refine hK.out _ _ ⟨(blk_cell BK101.out 0).trans rfl, (blk_cell BK101.out 1).trans rfl, (blk_cell BK102.out 0).trans rfl, (blk_cell BK102.out 1).trans rfl⟩ (fun hHeld => ?_)
            clear hK K
            refine norm_ (a' := ?_) ?_ ?_
            rotate_left
            ·show Act.put _ (some 6) _ = _
             simp only [Act.put, List.setIfInBounds_toArray, List.set_cons_zero, List.set_cons_succ, i64_w, i32_w]
             rfl
            exact norm_ tc9_ (hJ10_11 (gb108, gb109) _ ⟨hHeld, tc2_, tc4_, tc5_, tc14_, tc15_, GW108.out, GE108.out, NB101_108.out, NB108_101.out, NB102_108.out, NB108_102.out, NB103_108.out, NB108_103.out, NB109_108.out, NB108_109.out, GW109.out, GE109.out, NB101_109.out, NB109_101.out, NB102_109.out, NB109_102.out, NB103_109.out, NB109_103.out, tc22_⟩)
         ·skip
          rintro _ w10 ⟨hS_, h0_, h1_, h2_, h3_⟩
          have n0_ : Aside0 (w10.heap[gb101]? = some (.cells #[.int .i64 a0_0, .int .i64 a0_1] 85 (0, 0))) := ⟨h0_⟩
          have n1_ : Aside0 (w10.heap[gb102]? = some (.cells #[.int .i64 a1_0, .int .i64 a1_1] 85 (0, 0))) := ⟨h1_⟩
          have n2_ : Aside0 (w10.heap[gb103]? = some (.cells #[.int .i64 0, .int .i64 0] 85 (0, 0))) := ⟨h2_⟩
          have n3_ : Aside0 (Below w.heap.size w w10) := ⟨h3_⟩
          clear BK101
          clear BK102
          clear BK103
          clear HB
          clear h0_ h1_ h2_ h3_
          have BK101 := n0_
          have BK102 := n1_
          have BK103 := n2_
          have HB := n3_
          clear n0_ n1_ n2_ n3_
          have hHeld : w10.cell? ⟨gb101, 0, none⟩ = some (.int .i64 a0_0) ∧ w10.cell? ⟨gb101, 1, none⟩ = some (.int .i64 a0_1) ∧ w10.cell? ⟨gb102, 0, none⟩ = some (.int .i64 a1_0) ∧ w10.cell? ⟨gb102, 1, none⟩ = some (.int .i64 a1_1) := hS_
          refine norm_ (a' := ?_) ?_ ?_
          rotate_left
          ·simp only [putAll, Act.put, List.setIfInBounds_toArray, List.set_cons_zero, List.set_cons_succ]
           rfl
          refine three_ (i := 9) (j := 10) (k := 11) (Ni := some 16) (Nj := some 5) (Nk := some 6) #[true, true, true, true, true, true, true, true, true, true, false, false, false, false] #[true, true, true, true, true, true, true, true, true, false, true, false, false, false] #[true, true, true, true, true, true, true, true, true, false, false, true, false, false] rfl rfl rfl rfl rfl rfl (three_of HT_.out (by kernel_rfl)) (by decide) (by decide) (by decide) (fun K hK => ?_) (fun K hK => ?_) (fun K hK => ?_)
          ·skip
           refine goes_ Try.func122 (by kernel_rfl) rfl #[.int .i64 a1_0, .int .i64 a0_1] (by rfl) rfl rfl tc1_ ?_
           with_reducible refine (impl_ratio.calls k a1_0 a0_1 t106 t107 _ A4.out).mono ?_
           rintro e w11 ⟨rfl, hb⟩
           refine ⟨_, rfl, ?_⟩
           have n0_ := am_ (blk_below (g := gb101) (o := .cells #[.int .i64 a0_0, .int .i64 a0_1] 85 (0, 0)) tc2_ hb)
           have n1_ := am_ (blk_below (g := gb102) (o := .cells #[.int .i64 a1_0, .int .i64 a1_1] 85 (0, 0)) tc4_ hb)
           have n2_ := am_ (blk_below (g := gb103) (o := .cells #[.int .i64 0, .int .i64 0] 85 (0, 0)) tc5_ hb)
           have n3_ := am_ (below_step tc8_ hb)
           clear BK101
           clear BK102
           clear BK103
           clear HB
           have BK101 := n0_
           have BK102 := n1_
           have BK103 := n2_
           have HB := n3_
           clear n0_ n1_ n2_ n3_
           (try clear hb)
           (try clear hb2)
           (try clear hk)
           (try clear hi)
           refine hK.out _ _ ⟨(blk_cell BK101.out 0).trans rfl, (blk_cell BK101.out 1).trans rfl, (blk_cell BK102.out 0).trans rfl, (blk_cell BK102.out 1).trans rfl⟩ (fun hHeld => ?_)
           clear hK K
           refine norm_ (a' := ?_) ?_ ?_
           rotate_left
           ·show Act.put _ (some 16) _ = _
            simp only [Act.put, List.setIfInBounds_toArray, List.set_cons_zero, List.set_cons_succ, i64_w, i32_w]
            rfl
           exact norm_ tc9_ (hJ4_9 () _ ⟨hHeld, tc2_, tc4_, tc5_, tc8_⟩)
          ·skip
           refine box_step ?hg (N := 5) ?hd (cs := #[.int .i64 0, .int .i64 0]) (t := 85) ?hr ?_; (case hd => rfl); (case hg => rfl); (case hr => exact tc19_)
           intro gb108 hg w11 hbox hb
           have n0_ := am_ (blk_below (g := gb101) (o := .cells #[.int .i64 a0_0, .int .i64 a0_1] 85 (0, 0)) tc2_ hb)
           have n1_ := am_ (blk_below (g := gb102) (o := .cells #[.int .i64 a1_0, .int .i64 a1_1] 85 (0, 0)) tc4_ hb)
           have n2_ := am_ (blk_below (g := gb103) (o := .cells #[.int .i64 0, .int .i64 0] 85 (0, 0)) tc5_ hb)
           have n3_ := am_ (below_step tc8_ hb)
           have n4_ := am_ (hbox)
           have n5_ := am_ ((by rw [hg]; exact (below_size tc8_) : w.heap.size ≤ gb108))
           have n6_ := am_ ((by rw [hg]; exact (below_size tc8_) : w.heap.size ≤ gb108))
           have n7_ := am_ ((by rw [hg]; exact Nat.ne_of_lt (blk_lt (g := gb101) (o := .cells #[.int .i64 a0_0, .int .i64 a0_1] 85 (0, 0)) tc2_) : gb101 ≠ gb108))
           have n8_ := am_ ((by rw [hg]; exact Nat.ne_of_gt (blk_lt (g := gb101) (o := .cells #[.int .i64 a0_0, .int .i64 a0_1] 85 (0, 0)) tc2_) : gb108 ≠ gb101))
           have n9_ := am_ ((by rw [hg]; exact Nat.ne_of_lt (blk_lt (g := gb102) (o := .cells #[.int .i64 a1_0, .int .i64 a1_1] 85 (0, 0)) tc4_) : gb102 ≠ gb108))
           have n10_ := am_ ((by rw [hg]; exact Nat.ne_of_gt (blk_lt (g := gb102) (o := .cells #[.int .i64 a1_0, .int .i64 a1_1] 85 (0, 0)) tc4_) : gb108 ≠ gb102))
           have n11_ := am_ ((by rw [hg]; exact Nat.ne_of_lt (blk_lt (g := gb103) (o := .cells #[.int .i64 0, .int .i64 0] 85 (0, 0)) tc5_) : gb103 ≠ gb108))
           have n12_ := am_ ((by rw [hg]; exact Nat.ne_of_gt (blk_lt (g := gb103) (o := .cells #[.int .i64 0, .int .i64 0] 85 (0, 0)) tc5_) : gb108 ≠ gb103))
           clear BK101
           clear BK102
           clear BK103
           clear HB
           have BK101 := n0_
           have BK102 := n1_
           have BK103 := n2_
           have HB := n3_
           have BK108 := n4_
           have GW108 := n5_
           have GE108 := n6_
           have NB101_108 := n7_
           have NB108_101 := n8_
           have NB102_108 := n9_
           have NB108_102 := n10_
           have NB103_108 := n11_
           have NB108_103 := n12_
           clear n0_ n1_ n2_ n3_ n4_ n5_ n6_ n7_ n8_ n9_ n10_ n11_ n12_
           clear hb hbox hg
           refine hK.out _ _ ⟨(blk_cell BK101.out 0).trans rfl, (blk_cell BK101.out 1).trans rfl, (blk_cell BK102.out 0).trans rfl, (blk_cell BK102.out 1).trans rfl⟩ (fun hHeld => ?_)
           clear hK K
           refine norm_ (a' := ?_) ?_ ?_
           rotate_left
           ·show Act.put _ (some 5) _ = _
            simp only [Act.put, List.setIfInBounds_toArray, List.set_cons_zero, List.set_cons_succ, i64_w, i32_w]
            rfl
           exact norm_ tc9_ (hJ4_10 (gb108) _ ⟨hHeld, tc2_, tc4_, tc5_, tc14_, GW108.out, GE108.out, NB101_108.out, NB108_101.out, NB102_108.out, NB108_102.out, NB103_108.out, NB108_103.out, tc10_⟩)
          ·skip
           refine box_step ?hg (N := 6) ?hd (cs := #[.int .i64 0, .int .i64 0]) (t := 85) ?hr ?_; (case hd => rfl); (case hg => rfl); (case hr => exact tc19_)
           intro gb109 hg w11 hbox hb
           have n0_ := am_ (blk_below (g := gb101) (o := .cells #[.int .i64 a0_0, .int .i64 a0_1] 85 (0, 0)) tc2_ hb)
           have n1_ := am_ (blk_below (g := gb102) (o := .cells #[.int .i64 a1_0, .int .i64 a1_1] 85 (0, 0)) tc4_ hb)
           have n2_ := am_ (blk_below (g := gb103) (o := .cells #[.int .i64 0, .int .i64 0] 85 (0, 0)) tc5_ hb)
           have n3_ := am_ (below_step tc8_ hb)
           have n4_ := am_ (hbox)
           have n5_ := am_ ((by rw [hg]; exact (below_size tc8_) : w.heap.size ≤ gb109))
           have n6_ := am_ ((by rw [hg]; exact (below_size tc8_) : w.heap.size ≤ gb109))
           have n7_ := am_ ((by rw [hg]; exact Nat.ne_of_lt (blk_lt (g := gb101) (o := .cells #[.int .i64 a0_0, .int .i64 a0_1] 85 (0, 0)) tc2_) : gb101 ≠ gb109))
           have n8_ := am_ ((by rw [hg]; exact Nat.ne_of_gt (blk_lt (g := gb101) (o := .cells #[.int .i64 a0_0, .int .i64 a0_1] 85 (0, 0)) tc2_) : gb109 ≠ gb101))
           have n9_ := am_ ((by rw [hg]; exact Nat.ne_of_lt (blk_lt (g := gb102) (o := .cells #[.int .i64 a1_0, .int .i64 a1_1] 85 (0, 0)) tc4_) : gb102 ≠ gb109))
           have n10_ := am_ ((by rw [hg]; exact Nat.ne_of_gt (blk_lt (g := gb102) (o := .cells #[.int .i64 a1_0, .int .i64 a1_1] 85 (0, 0)) tc4_) : gb109 ≠ gb102))
           have n11_ := am_ ((by rw [hg]; exact Nat.ne_of_lt (blk_lt (g := gb103) (o := .cells #[.int .i64 0, .int .i64 0] 85 (0, 0)) tc5_) : gb103 ≠ gb109))
           have n12_ := am_ ((by rw [hg]; exact Nat.ne_of_gt (blk_lt (g := gb103) (o := .cells #[.int .i64 0, .int .i64 0] 85 (0, 0)) tc5_) : gb109 ≠ gb103))
           clear BK101
           clear BK102
           clear BK103
           clear HB
           have BK101 := n0_
           have BK102 := n1_
           have BK103 := n2_
           have HB := n3_
           have BK109 := n4_
           have GW109 := n5_
           have GE109 := n6_
           have NB101_109 := n7_
           have NB109_101 := n8_
           have NB102_109 := n9_
           have NB109_102 := n10_
           have NB103_109 := n11_
           have NB109_103 := n12_
           clear n0_ n1_ n2_ n3_ n4_ n5_ n6_ n7_ n8_ n9_ n10_ n11_ n12_
           clear hb hbox hg
           refine hK.out _ _ ⟨(blk_cell BK101.out 0).trans rfl, (blk_cell BK101.out 1).trans rfl, (blk_cell BK102.out 0).trans rfl, (blk_cell BK102.out 1).trans rfl⟩ (fun hHeld => ?_)
           clear hK K
           refine norm_ (a' := ?_) ?_ ?_
           rotate_left
           ·show Act.put _ (some 6) _ = _
            simp only [Act.put, List.setIfInBounds_toArray, List.set_cons_zero, List.set_cons_succ, i64_w, i32_w]
            rfl
           exact norm_ tc9_ (hJ4_11 (gb109) _ ⟨hHeld, tc2_, tc4_, tc5_, tc15_, GW109.out, GE109.out, NB101_109.out, NB109_101.out, NB102_109.out, NB109_102.out, NB103_109.out, NB109_103.out, tc11_⟩)
        ·skip
         rintro ⟨gb108, gb109⟩ w11 ⟨hS_, h0_, h1_, h2_, h3_, h4_, h5_, h6_, h7_, h8_, h9_, h10_, h11_, h12_, h13_, h14_, h15_, h16_, h17_, h18_, h19_, h20_, h21_, h22_, h23_⟩
         have n0_ : Aside0 (w11.heap[gb101]? = some (.cells #[.int .i64 a0_0, .int .i64 a0_1] 85 (0, 0))) := ⟨h0_⟩
         have n1_ : Aside0 (w11.heap[gb102]? = some (.cells #[.int .i64 a1_0, .int .i64 a1_1] 85 (0, 0))) := ⟨h1_⟩
         have n2_ : Aside0 (w11.heap[gb103]? = some (.cells #[.int .i64 0, .int .i64 0] 85 (0, 0))) := ⟨h2_⟩
         have n3_ : Aside0 (w11.heap[gb108]? = some (.cells #[.int .i64 0, .int .i64 0] 85 (0, 0))) := ⟨h3_⟩
         have n4_ : Aside0 (w11.heap[gb109]? = some (.cells #[.int .i64 0, .int .i64 0] 85 (0, 0))) := ⟨h4_⟩
         have n5_ : Aside0 (w.heap.size ≤ gb108) := ⟨h5_⟩
         have n6_ : Aside0 (w.heap.size ≤ gb108) := ⟨h6_⟩
         have n7_ : Aside0 (gb101 ≠ gb108) := ⟨h7_⟩
         have n8_ : Aside0 (gb108 ≠ gb101) := ⟨h8_⟩
         have n9_ : Aside0 (gb102 ≠ gb108) := ⟨h9_⟩
         have n10_ : Aside0 (gb108 ≠ gb102) := ⟨h10_⟩
         have n11_ : Aside0 (gb103 ≠ gb108) := ⟨h11_⟩
         have n12_ : Aside0 (gb108 ≠ gb103) := ⟨h12_⟩
         have n13_ : Aside0 (gb109 ≠ gb108) := ⟨h13_⟩
         have n14_ : Aside0 (gb108 ≠ gb109) := ⟨h14_⟩
         have n15_ : Aside0 (w.heap.size ≤ gb109) := ⟨h15_⟩
         have n16_ : Aside0 (w.heap.size ≤ gb109) := ⟨h16_⟩
         have n17_ : Aside0 (gb101 ≠ gb109) := ⟨h17_⟩
         have n18_ : Aside0 (gb109 ≠ gb101) := ⟨h18_⟩
         have n19_ : Aside0 (gb102 ≠ gb109) := ⟨h19_⟩
         have n20_ : Aside0 (gb109 ≠ gb102) := ⟨h20_⟩
         have n21_ : Aside0 (gb103 ≠ gb109) := ⟨h21_⟩
         have n22_ : Aside0 (gb109 ≠ gb103) := ⟨h22_⟩
         have n23_ : Aside0 (Below w.heap.size w w11) := ⟨h23_⟩
         clear BK101
         clear BK102
         clear BK103
         clear HB
         clear h0_ h1_ h2_ h3_ h4_ h5_ h6_ h7_ h8_ h9_ h10_ h11_ h12_ h13_ h14_ h15_ h16_ h17_ h18_ h19_ h20_ h21_ h22_ h23_
         have BK101 := n0_
         have BK102 := n1_
         have BK103 := n2_
         have BK108 := n3_
         have BK109 := n4_
         have GW108 := n5_
         have GE108 := n6_
         have NB101_108 := n7_
         have NB108_101 := n8_
         have NB102_108 := n9_
         have NB108_102 := n10_
         have NB103_108 := n11_
         have NB108_103 := n12_
         have NB109_108 := n13_
         have NB108_109 := n14_
         have GW109 := n15_
         have GE109 := n16_
         have NB101_109 := n17_
         have NB109_101 := n18_
         have NB102_109 := n19_
         have NB109_102 := n20_
         have NB103_109 := n21_
         have NB109_103 := n22_
         have HB := n23_
         clear n0_ n1_ n2_ n3_ n4_ n5_ n6_ n7_ n8_ n9_ n10_ n11_ n12_ n13_ n14_ n15_ n16_ n17_ n18_ n19_ n20_ n21_ n22_ n23_
         have hHeld : w11.cell? ⟨gb101, 0, none⟩ = some (.int .i64 a0_0) ∧ w11.cell? ⟨gb101, 1, none⟩ = some (.int .i64 a0_1) ∧ w11.cell? ⟨gb102, 0, none⟩ = some (.int .i64 a1_0) ∧ w11.cell? ⟨gb102, 1, none⟩ = some (.int .i64 a1_1) := hS_
         refine norm_ (a' := ?_) ?_ ?_
         rotate_left
         ·simp only [putAll, Act.put, List.setIfInBounds_toArray, List.set_cons_zero, List.set_cons_succ]
          rfl
         refine one_ (i := 4) (N := some 11) #[true, true, true, true, true, true, true, true, true, false, true, true, false, false] rfl rfl (one_of HT_.out (by kernel_rfl)) (by decide) (fun K hK => ?_)
         refine goes_ Try.func122 (by kernel_rfl) rfl #[.int .i64 a0_0, .int .i64 a1_1] (by rfl) rfl rfl tc1_ ?_
         with_reducible refine (impl_ratio.calls k a0_0 a1_1 t104 t105 _ A3.out).mono ?_
         rintro e w12 ⟨rfl, hb⟩
         refine ⟨_, rfl, ?_⟩
         have n0_ := am_ (blk_below (g := gb101) (o := .cells #[.int .i64 a0_0, .int .i64 a0_1] 85 (0, 0)) tc2_ hb)
         have n1_ := am_ (blk_below (g := gb102) (o := .cells #[.int .i64 a1_0, .int .i64 a1_1] 85 (0, 0)) tc4_ hb)
         have n2_ := am_ (blk_below (g := gb103) (o := .cells #[.int .i64 0, .int .i64 0] 85 (0, 0)) tc5_ hb)
         have n3_ := am_ (blk_below (g := gb108) (o := .cells #[.int .i64 0, .int .i64 0] 85 (0, 0)) tc14_ hb)
         have n4_ := am_ (blk_below (g := gb109) (o := .cells #[.int .i64 0, .int .i64 0] 85 (0, 0)) tc15_ hb)
         have n5_ := am_ (below_step tc22_ hb)
         clear BK101
         clear BK102
         clear BK103
         clear BK108
         clear BK109
         clear HB
         have BK101 := n0_
         have BK102 := n1_
         have BK103 := n2_
         have BK108 := n3_
         have BK109 := n4_
         have HB := n5_
         clear n0_ n1_ n2_ n3_ n4_ n5_
         (try clear hb)
         (try clear hb2)
         (try clear hk)
         (try clear hi)
         refine hK.out _ _ ⟨(blk_cell BK101.out 0).trans rfl, (blk_cell BK101.out 1).trans rfl, (blk_cell BK102.out 0).trans rfl, (blk_cell BK102.out 1).trans rfl⟩ (fun hHeld => ?_)
         clear hK K
         refine norm_ (a' := ?_) ?_ ?_
         rotate_left
         ·show Act.put _ (some 11) _ = _
          simp only [Act.put, List.setIfInBounds_toArray, List.set_cons_zero, List.set_cons_succ, i64_w, i32_w]
          rfl
         exact norm_ tc9_ (hJ4_10_11 (gb108, gb109) _ ⟨hHeld, tc2_, tc4_, tc5_, tc14_, tc15_, GW108.out, GE108.out, NB101_108.out, NB108_101.out, NB102_108.out, NB108_102.out, NB103_108.out, NB108_103.out, NB109_108.out, NB108_109.out, GW109.out, GE109.out, NB101_109.out, NB109_101.out, NB102_109.out, NB109_102.out, NB103_109.out, NB109_103.out, tc22_⟩)
       ·skip
        rintro gb109 w11 ⟨hS_, h0_, h1_, h2_, h3_, h4_, h5_, h6_, h7_, h8_, h9_, h10_, h11_, h12_⟩
        have n0_ : Aside0 (w11.heap[gb101]? = some (.cells #[.int .i64 a0_0, .int .i64 a0_1] 85 (0, 0))) := ⟨h0_⟩
        have n1_ : Aside0 (w11.heap[gb102]? = some (.cells #[.int .i64 a1_0, .int .i64 a1_1] 85 (0, 0))) := ⟨h1_⟩
        have n2_ : Aside0 (w11.heap[gb103]? = some (.cells #[.int .i64 0, .int .i64 0] 85 (0, 0))) := ⟨h2_⟩
        have n3_ : Aside0 (w11.heap[gb109]? = some (.cells #[.int .i64 0, .int .i64 0] 85 (0, 0))) := ⟨h3_⟩
        have n4_ : Aside0 (w.heap.size ≤ gb109) := ⟨h4_⟩
        have n5_ : Aside0 (w.heap.size ≤ gb109) := ⟨h5_⟩
        have n6_ : Aside0 (gb101 ≠ gb109) := ⟨h6_⟩
        have n7_ : Aside0 (gb109 ≠ gb101) := ⟨h7_⟩
        have n8_ : Aside0 (gb102 ≠ gb109) := ⟨h8_⟩
        have n9_ : Aside0 (gb109 ≠ gb102) := ⟨h9_⟩
        have n10_ : Aside0 (gb103 ≠ gb109) := ⟨h10_⟩
        have n11_ : Aside0 (gb109 ≠ gb103) := ⟨h11_⟩
        have n12_ : Aside0 (Below w.heap.size w w11) := ⟨h12_⟩
        clear BK101
        clear BK102
        clear BK103
        clear HB
        clear h0_ h1_ h2_ h3_ h4_ h5_ h6_ h7_ h8_ h9_ h10_ h11_ h12_
        have BK101 := n0_
        have BK102 := n1_
        have BK103 := n2_
        have BK109 := n3_
        have GW109 := n4_
        have GE109 := n5_
        have NB101_109 := n6_
        have NB109_101 := n7_
        have NB102_109 := n8_
        have NB109_102 := n9_
        have NB103_109 := n10_
        have NB109_103 := n11_
        have HB := n12_
        clear n0_ n1_ n2_ n3_ n4_ n5_ n6_ n7_ n8_ n9_ n10_ n11_ n12_
        have hHeld : w11.cell? ⟨gb101, 0, none⟩ = some (.int .i64 a0_0) ∧ w11.cell? ⟨gb101, 1, none⟩ = some (.int .i64 a0_1) ∧ w11.cell? ⟨gb102, 0, none⟩ = some (.int .i64 a1_0) ∧ w11.cell? ⟨gb102, 1, none⟩ = some (.int .i64 a1_1) := hS_
        refine norm_ (a' := ?_) ?_ ?_
        rotate_left
        ·simp only [putAll, Act.put, List.setIfInBounds_toArray, List.set_cons_zero, List.set_cons_succ]
         rfl
        refine two_ (i := 9) (j := 10) (Ni := some 16) (Nj := some 5) #[true, true, true, true, true, true, true, true, true, true, false, true, false, false] #[true, true, true, true, true, true, true, true, true, false, true, true, false, false] rfl rfl rfl rfl (two_of HT_.out (by kernel_rfl)) (by decide) (by decide) (fun K hK => ?_) (fun K hK => ?_)
        ·skip
         refine goes_ Try.func122 (by kernel_rfl) rfl #[.int .i64 a1_0, .int .i64 a0_1] (by rfl) rfl rfl tc1_ ?_
         with_reducible refine (impl_ratio.calls k a1_0 a0_1 t106 t107 _ A4.out).mono ?_
         rintro e w12 ⟨rfl, hb⟩
         refine ⟨_, rfl, ?_⟩
         have n0_ := am_ (blk_below (g := gb101) (o := .cells #[.int .i64 a0_0, .int .i64 a0_1] 85 (0, 0)) tc2_ hb)
         have n1_ := am_ (blk_below (g := gb102) (o := .cells #[.int .i64 a1_0, .int .i64 a1_1] 85 (0, 0)) tc4_ hb)
         have n2_ := am_ (blk_below (g := gb103) (o := .cells #[.int .i64 0, .int .i64 0] 85 (0, 0)) tc5_ hb)
         have n3_ := am_ (blk_below (g := gb109) (o := .cells #[.int .i64 0, .int .i64 0] 85 (0, 0)) tc15_ hb)
         have n4_ := am_ (below_step tc11_ hb)
         clear BK101
         clear BK102
         clear BK103
         clear BK109
         clear HB
         have BK101 := n0_
         have BK102 := n1_
         have BK103 := n2_
         have BK109 := n3_
         have HB := n4_
         clear n0_ n1_ n2_ n3_ n4_
         (try clear hb)
         (try clear hb2)
         (try clear hk)
         (try clear hi)
         refine hK.out _ _ ⟨(blk_cell BK101.out 0).trans rfl, (blk_cell BK101.out 1).trans rfl, (blk_cell BK102.out 0).trans rfl, (blk_cell BK102.out 1).trans rfl⟩ (fun hHeld => ?_)
         clear hK K
         refine norm_ (a' := ?_) ?_ ?_
         rotate_left
         ·show Act.put _ (some 16) _ = _
          simp only [Act.put, List.setIfInBounds_toArray, List.set_cons_zero, List.set_cons_succ, i64_w, i32_w]
          rfl
         exact norm_ tc9_ (hJ4_9_11 (gb109) _ ⟨hHeld, tc2_, tc4_, tc5_, tc15_, GW109.out, GE109.out, NB101_109.out, NB109_101.out, NB102_109.out, NB109_102.out, NB103_109.out, NB109_103.out, tc11_⟩)
        ·skip
         refine box_step ?hg (N := 5) ?hd (cs := #[.int .i64 0, .int .i64 0]) (t := 85) ?hr ?_; (case hd => rfl); (case hg => rfl); (case hr => exact tc19_)
         intro gb108 hg w12 hbox hb
         have n0_ := am_ (blk_below (g := gb101) (o := .cells #[.int .i64 a0_0, .int .i64 a0_1] 85 (0, 0)) tc2_ hb)
         have n1_ := am_ (blk_below (g := gb102) (o := .cells #[.int .i64 a1_0, .int .i64 a1_1] 85 (0, 0)) tc4_ hb)
         have n2_ := am_ (blk_below (g := gb103) (o := .cells #[.int .i64 0, .int .i64 0] 85 (0, 0)) tc5_ hb)
         have n3_ := am_ (blk_below (g := gb109) (o := .cells #[.int .i64 0, .int .i64 0] 85 (0, 0)) tc15_ hb)
         have n4_ := am_ (below_step tc11_ hb)
         have n5_ := am_ (hbox)
         have n6_ := am_ ((by rw [hg]; exact (below_size tc11_) : w.heap.size ≤ gb108))
         have n7_ := am_ ((by rw [hg]; exact (below_size tc11_) : w.heap.size ≤ gb108))
         have n8_ := am_ ((by rw [hg]; exact Nat.ne_of_lt (blk_lt (g := gb101) (o := .cells #[.int .i64 a0_0, .int .i64 a0_1] 85 (0, 0)) tc2_) : gb101 ≠ gb108))
         have n9_ := am_ ((by rw [hg]; exact Nat.ne_of_gt (blk_lt (g := gb101) (o := .cells #[.int .i64 a0_0, .int .i64 a0_1] 85 (0, 0)) tc2_) : gb108 ≠ gb101))
         have n10_ := am_ ((by rw [hg]; exact Nat.ne_of_lt (blk_lt (g := gb102) (o := .cells #[.int .i64 a1_0, .int .i64 a1_1] 85 (0, 0)) tc4_) : gb102 ≠ gb108))
         have n11_ := am_ ((by rw [hg]; exact Nat.ne_of_gt (blk_lt (g := gb102) (o := .cells #[.int .i64 a1_0, .int .i64 a1_1] 85 (0, 0)) tc4_) : gb108 ≠ gb102))
         have n12_ := am_ ((by rw [hg]; exact Nat.ne_of_lt (blk_lt (g := gb103) (o := .cells #[.int .i64 0, .int .i64 0] 85 (0, 0)) tc5_) : gb103 ≠ gb108))
         have n13_ := am_ ((by rw [hg]; exact Nat.ne_of_gt (blk_lt (g := gb103) (o := .cells #[.int .i64 0, .int .i64 0] 85 (0, 0)) tc5_) : gb108 ≠ gb103))
         have n14_ := am_ ((by rw [hg]; exact Nat.ne_of_lt (blk_lt (g := gb109) (o := .cells #[.int .i64 0, .int .i64 0] 85 (0, 0)) tc15_) : gb109 ≠ gb108))
         have n15_ := am_ ((by rw [hg]; exact Nat.ne_of_gt (blk_lt (g := gb109) (o := .cells #[.int .i64 0, .int .i64 0] 85 (0, 0)) tc15_) : gb108 ≠ gb109))
         clear BK101
         clear BK102
         clear BK103
         clear BK109
         clear HB
         have BK101 := n0_
         have BK102 := n1_
         have BK103 := n2_
         have BK109 := n3_
         have HB := n4_
         have BK108 := n5_
         have GW108 := n6_
         have GE108 := n7_
         have NB101_108 := n8_
         have NB108_101 := n9_
         have NB102_108 := n10_
         have NB108_102 := n11_
         have NB103_108 := n12_
         have NB108_103 := n13_
         have NB109_108 := n14_
         have NB108_109 := n15_
         clear n0_ n1_ n2_ n3_ n4_ n5_ n6_ n7_ n8_ n9_ n10_ n11_ n12_ n13_ n14_ n15_
         clear hb hbox hg
         refine hK.out _ _ ⟨(blk_cell BK101.out 0).trans rfl, (blk_cell BK101.out 1).trans rfl, (blk_cell BK102.out 0).trans rfl, (blk_cell BK102.out 1).trans rfl⟩ (fun hHeld => ?_)
         clear hK K
         refine norm_ (a' := ?_) ?_ ?_
         rotate_left
         ·show Act.put _ (some 5) _ = _
          simp only [Act.put, List.setIfInBounds_toArray, List.set_cons_zero, List.set_cons_succ, i64_w, i32_w]
          rfl
         exact norm_ tc9_ (hJ4_10_11 (gb108, gb109) _ ⟨hHeld, tc2_, tc4_, tc5_, tc14_, tc15_, GW108.out, GE108.out, NB101_108.out, NB108_101.out, NB102_108.out, NB108_102.out, NB103_108.out, NB108_103.out, NB109_108.out, NB108_109.out, GW109.out, GE109.out, NB101_109.out, NB109_101.out, NB102_109.out, NB109_102.out, NB103_109.out, NB109_103.out, tc45_⟩)
      ·skip
       rintro gb108 w11 ⟨hS_, h0_, h1_, h2_, h3_, h4_, h5_, h6_, h7_, h8_, h9_, h10_, h11_, h12_⟩
       have n0_ : Aside0 (w11.heap[gb101]? = some (.cells #[.int .i64 a0_0, .int .i64 a0_1] 85 (0, 0))) := ⟨h0_⟩
       have n1_ : Aside0 (w11.heap[gb102]? = some (.cells #[.int .i64 a1_0, .int .i64 a1_1] 85 (0, 0))) := ⟨h1_⟩
       have n2_ : Aside0 (w11.heap[gb103]? = some (.cells #[.int .i64 0, .int .i64 0] 85 (0, 0))) := ⟨h2_⟩
       have n3_ : Aside0 (w11.heap[gb108]? = some (.cells #[.int .i64 0, .int .i64 0] 85 (0, 0))) := ⟨h3_⟩
       have n4_ : Aside0 (w.heap.size ≤ gb108) := ⟨h4_⟩
       have n5_ : Aside0 (w.heap.size ≤ gb108) := ⟨h5_⟩
       have n6_ : Aside0 (gb101 ≠ gb108) := ⟨h6_⟩
       have n7_ : Aside0 (gb108 ≠ gb101) := ⟨h7_⟩
       have n8_ : Aside0 (gb102 ≠ gb108) := ⟨h8_⟩
       have n9_ : Aside0 (gb108 ≠ gb102) := ⟨h9_⟩
       have n10_ : Aside0 (gb103 ≠ gb108) := ⟨h10_⟩
       have n11_ : Aside0 (gb108 ≠ gb103) := ⟨h11_⟩
       have n12_ : Aside0 (Below w.heap.size w w11) := ⟨h12_⟩
       clear BK101
       clear BK102
       clear BK103
       clear HB
       clear h0_ h1_ h2_ h3_ h4_ h5_ h6_ h7_ h8_ h9_ h10_ h11_ h12_
       have BK101 := n0_
       have BK102 := n1_
       have BK103 := n2_
       have BK108 := n3_
       have GW108 := n4_
       have GE108 := n5_
       have NB101_108 := n6_
       have NB108_101 := n7_
       have NB102_108 := n8_
       have NB108_102 := n9_
       have NB103_108 := n10_
       have NB108_103 := n11_
       have HB := n12_
       clear n0_ n1_ n2_ n3_ n4_ n5_ n6_ n7_ n8_ n9_ n10_ n11_ n12_
       have hHeld : w11.cell? ⟨gb101, 0, none⟩ = some (.int .i64 a0_0) ∧ w11.cell? ⟨gb101, 1, none⟩ = some (.int .i64 a0_1) ∧ w11.cell? ⟨gb102, 0, none⟩ = some (.int .i64 a1_0) ∧ w11.cell? ⟨gb102, 1, none⟩ = some (.int .i64 a1_1) := hS_
       refine norm_ (a' := ?_) ?_ ?_
       rotate_left
       ·simp only [putAll, Act.put, List.setIfInBounds_toArray, List.set_cons_zero, List.set_cons_succ]
        rfl
       refine two_ (i := 9) (j := 11) (Ni := some 16) (Nj := some 6) #[true, true, true, true, true, true, true, true, true, true, true, false, false, false] #[true, true, true, true, true, true, true, true, true, false, true, true, false, false] rfl rfl rfl rfl (two_of HT_.out (by kernel_rfl)) (by decide) (by decide) (fun K hK => ?_) (fun K hK => ?_)
       ·skip
        refine goes_ Try.func122 (by kernel_rfl) rfl #[.int .i64 a1_0, .int .i64 a0_1] (by rfl) rfl rfl tc1_ ?_
        with_reducible refine (impl_ratio.calls k a1_0 a0_1 t106 t107 _ A4.out).mono ?_
        rintro e w12 ⟨rfl, hb⟩
        refine ⟨_, rfl, ?_⟩
        have n0_ := am_ (blk_below (g := gb101) (o := .cells #[.int .i64 a0_0, .int .i64 a0_1] 85 (0, 0)) tc2_ hb)
        have n1_ := am_ (blk_below (g := gb102) (o := .cells #[.int .i64 a1_0, .int .i64 a1_1] 85 (0, 0)) tc4_ hb)
        have n2_ := am_ (blk_below (g := gb103) (o := .cells #[.int .i64 0, .int .i64 0] 85 (0, 0)) tc5_ hb)
        have n3_ := am_ (blk_below (g := gb108) (o := .cells #[.int .i64 0, .int .i64 0] 85 (0, 0)) tc14_ hb)
        have n4_ := am_ (below_step tc10_ hb)
        clear BK101
        clear BK102
        clear BK103
        clear BK108
        clear HB
        have BK101 := n0_
        have BK102 := n1_
        have BK103 := n2_
        have BK108 := n3_
        have HB := n4_
        clear n0_ n1_ n2_ n3_ n4_
        (try clear hb)
        (try clear hb2)
        (try clear hk)
        (try clear hi)
        refine hK.out _ _ ⟨(blk_cell BK101.out 0).trans rfl, (blk_cell BK101.out 1).trans rfl, (blk_cell BK102.out 0).trans rfl, (blk_cell BK102.out 1).trans rfl⟩ (fun hHeld => ?_)
        clear hK K
        refine norm_ (a' := ?_) ?_ ?_
        rotate_left
        ·show Act.put _ (some 16) _ = _
         simp only [Act.put, List.setIfInBounds_toArray, List.set_cons_zero, List.set_cons_succ, i64_w, i32_w]
         rfl
        exact norm_ tc9_ (hJ4_9_10 (gb108) _ ⟨hHeld, tc2_, tc4_, tc5_, tc14_, GW108.out, GE108.out, NB101_108.out, NB108_101.out, NB102_108.out, NB108_102.out, NB103_108.out, NB108_103.out, tc10_⟩)
       ·skip
        refine box_step ?hg (N := 6) ?hd (cs := #[.int .i64 0, .int .i64 0]) (t := 85) ?hr ?_; (case hd => rfl); (case hg => rfl); (case hr => exact tc19_)
        intro gb109 hg w12 hbox hb
        have n0_ := am_ (blk_below (g := gb101) (o := .cells #[.int .i64 a0_0, .int .i64 a0_1] 85 (0, 0)) tc2_ hb)
        have n1_ := am_ (blk_below (g := gb102) (o := .cells #[.int .i64 a1_0, .int .i64 a1_1] 85 (0, 0)) tc4_ hb)
        have n2_ := am_ (blk_below (g := gb103) (o := .cells #[.int .i64 0, .int .i64 0] 85 (0, 0)) tc5_ hb)
        have n3_ := am_ (blk_below (g := gb108) (o := .cells #[.int .i64 0, .int .i64 0] 85 (0, 0)) tc14_ hb)
        have n4_ := am_ (below_step tc10_ hb)
        have n5_ := am_ (hbox)
        have n6_ := am_ ((by rw [hg]; exact (below_size tc10_) : w.heap.size ≤ gb109))
        have n7_ := am_ ((by rw [hg]; exact (below_size tc10_) : w.heap.size ≤ gb109))
        have n8_ := am_ ((by rw [hg]; exact Nat.ne_of_lt (blk_lt (g := gb101) (o := .cells #[.int .i64 a0_0, .int .i64 a0_1] 85 (0, 0)) tc2_) : gb101 ≠ gb109))
        have n9_ := am_ ((by rw [hg]; exact Nat.ne_of_gt (blk_lt (g := gb101) (o := .cells #[.int .i64 a0_0, .int .i64 a0_1] 85 (0, 0)) tc2_) : gb109 ≠ gb101))
        have n10_ := am_ ((by rw [hg]; exact Nat.ne_of_lt (blk_lt (g := gb102) (o := .cells #[.int .i64 a1_0, .int .i64 a1_1] 85 (0, 0)) tc4_) : gb102 ≠ gb109))
        have n11_ := am_ ((by rw [hg]; exact Nat.ne_of_gt (blk_lt (g := gb102) (o := .cells #[.int .i64 a1_0, .int .i64 a1_1] 85 (0, 0)) tc4_) : gb109 ≠ gb102))
        have n12_ := am_ ((by rw [hg]; exact Nat.ne_of_lt (blk_lt (g := gb103) (o := .cells #[.int .i64 0, .int .i64 0] 85 (0, 0)) tc5_) : gb103 ≠ gb109))
        have n13_ := am_ ((by rw [hg]; exact Nat.ne_of_gt (blk_lt (g := gb103) (o := .cells #[.int .i64 0, .int .i64 0] 85 (0, 0)) tc5_) : gb109 ≠ gb103))
        have n14_ := am_ ((by rw [hg]; exact Nat.ne_of_lt (blk_lt (g := gb108) (o := .cells #[.int .i64 0, .int .i64 0] 85 (0, 0)) tc14_) : gb108 ≠ gb109))
        have n15_ := am_ ((by rw [hg]; exact Nat.ne_of_gt (blk_lt (g := gb108) (o := .cells #[.int .i64 0, .int .i64 0] 85 (0, 0)) tc14_) : gb109 ≠ gb108))
        clear BK101
        clear BK102
        clear BK103
        clear BK108
        clear HB
        have BK101 := n0_
        have BK102 := n1_
        have BK103 := n2_
        have BK108 := n3_
        have HB := n4_
        have BK109 := n5_
        have GW109 := n6_
        have GE109 := n7_
        have NB101_109 := n8_
        have NB109_101 := n9_
        have NB102_109 := n10_
        have NB109_102 := n11_
        have NB103_109 := n12_
        have NB109_103 := n13_
        have NB108_109 := n14_
        have NB109_108 := n15_
        clear n0_ n1_ n2_ n3_ n4_ n5_ n6_ n7_ n8_ n9_ n10_ n11_ n12_ n13_ n14_ n15_
        clear hb hbox hg
        refine hK.out _ _ ⟨(blk_cell BK101.out 0).trans rfl, (blk_cell BK101.out 1).trans rfl, (blk_cell BK102.out 0).trans rfl, (blk_cell BK102.out 1).trans rfl⟩ (fun hHeld => ?_)
        clear hK K
        refine norm_ (a' := ?_) ?_ ?_
        rotate_left
        ·show Act.put _ (some 6) _ = _
         simp only [Act.put, List.setIfInBounds_toArray, List.set_cons_zero, List.set_cons_succ, i64_w, i32_w]
         rfl
        exact norm_ tc9_ (hJ4_10_11 (gb108, gb109) _ ⟨hHeld, tc2_, tc4_, tc5_, tc14_, tc15_, GW108.out, GE108.out, NB101_108.out, NB108_101.out, NB102_108.out, NB108_102.out, NB103_108.out, NB108_103.out, NB109_108.out, NB108_109.out, GW109.out, GE109.out, NB101_109.out, NB109_101.out, NB102_109.out, NB109_102.out, NB103_109.out, NB109_103.out, tc22_⟩)
     ·skip
      rintro _ w11 ⟨hS_, h0_, h1_, h2_, h3_⟩
      have n0_ : Aside0 (w11.heap[gb101]? = some (.cells #[.int .i64 a0_0, .int .i64 a0_1] 85 (0, 0))) := ⟨h0_⟩
      have n1_ : Aside0 (w11.heap[gb102]? = some (.cells #[.int .i64 a1_0, .int .i64 a1_1] 85 (0, 0))) := ⟨h1_⟩
      have n2_ : Aside0 (w11.heap[gb103]? = some (.cells #[.int .i64 0, .int .i64 0] 85 (0, 0))) := ⟨h2_⟩
      have n3_ : Aside0 (Below w.heap.size w w11) := ⟨h3_⟩
      clear BK101
      clear BK102
      clear BK103
      clear HB
      clear h0_ h1_ h2_ h3_
      have BK101 := n0_
      have BK102 := n1_
      have BK103 := n2_
      have HB := n3_
      clear n0_ n1_ n2_ n3_
      have hHeld : w11.cell? ⟨gb101, 0, none⟩ = some (.int .i64 a0_0) ∧ w11.cell? ⟨gb101, 1, none⟩ = some (.int .i64 a0_1) ∧ w11.cell? ⟨gb102, 0, none⟩ = some (.int .i64 a1_0) ∧ w11.cell? ⟨gb102, 1, none⟩ = some (.int .i64 a1_1) := hS_
      refine norm_ (a' := ?_) ?_ ?_
      rotate_left
      ·simp only [putAll, Act.put, List.setIfInBounds_toArray, List.set_cons_zero, List.set_cons_succ]
       rfl
      refine two_ (i := 10) (j := 11) (Ni := some 5) (Nj := some 6) #[true, true, true, true, true, true, true, true, true, true, true, false, false, false] #[true, true, true, true, true, true, true, true, true, true, false, true, false, false] rfl rfl rfl rfl (two_of HT_.out (by kernel_rfl)) (by decide) (by decide) (fun K hK => ?_) (fun K hK => ?_)
      ·skip
       refine box_step ?hg (N := 5) ?hd (cs := #[.int .i64 0, .int .i64 0]) (t := 85) ?hr ?_; (case hd => rfl); (case hg => rfl); (case hr => exact tc19_)
       intro gb108 hg w12 hbox hb
       have n0_ := am_ (blk_below (g := gb101) (o := .cells #[.int .i64 a0_0, .int .i64 a0_1] 85 (0, 0)) tc2_ hb)
       have n1_ := am_ (blk_below (g := gb102) (o := .cells #[.int .i64 a1_0, .int .i64 a1_1] 85 (0, 0)) tc4_ hb)
       have n2_ := am_ (blk_below (g := gb103) (o := .cells #[.int .i64 0, .int .i64 0] 85 (0, 0)) tc5_ hb)
       have n3_ := am_ (below_step tc8_ hb)
       have n4_ := am_ (hbox)
       have n5_ := am_ ((by rw [hg]; exact (below_size tc8_) : w.heap.size ≤ gb108))
       have n6_ := am_ ((by rw [hg]; exact (below_size tc8_) : w.heap.size ≤ gb108))
       have n7_ := am_ ((by rw [hg]; exact Nat.ne_of_lt (blk_lt (g := gb101) (o := .cells #[.int .i64 a0_0, .int .i64 a0_1] 85 (0, 0)) tc2_) : gb101 ≠ gb108))
       have n8_ := am_ ((by rw [hg]; exact Nat.ne_of_gt (blk_lt (g := gb101) (o := .cells #[.int .i64 a0_0, .int .i64 a0_1] 85 (0, 0)) tc2_) : gb108 ≠ gb101))
       have n9_ := am_ ((by rw [hg]; exact Nat.ne_of_lt (blk_lt (g := gb102) (o := .cells #[.int .i64 a1_0, .int .i64 a1_1] 85 (0, 0)) tc4_) : gb102 ≠ gb108))
       have n10_ := am_ ((by rw [hg]; exact Nat.ne_of_gt (blk_lt (g := gb102) (o := .cells #[.int .i64 a1_0, .int .i64 a1_1] 85 (0, 0)) tc4_) : gb108 ≠ gb102))
       have n11_ := am_ ((by rw [hg]; exact Nat.ne_of_lt (blk_lt (g := gb103) (o := .cells #[.int .i64 0, .int .i64 0] 85 (0, 0)) tc5_) : gb103 ≠ gb108))
       have n12_ := am_ ((by rw [hg]; exact Nat.ne_of_gt (blk_lt (g := gb103) (o := .cells #[.int .i64 0, .int .i64 0] 85 (0, 0)) tc5_) : gb108 ≠ gb103))
       clear BK101
       clear BK102
       clear BK103
       clear HB
       have BK101 := n0_
       have BK102 := n1_
       have BK103 := n2_
       have HB := n3_
       have BK108 := n4_
       have GW108 := n5_
       have GE108 := n6_
       have NB101_108 := n7_
       have NB108_101 := n8_
       have NB102_108 := n9_
       have NB108_102 := n10_
       have NB103_108 := n11_
       have NB108_103 := n12_
       clear n0_ n1_ n2_ n3_ n4_ n5_ n6_ n7_ n8_ n9_ n10_ n11_ n12_
       clear hb hbox hg
       refine hK.out _ _ ⟨(blk_cell BK101.out 0).trans rfl, (blk_cell BK101.out 1).trans rfl, (blk_cell BK102.out 0).trans rfl, (blk_cell BK102.out 1).trans rfl⟩ (fun hHeld => ?_)
       clear hK K
       refine norm_ (a' := ?_) ?_ ?_
       rotate_left
       ·show Act.put _ (some 5) _ = _
        simp only [Act.put, List.setIfInBounds_toArray, List.set_cons_zero, List.set_cons_succ, i64_w, i32_w]
        rfl
       exact norm_ tc9_ (hJ4_9_10 (gb108) _ ⟨hHeld, tc2_, tc4_, tc5_, tc14_, GW108.out, GE108.out, NB101_108.out, NB108_101.out, NB102_108.out, NB108_102.out, NB103_108.out, NB108_103.out, tc10_⟩)
      ·skip
       refine box_step ?hg (N := 6) ?hd (cs := #[.int .i64 0, .int .i64 0]) (t := 85) ?hr ?_; (case hd => rfl); (case hg => rfl); (case hr => exact tc19_)
       intro gb109 hg w12 hbox hb
       have n0_ := am_ (blk_below (g := gb101) (o := .cells #[.int .i64 a0_0, .int .i64 a0_1] 85 (0, 0)) tc2_ hb)
       have n1_ := am_ (blk_below (g := gb102) (o := .cells #[.int .i64 a1_0, .int .i64 a1_1] 85 (0, 0)) tc4_ hb)
       have n2_ := am_ (blk_below (g := gb103) (o := .cells #[.int .i64 0, .int .i64 0] 85 (0, 0)) tc5_ hb)
       have n3_ := am_ (below_step tc8_ hb)
       have n4_ := am_ (hbox)
       have n5_ := am_ ((by rw [hg]; exact (below_size tc8_) : w.heap.size ≤ gb109))
       have n6_ := am_ ((by rw [hg]; exact (below_size tc8_) : w.heap.size ≤ gb109))
       have n7_ := am_ ((by rw [hg]; exact Nat.ne_of_lt (blk_lt (g := gb101) (o := .cells #[.int .i64 a0_0, .int .i64 a0_1] 85 (0, 0)) tc2_) : gb101 ≠ gb109))
       have n8_ := am_ ((by rw [hg]; exact Nat.ne_of_gt (blk_lt (g := gb101) (o := .cells #[.int .i64 a0_0, .int .i64 a0_1] 85 (0, 0)) tc2_) : gb109 ≠ gb101))
       have n9_ := am_ ((by rw [hg]; exact Nat.ne_of_lt (blk_lt (g := gb102) (o := .cells #[.int .i64 a1_0, .int .i64 a1_1] 85 (0, 0)) tc4_) : gb102 ≠ gb109))
       have n10_ := am_ ((by rw [hg]; exact Nat.ne_of_gt (blk_lt (g := gb102) (o := .cells #[.int .i64 a1_0, .int .i64 a1_1] 85 (0, 0)) tc4_) : gb109 ≠ gb102))
       have n11_ := am_ ((by rw [hg]; exact Nat.ne_of_lt (blk_lt (g := gb103) (o := .cells #[.int .i64 0, .int .i64 0] 85 (0, 0)) tc5_) : gb103 ≠ gb109))
       have n12_ := am_ ((by rw [hg]; exact Nat.ne_of_gt (blk_lt (g := gb103) (o := .cells #[.int .i64 0, .int .i64 0] 85 (0, 0)) tc5_) : gb109 ≠ gb103))
       clear BK101
       clear BK102
       clear BK103
       clear HB
       have BK101 := n0_
       have BK102 := n1_
       have BK103 := n2_
       have HB := n3_
       have BK109 := n4_
       have GW109 := n5_
       have GE109 := n6_
       have NB101_109 := n7_
       have NB109_101 := n8_
       have NB102_109 := n9_
       have NB109_102 := n10_
       have NB103_109 := n11_
       have NB109_103 := n12_
       clear n0_ n1_ n2_ n3_ n4_ n5_ n6_ n7_ n8_ n9_ n10_ n11_ n12_
       clear hb hbox hg
       refine hK.out _ _ ⟨(blk_cell BK101.out 0).trans rfl, (blk_cell BK101.out 1).trans rfl, (blk_cell BK102.out 0).trans rfl, (blk_cell BK102.out 1).trans rfl⟩ (fun hHeld => ?_)
       clear hK K
       refine norm_ (a' := ?_) ?_ ?_
       rotate_left
       ·show Act.put _ (some 6) _ = _
        simp only [Act.put, List.setIfInBounds_toArray, List.set_cons_zero, List.set_cons_succ, i64_w, i32_w]
        rfl
       exact norm_ tc9_ (hJ4_9_11 (gb109) _ ⟨hHeld, tc2_, tc4_, tc5_, tc15_, GW109.out, GE109.out, NB101_109.out, NB109_101.out, NB102_109.out, NB109_102.out, NB103_109.out, NB109_103.out, tc11_⟩)
    ·skip
     rintro ⟨gb108, gb109⟩ w12 ⟨hS_, h0_, h1_, h2_, h3_, h4_, h5_, h6_, h7_, h8_, h9_, h10_, h11_, h12_, h13_, h14_, h15_, h16_, h17_, h18_, h19_, h20_, h21_, h22_, h23_⟩
     have n0_ : Aside0 (w12.heap[gb101]? = some (.cells #[.int .i64 a0_0, .int .i64 a0_1] 85 (0, 0))) := ⟨h0_⟩
     have n1_ : Aside0 (w12.heap[gb102]? = some (.cells #[.int .i64 a1_0, .int .i64 a1_1] 85 (0, 0))) := ⟨h1_⟩
     have n2_ : Aside0 (w12.heap[gb103]? = some (.cells #[.int .i64 0, .int .i64 0] 85 (0, 0))) := ⟨h2_⟩
     have n3_ : Aside0 (w12.heap[gb108]? = some (.cells #[.int .i64 0, .int .i64 0] 85 (0, 0))) := ⟨h3_⟩
     have n4_ : Aside0 (w12.heap[gb109]? = some (.cells #[.int .i64 0, .int .i64 0] 85 (0, 0))) := ⟨h4_⟩
     have n5_ : Aside0 (w.heap.size ≤ gb108) := ⟨h5_⟩
     have n6_ : Aside0 (w.heap.size ≤ gb108) := ⟨h6_⟩
     have n7_ : Aside0 (gb101 ≠ gb108) := ⟨h7_⟩
     have n8_ : Aside0 (gb108 ≠ gb101) := ⟨h8_⟩
     have n9_ : Aside0 (gb102 ≠ gb108) := ⟨h9_⟩
     have n10_ : Aside0 (gb108 ≠ gb102) := ⟨h10_⟩
     have n11_ : Aside0 (gb103 ≠ gb108) := ⟨h11_⟩
     have n12_ : Aside0 (gb108 ≠ gb103) := ⟨h12_⟩
     have n13_ : Aside0 (gb109 ≠ gb108) := ⟨h13_⟩
     have n14_ : Aside0 (gb108 ≠ gb109) := ⟨h14_⟩
     have n15_ : Aside0 (w.heap.size ≤ gb109) := ⟨h15_⟩
     have n16_ : Aside0 (w.heap.size ≤ gb109) := ⟨h16_⟩
     have n17_ : Aside0 (gb101 ≠ gb109) := ⟨h17_⟩
     have n18_ : Aside0 (gb109 ≠ gb101) := ⟨h18_⟩
     have n19_ : Aside0 (gb102 ≠ gb109) := ⟨h19_⟩
     have n20_ : Aside0 (gb109 ≠ gb102) := ⟨h20_⟩
     have n21_ : Aside0 (gb103 ≠ gb109) := ⟨h21_⟩
     have n22_ : Aside0 (gb109 ≠ gb103) := ⟨h22_⟩
     have n23_ : Aside0 (Below w.heap.size w w12) := ⟨h23_⟩
     clear BK101
     clear BK102
     clear BK103
     clear HB
     clear h0_ h1_ h2_ h3_ h4_ h5_ h6_ h7_ h8_ h9_ h10_ h11_ h12_ h13_ h14_ h15_ h16_ h17_ h18_ h19_ h20_ h21_ h22_ h23_
     have BK101 := n0_
     have BK102 := n1_
     have BK103 := n2_
     have BK108 := n3_
     have BK109 := n4_
     have GW108 := n5_
     have GE108 := n6_
     have NB101_108 := n7_
     have NB108_101 := n8_
     have NB102_108 := n9_
     have NB108_102 := n10_
     have NB103_108 := n11_
     have NB108_103 := n12_
     have NB109_108 := n13_
     have NB108_109 := n14_
     have GW109 := n15_
     have GE109 := n16_
     have NB101_109 := n17_
     have NB109_101 := n18_
     have NB102_109 := n19_
     have NB109_102 := n20_
     have NB103_109 := n21_
     have NB109_103 := n22_
     have HB := n23_
     clear n0_ n1_ n2_ n3_ n4_ n5_ n6_ n7_ n8_ n9_ n10_ n11_ n12_ n13_ n14_ n15_ n16_ n17_ n18_ n19_ n20_ n21_ n22_ n23_
     have hHeld : w12.cell? ⟨gb101, 0, none⟩ = some (.int .i64 a0_0) ∧ w12.cell? ⟨gb101, 1, none⟩ = some (.int .i64 a0_1) ∧ w12.cell? ⟨gb102, 0, none⟩ = some (.int .i64 a1_0) ∧ w12.cell? ⟨gb102, 1, none⟩ = some (.int .i64 a1_1) := hS_
     refine norm_ (a' := ?_) ?_ ?_
     rotate_left
     ·simp only [putAll, Act.put, List.setIfInBounds_toArray, List.set_cons_zero, List.set_cons_succ]
      rfl
     refine one_ (i := 9) (N := some 16) #[true, true, true, true, true, true, true, true, true, true, true, true, false, false] rfl rfl (one_of HT_.out (by kernel_rfl)) (by decide) (fun K hK => ?_)
     refine goes_ Try.func122 (by kernel_rfl) rfl #[.int .i64 a1_0, .int .i64 a0_1] (by rfl) rfl rfl tc1_ ?_
     with_reducible refine (impl_ratio.calls k a1_0 a0_1 t106 t107 _ A4.out).mono ?_
     rintro e w13 ⟨rfl, hb⟩
     refine ⟨_, rfl, ?_⟩
     have n0_ := am_ (blk_below (g := gb101) (o := .cells #[.int .i64 a0_0, .int .i64 a0_1] 85 (0, 0)) tc2_ hb)
     have n1_ := am_ (blk_below (g := gb102) (o := .cells #[.int .i64 a1_0, .int .i64 a1_1] 85 (0, 0)) tc4_ hb)
     have n2_ := am_ (blk_below (g := gb103) (o := .cells #[.int .i64 0, .int .i64 0] 85 (0, 0)) tc5_ hb)
     have n3_ := am_ (blk_below (g := gb108) (o := .cells #[.int .i64 0, .int .i64 0] 85 (0, 0)) tc14_ hb)
     have n4_ := am_ (blk_below (g := gb109) (o := .cells #[.int .i64 0, .int .i64 0] 85 (0, 0)) tc15_ hb)
     have n5_ := am_ (below_step tc22_ hb)
     clear BK101
     clear BK102
     clear BK103
     clear BK108
     clear BK109
     clear HB
     have BK101 := n0_
     have BK102 := n1_
     have BK103 := n2_
     have BK108 := n3_
     have BK109 := n4_
     have HB := n5_
     clear n0_ n1_ n2_ n3_ n4_ n5_
     (try clear hb)
     (try clear hb2)
     (try clear hk)
     (try clear hi)
     refine hK.out _ _ ⟨(blk_cell BK101.out 0).trans rfl, (blk_cell BK101.out 1).trans rfl, (blk_cell BK102.out 0).trans rfl, (blk_cell BK102.out 1).trans rfl⟩ (fun hHeld => ?_)
     clear hK K
     refine norm_ (a' := ?_) ?_ ?_
     rotate_left
     ·show Act.put _ (some 16) _ = _
      simp only [Act.put, List.setIfInBounds_toArray, List.set_cons_zero, List.set_cons_succ, i64_w, i32_w]
      rfl
     exact norm_ tc9_ (hJ4_9_10_11 (gb108, gb109) _ ⟨hHeld, tc2_, tc4_, tc5_, tc14_, tc15_, GW108.out, GE108.out, NB101_108.out, NB108_101.out, NB102_108.out, NB108_102.out, NB103_108.out, NB108_103.out, NB109_108.out, NB108_109.out, GW109.out, GE109.out, NB101_109.out, NB109_101.out, NB102_109.out, NB109_102.out, NB103_109.out, NB109_103.out, tc22_⟩)
   ·skip
    rintro gb109 w12 ⟨hS_, h0_, h1_, h2_, h3_, h4_, h5_, h6_, h7_, h8_, h9_, h10_, h11_, h12_⟩
    have n0_ : Aside0 (w12.heap[gb101]? = some (.cells #[.int .i64 a0_0, .int .i64 a0_1] 85 (0, 0))) := ⟨h0_⟩
    have n1_ : Aside0 (w12.heap[gb102]? = some (.cells #[.int .i64 a1_0, .int .i64 a1_1] 85 (0, 0))) := ⟨h1_⟩
    have n2_ : Aside0 (w12.heap[gb103]? = some (.cells #[.int .i64 0, .int .i64 0] 85 (0, 0))) := ⟨h2_⟩
    have n3_ : Aside0 (w12.heap[gb109]? = some (.cells #[.int .i64 0, .int .i64 0] 85 (0, 0))) := ⟨h3_⟩
    have n4_ : Aside0 (w.heap.size ≤ gb109) := ⟨h4_⟩
    have n5_ : Aside0 (w.heap.size ≤ gb109) := ⟨h5_⟩
    have n6_ : Aside0 (gb101 ≠ gb109) := ⟨h6_⟩
    have n7_ : Aside0 (gb109 ≠ gb101) := ⟨h7_⟩
    have n8_ : Aside0 (gb102 ≠ gb109) := ⟨h8_⟩
    have n9_ : Aside0 (gb109 ≠ gb102) := ⟨h9_⟩
    have n10_ : Aside0 (gb103 ≠ gb109) := ⟨h10_⟩
    have n11_ : Aside0 (gb109 ≠ gb103) := ⟨h11_⟩
    have n12_ : Aside0 (Below w.heap.size w w12) := ⟨h12_⟩
    clear BK101
    clear BK102
    clear BK103
    clear HB
    clear h0_ h1_ h2_ h3_ h4_ h5_ h6_ h7_ h8_ h9_ h10_ h11_ h12_
    have BK101 := n0_
    have BK102 := n1_
    have BK103 := n2_
    have BK109 := n3_
    have GW109 := n4_
    have GE109 := n5_
    have NB101_109 := n6_
    have NB109_101 := n7_
    have NB102_109 := n8_
    have NB109_102 := n9_
    have NB103_109 := n10_
    have NB109_103 := n11_
    have HB := n12_
    clear n0_ n1_ n2_ n3_ n4_ n5_ n6_ n7_ n8_ n9_ n10_ n11_ n12_
    have hHeld : w12.cell? ⟨gb101, 0, none⟩ = some (.int .i64 a0_0) ∧ w12.cell? ⟨gb101, 1, none⟩ = some (.int .i64 a0_1) ∧ w12.cell? ⟨gb102, 0, none⟩ = some (.int .i64 a1_0) ∧ w12.cell? ⟨gb102, 1, none⟩ = some (.int .i64 a1_1) := hS_
    refine norm_ (a' := ?_) ?_ ?_
    rotate_left
    ·simp only [putAll, Act.put, List.setIfInBounds_toArray, List.set_cons_zero, List.set_cons_succ]
     rfl
    refine one_ (i := 10) (N := some 5) #[true, true, true, true, true, true, true, true, true, true, true, true, false, false] rfl rfl (one_of HT_.out (by kernel_rfl)) (by decide) (fun K hK => ?_)
    refine box_step ?hg (N := 5) ?hd (cs := #[.int .i64 0, .int .i64 0]) (t := 85) ?hr ?_; (case hd => rfl); (case hg => rfl); (case hr => exact tc19_)
    intro gb108 hg w13 hbox hb
    have n0_ := am_ (blk_below (g := gb101) (o := .cells #[.int .i64 a0_0, .int .i64 a0_1] 85 (0, 0)) tc2_ hb)
    have n1_ := am_ (blk_below (g := gb102) (o := .cells #[.int .i64 a1_0, .int .i64 a1_1] 85 (0, 0)) tc4_ hb)
    have n2_ := am_ (blk_below (g := gb103) (o := .cells #[.int .i64 0, .int .i64 0] 85 (0, 0)) tc5_ hb)
    have n3_ := am_ (blk_below (g := gb109) (o := .cells #[.int .i64 0, .int .i64 0] 85 (0, 0)) tc15_ hb)
    have n4_ := am_ (below_step tc11_ hb)
    have n5_ := am_ (hbox)
    have n6_ := am_ ((by rw [hg]; exact (below_size tc11_) : w.heap.size ≤ gb108))
    have n7_ := am_ ((by rw [hg]; exact (below_size tc11_) : w.heap.size ≤ gb108))
    have n8_ := am_ ((by rw [hg]; exact Nat.ne_of_lt (blk_lt (g := gb101) (o := .cells #[.int .i64 a0_0, .int .i64 a0_1] 85 (0, 0)) tc2_) : gb101 ≠ gb108))
    have n9_ := am_ ((by rw [hg]; exact Nat.ne_of_gt (blk_lt (g := gb101) (o := .cells #[.int .i64 a0_0, .int .i64 a0_1] 85 (0, 0)) tc2_) : gb108 ≠ gb101))
    have n10_ := am_ ((by rw [hg]; exact Nat.ne_of_lt (blk_lt (g := gb102) (o := .cells #[.int .i64 a1_0, .int .i64 a1_1] 85 (0, 0)) tc4_) : gb102 ≠ gb108))
    have n11_ := am_ ((by rw [hg]; exact Nat.ne_of_gt (blk_lt (g := gb102) (o := .cells #[.int .i64 a1_0, .int .i64 a1_1] 85 (0, 0)) tc4_) : gb108 ≠ gb102))
    have n12_ := am_ ((by rw [hg]; exact Nat.ne_of_lt (blk_lt (g := gb103) (o := .cells #[.int .i64 0, .int .i64 0] 85 (0, 0)) tc5_) : gb103 ≠ gb108))
    have n13_ := am_ ((by rw [hg]; exact Nat.ne_of_gt (blk_lt (g := gb103) (o := .cells #[.int .i64 0, .int .i64 0] 85 (0, 0)) tc5_) : gb108 ≠ gb103))
    have n14_ := am_ ((by rw [hg]; exact Nat.ne_of_lt (blk_lt (g := gb109) (o := .cells #[.int .i64 0, .int .i64 0] 85 (0, 0)) tc15_) : gb109 ≠ gb108))
    have n15_ := am_ ((by rw [hg]; exact Nat.ne_of_gt (blk_lt (g := gb109) (o := .cells #[.int .i64 0, .int .i64 0] 85 (0, 0)) tc15_) : gb108 ≠ gb109))
    clear BK101
    clear BK102
    clear BK103
    clear BK109
    clear HB
    have BK101 := n0_
    have BK102 := n1_
    have BK103 := n2_
    have BK109 := n3_
    have HB := n4_
    have BK108 := n5_
    have GW108 := n6_
    have GE108 := n7_
    have NB101_108 := n8_
    have NB108_101 := n9_
    have NB102_108 := n10_
    have NB108_102 := n11_
    have NB103_108 := n12_
    have NB108_103 := n13_
    have NB109_108 := n14_
    have NB108_109 := n15_
    clear n0_ n1_ n2_ n3_ n4_ n5_ n6_ n7_ n8_ n9_ n10_ n11_ n12_ n13_ n14_ n15_
    clear hb hbox hg
    refine hK.out _ _ ⟨(blk_cell BK101.out 0).trans rfl, (blk_cell BK101.out 1).trans rfl, (blk_cell BK102.out 0).trans rfl, (blk_cell BK102.out 1).trans rfl⟩ (fun hHeld => ?_)
    clear hK K
    refine norm_ (a' := ?_) ?_ ?_
    rotate_left
    ·show Act.put _ (some 5) _ = _
     simp only [Act.put, List.setIfInBounds_toArray, List.set_cons_zero, List.set_cons_succ, i64_w, i32_w]
     rfl
    exact norm_ tc9_ (hJ4_9_10_11 (gb108, gb109) _ ⟨hHeld, tc2_, tc4_, tc5_, tc14_, tc15_, GW108.out, GE108.out, NB101_108.out, NB108_101.out, NB102_108.out, NB108_102.out, NB103_108.out, NB108_103.out, NB109_108.out, NB108_109.out, GW109.out, GE109.out, NB101_109.out, NB109_101.out, NB102_109.out, NB109_102.out, NB103_109.out, NB109_103.out, tc45_⟩)
  ·skip
   rintro gb108 w12 ⟨hS_, h0_, h1_, h2_, h3_, h4_, h5_, h6_, h7_, h8_, h9_, h10_, h11_, h12_⟩
   have n0_ : Aside0 (w12.heap[gb101]? = some (.cells #[.int .i64 a0_0, .int .i64 a0_1] 85 (0, 0))) := ⟨h0_⟩
   have n1_ : Aside0 (w12.heap[gb102]? = some (.cells #[.int .i64 a1_0, .int .i64 a1_1] 85 (0, 0))) := ⟨h1_⟩
   have n2_ : Aside0 (w12.heap[gb103]? = some (.cells #[.int .i64 0, .int .i64 0] 85 (0, 0))) := ⟨h2_⟩
   have n3_ : Aside0 (w12.heap[gb108]? = some (.cells #[.int .i64 0, .int .i64 0] 85 (0, 0))) := ⟨h3_⟩
   have n4_ : Aside0 (w.heap.size ≤ gb108) := ⟨h4_⟩
   have n5_ : Aside0 (w.heap.size ≤ gb108) := ⟨h5_⟩
   have n6_ : Aside0 (gb101 ≠ gb108) := ⟨h6_⟩
   have n7_ : Aside0 (gb108 ≠ gb101) := ⟨h7_⟩
   have n8_ : Aside0 (gb102 ≠ gb108) := ⟨h8_⟩
   have n9_ : Aside0 (gb108 ≠ gb102) := ⟨h9_⟩
   have n10_ : Aside0 (gb103 ≠ gb108) := ⟨h10_⟩
   have n11_ : Aside0 (gb108 ≠ gb103) := ⟨h11_⟩
   have n12_ : Aside0 (Below w.heap.size w w12) := ⟨h12_⟩
   clear BK101
   clear BK102
   clear BK103
   clear HB
   clear h0_ h1_ h2_ h3_ h4_ h5_ h6_ h7_ h8_ h9_ h10_ h11_ h12_
   have BK101 := n0_
   have BK102 := n1_
   have BK103 := n2_
   have BK108 := n3_
   have GW108 := n4_
   have GE108 := n5_
   have NB101_108 := n6_
   have NB108_101 := n7_
   have NB102_108 := n8_
   have NB108_102 := n9_
   have NB103_108 := n10_
   have NB108_103 := n11_
   have HB := n12_
   clear n0_ n1_ n2_ n3_ n4_ n5_ n6_ n7_ n8_ n9_ n10_ n11_ n12_
   have hHeld : w12.cell? ⟨gb101, 0, none⟩ = some (.int .i64 a0_0) ∧ w12.cell? ⟨gb101, 1, none⟩ = some (.int .i64 a0_1) ∧ w12.cell? ⟨gb102, 0, none⟩ = some (.int .i64 a1_0) ∧ w12.cell? ⟨gb102, 1, none⟩ = some (.int .i64 a1_1) := hS_
   refine norm_ (a' := ?_) ?_ ?_
   rotate_left
   ·simp only [putAll, Act.put, List.setIfInBounds_toArray, List.set_cons_zero, List.set_cons_succ]
    rfl
   refine one_ (i := 11) (N := some 6) #[true, true, true, true, true, true, true, true, true, true, true, true, false, false] rfl rfl (one_of HT_.out (by kernel_rfl)) (by decide) (fun K hK => ?_)
   refine box_step ?hg (N := 6) ?hd (cs := #[.int .i64 0, .int .i64 0]) (t := 85) ?hr ?_; (case hd => rfl); (case hg => rfl); (case hr => exact tc19_)
   intro gb109 hg w13 hbox hb
   have n0_ := am_ (blk_below (g := gb101) (o := .cells #[.int .i64 a0_0, .int .i64 a0_1] 85 (0, 0)) tc2_ hb)
   have n1_ := am_ (blk_below (g := gb102) (o := .cells #[.int .i64 a1_0, .int .i64 a1_1] 85 (0, 0)) tc4_ hb)
   have n2_ := am_ (blk_below (g := gb103) (o := .cells #[.int .i64 0, .int .i64 0] 85 (0, 0)) tc5_ hb)
   have n3_ := am_ (blk_below (g := gb108) (o := .cells #[.int .i64 0, .int .i64 0] 85 (0, 0)) tc14_ hb)
   have n4_ := am_ (below_step tc10_ hb)
   have n5_ := am_ (hbox)
   have n6_ := am_ ((by rw [hg]; exact (below_size tc10_) : w.heap.size ≤ gb109))
   have n7_ := am_ ((by rw [hg]; exact (below_size tc10_) : w.heap.size ≤ gb109))
   have n8_ := am_ ((by rw [hg]; exact Nat.ne_of_lt (blk_lt (g := gb101) (o := .cells #[.int .i64 a0_0, .int .i64 a0_1] 85 (0, 0)) tc2_) : gb101 ≠ gb109))
   have n9_ := am_ ((by rw [hg]; exact Nat.ne_of_gt (blk_lt (g := gb101) (o := .cells #[.int .i64 a0_0, .int .i64 a0_1] 85 (0, 0)) tc2_) : gb109 ≠ gb101))
   have n10_ := am_ ((by rw [hg]; exact Nat.ne_of_lt (blk_lt (g := gb102) (o := .cells #[.int .i64 a1_0, .int .i64 a1_1] 85 (0, 0)) tc4_) : gb102 ≠ gb109))
   have n11_ := am_ ((by rw [hg]; exact Nat.ne_of_gt (blk_lt (g := gb102) (o := .cells #[.int .i64 a1_0, .int .i64 a1_1] 85 (0, 0)) tc4_) : gb109 ≠ gb102))
   have n12_ := am_ ((by rw [hg]; exact Nat.ne_of_lt (blk_lt (g := gb103) (o := .cells #[.int .i64 0, .int .i64 0] 85 (0, 0)) tc5_) : gb103 ≠ gb109))
   have n13_ := am_ ((by rw [hg]; exact Nat.ne_of_gt (blk_lt (g := gb103) (o := .cells #[.int .i64 0, .int .i64 0] 85 (0, 0)) tc5_) : gb109 ≠ gb103))
   have n14_ := am_ ((by rw [hg]; exact Nat.ne_of_lt (blk_lt (g := gb108) (o := .cells #[.int .i64 0, .int .i64 0] 85 (0, 0)) tc14_) : gb108 ≠ gb109))
   have n15_ := am_ ((by rw [hg]; exact Nat.ne_of_gt (blk_lt (g := gb108) (o := .cells #[.int .i64 0, .int .i64 0] 85 (0, 0)) tc14_) : gb109 ≠ gb108))
   clear BK101
   clear BK102
   clear BK103
   clear BK108
   clear HB
   have BK101 := n0_
   have BK102 := n1_
   have BK103 := n2_
   have BK108 := n3_
   have HB := n4_
   have BK109 := n5_
   have GW109 := n6_
   have GE109 := n7_
   have NB101_109 := n8_
   have NB109_101 := n9_
   have NB102_109 := n10_
   have NB109_102 := n11_
   have NB103_109 := n12_
   have NB109_103 := n13_
   have NB108_109 := n14_
   have NB109_108 := n15_
   clear n0_ n1_ n2_ n3_ n4_ n5_ n6_ n7_ n8_ n9_ n10_ n11_ n12_ n13_ n14_ n15_
   clear hb hbox hg
   refine hK.out _ _ ⟨(blk_cell BK101.out 0).trans rfl, (blk_cell BK101.out 1).trans rfl, (blk_cell BK102.out 0).trans rfl, (blk_cell BK102.out 1).trans rfl⟩ (fun hHeld => ?_)
   clear hK K
   refine norm_ (a' := ?_) ?_ ?_
   rotate_left
   ·show Act.put _ (some 6) _ = _
    simp only [Act.put, List.setIfInBounds_toArray, List.set_cons_zero, List.set_cons_succ, i64_w, i32_w]
    rfl
   exact norm_ tc9_ (hJ4_9_10_11 (gb108, gb109) _ ⟨hHeld, tc2_, tc4_, tc5_, tc14_, tc15_, GW108.out, GE108.out, NB101_108.out, NB108_101.out, NB102_108.out, NB108_102.out, NB103_108.out, NB108_103.out, NB109_108.out, NB108_109.out, GW109.out, GE109.out, NB101_109.out, NB109_101.out, NB102_109.out, NB109_102.out, NB103_109.out, NB109_103.out, tc22_⟩)
 rintro ⟨gb108, gb109⟩ w13 ⟨hS_, h0_, h1_, h2_, h3_, h4_, h5_, h6_, h7_, h8_, h9_, h10_, h11_, h12_, h13_, h14_, h15_, h16_, h17_, h18_, h19_, h20_, h21_, h22_, h23_⟩
 have n0_ : Aside0 (w13.heap[gb101]? = some (.cells #[.int .i64 a0_0, .int .i64 a0_1] 85 (0, 0))) := ⟨h0_⟩
 have n1_ : Aside0 (w13.heap[gb102]? = some (.cells #[.int .i64 a1_0, .int .i64 a1_1] 85 (0, 0))) := ⟨h1_⟩
 have n2_ : Aside0 (w13.heap[gb103]? = some (.cells #[.int .i64 0, .int .i64 0] 85 (0, 0))) := ⟨h2_⟩
 have n3_ : Aside0 (w13.heap[gb108]? = some (.cells #[.int .i64 0, .int .i64 0] 85 (0, 0))) := ⟨h3_⟩
 have n4_ : Aside0 (w13.heap[gb109]? = some (.cells #[.int .i64 0, .int .i64 0] 85 (0, 0))) := ⟨h4_⟩
 have n5_ : Aside0 (w.heap.size ≤ gb108) := ⟨h5_⟩
 have n6_ : Aside0 (w.heap.size ≤ gb108) := ⟨h6_⟩
 have n7_ : Aside0 (gb101 ≠ gb108) := ⟨h7_⟩
 have n8_ : Aside0 (gb108 ≠ gb101) := ⟨h8_⟩
 have n9_ : Aside0 (gb102 ≠ gb108) := ⟨h9_⟩
 have n10_ : Aside0 (gb108 ≠ gb102) := ⟨h10_⟩
 have n11_ : Aside0 (gb103 ≠ gb108) := ⟨h11_⟩
 have n12_ : Aside0 (gb108 ≠ gb103) := ⟨h12_⟩
 have n13_ : Aside0 (gb109 ≠ gb108) := ⟨h13_⟩
 have n14_ : Aside0 (gb108 ≠ gb109) := ⟨h14_⟩
 have n15_ : Aside0 (w.heap.size ≤ gb109) := ⟨h15_⟩
 have n16_ : Aside0 (w.heap.size ≤ gb109) := ⟨h16_⟩
 have n17_ : Aside0 (gb101 ≠ gb109) := ⟨h17_⟩
 have n18_ : Aside0 (gb109 ≠ gb101) := ⟨h18_⟩
 have n19_ : Aside0 (gb102 ≠ gb109) := ⟨h19_⟩
 have n20_ : Aside0 (gb109 ≠ gb102) := ⟨h20_⟩
 have n21_ : Aside0 (gb103 ≠ gb109) := ⟨h21_⟩
 have n22_ : Aside0 (gb109 ≠ gb103) := ⟨h22_⟩
 have n23_ : Aside0 (Below w.heap.size w w13) := ⟨h23_⟩
 clear BK101
 clear BK102
 clear BK103
 clear HB
 clear h0_ h1_ h2_ h3_ h4_ h5_ h6_ h7_ h8_ h9_ h10_ h11_ h12_ h13_ h14_ h15_ h16_ h17_ h18_ h19_ h20_ h21_ h22_ h23_
 have BK101 := n0_
 have BK102 := n1_
 have BK103 := n2_
 have BK108 := n3_
 have BK109 := n4_
 have GW108 := n5_
 have GE108 := n6_
 have NB101_108 := n7_
 have NB108_101 := n8_
 have NB102_108 := n9_
 have NB108_102 := n10_
 have NB103_108 := n11_
 have NB108_103 := n12_
 have NB109_108 := n13_
 have NB108_109 := n14_
 have GW109 := n15_
 have GE109 := n16_
 have NB101_109 := n17_
 have NB109_101 := n18_
 have NB102_109 := n19_
 have NB109_102 := n20_
 have NB103_109 := n21_
 have NB109_103 := n22_
 have HB := n23_
 clear n0_ n1_ n2_ n3_ n4_ n5_ n6_ n7_ n8_ n9_ n10_ n11_ n12_ n13_ n14_ n15_ n16_ n17_ n18_ n19_ n20_ n21_ n22_ n23_
 have hHeld : w13.cell? ⟨gb101, 0, none⟩ = some (.int .i64 a0_0) ∧ w13.cell? ⟨gb101, 1, none⟩ = some (.int .i64 a0_1) ∧ w13.cell? ⟨gb102, 0, none⟩ = some (.int .i64 a1_0) ∧ w13.cell? ⟨gb102, 1, none⟩ = some (.int .i64 a1_1) := hS_
 refine norm_ (a' := ?_) ?_ ?_
 rotate_left
 ·simp only [putAll, Act.put, List.setIfInBounds_toArray, List.set_cons_zero, List.set_cons_succ]
  rfl
 refine one_ (i := 12) (N := none) #[true, true, true, true, true, true, true, true, true, true, true, true, true, false] rfl rfl (one_of HT_.out (by kernel_rfl)) (by decide) (fun K hK => ?_)
 have hs14 : w13.cell? ⟨gb108, 0, none⟩ = some (.int .i64 0) := (blk_cell BK108.out 0).trans rfl
 have hfs14 := blk_frozen BK108.out 0
 have hns14_0 := NB101_108.out
 have hns14_1 := NB102_108.out
 have hns14_2 := NB103_108.out
 have hns14_4 := NB109_108.out
 have hms14_0 := NB108_101.out
 have hms14_1 := NB108_102.out
 have hms14_2 := NB108_103.out
 have hms14_4 := NB108_109.out
 have hs15 : w13.cell? ⟨gb108, 1, none⟩ = some (.int .i64 0) := (blk_cell BK108.out 1).trans rfl
 have hfs15 := blk_frozen BK108.out 1
 have hns15_0 := NB101_108.out
 have hns15_1 := NB102_108.out
 have hns15_2 := NB103_108.out
 have hns15_4 := NB109_108.out
 have hms15_0 := NB108_101.out
 have hms15_1 := NB108_102.out
 have hms15_2 := NB108_103.out
 have hms15_4 := NB108_109.out
 refine skip_ (w1 := ?_) (by rfl) rfl ?_ ?_
 rotate_left
 ·go_simp
  rfl
 refine hK.out _ _ ⟨((cell_far (p := ⟨gb108, _, none⟩) NB101_108.out _).trans (((cell_far (p := ⟨gb108, _, none⟩) NB101_108.out _).trans (hHeld.1)))), ((cell_far (p := ⟨gb108, _, none⟩) NB101_108.out _).trans (((cell_far (p := ⟨gb108, _, none⟩) NB101_108.out _).trans (hHeld.2.1)))), ((cell_far (p := ⟨gb108, _, none⟩) NB102_108.out _).trans (((cell_far (p := ⟨gb108, _, none⟩) NB102_108.out _).trans (hHeld.2.2.1)))), ((cell_far (p := ⟨gb108, _, none⟩) NB102_108.out _).trans (((cell_far (p := ⟨gb108, _, none⟩) NB102_108.out _).trans (hHeld.2.2.2))))⟩ (fun hHeld => ?_)
 clear hK K
 refine one_ (i := 13) (N := none) #[true, true, true, true, true, true, true, true, true, true, true, true, true, true] rfl rfl (one_of HT_.out (by kernel_rfl)) (by decide) (fun K hK => ?_)
 have hs16 : w13.cell? ⟨gb109, 0, none⟩ = some (.int .i64 0) := (blk_cell BK109.out 0).trans rfl
 have hfs16 := blk_frozen BK109.out 0
 have hns16_0 := NB101_109.out
 have hns16_1 := NB102_109.out
 have hns16_2 := NB103_109.out
 have hns16_3 := NB108_109.out
 have hms16_0 := NB109_101.out
 have hms16_1 := NB109_102.out
 have hms16_2 := NB109_103.out
 have hms16_3 := NB109_108.out
 have hs17 : w13.cell? ⟨gb109, 1, none⟩ = some (.int .i64 0) := (blk_cell BK109.out 1).trans rfl
 have hfs17 := blk_frozen BK109.out 1
 have hns17_0 := NB101_109.out
 have hns17_1 := NB102_109.out
 have hns17_2 := NB103_109.out
 have hns17_3 := NB108_109.out
 have hms17_0 := NB109_101.out
 have hms17_1 := NB109_102.out
 have hms17_2 := NB109_103.out
 have hms17_3 := NB109_108.out
 refine skip_ (w1 := ?_) (by rfl) rfl ?_ ?_
 rotate_left
 ·go_simp
  rfl
 refine hK.out _ _ ⟨((cell_far (p := ⟨gb109, _, none⟩) NB101_109.out _).trans (((cell_far (p := ⟨gb109, _, none⟩) NB101_109.out _).trans (hHeld.1)))), ((cell_far (p := ⟨gb109, _, none⟩) NB101_109.out _).trans (((cell_far (p := ⟨gb109, _, none⟩) NB101_109.out _).trans (hHeld.2.1)))), ((cell_far (p := ⟨gb109, _, none⟩) NB102_109.out _).trans (((cell_far (p := ⟨gb109, _, none⟩) NB102_109.out _).trans (hHeld.2.2.1)))), ((cell_far (p := ⟨gb109, _, none⟩) NB102_109.out _).trans (((cell_far (p := ⟨gb109, _, none⟩) NB102_109.out _).trans (hHeld.2.2.2))))⟩ (fun hHeld => ?_)
 clear hK K
 refine done_ (done_of HT_.out (by kernel_rfl)) ?_
 have hnb18 := NB108_101.out
 have hnc18 := NB101_108.out
 have hnb19 := NB108_102.out
 have hnc19 := NB102_108.out
 have hnb20 := NB108_103.out
 have hnc20 := NB103_108.out
 have hnb21 := NB108_109.out
 have hnc21 := NB109_108.out
 have hcz22_0 : w13.cell? ⟨gb108, 0, none⟩ = some (.int .i64 0) := (blk_cell BK108.out 0).trans rfl
 have hcz22_1 : w13.cell? ⟨gb108, 1, none⟩ = some (.int .i64 0) := (blk_cell BK108.out 1).trans rfl
 have hfz22_0 := blk_frozen BK108.out 0
 have hfz22_1 := blk_frozen BK108.out 1
 have hnb23 := NB109_101.out
 have hnc23 := NB101_109.out
 have hnb24 := NB109_102.out
 have hnc24 := NB102_109.out
 have hnb25 := NB109_103.out
 have hnc25 := NB103_109.out
 have hcz26_0 : w13.cell? ⟨gb109, 0, none⟩ = some (.int .i64 0) := (blk_cell BK109.out 0).trans rfl
 have hcz26_1 : w13.cell? ⟨gb109, 1, none⟩ = some (.int .i64 0) := (blk_cell BK109.out 1).trans rfl
 have hfz26_0 := blk_frozen BK109.out 0
 have hfz26_1 := blk_frozen BK109.out 1
 have hnb27 := NB103_101.out
 have hnc27 := NB101_103.out
 have hnb28 := NB103_102.out
 have hnc28 := NB102_103.out
 have hcz29_0 : w13.cell? ⟨gb103, 0, none⟩ = some (.int .i64 0) := (blk_cell BK103.out 0).trans rfl
 have hcz29_1 : w13.cell? ⟨gb103, 1, none⟩ = some (.int .i64 0) := (blk_cell BK103.out 1).trans rfl
 have hfz29_0 := blk_frozen BK103.out 0
 have hfz29_1 := blk_frozen BK103.out 1
 try go_wp2
 refine bodyPost_ret (results_cell_row rfl _ _ gb103 85 #[.int .i64 (wrap64 (t104 * t106)), .int .i64 (wrap64 (t105 * t107))] (0, 0) _ rfl (by (with_reducible repeat (first | refine blk_drewN ?_ _ | refine blk_drew ?_ | refine blk_alloc ?_ _)); refine blk_put (cs := #[.int .i64 (wrap64 (t104 * t106)), .int .i64 0]) ?_ 1 _ rfl; (with_reducible repeat (first | refine blk_drewN ?_ _ | refine blk_drew ?_ | refine blk_alloc ?_ _)); refine blk_put (cs := #[.int .i64 0, .int .i64 0]) ?_ 0 _ rfl; (with_reducible repeat (first | refine blk_drewN ?_ _ | refine blk_drew ?_ | refine blk_alloc ?_ _)); refine blk_far ?_ NB103_109.out _; (with_reducible repeat (first | refine blk_drewN ?_ _ | refine blk_drew ?_ | refine blk_alloc ?_ _)); refine blk_far ?_ NB103_109.out _; (with_reducible repeat (first | refine blk_drewN ?_ _ | refine blk_drew ?_ | refine blk_alloc ?_ _)); refine blk_far ?_ NB103_108.out _; (with_reducible repeat (first | refine blk_drewN ?_ _ | refine blk_drew ?_ | refine blk_alloc ?_ _)); refine blk_far ?_ NB103_108.out _; (with_reducible repeat (first | refine blk_drewN ?_ _ | refine blk_drew ?_ | refine blk_alloc ?_ _)); exact BK103.out) Try.underlying85 rfl (by kernel_rfl)) rfl ?_
 exact ⟨by first | rfl | (simp [errW_none, errW_some] <;> rfl) | (simp [*, errW_none, errW_some] <;> rfl), by repeat (first | (with_reducible first | exact HB.out | apply below_alloc | apply pw_below_drewN | apply below_drew1 | refine below_set ?_ GE101.out | refine below_set ?_ GE102.out | refine below_set ?_ GE103.out | refine below_set ?_ GE108.out | refine below_set ?_ GE109.out) | exact HB.out)⟩

/-! ### impl_HalfTurnFormula: function 53 -/
mutual
def impl_HalfTurnFormula.l0 : Nat → Int → Int → Int → Int → Option (Int × Bool)
 | 0, _, _, _, _ => none
 | k + 1, x0, x5, x104000, x104001 => if x5 ≤ x0 then ((impl_ratio.f k (wrap64 ((wrap64 (3 * x5)) - 1)) (wrap64 ((wrap64 (3 * x5)) - 2))).bind fun bt104 => ((impl_Ratio_times.f k x104000 x104001 bt104.1 bt104.2).bind fun bt106 => (impl_HalfTurnFormula.l1 k x0 x5 x5 bt106.1 bt106.2))) else (some (x104000, true))
def impl_HalfTurnFormula.l1 : Nat → Int → Int → Int → Int → Int → Option (Int × Bool)
 | 0, _, _, _, _, _ => none
 | k + 1, x0, x5, x6, x104000, x104001 => if x6 ≤ x0 then ((impl_ratio.f k (wrap64 ((wrap64 ((wrap64 (x0 + x5)) + x6)) - 1)) (wrap64 ((wrap64 ((wrap64 (2 * x5)) + x6)) - 1))).bind fun bt108 => ((impl_Ratio_times.f k x104000 x104001 bt108.1 bt108.2).bind fun bt110 => (impl_HalfTurnFormula.l1 k x0 x5 (wrap64 (x6 + 1)) bt110.1 bt110.2))) else (impl_HalfTurnFormula.l0 k x0 (wrap64 (x5 + 1)) x104000 x104001)
end
def impl_HalfTurnFormula.f (k : Nat) (a0 : Int) : Option (Int × Bool) := (impl_within.f a0 1 6).bind fun t101 => (if t101 = true then ((impl_countSigns.f k a0).bind fun t102 => (impl_HalfTurnFormula.l0 k a0 1 t102 1)) else (some (0, false)))
theorem impl_HalfTurnFormula.mono_l : ∀ k, (∀ y0 y1 y2 y3, LeO (impl_HalfTurnFormula.l0 k y0 y1 y2 y3) (impl_HalfTurnFormula.l0 (k + 1) y0 y1 y2 y3)) ∧ (∀ y0 y1 y2 y3 y4, LeO (impl_HalfTurnFormula.l1 k y0 y1 y2 y3 y4) (impl_HalfTurnFormula.l1 (k + 1) y0 y1 y2 y3 y4))
 | 0 => ⟨fun _ _ _ _ r h => by simp [impl_HalfTurnFormula.l0] at h, fun _ _ _ _ _ r h => by simp [impl_HalfTurnFormula.l1] at h⟩
 | k + 1 => by
  obtain ⟨ih0, ih1⟩ := impl_HalfTurnFormula.mono_l k
  refine ⟨?_, ?_⟩
  ·intro y0 y1 y2 y3
   unfold impl_HalfTurnFormula.l0
   repeat' first
   | (with_reducible exact ih0 _ _ _ _)
   | (with_reducible exact ih1 _ _ _ _ _)
   | (with_reducible exact impl_Ratio_times.mono _ _ _ _ _)
   | (with_reducible exact impl_countSigns.mono _ _)
   | (with_reducible exact impl_ratio.mono _ _ _)
   | (with_reducible exact LeO.refl _)
   | (with_reducible exact LeO.none _)
   | (with_reducible refine LeO.ite ?_ ?_)
   | (with_reducible refine LeO.bind ?_ (fun _ => ?_))
   | exact ih0 _ _ _ _
   | exact ih1 _ _ _ _ _
   | exact impl_Ratio_times.mono _ _ _ _ _
   | exact impl_countSigns.mono _ _
   | exact impl_ratio.mono _ _ _
   | exact LeO.none _
   | refine LeO.ite ?_ ?_
   | refine LeO.bind ?_ (fun _ => ?_)
  ·intro y0 y1 y2 y3 y4
   unfold impl_HalfTurnFormula.l1
   repeat' first
   | (with_reducible exact ih0 _ _ _ _)
   | (with_reducible exact ih1 _ _ _ _ _)
   | (with_reducible exact impl_Ratio_times.mono _ _ _ _ _)
   | (with_reducible exact impl_countSigns.mono _ _)
   | (with_reducible exact impl_ratio.mono _ _ _)
   | (with_reducible exact LeO.refl _)
   | (with_reducible exact LeO.none _)
   | (with_reducible refine LeO.ite ?_ ?_)
   | (with_reducible refine LeO.bind ?_ (fun _ => ?_))
   | exact ih0 _ _ _ _
   | exact ih1 _ _ _ _ _
   | exact impl_Ratio_times.mono _ _ _ _ _
   | exact impl_countSigns.mono _ _
   | exact impl_ratio.mono _ _ _
   | exact LeO.none _
   | refine LeO.ite ?_ ?_
   | refine LeO.bind ?_ (fun _ => ?_)
theorem impl_HalfTurnFormula.mono : ∀ a0  k, LeO (impl_HalfTurnFormula.f k a0) (impl_HalfTurnFormula.f (k + 1) a0) := by
 intro a0 k
 obtain ⟨ih0, ih1⟩ := impl_HalfTurnFormula.mono_l k
 unfold impl_HalfTurnFormula.f
 repeat' first
   | (with_reducible exact ih0 _ _ _ _)
   | (with_reducible exact ih1 _ _ _ _ _)
   | (with_reducible exact impl_Ratio_times.mono _ _ _ _ _)
   | (with_reducible exact impl_countSigns.mono _ _)
   | (with_reducible exact impl_ratio.mono _ _ _)
   | (with_reducible exact LeO.refl _)
   | (with_reducible exact LeO.none _)
   | (with_reducible refine LeO.ite ?_ ?_)
   | (with_reducible refine LeO.bind ?_ (fun _ => ?_))
   | exact ih0 _ _ _ _
   | exact ih1 _ _ _ _ _
   | exact impl_Ratio_times.mono _ _ _ _ _
   | exact impl_countSigns.mono _ _
   | exact impl_ratio.mono _ _ _
   | exact LeO.none _
   | refine LeO.ite ?_ ?_
   | refine LeO.bind ?_ (fun _ => ?_)
def impl_HalfTurnFormula.T7 : Bool × List (List Nat × List Nat) := (true, [([], []), ([], []), ([1], [1]), ([2], [2]), ([], []), ([4], [4]), ([5], [5]), ([3, 6], [3, 6]), ([0, 7, 7], [0, 7]), ([8, 8, 0, 1, 2, 3, 4, 5, 6, 7, 8], [8])])
def impl_HalfTurnFormula.B7 : List Nat := [0, 0, 2, 6, 0, 16, 48, 126, 255, 511]
theorem impl_HalfTurnFormula.tab7 : rtab .any (opsOf Try.f53 7) = impl_HalfTurnFormula.T7 := by kernel_rfl
theorem impl_HalfTurnFormula.bits7 : waitsOk impl_HalfTurnFormula.T7.2 impl_HalfTurnFormula.B7 = true := by kernel_rfl
def impl_HalfTurnFormula.T11 : Bool × List (List Nat × List Nat) := (true, [([], []), ([], []), ([], []), ([1, 2], [1, 2]), ([], []), ([3, 4], [3, 4]), ([5], [5]), ([], []), ([7], [7]), ([], []), ([8, 9], [8, 9]), ([10], [10]), ([6, 11], [6, 11]), ([0, 12, 12], [0, 12]), ([13, 13, 0, 1, 2, 3, 4, 5, 6, 7, 8, 9, 10, 11, 12, 13], [13])])
def impl_HalfTurnFormula.B11 : List Nat := [0, 0, 0, 6, 0, 30, 62, 0, 128, 0, 896, 1920, 4094, 8191, 16383]
theorem impl_HalfTurnFormula.tab11 : rtab .any (opsOf Try.f53 11) = impl_HalfTurnFormula.T11 := by kernel_rfl
theorem impl_HalfTurnFormula.bits11 : waitsOk impl_HalfTurnFormula.T11.2 impl_HalfTurnFormula.B11 = true := by kernel_rfl
set_option maxHeartbeats 8000000 in
set_option maxRecDepth 100000 in
theorem impl_HalfTurnFormula.calls (k : Nat) (a0 : Int) (r1 : Int) (r2 : Bool) (w : World) (h : impl_HalfTurnFormula.f k a0 = some (r1, r2)) :
  Calls Try.prog 53 #[.int .i64 a0] w fun e w' => e = .returned (.tuple #[.int .i64 r1, .bool r2]) ∧ Below w.heap.size w w' := by
 have hu85 := Try.underlying85
 have HB := am_ (Below.refl w.heap.size w)
 have H : ((impl_within.f a0 1 6).bind fun t101 => (if t101 = true then ((impl_countSigns.f k a0).bind fun t102 => (impl_HalfTurnFormula.l0 k a0 1 t102 1)) else (some (0, false)))) = some (r1, r2) := h
 clear h
 replace H := Option.bind_eq_some_iff.mp H
 obtain ⟨t101, A20, H⟩ := H
 replace H : (if t101 = true then ((impl_countSigns.f k a0).bind fun t102 => (impl_HalfTurnFormula.l0 k a0 1 t102 1)) else (some (0, false))) = some (r1, r2) := H
 have A2 := am_ A20
 clear A20
 by_cases c3 : t101 = true
 ·subst c3
  have H1 : ((impl_countSigns.f k a0).bind fun t102 => (impl_HalfTurnFormula.l0 k a0 1 t102 1)) = some (r1, r2) := by rw [if_pos rfl] at H; exact H
  clear H
  have H := H1
  clear H1
  replace H := Option.bind_eq_some_iff.mp H
  obtain ⟨t102, A40, H⟩ := H
  replace H : (impl_HalfTurnFormula.l0 k a0 1 t102 1) = some (r1, r2) := H
  have A4 := am_ A40
  clear A40
  have H' := am_ H
  clear H
  go_enter Try.func53, Try.ntmps53
  go_wp2_with (first | ((with_reducible refine gate_callee (f := 107) rfl ?_); refine goesL_ (some 8) rfl rfl Try.func107 (by kernel_rfl) rfl #[.int .i64 a0, .int .i64 1, .int .i64 6] rfl tc1_ ?_; (with_reducible refine (impl_within.calls a0 1 6 true _ A2.out).mono ?_); rintro e w' ⟨rfl, ⟨nd, rfl⟩⟩; refine ⟨_, rfl, ?_⟩) | ((with_reducible refine gate_callee (f := 120) rfl ?_); refine goesL_ (some 11) rfl rfl Try.func120 (by kernel_rfl) rfl #[.int .i64 a0] rfl tc1_ ?_; (with_reducible refine (impl_countSigns.calls k a0 t102 _ A4.out).mono ?_); rintro e w' ⟨rfl, ⟨nd, rfl⟩⟩; refine ⟨_, rfl, ?_⟩) | ((with_reducible refine gate_dst (N := 4) rfl ?_); refine box_event ?hg (N := 4) ?hd (cs := #[.int .i64 0, .int .i64 0]) (t := 85) ?hr ?_; (case hd => rfl); (case hg => rfl); (case hr => exact tc19_); intro gb103 hg w5 hbox hb; have n0_ := am_ (below_step tc0_ hb); have n1_ := am_ (hbox); have n2_ := am_ ((by rw [hg]; exact (below_size tc0_) : w.heap.size ≤ gb103)); have n3_ := am_ ((by rw [hg]; exact (below_size tc0_) : w.heap.size ≤ gb103)); clear HB; have HB := n0_; have BK103 := n1_; have GW103 := n2_; have GE103 := n3_; clear n0_ n1_ n2_ n3_; clear hb hbox hg; have hcz6_0 : w5.cell? ⟨gb103, 0, none⟩ = some (.int .i64 0) := (blk_cell BK103.out 0).trans rfl; have hcz6_1 : w5.cell? ⟨gb103, 1, none⟩ = some (.int .i64 0) := (blk_cell BK103.out 1).trans rfl; have hfz6_0 := blk_frozen BK103.out 0; have hfz6_1 := blk_frozen BK103.out 1))
  go_loopg [5] k (fun kq v5 w' => ∃ (x5_1 : Int) (x104000_1 : Int) (x104001_1 : Int), v5 = .int .i64 x5_1 ∧ Aside0 (impl_HalfTurnFormula.l0 kq a0 x5_1 x104000_1 x104001_1 = some (r1, r2)) ∧ Aside0 (kq ≤ k) ∧ Aside0 (w'.heap[gb103]? = some (.cells #[.int .i64 x104000_1, .int .i64 x104001_1] 85 (0, 0))) ∧ Aside0 (Below w.heap.size w w'))
  case atStart => exact ⟨(1), (t102), (1), tc7_, H', ⟨Nat.le_refl _⟩, ⟨by (with_reducible repeat (first | refine blk_drewN ?_ _ | refine blk_drew ?_ | refine blk_alloc ?_ _)); refine blk_put (cs := #[.int .i64 t102, .int .i64 0]) ?_ 1 _ rfl; (with_reducible repeat (first | refine blk_drewN ?_ _ | refine blk_drew ?_ | refine blk_alloc ?_ _)); refine blk_put (cs := #[.int .i64 0, .int .i64 0]) ?_ 0 _ rfl; (with_reducible repeat (first | refine blk_drewN ?_ _ | refine blk_drew ?_ | refine blk_alloc ?_ _)); exact BK103.out⟩, ⟨by repeat (first | (with_reducible first | exact HB.out | apply below_alloc | apply pw_below_drewN | apply below_drew1 | refine below_set ?_ GE103.out) | exact HB.out)⟩⟩
  case round =>
   clear H'
   try clear c1
   try clear p2
   try clear c3
   try clear c5
   try clear hcz6_0
   try clear hcz6_1
   try clear hfz6_0
   try clear hfz6_1
   obtain ⟨x5_1, x104000_1, x104001_1, rfl, HA, HK1, BK103, HB⟩ := hrel
   cases gk with
   | zero => exact absurd HA.out (by simp [impl_HalfTurnFormula.l0])
   | succ k1 =>
    have H := HA.out
    clear HA
    simp only [impl_HalfTurnFormula.l0] at H
    by_cases c7 : x5_1 ≤ a0
    ·rw [if_pos c7] at H
     have c7b0 : decide (x5_1 ≤ a0) = true := decide_eq_true c7
     clear c7
     replace H := Option.bind_eq_some_iff.mp H
     obtain ⟨⟨t104, t105⟩, A80, H⟩ := H
     replace H : ((impl_Ratio_times.f k1 x104000_1 x104001_1 t104 t105).bind fun bt106 => (impl_HalfTurnFormula.l1 k1 a0 x5_1 x5_1 bt106.1 bt106.2)) = some (r1, r2) := H
     have A8 := am_ A80
     clear A80
     replace H := Option.bind_eq_some_iff.mp H
     obtain ⟨⟨t106, t107⟩, A90, H⟩ := H
     replace H : (impl_HalfTurnFormula.l1 k1 a0 x5_1 x5_1 t106 t107) = some (r1, r2) := H
     have A9 := am_ A90
     clear A90
     have H' := am_ H
     clear H
     try go_wp2
     have n0_ := am_ (blk_drew BK103.out)
     have n1_ := am_ (below_drew1 HB.out)
     clear BK103
     clear HB
     have BK103 := n0_
     have HB := n1_
     clear n0_ n1_
     refine start_ (n := 10) (S := fun w' => w'.cell? ⟨gb103, 0, none⟩ = some (.int .i64 x104000_1) ∧ w'.cell? ⟨gb103, 1, none⟩ = some (.int .i64 x104001_1)) (ds := [9]) #[false, false, false, false, false, false, false, false, false, false] (by kernel_rfl) rfl rfl ⟨(blk_cell BK103.out 0).trans rfl, (blk_cell BK103.out 1).trans rfl⟩ (fun hHeld => ?_); refine with_tabW impl_HalfTurnFormula.tab7 impl_HalfTurnFormula.bits7 (fun HT_ HW_ => ?_)
     generalize wr.drew = w10 at BK103 HB hHeld ⊢
     refine pure_ (i := 1) (N := some 19) (v := ?_) (a' := ?_) #[false, true, false, false, false, false, false, false, false, false] rfl rfl (any_of HT_.out (by kernel_rfl)) (fun _ _ _ h => h) (Or.inl ⟨by rfl, ?_⟩) ?_ ?_
     rotate_left
     ·intro w'
      go_simp
      with_reducible rfl
     rotate_left
     ·simp only [Act.put, List.setIfInBounds_toArray, List.set_cons_zero, List.set_cons_succ, i64_w, i32_w]
      rfl
     refine pure_ (i := 2) (N := some 20) (v := ?_) (a' := ?_) #[false, true, true, false, false, false, false, false, false, false] rfl rfl (any_of HT_.out (by kernel_rfl)) (fun _ _ _ h => h) (Or.inl ⟨by rfl, ?_⟩) ?_ ?_
     rotate_left
     ·intro w'
      go_simp
      with_reducible rfl
     rotate_left
     ·simp only [Act.put, List.setIfInBounds_toArray, List.set_cons_zero, List.set_cons_succ, i64_w, i32_w]
      rfl
     refine pure_ (i := 3) (N := some 21) (v := ?_) (a' := ?_) #[false, true, true, true, false, false, false, false, false, false] rfl rfl (any_of HT_.out (by kernel_rfl)) (fun _ _ _ h => h) (Or.inl ⟨by rfl, ?_⟩) ?_ ?_
     rotate_left
     ·intro w'
      go_simp
      with_reducible rfl
     rotate_left
     ·simp only [Act.put, List.setIfInBounds_toArray, List.set_cons_zero, List.set_cons_succ, i64_w, i32_w]
      rfl
     refine pure_ (i := 4) (N := some 22) (v := ?_) (a' := ?_) #[false, true, true, true, true, false, false, false, false, false] rfl rfl (any_of HT_.out (by kernel_rfl)) (fun _ _ _ h => h) (Or.inl ⟨by rfl, ?_⟩) ?_ ?_
     rotate_left
     ·intro w'
      go_simp
      with_reducible rfl
     rotate_left
     ·simp only [Act.put, List.setIfInBounds_toArray, List.set_cons_zero, List.set_cons_succ, i64_w, i32_w]
      rfl
     refine pure_ (i := 5) (N := some 23) (v := ?_) (a' := ?_) #[false, true, true, true, true, true, false, false, false, false] rfl rfl (any_of HT_.out (by kernel_rfl)) (fun _ _ _ h => h) (Or.inl ⟨by rfl, ?_⟩) ?_ ?_
     rotate_left
     ·intro w'
      go_simp
      with_reducible rfl
     rotate_left
     ·simp only [Act.put, List.setIfInBounds_toArray, List.set_cons_zero, List.set_cons_succ, i64_w, i32_w]
      rfl
     refine pure_ (i := 6) (N := some 24) (v := ?_) (a' := ?_) #[false, true, true, true, true, true, true, false, false, false] rfl rfl (any_of HT_.out (by kernel_rfl)) (fun _ _ _ h => h) (Or.inl ⟨by rfl, ?_⟩) ?_ ?_
     rotate_left
     ·intro w'
      go_simp
      with_reducible rfl
     rotate_left
     ·simp only [Act.put, List.setIfInBounds_toArray, List.set_cons_zero, List.set_cons_succ, i64_w, i32_w]
      rfl
     refine take_ (i := 0) (N := some 18) (v := ?_) (a' := ?_) #[true, true, true, true, true, true, true, false, false, false] rfl rfl (take_ofW HT_.out HW_.out (by kernel_rfl)) (fun _ _ _ h => h) (Or.inl ⟨by rfl, ?_⟩) hHeld ?_ ?_
     rotate_left
     ·rintro w' ⟨s0, s1⟩
      go_simp
      with_reducible rfl
     rotate_left
     ·simp only [Act.put, List.setIfInBounds_toArray, List.set_cons_zero, List.set_cons_succ, i64_w, i32_w]
      rfl
     refine one_ (i := 7) (N := some 25) #[true, true, true, true, true, true, true, true, false, false] rfl rfl (one_of HT_.out (by kernel_rfl)) (by decide) (fun K hK => ?_)
     refine goes_ Try.func122 (by kernel_rfl) rfl #[.int .i64 (wrap64 ((wrap64 (3 * x5_1)) - 1)), .int .i64 (wrap64 ((wrap64 (3 * x5_1)) - 2))] (by rfl) rfl rfl tc1_ ?_
     with_reducible refine (impl_ratio.calls k1 (wrap64 ((wrap64 (3 * x5_1)) - 1)) (wrap64 ((wrap64 (3 * x5_1)) - 2)) t104 t105 _ A8.out).mono ?_
     rintro e w11 ⟨rfl, hb⟩
     refine ⟨_, rfl, ?_⟩
     have n0_ := am_ (blk_below (g := gb103) (o := .cells #[.int .i64 x104000_1, .int .i64 x104001_1] 85 (0, 0)) tc5_ hb)
     have n1_ := am_ (below_step tc52_ hb)
     clear BK103
     clear HB
     have BK103 := n0_
     have HB := n1_
     clear n0_ n1_
     (try clear hb)
     (try clear hb2)
     (try clear hk)
     (try clear hi)
     refine hK.out _ _ ⟨(blk_cell BK103.out 0).trans rfl, (blk_cell BK103.out 1).trans rfl⟩ (fun hHeld => ?_)
     clear hK K
     refine norm_ (a' := ?_) ?_ ?_
     rotate_left
     ·show Act.put _ (some 25) _ = _
      simp only [Act.put, List.setIfInBounds_toArray, List.set_cons_zero, List.set_cons_succ, i64_w, i32_w]
      rfl
     refine one_ (i := 8) (N := some 26) #[true, true, true, true, true, true, true, true, true, false] rfl rfl (one_of HT_.out (by kernel_rfl)) (by decide) (fun K hK => ?_)
     refine goes_ Try.func121 (by kernel_rfl) rfl #[.agg #[.int .i64 x104000_1, .int .i64 x104001_1], .agg #[.int .i64 t104, .int .i64 t105]] (by rfl) rfl rfl tc1_ ?_
     with_reducible refine (impl_Ratio_times.calls k1 x104000_1 x104001_1 t104 t105 t106 t107 _ A9.out).mono ?_
     rintro e w12 ⟨rfl, hb⟩
     refine ⟨_, rfl, ?_⟩
     have n0_ := am_ (blk_below (g := gb103) (o := .cells #[.int .i64 x104000_1, .int .i64 x104001_1] 85 (0, 0)) tc5_ hb)
     have n1_ := am_ (below_step tc52_ hb)
     clear BK103
     clear HB
     have BK103 := n0_
     have HB := n1_
     clear n0_ n1_
     (try clear hb)
     (try clear hb2)
     (try clear hk)
     (try clear hi)
     refine hK.out _ _ ⟨(blk_cell BK103.out 0).trans rfl, (blk_cell BK103.out 1).trans rfl⟩ (fun hHeld => ?_)
     clear hK K
     refine norm_ (a' := ?_) ?_ ?_
     rotate_left
     ·show Act.put _ (some 26) _ = _
      simp only [Act.put, List.setIfInBounds_toArray, List.set_cons_zero, List.set_cons_succ, i64_w, i32_w]
      rfl
     refine last_ (i := 9) (N := none) #[true, true, true, true, true, true, true, true, true, true] rfl rfl (one_of HT_.out (by kernel_rfl)) (by decide) (fun K hK => ?_)
     have hs13 : w12.cell? ⟨gb103, 0, none⟩ = some (.int .i64 x104000_1) := (blk_cell BK103.out 0).trans rfl
     have hfs13 := blk_frozen BK103.out 0
     have hs14 : w12.cell? ⟨gb103, 1, none⟩ = some (.int .i64 x104001_1) := (blk_cell BK103.out 1).trans rfl
     have hfs14 := blk_frozen BK103.out 1
     refine skip_ (w1 := ?_) (by rfl) rfl ?_ ?_
     rotate_left
     ·go_simp
      rfl
     refine hK.out _ _ ?_
     clear hK K
     refine done_ (done_of HT_.out (by kernel_rfl)) ?_
     try go_wp2
     go_loopg [6] k1 (fun kq v6 w' => ∃ (x6_2 : Int) (x104000_2 : Int) (x104001_2 : Int), v6 = .int .i64 x6_2 ∧ Aside0 (impl_HalfTurnFormula.l1 kq a0 x5_1 x6_2 x104000_2 x104001_2 = some (r1, r2)) ∧ Aside0 (kq ≤ k1) ∧ Aside0 (w'.heap[gb103]? = some (.cells #[.int .i64 x104000_2, .int .i64 x104001_2] 85 (0, 0))) ∧ Aside0 (Below w.heap.size w w'))
     case atStart => exact ⟨(x5_1), (t106), (t107), tc7_, H', ⟨Nat.le_refl _⟩, ⟨by (with_reducible repeat (first | refine blk_drewN ?_ _ | refine blk_drew ?_ | refine blk_alloc ?_ _)); refine blk_put (cs := #[.int .i64 t106, .int .i64 x104001_1]) ?_ 1 _ rfl; (with_reducible repeat (first | refine blk_drewN ?_ _ | refine blk_drew ?_ | refine blk_alloc ?_ _)); refine blk_put (cs := #[.int .i64 x104000_1, .int .i64 x104001_1]) ?_ 0 _ rfl; (with_reducible repeat (first | refine blk_drewN ?_ _ | refine blk_drew ?_ | refine blk_alloc ?_ _)); exact BK103.out⟩, ⟨by repeat (first | (with_reducible first | exact HB.out | apply below_alloc | apply pw_below_drewN | apply below_drew1 | refine below_set ?_ GE103.out) | exact HB.out)⟩⟩
     case round =>
      clear H'
      try clear c1
      try clear p2
      try clear c3
      try clear c5
      try clear p6
      try clear c7
      try clear c7b0
      try clear c10
      try clear c12
      try clear hcz6_0
      try clear hcz6_1
      try clear hfz6_0
      try clear hfz6_1
      try clear p2
      obtain ⟨x6_2, x104000_2, x104001_2, rfl, HA, HK2, BK103, HB⟩ := hrel
      cases gk with
      | zero => exact absurd HA.out (by simp [impl_HalfTurnFormula.l1])
      | succ k2 =>
       have H := HA.out
       clear HA
       simp only [impl_HalfTurnFormula.l1] at H
       by_cases c15 : x6_2 ≤ a0
       ·rw [if_pos c15] at H
        have c15b0 : decide (x6_2 ≤ a0) = true := decide_eq_true c15
        clear c15
        replace H := Option.bind_eq_some_iff.mp H
        obtain ⟨⟨t108, t109⟩, A160, H⟩ := H
        replace H : ((impl_Ratio_times.f k2 x104000_2 x104001_2 t108 t109).bind fun bt110 => (impl_HalfTurnFormula.l1 k2 a0 x5_1 (wrap64 (x6_2 + 1)) bt110.1 bt110.2)) = some (r1, r2) := H
        have A16 := am_ A160
        clear A160
        replace H := Option.bind_eq_some_iff.mp H
        obtain ⟨⟨t110, t111⟩, A170, H⟩ := H
        replace H : (impl_HalfTurnFormula.l1 k2 a0 x5_1 (wrap64 (x6_2 + 1)) t110 t111) = some (r1, r2) := H
        have A17 := am_ A170
        clear A170
        have H' := am_ H
        clear H
        try go_wp2
        have n0_ := am_ (blk_drew BK103.out)
        have n1_ := am_ (below_drew1 HB.out)
        clear BK103
        clear HB
        have BK103 := n0_
        have HB := n1_
        clear n0_ n1_
        refine start_ (n := 15) (S := fun w' => w'.cell? ⟨gb103, 0, none⟩ = some (.int .i64 x104000_2) ∧ w'.cell? ⟨gb103, 1, none⟩ = some (.int .i64 x104001_2)) (ds := [14]) #[false, false, false, false, false, false, false, false, false, false, false, false, false, false, false] (by kernel_rfl) rfl rfl ⟨(blk_cell BK103.out 0).trans rfl, (blk_cell BK103.out 1).trans rfl⟩ (fun hHeld => ?_); refine with_tabW impl_HalfTurnFormula.tab11 impl_HalfTurnFormula.bits11 (fun HT_ HW_ => ?_)
        generalize wr.drew = w18 at BK103 HB hHeld ⊢
        refine pure_ (i := 1) (N := some 34) (v := ?_) (a' := ?_) #[false, true, false, false, false, false, false, false, false, false, false, false, false, false, false] rfl rfl (any_of HT_.out (by kernel_rfl)) (fun _ _ _ h => h) (Or.inl ⟨by rfl, ?_⟩) ?_ ?_
        rotate_left
        ·intro w'
         go_simp
         with_reducible rfl
        rotate_left
        ·simp only [Act.put, List.setIfInBounds_toArray, List.set_cons_zero, List.set_cons_succ, i64_w, i32_w]
         rfl
        refine pure_ (i := 2) (N := some 35) (v := ?_) (a' := ?_) #[false, true, true, false, false, false, false, false, false, false, false, false, false, false, false] rfl rfl (any_of HT_.out (by kernel_rfl)) (fun _ _ _ h => h) (Or.inl ⟨by rfl, ?_⟩) ?_ ?_
        rotate_left
        ·intro w'
         go_simp
         with_reducible rfl
        rotate_left
        ·simp only [Act.put, List.setIfInBounds_toArray, List.set_cons_zero, List.set_cons_succ, i64_w, i32_w]
         rfl
        refine pure_ (i := 3) (N := some 36) (v := ?_) (a' := ?_) #[false, true, true, true, false, false, false, false, false, false, false, false, false, false, false] rfl rfl (any_of HT_.out (by kernel_rfl)) (fun _ _ _ h => h) (Or.inl ⟨by rfl, ?_⟩) ?_ ?_
        rotate_left
        ·intro w'
         go_simp
         with_reducible rfl
        rotate_left
        ·simp only [Act.put, List.setIfInBounds_toArray, List.set_cons_zero, List.set_cons_succ, i64_w, i32_w]
         rfl
        refine pure_ (i := 4) (N := some 37) (v := ?_) (a' := ?_) #[false, true, true, true, true, false, false, false, false, false, false, false, false, false, false] rfl rfl (any_of HT_.out (by kernel_rfl)) (fun _ _ _ h => h) (Or.inl ⟨by rfl, ?_⟩) ?_ ?_
        rotate_left
        ·intro w'
         go_simp
         with_reducible rfl
        rotate_left
        ·simp only [Act.put, List.setIfInBounds_toArray, List.set_cons_zero, List.set_cons_succ, i64_w, i32_w]
         rfl
        refine pure_ (i := 5) (N := some 38) (v := ?_) (a' := ?_) #[false, true, true, true, true, true, false, false, false, false, false, false, false, false, false] rfl rfl (any_of HT_.out (by kernel_rfl)) (fun _ _ _ h => h) (Or.inl ⟨by rfl, ?_⟩) ?_ ?_
        rotate_left
        ·intro w'
         go_simp
         with_reducible rfl
        rotate_left
        ·simp only [Act.put, List.setIfInBounds_toArray, List.set_cons_zero, List.set_cons_succ, i64_w, i32_w]
         rfl
        refine pure_ (i := 6) (N := some 39) (v := ?_) (a' := ?_) #[false, true, true, true, true, true, true, false, false, false, false, false, false, false, false] rfl rfl (any_of HT_.out (by kernel_rfl)) (fun _ _ _ h => h) (Or.inl ⟨by rfl, ?_⟩) ?_ ?_
        rotate_left
        ·intro w'
         go_simp
         with_reducible rfl
        rotate_left
        ·simp only [Act.put, List.setIfInBounds_toArray, List.set_cons_zero, List.set_cons_succ, i64_w, i32_w]
         rfl
        refine pure_ (i := 7) (N := some 40) (v := ?_) (a' := ?_) #[false, true, true, true, true, true, true, true, false, false, false, false, false, false, false] rfl rfl (any_of HT_.out (by kernel_rfl)) (fun _ _ _ h => h) (Or.inl ⟨by rfl, ?_⟩) ?_ ?_
        rotate_left
        ·intro w'
         go_simp
         with_reducible rfl
        rotate_left
        ·simp only [Act.put, List.setIfInBounds_toArray, List.set_cons_zero, List.set_cons_succ, i64_w, i32_w]
         rfl
        refine pure_ (i := 8) (N := some 41) (v := ?_) (a' := ?_) #[false, true, true, true, true, true, true, true, true, false, false, false, false, false, false] rfl rfl (any_of HT_.out (by kernel_rfl)) (fun _ _ _ h => h) (Or.inl ⟨by rfl, ?_⟩) ?_ ?_
        rotate_left
        ·intro w'
         go_simp
         with_reducible rfl
        rotate_left
        ·simp only [Act.put, List.setIfInBounds_toArray, List.set_cons_zero, List.set_cons_succ, i64_w, i32_w]
         rfl
        refine pure_ (i := 9) (N := some 42) (v := ?_) (a' := ?_) #[false, true, true, true, true, true, true, true, true, true, false, false, false, false, false] rfl rfl (any_of HT_.out (by kernel_rfl)) (fun _ _ _ h => h) (Or.inl ⟨by rfl, ?_⟩) ?_ ?_
        rotate_left
        ·intro w'
         go_simp
         with_reducible rfl
        rotate_left
        ·simp only [Act.put, List.setIfInBounds_toArray, List.set_cons_zero, List.set_cons_succ, i64_w, i32_w]
         rfl
        refine pure_ (i := 10) (N := some 43) (v := ?_) (a' := ?_) #[false, true, true, true, true, true, true, true, true, true, true, false, false, false, false] rfl rfl (any_of HT_.out (by kernel_rfl)) (fun _ _ _ h => h) (Or.inl ⟨by rfl, ?_⟩) ?_ ?_
        rotate_left
        ·intro w'
         go_simp
         with_reducible rfl
        rotate_left
        ·simp only [Act.put, List.setIfInBounds_toArray, List.set_cons_zero, List.set_cons_succ, i64_w, i32_w]
         rfl
        refine pure_ (i := 11) (N := some 44) (v := ?_) (a' := ?_) #[false, true, true, true, true, true, true, true, true, true, true, true, false, false, false] rfl rfl (any_of HT_.out (by kernel_rfl)) (fun _ _ _ h => h) (Or.inl ⟨by rfl, ?_⟩) ?_ ?_
        rotate_left
        ·intro w'
         go_simp
         with_reducible rfl
        rotate_left
        ·simp only [Act.put, List.setIfInBounds_toArray, List.set_cons_zero, List.set_cons_succ, i64_w, i32_w]
         rfl
        refine take_ (i := 0) (N := some 33) (v := ?_) (a' := ?_) #[true, true, true, true, true, true, true, true, true, true, true, true, false, false, false] rfl rfl (take_ofW HT_.out HW_.out (by kernel_rfl)) (fun _ _ _ h => h) (Or.inl ⟨by rfl, ?_⟩) hHeld ?_ ?_
        rotate_left
        ·rintro w' ⟨s0, s1⟩
         go_simp
         with_reducible rfl
        rotate_left
        ·simp only [Act.put, List.setIfInBounds_toArray, List.set_cons_zero, List.set_cons_succ, i64_w, i32_w]
         rfl
        refine one_ (i := 12) (N := some 45) #[true, true, true, true, true, true, true, true, true, true, true, true, true, false, false] rfl rfl (one_of HT_.out (by kernel_rfl)) (by decide) (fun K hK => ?_)
        refine goes_ Try.func122 (by kernel_rfl) rfl #[.int .i64 (wrap64 ((wrap64 ((wrap64 (a0 + x5_1)) + x6_2)) - 1)), .int .i64 (wrap64 ((wrap64 ((wrap64 (2 * x5_1)) + x6_2)) - 1))] (by rfl) rfl rfl tc1_ ?_
        with_reducible refine (impl_ratio.calls k2 (wrap64 ((wrap64 ((wrap64 (a0 + x5_1)) + x6_2)) - 1)) (wrap64 ((wrap64 ((wrap64 (2 * x5_1)) + x6_2)) - 1)) t108 t109 _ A16.out).mono ?_
        rintro e w19 ⟨rfl, hb⟩
        refine ⟨_, rfl, ?_⟩
        have n0_ := am_ (blk_below (g := gb103) (o := .cells #[.int .i64 x104000_2, .int .i64 x104001_2] 85 (0, 0)) tc5_ hb)
        have n1_ := am_ (below_step tc52_ hb)
        clear BK103
        clear HB
        have BK103 := n0_
        have HB := n1_
        clear n0_ n1_
        (try clear hb)
        (try clear hb2)
        (try clear hk)
        (try clear hi)
        refine hK.out _ _ ⟨(blk_cell BK103.out 0).trans rfl, (blk_cell BK103.out 1).trans rfl⟩ (fun hHeld => ?_)
        clear hK K
        refine norm_ (a' := ?_) ?_ ?_
        rotate_left
        ·show Act.put _ (some 45) _ = _
         simp only [Act.put, List.setIfInBounds_toArray, List.set_cons_zero, List.set_cons_succ, i64_w, i32_w]
         rfl
        refine one_ (i := 13) (N := some 46) #[true, true, true, true, true, true, true, true, true, true, true, true, true, true, false] rfl rfl (one_of HT_.out (by kernel_rfl)) (by decide) (fun K hK => ?_)
        refine goes_ Try.func121 (by kernel_rfl) rfl #[.agg #[.int .i64 x104000_2, .int .i64 x104001_2], .agg #[.int .i64 t108, .int .i64 t109]] (by rfl) rfl rfl tc1_ ?_
        with_reducible refine (impl_Ratio_times.calls k2 x104000_2 x104001_2 t108 t109 t110 t111 _ A17.out).mono ?_
        rintro e w20 ⟨rfl, hb⟩
        refine ⟨_, rfl, ?_⟩
        have n0_ := am_ (blk_below (g := gb103) (o := .cells #[.int .i64 x104000_2, .int .i64 x104001_2] 85 (0, 0)) tc5_ hb)
        have n1_ := am_ (below_step tc52_ hb)
        clear BK103
        clear HB
        have BK103 := n0_
        have HB := n1_
        clear n0_ n1_
        (try clear hb)
        (try clear hb2)
        (try clear hk)
        (try clear hi)
        refine hK.out _ _ ⟨(blk_cell BK103.out 0).trans rfl, (blk_cell BK103.out 1).trans rfl⟩ (fun hHeld => ?_)
        clear hK K
        refine norm_ (a' := ?_) ?_ ?_
        rotate_left
        ·show Act.put _ (some 46) _ = _
         simp only [Act.put, List.setIfInBounds_toArray, List.set_cons_zero, List.set_cons_succ, i64_w, i32_w]
         rfl
        refine last_ (i := 14) (N := none) #[true, true, true, true, true, true, true, true, true, true, true, true, true, true, true] rfl rfl (one_of HT_.out (by kernel_rfl)) (by decide) (fun K hK => ?_)
        have hs21 : w20.cell? ⟨gb103, 0, none⟩ = some (.int .i64 x104000_2) := (blk_cell BK103.out 0).trans rfl
        have hfs21 := blk_frozen BK103.out 0
        have hs22 : w20.cell? ⟨gb103, 1, none⟩ = some (.int .i64 x104001_2) := (blk_cell BK103.out 1).trans rfl
        have hfs22 := blk_frozen BK103.out 1
        refine skip_ (w1 := ?_) (by rfl) rfl ?_ ?_
        rotate_left
        ·go_simp
         rfl
        refine hK.out _ _ ?_
        clear hK K
        refine done_ (done_of HT_.out (by kernel_rfl)) ?_
        try go_wp2
        go_roundg k2
        case measure => have := HK1.out; have := HK2.out; omega
        case rel => exact ⟨(wrap64 (x6_2 + 1)), (t110), (t111), tc7_, H', ⟨by have := HK1.out; have := HK2.out; omega⟩, ⟨by (with_reducible repeat (first | refine blk_drewN ?_ _ | refine blk_drew ?_ | refine blk_alloc ?_ _)); refine blk_put (cs := #[.int .i64 t110, .int .i64 x104001_2]) ?_ 1 _ rfl; (with_reducible repeat (first | refine blk_drewN ?_ _ | refine blk_drew ?_ | refine blk_alloc ?_ _)); refine blk_put (cs := #[.int .i64 x104000_2, .int .i64 x104001_2]) ?_ 0 _ rfl; (with_reducible repeat (first | refine blk_drewN ?_ _ | refine blk_drew ?_ | refine blk_alloc ?_ _)); exact BK103.out⟩, ⟨by repeat (first | (with_reducible first | exact HB.out | apply below_alloc | apply pw_below_drewN | apply below_drew1 | refine below_set ?_ GE103.out) | exact HB.out)⟩⟩
       ·rw [if_neg c15] at H
        have c15b0 : decide (x6_2 ≤ a0) = false := decide_eq_false c15
        clear c15
        have H' := am_ H
        clear H
        go_wp2
        go_roundg k2
        case measure => have := HK1.out; have := HK2.out; omega
        case rel => exact ⟨(wrap64 (x5_1 + 1)), (x104000_2), (x104001_2), tc7_, H', ⟨by have := HK1.out; have := HK2.out; omega⟩, ⟨by (with_reducible repeat (first | refine blk_drewN ?_ _ | refine blk_drew ?_ | refine blk_alloc ?_ _)); exact BK103.out⟩, ⟨by repeat (first | (with_reducible first | exact HB.out | apply below_alloc | apply pw_below_drewN | apply below_drew1 | refine below_set ?_ GE103.out) | exact HB.out)⟩⟩
    ·rw [if_neg c7] at H
     have c7b0 : decide (x5_1 ≤ a0) = false := decide_eq_false c7
     clear c7
     simp only [Option.some.injEq, Prod.mk.injEq] at H
     obtain ⟨rfl, rfl⟩ := H
     have hcz23_0 : wr.cell? ⟨gb103, 0, none⟩ = some (.int .i64 x104000_1) := (blk_cell BK103.out 0).trans rfl
     have hcz23_1 : wr.cell? ⟨gb103, 1, none⟩ = some (.int .i64 x104001_1) := (blk_cell BK103.out 1).trans rfl
     have hfz23_0 := blk_frozen BK103.out 0
     have hfz23_1 := blk_frozen BK103.out 1
     go_wp2
     go_ret2
     exact ⟨by first | rfl | (simp [errW_none, errW_some] <;> rfl) | (simp [*, errW_none, errW_some] <;> rfl), by repeat (first | (with_reducible first | exact HB.out | apply below_alloc | apply pw_below_drewN | apply below_drew1 | refine below_set ?_ GE103.out) | exact HB.out)⟩
 ·replace c3 := Bool.eq_false_iff.mpr c3
  subst c3
  have H1 : (some (0, false)) = some (r1, r2) := by rw [if_neg (show ¬ (false = true) by decide)] at H; exact H
  clear H
  have H := H1
  clear H1
  simp only [Option.some.injEq, Prod.mk.injEq] at H
  obtain ⟨rfl, rfl⟩ := H
  go_enter Try.func53, Try.ntmps53
  go_wp2_with (first | ((with_reducible refine gate_callee (f := 107) rfl ?_); refine goesL_ (some 8) rfl rfl Try.func107 (by kernel_rfl) rfl #[.int .i64 a0, .int .i64 1, .int .i64 6] rfl tc1_ ?_; (with_reducible refine (impl_within.calls a0 1 6 false _ A2.out).mono ?_); rintro e w' ⟨rfl, ⟨nd, rfl⟩⟩; refine ⟨_, rfl, ?_⟩))
  go_ret2
  exact ⟨by first | rfl | (simp [errW_none, errW_some] <;> rfl) | (simp [*, errW_none, errW_some] <;> rfl), by repeat (first | (with_reducible first | exact HB.out | apply below_alloc | apply pw_below_drewN | apply below_drew1) | exact HB.out)⟩

/-! ### spec_sgGcd: function 180 -/
def spec_sgGcd.f : Nat → Int → Int → Option (Int)
 | 0, _, _ => none
 | k + 1, a0, a1 => if a1 = 0 then (some a0) else ((spec_sgGcd.f k a1 (Int.tmod a0 a1)).bind fun t101 => (some t101))
theorem spec_sgGcd.mono_l : ∀ k, (∀ y0 y1, LeO (spec_sgGcd.f k y0 y1) (spec_sgGcd.f (k + 1) y0 y1))
 | 0 => fun _ _ r h => by simp [spec_sgGcd.f] at h
 | k + 1 => by
  have ih0 := spec_sgGcd.mono_l k
  ·intro y0 y1
   unfold spec_sgGcd.f
   repeat' first
   | (with_reducible exact ih0 _ _)
   | (with_reducible exact LeO.refl _)
   | (with_reducible exact LeO.none _)
   | (with_reducible refine LeO.ite ?_ ?_)
   | (with_reducible refine LeO.bind ?_ (fun _ => ?_))
   | exact ih0 _ _
   | exact LeO.none _
   | refine LeO.ite ?_ ?_
   | refine LeO.bind ?_ (fun _ => ?_)
theorem spec_sgGcd.mono : ∀ a0 a1  k, LeO (spec_sgGcd.f k a0 a1) (spec_sgGcd.f (k + 1) a0 a1) := by
 intro a0 a1 k
 have ih0 := spec_sgGcd.mono_l k
 exact ih0 a0 a1
set_option maxHeartbeats 8000000 in
set_option maxRecDepth 100000 in
theorem spec_sgGcd.calls (k : Nat) : ∀ (a0 : Int) (a1 : Int) (r : Int) (w : World) (h : spec_sgGcd.f k a0 a1 = some r),
  Calls Try.prog 180 #[.int .i64 a0, .int .i64 a1] w fun e w' => e = .returned (.int .i64 r) ∧ Drawn0 w w' := by
 induction k using Nat.strongRecOn with
 | _ k ih =>
 intro a0 a1 r w h
 cases k with
 | zero => exact absurd h (by simp [spec_sgGcd.f])
 | succ k =>
 simp only [spec_sgGcd.f] at h
 have H : (if a1 = 0 then (some a0) else ((spec_sgGcd.f k a1 (Int.tmod a0 a1)).bind fun t101 => (some t101))) = some r := h
 clear h
 by_cases c3 : a1 = 0
 ·rw [if_pos c3] at H
  have c3b0 : (a1 == 0) = true := beq_iff_eq.mpr c3
  have c3b1 : (a1 != 0) = false := bne_eq_false_iff_eq.mpr c3
  clear c3
  obtain rfl := Option.some.inj H
  go_enter Try.func180, Try.ntmps180
  go_wp2
  go_ret
  exact ⟨by first | rfl | (simp; done) | (simp [*]; done), by repeat (first | exact Drawn0.refl _ | apply Drawn0.step)⟩
 ·rw [if_neg c3] at H
  have c3b0 : (a1 == 0) = false := beq_eq_false_iff_ne.mpr c3
  have c3b1 : (a1 != 0) = true := bne_iff_ne.mpr c3
  replace H := Option.bind_eq_some_iff.mp H
  obtain ⟨t101, A40, H⟩ := H
  replace H : (some t101) = some r := H
  have A4 := am_ A40
  clear A40
  obtain rfl := Option.some.inj H
  go_enter Try.func180, Try.ntmps180
  go_wp2_with (first | ((with_reducible refine gate_callee (f := 180) rfl ?_); refine goesL_ (some 12) rfl rfl Try.func180 (by kernel_rfl) rfl #[.int .i64 a1, .int .i64 (Int.tmod a0 a1)] rfl tc1_ ?_; (with_reducible refine (ih k (by omega) a1 (Int.tmod a0 a1) t101 _ A4.out).mono ?_); rintro e w' ⟨rfl, ⟨nd, rfl⟩⟩; refine ⟨_, rfl, ?_⟩))
  go_ret
  exact ⟨by first | rfl | (simp; done) | (simp [*]; done), by repeat (first | exact Drawn0.refl _ | apply Drawn0.step)⟩

/-! ### spec_CountSigns: function 123 -/
mutual
def spec_CountSigns.l0 : Nat → Int → Int → Int → Int → Option (Int × Bool)
 | 0, _, _, _, _ => none
 | k + 1, x0, x4, x5, x6 => if x6 < x0 then (spec_CountSigns.l1 k x0 x4 x5 x6 (wrap64 ((wrap64 (x0 + x6)) + 1))) else (if x5 = 0 then (none) else (some (wrap64 (Int.tdiv x4 x5), true)))
def spec_CountSigns.l1 : Nat → Int → Int → Int → Int → Int → Option (Int × Bool)
 | 0, _, _, _, _, _ => none
 | k + 1, x0, x4, x5, x6, x7 => if x7 ≤ (wrap64 ((wrap64 (3 * x6)) + 1)) then ((spec_sgGcd.f k x7 x5).bind fun t102 => (if t102 = 0 then (none) else (spec_CountSigns.l1 k x0 (wrap64 (x4 * (wrap64 (Int.tdiv x7 t102)))) (wrap64 (Int.tdiv x5 t102)) x6 (wrap64 (x7 + 1))))) else (spec_CountSigns.l2 k x0 x4 x5 x6 (wrap64 ((wrap64 (3 * x6)) + 2)))
def spec_CountSigns.l2 : Nat → Int → Int → Int → Int → Int → Option (Int × Bool)
 | 0, _, _, _, _, _ => none
 | k + 1, x0, x4, x5, x6, x9 => if x9 ≤ (wrap64 (x0 + x6)) then ((spec_sgGcd.f k x4 x9).bind fun t103 => (if t103 = 0 then (none) else (spec_CountSigns.l2 k x0 (wrap64 (Int.tdiv x4 t103)) (wrap64 (x5 * (wrap64 (Int.tdiv x9 t103)))) x6 (wrap64 (x9 + 1))))) else (spec_CountSigns.l0 k x0 x4 x5 (wrap64 (x6 + 1)))
end
def spec_CountSigns.f (k : Nat) (a0 : Int) : Option (Int × Bool) := (spec_l1In.f a0 1 8).bind fun t101 => (if t101 = true then (spec_CountSigns.l0 k a0 1 1 0) else (some (0, false)))
theorem spec_CountSigns.mono_l : ∀ k, (∀ y0 y1 y2 y3, LeO (spec_CountSigns.l0 k y0 y1 y2 y3) (spec_CountSigns.l0 (k + 1) y0 y1 y2 y3)) ∧ (∀ y0 y1 y2 y3 y4, LeO (spec_CountSigns.l1 k y0 y1 y2 y3 y4) (spec_CountSigns.l1 (k + 1) y0 y1 y2 y3 y4)) ∧ (∀ y0 y1 y2 y3 y4, LeO (spec_CountSigns.l2 k y0 y1 y2 y3 y4) (spec_CountSigns.l2 (k + 1) y0 y1 y2 y3 y4))
 | 0 => ⟨fun _ _ _ _ r h => by simp [spec_CountSigns.l0] at h, fun _ _ _ _ _ r h => by simp [spec_CountSigns.l1] at h, fun _ _ _ _ _ r h => by simp [spec_CountSigns.l2] at h⟩
 | k + 1 => by
  obtain ⟨ih0, ih1, ih2⟩ := spec_CountSigns.mono_l k
  refine ⟨?_, ?_, ?_⟩
  ·intro y0 y1 y2 y3
   unfold spec_CountSigns.l0
   repeat' first
   | (with_reducible exact ih0 _ _ _ _)
   | (with_reducible exact ih1 _ _ _ _ _)
   | (with_reducible exact ih2 _ _ _ _ _)
   | (with_reducible exact spec_sgGcd.mono _ _ _)
   | (with_reducible exact LeO.refl _)
   | (with_reducible exact LeO.none _)
   | (with_reducible refine LeO.ite ?_ ?_)
   | (with_reducible refine LeO.bind ?_ (fun _ => ?_))
   | exact ih0 _ _ _ _
   | exact ih1 _ _ _ _ _
   | exact ih2 _ _ _ _ _
   | exact spec_sgGcd.mono _ _ _
   | exact LeO.none _
   | refine LeO.ite ?_ ?_
   | refine LeO.bind ?_ (fun _ => ?_)
  ·intro y0 y1 y2 y3 y4
   unfold spec_CountSigns.l1
   repeat' first
   | (with_reducible exact ih0 _ _ _ _)
   | (with_reducible exact ih1 _ _ _ _ _)
   | (with_reducible exact ih2 _ _ _ _ _)
   | (with_reducible exact spec_sgGcd.mono _ _ _)
   | (with_reducible exact LeO.refl _)
   | (with_reducible exact LeO.none _)
   | (with_reducible refine LeO.ite ?_ ?_)
   | (with_reducible refine LeO.bind ?_ (fun _ => ?_))
   | exact ih0 _ _ _ _
   | exact ih1 _ _ _ _ _
   | exact ih2 _ _ _ _ _
   | exact spec_sgGcd.mono _ _ _
   | exact LeO.none _
   | refine LeO.ite ?_ ?_
   | refine LeO.bind ?_ (fun _ => ?_)
  ·intro y0 y1 y2 y3 y4
   unfold spec_CountSigns.l2
   repeat' first
   | (with_reducible exact ih0 _ _ _ _)
   | (with_reducible exact ih1 _ _ _ _ _)
   | (with_reducible exact ih2 _ _ _ _ _)
   | (with_reducible exact spec_sgGcd.mono _ _ _)
   | (with_reducible exact LeO.refl _)
   | (with_reducible exact LeO.none _)
   | (with_reducible refine LeO.ite ?_ ?_)
   | (with_reducible refine LeO.bind ?_ (fun _ => ?_))
   | exact ih0 _ _ _ _
   | exact ih1 _ _ _ _ _
   | exact ih2 _ _ _ _ _
   | exact spec_sgGcd.mono _ _ _
   | exact LeO.none _
   | refine LeO.ite ?_ ?_
   | refine LeO.bind ?_ (fun _ => ?_)
theorem spec_CountSigns.mono : ∀ a0  k, LeO (spec_CountSigns.f k a0) (spec_CountSigns.f (k + 1) a0) := by
 intro a0 k
 obtain ⟨ih0, ih1, ih2⟩ := spec_CountSigns.mono_l k
 unfold spec_CountSigns.f
 repeat' first
   | (with_reducible exact ih0 _ _ _ _)
   | (with_reducible exact ih1 _ _ _ _ _)
   | (with_reducible exact ih2 _ _ _ _ _)
   | (with_reducible exact spec_sgGcd.mono _ _ _)
   | (with_reducible exact LeO.refl _)
   | (with_reducible exact LeO.none _)
   | (with_reducible refine LeO.ite ?_ ?_)
   | (with_reducible refine LeO.bind ?_ (fun _ => ?_))
   | exact ih0 _ _ _ _
   | exact ih1 _ _ _ _ _
   | exact ih2 _ _ _ _ _
   | exact spec_sgGcd.mono _ _ _
   | exact LeO.none _
   | refine LeO.ite ?_ ?_
   | refine LeO.bind ?_ (fun _ => ?_)
set_option maxHeartbeats 8000000 in
set_option maxRecDepth 100000 in
theorem spec_CountSigns.calls (k : Nat) (a0 : Int) (r1 : Int) (r2 : Bool) (w : World) (h : spec_CountSigns.f k a0 = some (r1, r2)) :
  Calls Try.prog 123 #[.int .i64 a0] w fun e w' => e = .returned (.tuple #[.int .i64 r1, .bool r2]) ∧ Drawn0 w w' := by
 have H : ((spec_l1In.f a0 1 8).bind fun t101 => (if t101 = true then (spec_CountSigns.l0 k a0 1 1 0) else (some (0, false)))) = some (r1, r2) := h
 clear h
 replace H := Option.bind_eq_some_iff.mp H
 obtain ⟨t101, A20, H⟩ := H
 replace H : (if t101 = true then (spec_CountSigns.l0 k a0 1 1 0) else (some (0, false))) = some (r1, r2) := H
 have A2 := am_ A20
 clear A20
 by_cases c3 : t101 = true
 ·subst c3
  have H1 : (spec_CountSigns.l0 k a0 1 1 0) = some (r1, r2) := by rw [if_pos rfl] at H; exact H
  clear H
  have H := H1
  clear H1
  have H' := am_ H
  clear H
  go_enter Try.func123, Try.ntmps123
  go_wp2_with (first | ((with_reducible refine gate_callee (f := 112) rfl ?_); refine goesL_ (some 12) rfl rfl Try.func112 (by kernel_rfl) rfl #[.int .i64 a0, .int .i64 1, .int .i64 8] rfl tc1_ ?_; (with_reducible refine (spec_l1In.calls a0 1 8 true _ A2.out).mono ?_); rintro e w' ⟨rfl, ⟨nd, rfl⟩⟩; refine ⟨_, rfl, ?_⟩))
  go_loopg [4, 5, 6] k (fun kq v4 v5 v6 w' => ∃ (x4_1 : Int) (x5_1 : Int) (x6_1 : Int), v4 = .int .i64 x4_1 ∧ v5 = .int .i64 x5_1 ∧ v6 = .int .i64 x6_1 ∧ Aside0 (spec_CountSigns.l0 kq a0 x4_1 x5_1 x6_1 = some (r1, r2)) ∧ Aside0 (kq ≤ k) ∧ Drawn0 w w')
  case atStart => exact ⟨(1), (1), (0), tc7_, tc7_, tc7_, H', ⟨Nat.le_refl _⟩, by repeat (first | exact Drawn0.refl _ | apply Drawn0.step)⟩
  case round =>
   clear H'
   try clear c1
   try clear p2
   try clear c3
   obtain ⟨x4_1, x5_1, x6_1, rfl, rfl, rfl, HA, HK1, ⟨m1, rfl⟩⟩ := hrel
   cases gk with
   | zero => exact absurd HA.out (by simp [spec_CountSigns.l0])
   | succ k1 =>
    have H := HA.out
    clear HA
    simp only [spec_CountSigns.l0] at H
    by_cases c4 : x6_1 < a0
    ·rw [if_pos c4] at H
     have c4b0 : decide (x6_1 < a0) = true := decide_eq_true c4
     clear c4
     have H' := am_ H
     clear H
     go_wp2
     go_loopg [4, 5, 7] k1 (fun kq v4 v5 v7 w' => ∃ (x4_2 : Int) (x5_2 : Int) (x7_2 : Int), v4 = .int .i64 x4_2 ∧ v5 = .int .i64 x5_2 ∧ v7 = .int .i64 x7_2 ∧ Aside0 (spec_CountSigns.l1 kq a0 x4_2 x5_2 x6_1 x7_2 = some (r1, r2)) ∧ Aside0 (kq ≤ k1) ∧ Drawn0 w w')
     case atStart => exact ⟨(x4_1), (x5_1), (wrap64 ((wrap64 (a0 + x6_1)) + 1)), tc7_, tc7_, tc7_, H', ⟨Nat.le_refl _⟩, by repeat (first | exact Drawn0.refl _ | apply Drawn0.step)⟩
     case round =>
      clear H'
      try clear c1
      try clear p2
      try clear c3
      try clear c4
      try clear c4b0
      try clear p2
      obtain ⟨x4_2, x5_2, x7_2, rfl, rfl, rfl, HA, HK2, ⟨m2, rfl⟩⟩ := hrel
      cases gk with
      | zero => exact absurd HA.out (by simp [spec_CountSigns.l1])
      | succ k2 =>
       have H := HA.out
       clear HA
       simp only [spec_CountSigns.l1] at H
       by_cases c5 : x7_2 ≤ (wrap64 ((wrap64 (3 * x6_1)) + 1))
       ·rw [if_pos c5] at H
        have c5b0 : decide (x7_2 ≤ (wrap64 ((wrap64 (3 * x6_1)) + 1))) = true := decide_eq_true c5
        clear c5
        replace H := Option.bind_eq_some_iff.mp H
        obtain ⟨t102, A60, H⟩ := H
        replace H : (if t102 = 0 then (none) else (spec_CountSigns.l1 k2 a0 (wrap64 (x4_2 * (wrap64 (Int.tdiv x7_2 t102)))) (wrap64 (Int.tdiv x5_2 t102)) x6_1 (wrap64 (x7_2 + 1)))) = some (r1, r2) := H
        have A6 := am_ A60
        clear A60
        by_cases c7 : t102 = 0
        ·rw [if_pos c7] at H
         exact absurd H (by simp)
        ·rw [if_neg c7] at H
         have c7b0 : (t102 == 0) = false := beq_eq_false_iff_ne.mpr c7
         have c7b1 : (t102 != 0) = true := bne_iff_ne.mpr c7
         have H' := am_ H
         clear H
         go_wp2_with (first | ((with_reducible refine gate_callee (f := 180) rfl ?_); refine goesL_ (some 32) rfl rfl Try.func180 (by kernel_rfl) rfl #[.int .i64 x7_2, .int .i64 x5_2] rfl tc1_ ?_; (with_reducible refine (spec_sgGcd.calls k2 x7_2 x5_2 t102 _ A6.out).mono ?_); rintro e w' ⟨rfl, ⟨nd, rfl⟩⟩; refine ⟨_, rfl, ?_⟩))
         go_roundg k2
         case measure => have := HK1.out; have := HK2.out; omega
         case rel => exact ⟨(wrap64 (x4_2 * (wrap64 (Int.tdiv x7_2 t102)))), (wrap64 (Int.tdiv x5_2 t102)), (wrap64 (x7_2 + 1)), tc7_, tc7_, tc7_, H', ⟨by have := HK1.out; have := HK2.out; omega⟩, by repeat (first | exact Drawn0.refl _ | apply Drawn0.step)⟩
       ·rw [if_neg c5] at H
        have c5b0 : decide (x7_2 ≤ (wrap64 ((wrap64 (3 * x6_1)) + 1))) = false := decide_eq_false c5
        clear c5
        have H' := am_ H
        clear H
        go_wp2
        go_loopg [4, 5, 9] k2 (fun kq v4 v5 v9 w' => ∃ (x4_3 : Int) (x5_3 : Int) (x9_3 : Int), v4 = .int .i64 x4_3 ∧ v5 = .int .i64 x5_3 ∧ v9 = .int .i64 x9_3 ∧ Aside0 (spec_CountSigns.l2 kq a0 x4_3 x5_3 x6_1 x9_3 = some (r1, r2)) ∧ Aside0 (kq ≤ k2) ∧ Drawn0 w w')
        case atStart => exact ⟨(x4_2), (x5_2), (wrap64 ((wrap64 (3 * x6_1)) + 2)), tc7_, tc7_, tc7_, H', ⟨Nat.le_refl _⟩, by repeat (first | exact Drawn0.refl _ | apply Drawn0.step)⟩
        case round =>
         clear H'
         try clear c1
         try clear p2
         try clear c3
         try clear c4
         try clear c4b0
         try clear c5
         try clear c5b0
         try clear p6
         try clear c7
         try clear c7b0
         try clear c7b1
         try clear p2
         obtain ⟨x4_3, x5_3, x9_3, rfl, rfl, rfl, HA, HK3, ⟨m3, rfl⟩⟩ := hrel
         cases gk with
         | zero => exact absurd HA.out (by simp [spec_CountSigns.l2])
         | succ k3 =>
          have H := HA.out
          clear HA
          simp only [spec_CountSigns.l2] at H
          by_cases c8 : x9_3 ≤ (wrap64 (a0 + x6_1))
          ·rw [if_pos c8] at H
           have c8b0 : decide (x9_3 ≤ (wrap64 (a0 + x6_1))) = true := decide_eq_true c8
           clear c8
           replace H := Option.bind_eq_some_iff.mp H
           obtain ⟨t103, A90, H⟩ := H
           replace H : (if t103 = 0 then (none) else (spec_CountSigns.l2 k3 a0 (wrap64 (Int.tdiv x4_3 t103)) (wrap64 (x5_3 * (wrap64 (Int.tdiv x9_3 t103)))) x6_1 (wrap64 (x9_3 + 1)))) = some (r1, r2) := H
           have A9 := am_ A90
           clear A90
           by_cases c10 : t103 = 0
           ·rw [if_pos c10] at H
            exact absurd H (by simp)
           ·rw [if_neg c10] at H
            have c10b0 : (t103 == 0) = false := beq_eq_false_iff_ne.mpr c10
            have c10b1 : (t103 != 0) = true := bne_iff_ne.mpr c10
            have H' := am_ H
            clear H
            go_wp2_with (first | ((with_reducible refine gate_callee (f := 180) rfl ?_); refine goesL_ (some 53) rfl rfl Try.func180 (by kernel_rfl) rfl #[.int .i64 x4_3, .int .i64 x9_3] rfl tc1_ ?_; (with_reducible refine (spec_sgGcd.calls k3 x4_3 x9_3 t103 _ A9.out).mono ?_); rintro e w' ⟨rfl, ⟨nd, rfl⟩⟩; refine ⟨_, rfl, ?_⟩))
            go_roundg k3
            case measure => have := HK1.out; have := HK2.out; have := HK3.out; omega
            case rel => exact ⟨(wrap64 (Int.tdiv x4_3 t103)), (wrap64 (x5_3 * (wrap64 (Int.tdiv x9_3 t103)))), (wrap64 (x9_3 + 1)), tc7_, tc7_, tc7_, H', ⟨by have := HK1.out; have := HK2.out; have := HK3.out; omega⟩, by repeat (first | exact Drawn0.refl _ | apply Drawn0.step)⟩
          ·rw [if_neg c8] at H
           have c8b0 : decide (x9_3 ≤ (wrap64 (a0 + x6_1))) = false := decide_eq_false c8
           clear c8
           have H' := am_ H
           clear H
           go_wp2
           go_roundg k3
           case measure => have := HK1.out; have := HK2.out; have := HK3.out; omega
           case rel => exact ⟨(x4_3), (x5_3), (wrap64 (x6_1 + 1)), tc7_, tc7_, tc7_, H', ⟨by have := HK1.out; have := HK2.out; have := HK3.out; omega⟩, by repeat (first | exact Drawn0.refl _ | apply Drawn0.step)⟩
    ·rw [if_neg c4] at H
     have c4b0 : decide (x6_1 < a0) = false := decide_eq_false c4
     clear c4
     by_cases c11 : x5_1 = 0
     ·rw [if_pos c11] at H
      exact absurd H (by simp)
     ·rw [if_neg c11] at H
      have c11b0 : (x5_1 == 0) = false := beq_eq_false_iff_ne.mpr c11
      have c11b1 : (x5_1 != 0) = true := bne_iff_ne.mpr c11
      simp only [Option.some.injEq, Prod.mk.injEq] at H
      obtain ⟨rfl, rfl⟩ := H
      go_wp2
      go_ret2
      exact ⟨by first | rfl | (simp; done) | (simp [*]; done), by repeat (first | exact Drawn0.refl _ | apply Drawn0.step)⟩
 ·replace c3 := Bool.eq_false_iff.mpr c3
  subst c3
  have H1 : (some (0, false)) = some (r1, r2) := by rw [if_neg (show ¬ (false = true) by decide)] at H; exact H
  clear H
  have H := H1
  clear H1
  simp only [Option.some.injEq, Prod.mk.injEq] at H
  obtain ⟨rfl, rfl⟩ := H
  go_enter Try.func123, Try.ntmps123
  go_wp2_with (first | ((with_reducible refine gate_callee (f := 112) rfl ?_); refine goesL_ (some 12) rfl rfl Try.func112 (by kernel_rfl) rfl #[.int .i64 a0, .int .i64 1, .int .i64 8] rfl tc1_ ?_; (with_reducible refine (spec_l1In.calls a0 1 8 false _ A2.out).mono ?_); rintro e w' ⟨rfl, ⟨nd, rfl⟩⟩; refine ⟨_, rfl, ?_⟩))
  go_ret2
  exact ⟨by first | rfl | (simp; done) | (simp [*]; done), by repeat (first | exact Drawn0.refl _ | apply Drawn0.step)⟩

/-- A state of type 90 at block g of W; what its slices lead to came in by w0. -/
def IsS90 (w0 W : World) (g : Nat) (f0 : Int) (f1 : Int) : Prop := W.heap[g]? = some (.cells #[.int .i64 f0, .int .i64 f1] 90 (0, 0)) ∧ w0.heap.size ≤ g
theorem IsS90.grown {w0 W : World} {g : Nat} {f0 : Int} {f1 : Int} {W1 : World} {row : Option Nat} (h : IsS90 w0 W g f0 f1) (hw : W.grownBy W1 row) (hne : some g ≠ row) : IsS90 w0 W1 g f0 f1 := by
 obtain ⟨hb, hg⟩ := h
 exact ⟨blk_grown hb hw hne, hg⟩
theorem IsS90.own_neN {w0 W : World} {g : Nat} {f0 : Int} {f1 : Int} {α : Type} {d : Kd α} {e : Nat} {base : Nat} {ok : Nat → Prop} {v : Value} {xs : List α} (h : IsS90 w0 W g f0 f1) (ho : Kd.N d e W base ok v xs) (ht : e ≠ 90) : some g ≠ v.ownBlock := by
 obtain ⟨hb, hg⟩ := h
 exact Kd.N_ne ho hb ht
theorem IsS90.fresh {w0 W : World} {g : Nat} {f0 : Int} {f1 : Int} (h : IsS90 w0 W g f0 f1) : ∀ k, W.heap.size ≤ k → k ≠ g := by
 obtain ⟨hb, hg⟩ := h
 exact Kd.freshB hb
theorem IsS90.kept {w0 W : World} {g : Nat} {f0 : Int} {f1 : Int} {W1 : World} {S : Nat → Prop} (h : IsS90 w0 W g f0 f1) (hk : Kept W W1 S) (hne : ¬ S g) : IsS90 w0 W1 g f0 f1 := by
 obtain ⟨hb, hg⟩ := h
 exact ⟨blk_kept hb hk hne, hg⟩
theorem IsS90.below {w0 W : World} {g : Nat} {f0 : Int} {f1 : Int} {W1 : World} (h : IsS90 w0 W g f0 f1) (hw : Below W.heap.size W W1) : IsS90 w0 W1 g f0 f1 := h.grown (grown_of_below hw none) (by simp)
theorem IsS90.alloc {w0 W : World} {g : Nat} {f0 : Int} {f1 : Int} (h : IsS90 w0 W g f0 f1) (o : Obj) : IsS90 w0 (W.alloc o) g f0 f1 := h.below (below_alloc (Below.refl _ _) o)
theorem IsS90.drewN {w0 W : World} {g : Nat} {f0 : Int} {f1 : Int} (h : IsS90 w0 W g f0 f1) (m : Nat) : IsS90 w0 (W.drewN m) g f0 f1 := h
theorem IsS90.drew {w0 W : World} {g : Nat} {f0 : Int} {f1 : Int} (h : IsS90 w0 W g f0 f1) : IsS90 w0 W.drew g f0 f1 := h
theorem IsS90.at_ {w0 W : World} {g : Nat} {f0 : Int} {f1 : Int} {w' : World} {m : Nat} (hq : W.drewN m = w') (h : IsS90 w0 W g f0 f1) : IsS90 w0 w' g f0 f1 := by subst hq; exact IsS90.drewN h m
theorem IsS90.apart {w0 W : World} {g : Nat} {f0 : Int} {f1 : Int} {α : Type} {d : Kd α} {e : Nat} {base : Nat} {ok : Nat → Prop} {v : Value} {xs : List α} (h : IsS90 w0 W g f0 f1) (ho : d.R e W base ok v xs) (ht : ∀ q, q ∈ e :: d.E → q ≠ 90) : d.R e W base (fun k => ok k ∧ k ≠ g) v xs := by
 obtain ⟨hb, hg⟩ := h
 exact Kd.R_types ho hb ht
theorem IsS90.own_ne {w0 W : World} {g : Nat} {f0 : Int} {f1 : Int} {α : Type} {d : Kd α} {e : Nat} {base : Nat} {ok : Nat → Prop} {v : Value} {xs : List α} (h : IsS90 w0 W g f0 f1) (ho : d.R e W base ok v xs) (ht : e ≠ 90) : some g ≠ v.ownBlock := by
 obtain ⟨hb, hg⟩ := h
 exact Kd.R_ne ho hb ht
theorem IsS90.apartQ {w0 W : World} {g : Nat} {f0 : Int} {f1 : Int} {α : Type} {d : Kd α} {e : Nat} {base : Nat} {ok : Nat → Prop} {v : Value} {xs : List α} (h : IsS90 w0 W g f0 f1) (ho : d.Q e W base ok v xs) (ht : ∀ q, q ∈ e :: d.E → q ≠ 90) : d.Q e W base (fun k => ok k ∧ k ≠ g) v xs := by
 obtain ⟨hb, hg⟩ := h
 exact Kd.Q_types ho hb ht
theorem IsS90.own_neQ {w0 W : World} {g : Nat} {f0 : Int} {f1 : Int} {α : Type} {d : Kd α} {e : Nat} {base : Nat} {ok : Nat → Prop} {v : Value} {xs : List α} (h : IsS90 w0 W g f0 f1) (ho : d.Q e W base ok v xs) (ht : e ≠ 90) : some g ≠ v.ownBlock := by
 obtain ⟨hb, hg⟩ := h
 exact Kd.Q_ne ho hb ht
theorem IsS90.apartS {w0 W : World} {g : Nat} {f0 : Int} {f1 : Int} {α : Type} {d : Kd α} {e : Nat} {base : Nat} {ok : Nat → Prop} {v : Value} {xs : List α} (h : IsS90 w0 W g f0 f1) (ho : d.S e W base ok v xs) (ht : ∀ q, q ∈ e :: d.E → q ≠ 90) : d.S e W base (fun k => ok k ∧ k ≠ g) v xs := by
 obtain ⟨hb, hg⟩ := h
 exact Kd.S_types ho hb ht
theorem IsS90.own_neS {w0 W : World} {g : Nat} {f0 : Int} {f1 : Int} {α : Type} {d : Kd α} {e : Nat} {base : Nat} {ok : Nat → Prop} {v : Value} {xs : List α} (h : IsS90 w0 W g f0 f1) (ho : d.S e W base ok v xs) (ht : e ≠ 90) : some g ≠ v.ownBlock := by
 obtain ⟨hb, hg⟩ := h
 exact Kd.S_ne ho hb ht
theorem IsS90.lt {w0 W : World} {g : Nat} {f0 : Int} {f1 : Int} (h : IsS90 w0 W g f0 f1) : g < W.heap.size := by
 obtain ⟨hb, hg⟩ := h
 exact blk_lt hb
theorem IsS90.ge {w0 W : World} {g : Nat} {f0 : Int} {f1 : Int} (h : IsS90 w0 W g f0 f1) : w0.heap.size ≤ g := by
 obtain ⟨hb, hg⟩ := h
 exact hg
theorem IsS90.ne_blk {w0 W : World} {g : Nat} {f0 : Int} {f1 : Int} {a : Nat} {cs : Array Value} {t : TypeId} {fr : Nat × Nat} (h : IsS90 w0 W g f0 f1) (hb2 : W.heap[a]? = some (.cells cs t fr)) (ht : t ≠ 90) : g ≠ a := by
 obtain ⟨hb, hg⟩ := h
 rintro rfl
 rw [hb] at hb2
 injection hb2 with hb2
 injection hb2 with _ ht2
 exact ht ht2.symm
theorem IsS90.far {w0 W : World} {g : Nat} {f0 : Int} {f1 : Int} {p : Addr} (h : IsS90 w0 W g f0 f1) (hne : g ≠ p.block) (u : Value) : IsS90 w0 (W.setCell p u) g f0 f1 := by
 obtain ⟨hb, hg⟩ := h
 exact ⟨blk_far hb hne u, hg⟩
theorem cellS90_0 {W : World} {g : Nat} {f0 : Int} {f1 : Int} (h : W.heap[g]? = some (.cells #[.int .i64 f0, .int .i64 f1] 90 (0, 0))) : W.cell? ⟨g, 0, none⟩ = some (.int .i64 f0) := (blk_cell h 0).trans rfl
theorem IsS90.set_0 {w0 W : World} {g : Nat} {f0 : Int} {f1 : Int} (h : IsS90 w0 W g f0 f1) (x : Int) : IsS90 w0 (W.setCell ⟨g, 0, none⟩ (.int .i64 x)) g x f1 := by
 obtain ⟨hb, hg⟩ := h
 exact ⟨by simpa using blk_set hb 0 (.int .i64 x), hg⟩
theorem cellS90_1 {W : World} {g : Nat} {f0 : Int} {f1 : Int} (h : W.heap[g]? = some (.cells #[.int .i64 f0, .int .i64 f1] 90 (0, 0))) : W.cell? ⟨g, 1, none⟩ = some (.int .i64 f1) := (blk_cell h 1).trans rfl
theorem IsS90.set_1 {w0 W : World} {g : Nat} {f0 : Int} {f1 : Int} (h : IsS90 w0 W g f0 f1) (x : Int) : IsS90 w0 (W.setCell ⟨g, 1, none⟩ (.int .i64 x)) g f0 x := by
 obtain ⟨hb, hg⟩ := h
 exact ⟨by simpa using blk_set hb 1 (.int .i64 x), hg⟩
theorem IsS90.new (w0 W : World) (f0 : Int) (f1 : Int) (hB : Below w0.heap.size w0 W) : IsS90 w0 (W.alloc (.cells #[.int .i64 f0, .int .i64 f1] 90)) W.heap.size f0 f1 := ⟨by simpa using heap_alloc_new W _, hB.size⟩
/-! ### spec_smRatio_times: function 124 (by hand) -/
def spec_smRatio_times.f (k : Nat) (s0_0 s0_1 a1 a2 : Int) : Option (Int × Int) :=
  (spec_sgGcd.f k a1 a2).bind fun c => if c = 0 then none else
    (spec_sgGcd.f k (wrap64 (Int.tdiv a1 c)) s0_1).bind fun a => (spec_sgGcd.f k s0_0 (wrap64 (Int.tdiv a2 c))).bind fun b =>
      if b = 0 then none else if a = 0 then none else
        some (wrap64 (wrap64 (Int.tdiv s0_0 b) * wrap64 (Int.tdiv (wrap64 (Int.tdiv a1 c)) a)), wrap64 (wrap64 (Int.tdiv s0_1 a) * wrap64 (Int.tdiv (wrap64 (Int.tdiv a2 c)) b)))
theorem spec_smRatio_times.mono : ∀ s0_0 s0_1 a1 a2 k, LeO (spec_smRatio_times.f k s0_0 s0_1 a1 a2) (spec_smRatio_times.f (k + 1) s0_0 s0_1 a1 a2) := by
  intro s0_0 s0_1 a1 a2 k
  unfold spec_smRatio_times.f
  repeat' first
      | (with_reducible exact spec_sgGcd.mono _ _ _)
      | (with_reducible exact LeO.refl _)
      | (with_reducible exact LeO.none _)
      | (with_reducible refine LeO.ite ?_ ?_)
      | (with_reducible refine LeO.bind ?_ (fun _ => ?_))
set_option maxHeartbeats 1000000 in
set_option maxRecDepth 100000 in
theorem spec_smRatio_times.calls (k : Nat) (g : Nat) (s0_0 s0_1 a1 a2 : Int) (r1 r2 : Int) (w0 w : World) (hI : IsS90 w0 w g s0_0 s0_1) (hB : Below w0.heap.size w0 w) (h : spec_smRatio_times.f k s0_0 s0_1 a1 a2 = some (r1, r2)) :
    Calls Try.prog 124 #[.pointer (some ⟨g, 0, none⟩), .int .i64 a1, .int .i64 a2] w fun e w' => e = .returned (.tuple #[]) ∧ IsS90 w0 w' g r1 r2 ∧ Below w0.heap.size w0 w' ∧ KeepBut w w' g none := by
  replace h := Option.bind_eq_some_iff.mp h
  obtain ⟨c, hc, h⟩ := h
  by_cases c0 : c = 0
  · simp [c0] at h
  rw [if_neg c0] at h
  replace h := Option.bind_eq_some_iff.mp h
  obtain ⟨a, ha, h⟩ := h
  replace h := Option.bind_eq_some_iff.mp h
  obtain ⟨b, hb, h⟩ := h
  by_cases b0 : b = 0
  · simp [b0] at h
  rw [if_neg b0] at h
  by_cases a0 : a = 0
  · simp [a0] at h
  rw [if_neg a0] at h
  have HR := am_ (Option.some.inj h)
  have HC := am_ hc
  have HA := am_ ha
  have HBB := am_ hb
  clear h hc ha hb
  have c0b : (c == 0) = false := beq_eq_false_iff_ne.mpr c0
  have b0b : (b == 0) = false := beq_eq_false_iff_ne.mpr b0
  have a0b : (a == 0) = false := beq_eq_false_iff_ne.mpr a0
  obtain ⟨hbk, hge⟩ := hI
  have HK := am_ hbk
  have HG := am_ hge
  have HB := am_ hB
  clear hB hbk hge
  generalize hp : wrap64 (Int.tdiv a1 c) = p at *
  generalize hq : wrap64 (Int.tdiv a2 c) = q at *
  have HP := am_ hp
  have HQ := am_ hq
  clear hp hq
  go_enter Try.func124, Try.ntmps124
  go_wp2_with fail
  refine (spec_sgGcd.calls k a1 a2 c _ HC.out).mono ?_; rintro e w1 ⟨rfl, hd⟩
  have hx0 := (blk_cell (blk_below HK.out hd.below) 0 : w1.cell? ⟨g, 0, none⟩ = some (.int .i64 s0_0))
  have hx1 := (blk_cell (blk_below HK.out hd.below) 1 : w1.cell? ⟨g, 1, none⟩ = some (.int .i64 s0_1))
  have HK1 := am_ (blk_below HK.out hd.below)
  have HB1 := am_ (below_then HB.out HB.out.size hd.below)
  have HD1 := am_ (drawn_keep hd g none)
  clear hd HB HK
  go_wp2_with fail
  rw [HP.out, HQ.out]
  go_quiet (first | (go_at_call 180; with_reducible exact quiet_drawn (spec_sgGcd.calls k p s0_1 a _ HA.out)) | (go_at_call 180; with_reducible exact quiet_drawn (spec_sgGcd.calls k s0_0 q b _ HBB.out)))
  go_wp2
  refine region_tail 13 (by kernel_rfl) (by kernel_rfl) ?_
  simp only [List.take_succ_cons, List.take_zero, List.drop_succ_cons, List.drop_zero]
  intro w2 hw2
  have HK2 : Aside0 (w2.heap[g]? = some (Obj.cells #[Value.int IntKind.i64 s0_0, Value.int IntKind.i64 s0_1] 90)) := ⟨by rw [hw2]; exact HK1.out⟩
  have HB2 : Aside0 (Below w0.heap.size w0 w2) := ⟨by rw [hw2]; exact below_drew1 (pw_below_drewN HB1.out nq)⟩
  have HD2 : Aside0 (KeepBut w w2 g none) := ⟨by rw [hw2]; exact HD1.out⟩
  clear hx0 hx1 HK1 HB1 HD1 hw2
  have hx0 := (blk_cell HK2.out 0 : w2.cell? ⟨g, 0, none⟩ = some (.int .i64 s0_0))
  have hx1 := (blk_cell HK2.out 1 : w2.cell? ⟨g, 1, none⟩ = some (.int .i64 s0_1))
  have hf0 := blk_frozen HK2.out 0
  have hf1 := blk_frozen HK2.out 1
  repeat still_step
  refine wpStill_nil ?_
  go_wp2
  refine region_tail 13 (by kernel_rfl) (by kernel_rfl) ?_
  simp only [List.take_succ_cons, List.take_zero, List.drop_succ_cons, List.drop_zero]
  intro w3 hw3
  generalize hm : wrap64 (wrap64 (Int.tdiv s0_0 b) * wrap64 (Int.tdiv p a)) = m at *
  have HM := am_ hm
  clear hm
  have HK3 : Aside0 (w3.heap[g]? = some (Obj.cells #[Value.int IntKind.i64 m, Value.int IntKind.i64 s0_1] 90)) := ⟨by rw [hw3]; exact (blk_set HK2.out 0 (.int .i64 m))⟩
  have HB3 : Aside0 (Below w0.heap.size w0 w3) := ⟨by rw [hw3]; exact below_drew1 (below_set HB2.out HG.out)⟩
  have HD3 : Aside0 (KeepBut w w3 g none) := ⟨by rw [hw3]; exact keep_drew (KeepBut.set_ HD2.out _ _)⟩
  clear hx0 hx1 hf0 hf1 HK2 HB2 HD2 hw3
  have hx0 := (blk_cell HK3.out 0 : w3.cell? ⟨g, 0, none⟩ = some (.int .i64 m))
  have hx1 := (blk_cell HK3.out 1 : w3.cell? ⟨g, 1, none⟩ = some (.int .i64 s0_1))
  have hf0 := blk_frozen HK3.out 0
  have hf1 := blk_frozen HK3.out 1
  repeat still_step
  refine wpStill_nil ?_
  go_wp2
  go_end0
  obtain ⟨rfl, rfl⟩ := Prod.mk.inj HR.out
  exact ⟨rfl, ⟨blk_set HK3.out 1 _, HG.out⟩, below_set HB3.out HG.out, KeepBut.set_ HD3.out _ _⟩

end Go.Proofs.Ytkbehdgneojdbaa.X
