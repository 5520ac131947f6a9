-- Written by a program of this session (wip/xprint.py) that drives the kit's print; the contracts of what it does not take are this session's own.
import Derived.Test.YtkbehdgneojdbaaCFnHeightsAreMatricesx0
import Derived.Test.YtkbehdgneojdbaaCFnHeightsAreMatricesx1
import Derived.Test.YtkbehdgneojdbaaCFnHeightsAreMatricesx2
import Derived.Test.YtkbehdgneojdbaaCFnHeightsAreMatricesx3
import Derived.Test.YtkbehdgneojdbaaCFnHeightsAreMatricesx4
import Derived.Test.YtkbehdgneojdbaaCFnHeightsAreMatricesx5
namespace Go.Proofs.Ytkbehdgneojdbaa.X
open Go.RowKit Go.Proofs.YtkbehdgneojdbaaW.PrintWords Go.Proofs.YtkbehdgneojdbaaW.PrintLast Go.Proofs.YtkbehdgneojdbaaW.PrintMore
attribute [local go_sem] max2_int min2_int max_two min_two max_three min_three max_four min_four   -- for this text's walks alone
set_option linter.unusedVariables false
set_option linter.unusedSimpArgs false

/-! ### impl_mirrored: function 104 -/
def impl_mirrored.f (k : Nat) (l0 : List (List Int)) : Option ((List (List Int))) := (impl_table.f k (l0.length : Int) (l0.length : Int) (fun x0_ x1_ => impl_mirrored_1.f x0_ x1_ l0 (l0.length : Int))).bind fun t103 => (some t103)
set_option maxHeartbeats 8000000 in
set_option maxRecDepth 100000 in
theorem impl_mirrored.calls (k : Nat) (A0 : Option Addr) (c0 : Nat) (l0 : List (List Int)) (r : List (List Int)) (w : World) (hr0 : Kd.C (Kd.slice 3 (Kd.int .i64)) w A0 l0.length l0) (hc0 : l0.length ≤ c0) (h : impl_mirrored.f k l0 = some r) :
  Calls Try.prog 104 #[.slice A0 l0.length c0] w fun e w' => ∃ v0_ : Value, e = .returned (v0_) ∧ Kd.S (Kd.slice 3 (Kd.int .i64)) 35 w' w.heap.size (fun _ => True) v0_ r ∧ Below w.heap.size w w' := by
 have HR0 := am_ hr0
 have HC0 := am_ hc0
 clear hr0 hc0
 have HB := am_ (Below.refl w.heap.size w)
 have H : ((impl_table.f k (l0.length : Int) (l0.length : Int) (fun x0_ x1_ => impl_mirrored_1.f x0_ x1_ l0 (l0.length : Int))).bind fun t103 => (some t103)) = some r := h
 clear h
 replace H := Option.bind_eq_some_iff.mp H
 obtain ⟨t103, A20, H⟩ := H
 replace H : (some t103) = some r := H
 have A2 := am_ A20
 clear A20
 obtain rfl := Option.some.inj H
 go_enter Try.func104, Try.ntmps104
 go_wp2_with (first | ((with_reducible refine gate_dst (N := 1) rfl ?_); refine box_event ?hg (N := 1) ?hd (cs := #[.slice A0 l0.length c0]) (t := 24) ?hr ?_; (case hd => rfl); (case hg => rfl); (case hr => exact tc38_); intro gb101 hg w3 hbox hb; have n0_ := am_ (below_step tc1_ hb); have n1_ := am_ (hbox); have n2_ := am_ ((by rw [hg]; exact (below_size tc1_) : w.heap.size ≤ gb101)); have n3_ := am_ ((by rw [hg]; exact (below_size tc1_) : w.heap.size ≤ gb101)); clear HB; have HB := n0_; have BK101 := n1_; have GW101 := n2_; have GE101 := n3_; clear n0_ n1_ n2_ n3_; clear hb hbox hg; have hcz4_0 : w3.cell? ⟨gb101, 0, none⟩ = some (.slice A0 l0.length c0) := (blk_cell BK101.out 0).trans rfl; have hfz4_0 := blk_frozen BK101.out 0) | ((with_reducible refine gate_dst (N := 3) rfl ?_); refine box_event ?hg (N := 3) ?hd (cs := #[.int .i64 0]) (t := 3) ?hr ?_; (case hd => rfl); (case hg => rfl); (case hr => exact tc38_); intro gb102 hg w5 hbox hb; have n0_ := am_ (blk_below (g := gb101) (o := .cells #[.slice A0 l0.length c0] 24 (0, 0)) tc35_ hb); have n1_ := am_ (below_step tc27_ hb); have n2_ := am_ (hbox); have n3_ := am_ ((by rw [hg]; exact (below_size tc27_) : w.heap.size ≤ gb102)); have n4_ := am_ ((by rw [hg]; exact (below_size tc27_) : w.heap.size ≤ gb102)); have n5_ := am_ ((by rw [hg]; exact Nat.ne_of_lt (blk_lt (g := gb101) (o := .cells #[.slice A0 l0.length c0] 24 (0, 0)) tc35_) : gb101 ≠ gb102)); have n6_ := am_ ((by rw [hg]; exact Nat.ne_of_gt (blk_lt (g := gb101) (o := .cells #[.slice A0 l0.length c0] 24 (0, 0)) tc35_) : gb102 ≠ gb101)); clear BK101 HB; have BK101 := n0_; have HB := n1_; have BK102 := n2_; have GW102 := n3_; have GE102 := n4_; have NB101_102 := n5_; have NB102_101 := n6_; clear n0_ n1_ n2_ n3_ n4_ n5_ n6_; clear hb hbox hg; have hnb6 := NB102_101.out; have hnc6 := NB101_102.out; have hcz7_0 : w5.cell? ⟨gb102, 0, none⟩ = some (.int .i64 0) := (blk_cell BK102.out 0).trans rfl; have hfz7_0 := blk_frozen BK102.out 0) | ((with_reducible refine gate_callee (f := 72) rfl ?_); refine goesL_ (some 9) rfl rfl Try.func72 (by kernel_rfl) rfl #[.int .i64 (l0.length : Int), .int .i64 (l0.length : Int), .func (.func 170) #[] #[.pointer (some ⟨gb101, 0, none⟩), .pointer (some ⟨gb102, 0, none⟩)]] rfl tc0_ ?_; (with_reducible refine (impl_table.calls k (l0.length : Int) (l0.length : Int) _ _ (fun x0_ x1_ => impl_mirrored_1.f x0_ x1_ l0 (l0.length : Int)) t103 _ ?side1 A2.out).mono ?_); (case side1 => refine ⟨enters_of Try.func170 (by kernel_rfl) rfl, fun W_ hW_ x0_ v0_ hK0_ x1_ v1_ hK1_ r_ hr_ => ?_⟩; cases (show v0_ = .int .i64 x0_ from tc69_); cases (show v1_ = .int .i64 x1_ from tc70_); refine (impl_mirrored_1.calls x0_ x1_ _ A0 c0 l0 _ (l0.length : Int) r_ W_ ?cb1 ?cb2 ?cb3 ?cb4 hr_).mono ?_; (case cb1 => exact blk_below tc40_ hW_); (case cb2 => refine Kd.C_below ?_ hW_; exact Kd.C_below HR0.out tc36_); (case cb3 => exact HC0.out); (case cb4 => exact blk_below tc46_ hW_); exact fun _ _ h_ => ⟨h_.1, h_.2.below⟩); rintro e w8 ⟨v104, rfl, ho0, hb⟩; refine ⟨_, rfl, ?_⟩; have n0_ := am_ (Kd.S_lower (Kd.S_newB ho0 (g := gb102) (o := .cells #[.int .i64 (l0.length : Int)] 3 (0, 0)) tc46_) (below_size tc36_)); have n1_ := am_ (blk_below (g := gb101) (o := .cells #[.slice A0 l0.length c0] 24 (0, 0)) tc40_ hb); have n2_ := am_ (blk_below (g := gb102) (o := .cells #[.int .i64 (l0.length : Int)] 3 (0, 0)) tc46_ hb); have n3_ := am_ (below_step tc36_ hb); clear BK101 BK102 HB; have HO105 := n0_; have BK101 := n1_; have BK102 := n2_; have HB := n3_; clear n0_ n1_ n2_ n3_; (try clear hb ho0)))
 go_ret
 exact ⟨_, by first | rfl | (simp [errW_none, errW_some] <;> rfl) | (simp [*, errW_none, errW_some] <;> rfl), by (with_reducible repeat (first | apply Kd.S_alloc | apply Kd.S_drewN | apply Kd.S_drew)); exact Kd.S_mono HO105.out (fun _ hk => trivial), by repeat (first | (with_reducible first | exact HB.out | apply below_alloc | apply pw_below_drewN | apply below_drew1 | refine below_set ?_ GE101.out | refine below_set ?_ GE102.out) | exact HB.out)⟩

/-! ### impl_MirrorMatrix: function 102 (by hand) -/
def impl_MirrorMatrix.f (k : Nat) (l0 : List (List Int)) : Option (List (List Int) × Bool) := impl_changed.f k l0 (fun x => impl_mirrored.f k x)
set_option maxHeartbeats 4000000 in
set_option maxRecDepth 100000 in
theorem impl_MirrorMatrix.calls (k : Nat) (A0 : Option Addr) (c0 : Nat) (l0 : List (List Int)) (r1 : List (List Int)) (r2 : Bool) (w : World) (hr0 : Kd.C (Kd.slice 3 (Kd.int .i64)) w A0 l0.length l0) (hc0 : l0.length ≤ c0) (h : impl_MirrorMatrix.f k l0 = some (r1, r2)) :
    Calls Try.prog 102 #[.slice A0 l0.length c0] w fun e w' => ∃ v0_ : Value, e = .returned (.tuple #[v0_, .bool r2]) ∧ Kd.S (Kd.slice 3 (Kd.int .i64)) 35 w' w.heap.size (fun _ => True) v0_ r1 ∧ Below w.heap.size w w' := by
  have HR0 := am_ hr0
  have HC0 := am_ hc0
  have H := am_ h
  clear hr0 hc0 h
  go_enter Try.func102, Try.ntmps102
  go_wp2_with (go_at_call 78; (refine (impl_changed.calls k A0 c0 l0 104 #[] (fun x => impl_mirrored.f k x) r1 r2 w HR0.out HC0.out ?fn H.out).mono ?_); (case fn => exact ⟨enters_of Try.func104 (by kernel_rfl) rfl, fun W hW A c x hr hc r hx => by (refine (impl_mirrored.calls k A c x r W hr hc hx).mono ?_; rintro e W' ⟨v, rfl, ho, hb⟩; exact ⟨v, rfl, ho, hb⟩)⟩); rintro e w1 ⟨v1, rfl, ho1, hb1⟩; have HO := am_ ho1; have HB := am_ hb1; clear ho1 hb1)
  go_ret2
  exact ⟨_, rfl, HO.out, HB.out⟩

/-! ### impl_DualOf: function 42 -/
def impl_DualOf.f (k : Nat) (l0 : List (List Int)) : Option ((List (List Int)) × Bool) := (impl_MirrorMatrix.f k l0).bind fun bt101 => (some (bt101.1, bt101.2))
set_option maxHeartbeats 8000000 in
set_option maxRecDepth 100000 in
theorem impl_DualOf.calls (k : Nat) (A0 : Option Addr) (c0 : Nat) (l0 : List (List Int)) (r1 : List (List Int)) (r2 : Bool) (w : World) (hr0 : Kd.C (Kd.slice 3 (Kd.int .i64)) w A0 l0.length l0) (hc0 : l0.length ≤ c0) (h : impl_DualOf.f k l0 = some (r1, r2)) :
  Calls Try.prog 42 #[.slice A0 l0.length c0] w fun e w' => ∃ v0_ : Value, e = .returned (.tuple #[v0_, .bool r2]) ∧ Kd.S (Kd.slice 3 (Kd.int .i64)) 35 w' w.heap.size (fun _ => True) v0_ r1 ∧ Below w.heap.size w w' := by
 have HR0 := am_ hr0
 have HC0 := am_ hc0
 clear hr0 hc0
 have HB := am_ (Below.refl w.heap.size w)
 have H : ((impl_MirrorMatrix.f k l0).bind fun bt101 => (some (bt101.1, bt101.2))) = some (r1, r2) := h
 clear h
 replace H := Option.bind_eq_some_iff.mp H
 obtain ⟨⟨t101, t102⟩, A20, H⟩ := H
 replace H : (some (t101, t102)) = some (r1, r2) := H
 have A2 := am_ A20
 clear A20
 simp only [Option.some.injEq, Prod.mk.injEq] at H
 obtain ⟨rfl, rfl⟩ := H
 go_enter Try.func42, Try.ntmps42
 go_wp2_with (first | ((with_reducible refine gate_callee (f := 102) rfl ?_); refine goesL_ (some 5) rfl rfl Try.func102 (by kernel_rfl) rfl #[.slice A0 l0.length c0] rfl tc0_ ?_; (with_reducible refine (impl_MirrorMatrix.calls k _ _ l0 t101 t102 _ ?side1 ?side2 A2.out).mono ?_); (case side1 => exact tc9_); (case side2 => exact HC0.out); rintro e w3 ⟨v103, rfl, ho0, hb⟩; refine ⟨_, rfl, ?_⟩; have n0_ := am_ (Kd.S_lower ho0 (below_size tc1_)); have n1_ := am_ (below_step tc1_ hb); clear HB; have HO104 := n0_; have HB := n1_; clear n0_ n1_; (try clear hb ho0)))
 go_ret2
 exact ⟨_, by first | rfl | (simp [errW_none, errW_some] <;> rfl) | (simp [*, errW_none, errW_some] <;> rfl), by (with_reducible repeat (first | apply Kd.S_alloc | apply Kd.S_drewN | apply Kd.S_drew)); exact HO104.out, by repeat (first | (with_reducible first | exact HB.out | apply below_alloc | apply pw_below_drewN | apply below_drew1) | exact HB.out)⟩

/-! ### impl_bit: function 82 -/
def impl_bit.f (a0 : Bool) : Option (Int) := if a0 = true then (some 1) else (some 0)
set_option maxHeartbeats 8000000 in
set_option maxRecDepth 100000 in
theorem impl_bit.calls (a0 : Bool) (r : Int) (w : World) (h : impl_bit.f a0 = some r) :
  Calls Try.prog 82 #[.bool a0] w fun e w' => e = .returned (.int .i64 r) ∧ Drawn0 w w' := by
 have H : (if a0 = true then (some 1) else (some 0)) = some r := h
 clear h
 by_cases c2 : a0 = true
 ·subst c2
  have H1 : (some 1) = some r := by rw [if_pos rfl] at H; exact H
  clear H
  have H := H1
  clear H1
  obtain rfl := Option.some.inj H
  go_enter Try.func82, Try.ntmps82
  go_wp2
  go_ret
  exact ⟨by first | rfl | (simp; done) | (simp [*]; done), by repeat (first | exact Drawn0.refl _ | apply Drawn0.step)⟩
 ·replace c2 := Bool.eq_false_iff.mpr c2
  subst c2
  have H1 : (some 0) = some r := by rw [if_neg (show ¬ (false = true) by decide)] at H; exact H
  clear H
  have H := H1
  clear H1
  obtain rfl := Option.some.inj H
  go_enter Try.func82, Try.ntmps82
  go_wp2
  go_ret
  exact ⟨by first | rfl | (simp; done) | (simp [*]; done), by repeat (first | exact Drawn0.refl _ | apply Drawn0.step)⟩

/-! ### impl_least_1: function 169 -/
def impl_least_1.f (a0 : Int) (a1 : Int) : Option (Int) := (impl_bit.f (a0 == a1)).bind fun t101 => (some t101)
set_option maxHeartbeats 8000000 in
set_option maxRecDepth 100000 in
theorem impl_least_1.calls (a0 : Int) (a1 : Int) (r : Int) (w : World) (h : impl_least_1.f a0 a1 = some r) :
  Calls Try.prog 169 #[.int .i64 a0, .int .i64 a1] w fun e w' => e = .returned (.int .i64 r) ∧ Drawn0 w w' := by
 have H : ((impl_bit.f (a0 == a1)).bind fun t101 => (some t101)) = some r := h
 clear h
 replace H := Option.bind_eq_some_iff.mp H
 obtain ⟨t101, A30, H⟩ := H
 replace H : (some t101) = some r := H
 have A3 := am_ A30
 clear A30
 obtain rfl := Option.some.inj H
 go_enter Try.func169, Try.ntmps169
 go_wp2_with (first | ((with_reducible refine gate_callee (f := 82) rfl ?_); refine goesL_ (some 8) rfl rfl Try.func82 (by kernel_rfl) rfl #[.bool (a0 == a1)] rfl tc0_ ?_; (with_reducible refine (impl_bit.calls (a0 == a1) t101 _ A3.out).mono ?_); rintro e w' ⟨rfl, ⟨nd, rfl⟩⟩; refine ⟨_, rfl, ?_⟩))
 go_ret
 exact ⟨by first | rfl | (simp; done) | (simp [*]; done), by repeat (first | exact Drawn0.refl _ | apply Drawn0.step)⟩

/-! ### impl_least: function 103 -/
def impl_least.f (k : Nat) (a0 : Int) : Option ((List (List Int))) := (impl_table.f k a0 a0 (fun x0_ x1_ => impl_least_1.f x0_ x1_)).bind fun t101 => (some t101)
set_option maxHeartbeats 8000000 in
set_option maxRecDepth 100000 in
theorem impl_least.calls (k : Nat) (a0 : Int) (r : List (List Int)) (w : World) (h : impl_least.f k a0 = some r) :
  Calls Try.prog 103 #[.int .i64 a0] w fun e w' => ∃ v0_ : Value, e = .returned (v0_) ∧ Kd.S (Kd.slice 3 (Kd.int .i64)) 35 w' w.heap.size (fun _ => True) v0_ r ∧ Below w.heap.size w w' := by
 have HB := am_ (Below.refl w.heap.size w)
 have H : ((impl_table.f k a0 a0 (fun x0_ x1_ => impl_least_1.f x0_ x1_)).bind fun t101 => (some t101)) = some r := h
 clear h
 replace H := Option.bind_eq_some_iff.mp H
 obtain ⟨t101, A20, H⟩ := H
 replace H : (some t101) = some r := H
 have A2 := am_ A20
 clear A20
 obtain rfl := Option.some.inj H
 go_enter Try.func103, Try.ntmps103
 go_wp2_with (first | ((with_reducible refine gate_callee (f := 72) rfl ?_); refine goesL_ (some 5) rfl rfl Try.func72 (by kernel_rfl) rfl #[.int .i64 a0, .int .i64 a0, .func (.func 169) #[] #[]] rfl tc0_ ?_; (with_reducible refine (impl_table.calls k a0 a0 _ _ (fun x0_ x1_ => impl_least_1.f x0_ x1_) t101 _ ?side1 A2.out).mono ?_); (case side1 => refine ⟨enters_of Try.func169 (by kernel_rfl) rfl, fun W_ hW_ x0_ v0_ hK0_ x1_ v1_ hK1_ r_ hr_ => ?_⟩; cases (show v0_ = .int .i64 x0_ from tc69_); cases (show v1_ = .int .i64 x1_ from tc70_); refine (impl_least_1.calls x0_ x1_ r_ W_ hr_).mono ?_; exact fun _ _ h_ => ⟨h_.1, h_.2.below⟩); rintro e w3 ⟨v102, rfl, ho0, hb⟩; refine ⟨_, rfl, ?_⟩; have n0_ := am_ (Kd.S_lower ho0 (below_size tc1_)); have n1_ := am_ (below_step tc1_ hb); clear HB; have HO103 := n0_; have HB := n1_; clear n0_ n1_; (try clear hb ho0)))
 go_ret
 exact ⟨_, by first | rfl | (simp [errW_none, errW_some] <;> rfl) | (simp [*, errW_none, errW_some] <;> rfl), by (with_reducible repeat (first | apply Kd.S_alloc | apply Kd.S_drewN | apply Kd.S_drew)); exact HO103.out, by repeat (first | (with_reducible first | exact HB.out | apply below_alloc | apply pw_below_drewN | apply below_drew1) | exact HB.out)⟩

/-! ### impl_LeastSigns: function 43 -/
def impl_LeastSigns.f (k : Nat) (a0 : Int) : Option ((List (List Int)) × Bool) := (impl_isSide.f a0).bind fun t101 => (if t101 = true then ((impl_least.f k a0).bind fun t102 => (some (t102, true))) else (some (([] : List (List Int)), false)))
set_option maxHeartbeats 8000000 in
set_option maxRecDepth 100000 in
theorem impl_LeastSigns.calls (k : Nat) (a0 : Int) (r1 : List (List Int)) (r2 : Bool) (w : World) (h : impl_LeastSigns.f k a0 = some (r1, r2)) :
  Calls Try.prog 43 #[.int .i64 a0] w fun e w' => ∃ v0_ : Value, e = .returned (.tuple #[v0_, .bool r2]) ∧ Kd.S (Kd.slice 3 (Kd.int .i64)) 35 w' w.heap.size (fun _ => True) v0_ r1 ∧ Below w.heap.size w w' := by
 have HB := am_ (Below.refl w.heap.size w)
 have H : ((impl_isSide.f a0).bind fun t101 => (if t101 = true then ((impl_least.f k a0).bind fun t102 => (some (t102, true))) else (some (([] : List (List Int)), false)))) = some (r1, r2) := h
 clear h
 replace H := Option.bind_eq_some_iff.mp H
 obtain ⟨t101, A20, H⟩ := H
 replace H : (if t101 = true then ((impl_least.f k a0).bind fun t102 => (some (t102, true))) else (some (([] : List (List Int)), false))) = some (r1, r2) := H
 have A2 := am_ A20
 clear A20
 by_cases c3 : t101 = true
 ·subst c3
  have H1 : ((impl_least.f k a0).bind fun t102 => (some (t102, true))) = some (r1, r2) := by rw [if_pos rfl] at H; exact H
  clear H
  have H := H1
  clear H1
  replace H := Option.bind_eq_some_iff.mp H
  obtain ⟨t102, A40, H⟩ := H
  replace H : (some (t102, true)) = some (r1, r2) := H
  have A4 := am_ A40
  clear A40
  simp only [Option.some.injEq, Prod.mk.injEq] at H
  obtain ⟨rfl, rfl⟩ := H
  go_enter Try.func43, Try.ntmps43
  go_wp2_with (first | ((with_reducible refine gate_callee (f := 69) rfl ?_); refine goesL_ (some 5) rfl rfl Try.func69 (by kernel_rfl) rfl #[.int .i64 a0] rfl tc0_ ?_; (with_reducible refine (impl_isSide.calls a0 true _ A2.out).mono ?_); rintro e w' ⟨rfl, ⟨nd, rfl⟩⟩; refine ⟨_, rfl, ?_⟩) | ((with_reducible refine gate_callee (f := 103) rfl ?_); refine goesL_ (some 8) rfl rfl Try.func103 (by kernel_rfl) rfl #[.int .i64 a0] rfl tc0_ ?_; (with_reducible refine (impl_least.calls k a0 t102 _ A4.out).mono ?_); rintro e w5 ⟨v103, rfl, ho0, hb⟩; refine ⟨_, rfl, ?_⟩; have n0_ := am_ (Kd.S_lower ho0 (below_size tc1_)); have n1_ := am_ (below_step tc1_ hb); clear HB; have HO104 := n0_; have HB := n1_; clear n0_ n1_; (try clear hb ho0)))
  go_ret2
  exact ⟨_, by first | rfl | (simp [errW_none, errW_some] <;> rfl) | (simp [*, errW_none, errW_some] <;> rfl), by (with_reducible repeat (first | apply Kd.S_alloc | apply Kd.S_drewN | apply Kd.S_drew)); exact HO104.out, by repeat (first | (with_reducible first | exact HB.out | apply below_alloc | apply pw_below_drewN | apply below_drew1) | exact HB.out)⟩
 ·replace c3 := Bool.eq_false_iff.mpr c3
  subst c3
  have H1 : (some (([] : List (List Int)), false)) = some (r1, r2) := by rw [if_neg (show ¬ (false = true) by decide)] at H; exact H
  clear H
  have H := H1
  clear H1
  simp only [Option.some.injEq, Prod.mk.injEq] at H
  obtain ⟨rfl, rfl⟩ := H
  go_enter Try.func43, Try.ntmps43
  go_wp2_with (first | ((with_reducible refine gate_callee (f := 69) rfl ?_); refine goesL_ (some 5) rfl rfl Try.func69 (by kernel_rfl) rfl #[.int .i64 a0] rfl tc0_ ?_; (with_reducible refine (impl_isSide.calls a0 false _ A2.out).mono ?_); rintro e w' ⟨rfl, ⟨nd, rfl⟩⟩; refine ⟨_, rfl, ?_⟩))
  go_ret2
  exact ⟨_, by first | rfl | (simp [errW_none, errW_some] <;> rfl) | (simp [*, errW_none, errW_some] <;> rfl), by first | exact Kd.S_nil _ _ _ _ _ | exact Kd.N_nil _ _ _ _ _ | exact Kd.V_nil _ _ _ _ _ | exact Kd.Q_nil _ _ _ _ _ | exact Kd.R_nil _ _ _ _ _, by repeat (first | (with_reducible first | exact HB.out | apply below_alloc | apply pw_below_drewN | apply below_drew1) | exact HB.out)⟩

/-! ### impl_GreatestSigns: function 44 -/
def impl_GreatestSigns.f (k : Nat) (a0 : Int) : Option ((List (List Int)) × Bool) := (impl_isSide.f a0).bind fun t101 => (if t101 = true then ((impl_least.f k a0).bind fun t102 => ((impl_mirrored.f k t102).bind fun t105 => (some (t105, true)))) else (some (([] : List (List Int)), false)))
set_option maxHeartbeats 8000000 in
set_option maxRecDepth 100000 in
theorem impl_GreatestSigns.calls (k : Nat) (a0 : Int) (r1 : List (List Int)) (r2 : Bool) (w : World) (h : impl_GreatestSigns.f k a0 = some (r1, r2)) :
  Calls Try.prog 44 #[.int .i64 a0] w fun e w' => ∃ v0_ : Value, e = .returned (.tuple #[v0_, .bool r2]) ∧ Kd.S (Kd.slice 3 (Kd.int .i64)) 35 w' w.heap.size (fun _ => True) v0_ r1 ∧ Below w.heap.size w w' := by
 have HB := am_ (Below.refl w.heap.size w)
 have H : ((impl_isSide.f a0).bind fun t101 => (if t101 = true then ((impl_least.f k a0).bind fun t102 => ((impl_mirrored.f k t102).bind fun t105 => (some (t105, true)))) else (some (([] : List (List Int)), false)))) = some (r1, r2) := h
 clear h
 replace H := Option.bind_eq_some_iff.mp H
 obtain ⟨t101, A20, H⟩ := H
 replace H : (if t101 = true then ((impl_least.f k a0).bind fun t102 => ((impl_mirrored.f k t102).bind fun t105 => (some (t105, true)))) else (some (([] : List (List Int)), false))) = some (r1, r2) := H
 have A2 := am_ A20
 clear A20
 by_cases c3 : t101 = true
 ·subst c3
  have H1 : ((impl_least.f k a0).bind fun t102 => ((impl_mirrored.f k t102).bind fun t105 => (some (t105, true)))) = some (r1, r2) := by rw [if_pos rfl] at H; exact H
  clear H
  have H := H1
  clear H1
  replace H := Option.bind_eq_some_iff.mp H
  obtain ⟨t102, A40, H⟩ := H
  replace H : ((impl_mirrored.f k t102).bind fun t105 => (some (t105, true))) = some (r1, r2) := H
  have A4 := am_ A40
  clear A40
  replace H := Option.bind_eq_some_iff.mp H
  obtain ⟨t105, A50, H⟩ := H
  replace H : (some (t105, true)) = some (r1, r2) := H
  have A5 := am_ A50
  clear A50
  simp only [Option.some.injEq, Prod.mk.injEq] at H
  obtain ⟨rfl, rfl⟩ := H
  go_enter Try.func44, Try.ntmps44
  go_wp2_with (first | ((with_reducible refine gate_callee (f := 69) rfl ?_); refine goesL_ (some 5) rfl rfl Try.func69 (by kernel_rfl) rfl #[.int .i64 a0] rfl tc0_ ?_; (with_reducible refine (impl_isSide.calls a0 true _ A2.out).mono ?_); rintro e w' ⟨rfl, ⟨nd, rfl⟩⟩; refine ⟨_, rfl, ?_⟩) | ((with_reducible refine gate_callee (f := 103) rfl ?_); refine goesL_ (some 8) rfl rfl Try.func103 (by kernel_rfl) rfl #[.int .i64 a0] rfl tc0_ ?_; (with_reducible refine (impl_least.calls k a0 t102 _ A4.out).mono ?_); rintro e w6 ⟨v103, rfl, ho0, hb⟩; refine ⟨_, rfl, ?_⟩; have n0_ := am_ (Kd.S_lower ho0 (below_size tc1_)); have n1_ := am_ (below_step tc1_ hb); clear HB; have HO104 := n0_; have HB := n1_; clear n0_ n1_; (try clear hb ho0); obtain ⟨Ao7, co7, eo7⟩ := Kd.S_slice HO104.out; subst eo7) | ((with_reducible refine gate_callee (f := 104) rfl ?_); refine goesL_ (some 9) rfl rfl Try.func104 (by kernel_rfl) rfl #[.slice Ao7 t102.length co7] rfl tc0_ ?_; (with_reducible refine (impl_mirrored.calls k _ _ t102 t105 _ ?side1 ?side2 A5.out).mono ?_); (case side1 => exact tc15_); (case side2 => exact tc59_); rintro e w8 ⟨v106, rfl, ho0, hb⟩; refine ⟨_, rfl, ?_⟩; have n0_ := am_ (Kd.S_elder' tc11_ (Kd.S_base ho0) hb); have n1_ := am_ (Kd.S_lower (Kd.S_new' ho0 (Kd.S_lt tc11_)) (below_size tc1_)); have n2_ := am_ (below_step tc1_ hb); clear HO104 HB; have HO104 := n0_; have HO107 := n1_; have HB := n2_; clear n0_ n1_ n2_; (try clear hb ho0)))
  go_ret2
  exact ⟨_, by first | rfl | (simp [errW_none, errW_some] <;> rfl) | (simp [*, errW_none, errW_some] <;> rfl), by (with_reducible repeat (first | apply Kd.S_alloc | apply Kd.S_drewN | apply Kd.S_drew)); exact Kd.S_mono HO107.out (fun _ hk => trivial), by repeat (first | (with_reducible first | exact HB.out | apply below_alloc | apply pw_below_drewN | apply below_drew1) | exact HB.out)⟩
 ·replace c3 := Bool.eq_false_iff.mpr c3
  subst c3
  have H1 : (some (([] : List (List Int)), false)) = some (r1, r2) := by rw [if_neg (show ¬ (false = true) by decide)] at H; exact H
  clear H
  have H := H1
  clear H1
  simp only [Option.some.injEq, Prod.mk.injEq] at H
  obtain ⟨rfl, rfl⟩ := H
  go_enter Try.func44, Try.ntmps44
  go_wp2_with (first | ((with_reducible refine gate_callee (f := 69) rfl ?_); refine goesL_ (some 5) rfl rfl Try.func69 (by kernel_rfl) rfl #[.int .i64 a0] rfl tc0_ ?_; (with_reducible refine (impl_isSide.calls a0 false _ A2.out).mono ?_); rintro e w' ⟨rfl, ⟨nd, rfl⟩⟩; refine ⟨_, rfl, ?_⟩))
  go_ret2
  exact ⟨_, by first | rfl | (simp [errW_none, errW_some] <;> rfl) | (simp [*, errW_none, errW_some] <;> rfl), by first | exact Kd.S_nil _ _ _ _ _ | exact Kd.N_nil _ _ _ _ _ | exact Kd.V_nil _ _ _ _ _ | exact Kd.Q_nil _ _ _ _ _ | exact Kd.R_nil _ _ _ _ _, by repeat (first | (with_reducible first | exact HB.out | apply below_alloc | apply pw_below_drewN | apply below_drew1) | exact HB.out)⟩

/-! ### laws_FnHeightsAreMatrices: function 5 -/
mutual
def laws_FnHeightsAreMatrices.j0 : Nat → List Int → List (List Int) → List (List Int) → Bool → Bool → Option (Bool)
 | 0, _, _, _, _, _ => none
 | k + 1, x1, x5, x6, x7, x64 => if x64 = true then (some false) else (if x7 = true then ((impl_FromHeights.f k x6).bind fun bt114 => (if bt114.2 = true then ((laws_hRows.f k bt114.1 x5).bind fun t118 => (if t118 = true then ((impl_AreHeights.f k x6).bind fun t119 => (if t119 = true then (laws_FnHeightsAreMatrices.j1 k x1) else (some false))) else (some false))) else (some false))) else (laws_FnHeightsAreMatrices.j1 k x1))
def laws_FnHeightsAreMatrices.j1 : Nat → List Int → Option (Bool)
 | 0, _ => none
 | k + 1, x1 => (spec_DrawFromHeights.f k x1).bind fun t120 => ((impl_FromHeights.f k t120).bind fun bt123 => ((spec_FromHeights.f k t120).bind fun bt127 => (if (bt123.2 != bt127.2) = true then (laws_FnHeightsAreMatrices.j2 k x1 t120 bt123.1 bt123.2 true) else ((laws_hRows.f k bt123.1 bt127.1).bind fun t131 => (if t131 = true then ((impl_AreHeights.f k t120).bind fun t132 => (if (bt123.2 != t132) = true then (laws_FnHeightsAreMatrices.j2 k x1 t120 bt123.1 bt123.2 true) else ((spec_AreHeights.f k t120).bind fun t133 => (laws_FnHeightsAreMatrices.j2 k x1 t120 bt123.1 bt123.2 (bt123.2 != t133))))) else (laws_FnHeightsAreMatrices.j2 k x1 t120 bt123.1 bt123.2 true))))))
def laws_FnHeightsAreMatrices.j2 : Nat → List Int → List (List Int) → List (List Int) → Bool → Bool → Option (Bool)
 | 0, _, _, _, _, _ => none
 | k + 1, x1, x12, x13, x14, x116 => if x116 = true then (some false) else (if x14 = true then ((impl_HeightsOf.f k x13).bind fun bt134 => (if bt134.2 = true then ((laws_hRows.f k bt134.1 x12).bind fun t138 => (if t138 = true then (laws_FnHeightsAreMatrices.j3 k x1) else (some false))) else (some false))) else (laws_FnHeightsAreMatrices.j3 k x1))
def laws_FnHeightsAreMatrices.j3 : Nat → List Int → Option (Bool)
 | 0, _ => none
 | k + 1, x1 => (spec_DrawIsBelow.f k x1).bind fun bt139 => ((impl_IsBelow.f k bt139.1 bt139.2).bind fun bt145 => ((spec_IsBelow.f k bt139.1 bt139.2).bind fun bt147 => (if (bt145.2 != bt147.2) = true then (laws_FnHeightsAreMatrices.j4 k bt139.1 bt139.2 bt145.1 bt145.2 true) else (laws_FnHeightsAreMatrices.j4 k bt139.1 bt139.2 bt145.1 bt145.2 (bt145.1 != bt147.1)))))
def laws_FnHeightsAreMatrices.j4 : Nat → List (List Int) → List (List Int) → Bool → Bool → Bool → Option (Bool)
 | 0, _, _, _, _, _ => none
 | k + 1, x19, x20, x21, x22, x155 => if x155 = true then (some false) else (if x22 = true then ((impl_DualOf.f k x19).bind fun bt149 => ((impl_DualOf.f k x20).bind fun bt153 => ((impl_IsBelow.f k bt153.1 bt149.1).bind fun bt157 => ((impl_IsBelow.f k x20 x19).bind fun bt159 => ((impl_LeastSigns.f k (x19.length : Int)).bind fun bt161 => ((impl_IsBelow.f k bt161.1 x19).bind fun bt165 => ((impl_GreatestSigns.f k (x19.length : Int)).bind fun bt167 => ((impl_IsBelow.f k x19 bt167.1).bind fun bt171 => (if bt149.2 = true then (if bt153.2 = true then (if bt157.2 = true then (if (bt157.1 == x21) = true then (if bt159.2 = true then (if x21 = true then ((laws_hRows.f k x19 x20).bind fun t173 => (if (bt159.1 == t173) = true then (if bt161.2 = true then (if bt165.2 = true then (if bt165.1 = true then (if bt167.2 = true then (if bt171.2 = true then (some bt171.1) else (some false)) else (some false)) else (some false)) else (some false)) else (some false)) else (some false))) else ((laws_hRows.f k x19 x20).bind fun t174 => (if (false == t174) = true then (if bt161.2 = true then (if bt165.2 = true then (if bt165.1 = true then (if bt167.2 = true then (if bt171.2 = true then (some bt171.1) else (some false)) else (some false)) else (some false)) else (some false)) else (some false)) else (some false)))) else (some false)) else (some false)) else (some false)) else (some false)) else (some false)))))))))) else (some true))
end
def laws_FnHeightsAreMatrices.f (k : Nat) (l0 : List Int) (l1 : List Int) : Option (Bool) := (laws_big.f l0 l1).bind fun t101 => (if t101 = true then (some true) else ((spec_DrawHeightsOf.f k l0).bind fun t102 => ((impl_HeightsOf.f k t102).bind fun bt105 => ((spec_HeightsOf.f k t102).bind fun bt109 => (if (bt105.2 != bt109.2) = true then (laws_FnHeightsAreMatrices.j0 k l1 t102 bt105.1 bt105.2 true) else ((laws_hRows.f k bt105.1 bt109.1).bind fun t113 => (laws_FnHeightsAreMatrices.j0 k l1 t102 bt105.1 bt105.2 (!t113))))))))
theorem laws_FnHeightsAreMatrices.j0_dead (k : Nat) (a0 : List Int) (a1 : List (List Int)) (a2 : List (List Int)) (a3 : Bool) (h : laws_FnHeightsAreMatrices.j0 k a0 a1 a2 a3 true = some true) : False := by cases k <;> simp [laws_FnHeightsAreMatrices.j0] at h
theorem laws_FnHeightsAreMatrices.j2_dead (k : Nat) (a0 : List Int) (a1 : List (List Int)) (a2 : List (List Int)) (a3 : Bool) (h : laws_FnHeightsAreMatrices.j2 k a0 a1 a2 a3 true = some true) : False := by cases k <;> simp [laws_FnHeightsAreMatrices.j2] at h
theorem laws_FnHeightsAreMatrices.j4_dead (k : Nat) (a0 : List (List Int)) (a1 : List (List Int)) (a2 : Bool) (a3 : Bool) (h : laws_FnHeightsAreMatrices.j4 k a0 a1 a2 a3 true = some true) : False := by cases k <;> simp [laws_FnHeightsAreMatrices.j4] at h
set_option maxHeartbeats 8000000 in
set_option maxRecDepth 100000 in
theorem laws_FnHeightsAreMatrices.calls (k : Nat) (A0 : Option Addr) (c0 : Nat) (l0 : List Int) (A1 : Option Addr) (c1 : Nat) (l1 : List Int) (r : Bool) (w : World) (hr_ : r = true) (hr0 : Kd.C (Kd.int .u8) w A0 l0.length l0) (hc0 : l0.length ≤ c0) (hr1 : Kd.C (Kd.int .u8) w A1 l1.length l1) (hc1 : l1.length ≤ c1) (h : laws_FnHeightsAreMatrices.f k l0 l1 = some r) :
  Calls Try.prog 5 #[.slice A0 l0.length c0, .slice A1 l1.length c1] w fun e w' => e = .returned (.bool r) ∧ Below w.heap.size w w' := by
 have HR_ := am_ hr_
 clear hr_
 have HR0 := am_ hr0
 have HC0 := am_ hc0
 clear hr0 hc0
 have HR1 := am_ hr1
 have HC1 := am_ hc1
 clear hr1 hc1
 have HB := am_ (Below.refl w.heap.size w)
 have H : ((laws_big.f l0 l1).bind fun t101 => (if t101 = true then (some true) else ((spec_DrawHeightsOf.f k l0).bind fun t102 => ((impl_HeightsOf.f k t102).bind fun bt105 => ((spec_HeightsOf.f k t102).bind fun bt109 => (if (bt105.2 != bt109.2) = true then (laws_FnHeightsAreMatrices.j0 k l1 t102 bt105.1 bt105.2 true) else ((laws_hRows.f k bt105.1 bt109.1).bind fun t113 => (laws_FnHeightsAreMatrices.j0 k l1 t102 bt105.1 bt105.2 (!t113))))))))) = some r := h
 clear h
 replace H := Option.bind_eq_some_iff.mp H
 obtain ⟨t101, A30, H⟩ := H
 replace H : (if t101 = true then (some true) else ((spec_DrawHeightsOf.f k l0).bind fun t102 => ((impl_HeightsOf.f k t102).bind fun bt105 => ((spec_HeightsOf.f k t102).bind fun bt109 => (if (bt105.2 != bt109.2) = true then (laws_FnHeightsAreMatrices.j0 k l1 t102 bt105.1 bt105.2 true) else ((laws_hRows.f k bt105.1 bt109.1).bind fun t113 => (laws_FnHeightsAreMatrices.j0 k l1 t102 bt105.1 bt105.2 (!t113)))))))) = some r := H
 have A3 := am_ A30
 clear A30
 by_cases c4 : t101 = true
 ·subst c4
  have H1 : (some true) = some r := by rw [if_pos rfl] at H; exact H
  clear H
  have H := H1
  clear H1
  obtain rfl := Option.some.inj H
  go_enter Try.func5, Try.ntmps5
  go_wp2_with (first | ((with_reducible refine gate_callee (f := 7) rfl ?_); refine goesL_ (some 43) rfl rfl Try.func7 (by kernel_rfl) rfl #[.slice A0 l0.length c0, .slice A1 l1.length c1] rfl tc0_ ?_; (with_reducible refine (laws_big.calls _ _ l0 _ _ l1 true _ ?side1 ?side2 ?side3 ?side4 A3.out).mono ?_); (case side1 => exact tc9_); (case side2 => exact HC0.out); (case side3 => exact tc34_); (case side4 => exact HC1.out); rintro e w' ⟨rfl, ⟨nd, rfl⟩⟩; refine ⟨_, rfl, ?_⟩))
  go_ret
  exact ⟨by first | rfl | (simp [errW_none, errW_some] <;> rfl) | (simp [*, errW_none, errW_some] <;> rfl), by repeat (first | (with_reducible first | exact HB.out | apply below_alloc | apply pw_below_drewN | apply below_drew1) | exact HB.out)⟩
 ·replace c4 := Bool.eq_false_iff.mpr c4
  subst c4
  have H1 : ((spec_DrawHeightsOf.f k l0).bind fun t102 => ((impl_HeightsOf.f k t102).bind fun bt105 => ((spec_HeightsOf.f k t102).bind fun bt109 => (if (bt105.2 != bt109.2) = true then (laws_FnHeightsAreMatrices.j0 k l1 t102 bt105.1 bt105.2 true) else ((laws_hRows.f k bt105.1 bt109.1).bind fun t113 => (laws_FnHeightsAreMatrices.j0 k l1 t102 bt105.1 bt105.2 (!t113))))))) = some r := by rw [if_neg (show ¬ (false = true) by decide)] at H; exact H
  clear H
  have H := H1
  clear H1
  replace H := Option.bind_eq_some_iff.mp H
  obtain ⟨t102, A50, H⟩ := H
  replace H : ((impl_HeightsOf.f k t102).bind fun bt105 => ((spec_HeightsOf.f k t102).bind fun bt109 => (if (bt105.2 != bt109.2) = true then (laws_FnHeightsAreMatrices.j0 k l1 t102 bt105.1 bt105.2 true) else ((laws_hRows.f k bt105.1 bt109.1).bind fun t113 => (laws_FnHeightsAreMatrices.j0 k l1 t102 bt105.1 bt105.2 (!t113)))))) = some r := H
  have A5 := am_ A50
  clear A50
  replace H := Option.bind_eq_some_iff.mp H
  obtain ⟨⟨t105, t106⟩, A60, H⟩ := H
  replace H : ((spec_HeightsOf.f k t102).bind fun bt109 => (if (t106 != bt109.2) = true then (laws_FnHeightsAreMatrices.j0 k l1 t102 t105 t106 true) else ((laws_hRows.f k t105 bt109.1).bind fun t113 => (laws_FnHeightsAreMatrices.j0 k l1 t102 t105 t106 (!t113))))) = some r := H
  have A6 := am_ A60
  clear A60
  replace H := Option.bind_eq_some_iff.mp H
  obtain ⟨⟨t109, t110⟩, A70, H⟩ := H
  replace H : (if (t106 != t110) = true then (laws_FnHeightsAreMatrices.j0 k l1 t102 t105 t106 true) else ((laws_hRows.f k t105 t109).bind fun t113 => (laws_FnHeightsAreMatrices.j0 k l1 t102 t105 t106 (!t113)))) = some r := H
  have A7 := am_ A70
  clear A70
  have HC8 := am_ H
  clear H
  go_enter Try.func5, Try.ntmps5
  go_upto_region 6 with (first | ((with_reducible refine gate_callee (f := 7) rfl ?_); refine goesL_ (some 43) rfl rfl Try.func7 (by kernel_rfl) rfl #[.slice A0 l0.length c0, .slice A1 l1.length c1] rfl tc0_ ?_; (with_reducible refine (laws_big.calls _ _ l0 _ _ l1 false _ ?side1 ?side2 ?side3 ?side4 A3.out).mono ?_); (case side1 => exact tc9_); (case side2 => exact HC0.out); (case side3 => exact tc34_); (case side4 => exact HC1.out); rintro e w' ⟨rfl, ⟨nd, rfl⟩⟩; refine ⟨_, rfl, ?_⟩) | ((with_reducible refine gate_callee (f := 31) rfl ?_); refine goesL_ (some 45) rfl rfl Try.func31 (by kernel_rfl) rfl #[.slice A0 l0.length c0] rfl tc0_ ?_; (with_reducible refine (spec_DrawHeightsOf.calls k _ _ l0 t102 _ ?side1 ?side2 A5.out).mono ?_); (case side1 => exact tc9_); (case side2 => exact HC0.out); rintro e w9 ⟨v103, rfl, ho0, hb⟩; refine ⟨_, rfl, ?_⟩; have n0_ := am_ (Kd.S_lower ho0 (below_size tc1_)); have n1_ := am_ (below_step tc1_ hb); clear HB; have HO104 := n0_; have HB := n1_; clear n0_ n1_; (try clear hb ho0); obtain ⟨Ao10, co10, eo10⟩ := Kd.S_slice HO104.out; subst eo10) | ((with_reducible refine gate_callee (f := 32) rfl ?_); refine goesL_ (some 48) rfl rfl Try.func32 (by kernel_rfl) rfl #[.slice Ao10 t102.length co10] rfl tc0_ ?_; (with_reducible refine (impl_HeightsOf.calls k _ _ t102 t105 t106 _ ?side1 ?side2 A6.out).mono ?_); (case side1 => exact tc15_); (case side2 => exact tc59_); rintro e w11 ⟨v107, rfl, ho0, hb⟩; refine ⟨_, rfl, ?_⟩; have n0_ := am_ (Kd.S_below tc11_ hb); have n1_ := am_ (Kd.S_lower (Kd.S_new' ho0 (Kd.S_lt tc11_)) (below_size tc1_)); have n2_ := am_ (below_step tc1_ hb); clear HO104 HB; have HO104 := n0_; have HO108 := n1_; have HB := n2_; clear n0_ n1_ n2_; (try clear hb ho0)) | ((with_reducible refine gate_callee (f := 33) rfl ?_); refine goesL_ (some 53) rfl rfl Try.func33 (by kernel_rfl) rfl #[.slice Ao10 t102.length co10] rfl tc0_ ?_; (with_reducible refine (spec_HeightsOf.calls k _ _ t102 t109 t110 _ ?side1 ?side2 A7.out).mono ?_); (case side1 => exact tc15_); (case side2 => exact tc59_); rintro e w12 ⟨v111, rfl, ho0, hb⟩; refine ⟨_, rfl, ?_⟩; have n0_ := am_ (Kd.S_below tc11_ hb); have n1_ := am_ (Kd.S_below (by (with_reducible repeat (first | apply Kd.S_alloc | apply Kd.S_drewN | apply Kd.S_drew)); exact HO108.out) hb); have n2_ := am_ (Kd.S_lower (Kd.S_new' (Kd.S_new' ho0 (Kd.S_lt tc11_)) (Kd.S_lt (by (with_reducible repeat (first | apply Kd.S_alloc | apply Kd.S_drewN | apply Kd.S_drew)); exact HO108.out))) (below_size tc1_)); have n3_ := am_ (below_step tc1_ hb); clear HO104 HO108 HB; have HO104 := n0_; have HO108 := n1_; have HO112 := n2_; have HB := n3_; clear n0_ n1_ n2_ n3_; (try clear hb ho0)))
  (try simp only [Act.put, List.setIfInBounds_toArray, List.set_cons_zero, List.set_cons_succ])
  go_cut [64] (fun v64 wc => ∃ (kq : Nat) (x64_7 : Bool), v64 = .bool x64_7 ∧ Aside0 (laws_FnHeightsAreMatrices.j0 kq l1 t102 t105 t106 x64_7 = some r) ∧ Aside0 (kq ≤ k) ∧ Aside0 (Kd.S (Kd.slice 3 (Kd.int .i64)) 35 wc w.heap.size (fun _ => True) (.slice Ao10 t102.length co10) t102) ∧ Aside0 (Kd.S (Kd.slice 3 (Kd.int .i64)) 35 wc w.heap.size (fun _ => True) v107 t105) ∧ Aside0 (Below w.heap.size w wc))
  case first => as_aux_lemma =>
   have H := HC8.out
   clear HC8
   by_cases c13 : (t106 != t110) = true
   ·rw [if_pos c13] at H
    exact (laws_FnHeightsAreMatrices.j0_dead _ _ _ _ _ (H.trans (congrArg some HR_.out))).elim
   ·rw [if_neg c13] at H
    have c13b0 : (t106 != t110) = false := by simpa using c13
    (try (have c13b1 : decide (t106 = t110) = true := by simpa using c13))
    (try (have c13b2 : (t106 == t110) = true := by simpa using c13))
    clear c13
    (first | rw [c13b0] | (simp only [i64_w, i32_w]; rw [c13b0]) | skip)
    replace H := Option.bind_eq_some_iff.mp H
    obtain ⟨t113, A140, H⟩ := H
    replace H : (laws_FnHeightsAreMatrices.j0 k l1 t102 t105 t106 (!t113)) = some r := H
    have A14 := am_ A140
    clear A140
    have H' := am_ H
    clear H
    obtain ⟨Ao15, co15, eo15⟩ := Kd.S_slice HO108.out
    subst eo15
    obtain ⟨Ao16, co16, eo16⟩ := Kd.S_slice HO112.out
    subst eo16
    go_wp2_with (first | (go_at_call 14; (with_reducible refine (laws_hRows.calls k _ _ t105 _ _ t109 t113 _ ?side1 ?side2 ?side3 ?side4 A14.out).mono ?_); (case side1 => repeat (first | exact (Kd.S_reads' HO108.out).2.2 | (with_reducible refine Kd.C_alloc ?_ _) | (with_reducible refine Kd.C_drewN ?_ _) | (with_reducible refine Kd.C_drew ?_))); (case side2 => exact (Kd.S_reads' HO108.out).2.1); (case side3 => repeat (first | exact (Kd.S_reads' HO112.out).2.2 | (with_reducible refine Kd.C_alloc ?_ _) | (with_reducible refine Kd.C_drewN ?_ _) | (with_reducible refine Kd.C_drew ?_))); (case side4 => exact (Kd.S_reads' HO112.out).2.1); rintro e w' ⟨rfl, ⟨nd, rfl⟩⟩))
    go_meet
    case rel => exact ⟨_, (!t113), tc8_, H', ⟨by first | omega | exact Nat.le_refl _⟩, ⟨by (with_reducible repeat (first | apply Kd.S_alloc | apply Kd.S_drewN | apply Kd.S_drew)); exact Kd.S_mono HO104.out (fun _ _ => trivial)⟩, ⟨by (with_reducible repeat (first | apply Kd.S_alloc | apply Kd.S_drewN | apply Kd.S_drew)); exact Kd.S_mono HO108.out (fun _ _ => trivial)⟩, ⟨by repeat (first | (with_reducible first | exact HB.out | apply below_alloc | apply pw_below_drewN | apply below_drew1) | exact HB.out)⟩⟩
  case rest => as_aux_lemma =>
   clear HC8
   try clear c1
   try clear p2
   try clear c3
   try clear c4
   try clear c5
   try clear c7
   try clear c13
   try clear c13b0
   try clear c13b1
   try clear c13b2
   obtain ⟨kq, x64_7, rfl, HA, HJ7, HO_5, HO_6, HB⟩ := hcut
   cases kq with
   | zero => exact absurd HA.out (by simp [laws_FnHeightsAreMatrices.j0])
   | succ kj7 =>
    have H := HA.out
    clear HA
    simp only [laws_FnHeightsAreMatrices.j0] at H
    by_cases c17 : x64_7 = true
    ·subst c17
     exact absurd ((show (some false : Option Bool) = some r from (by rw [if_pos rfl] at H; exact H)).trans (congrArg some HR_.out)) (by simp)
    ·replace c17 := Bool.eq_false_iff.mpr c17
     subst c17
     have H1 : (if t106 = true then ((impl_FromHeights.f kj7 t105).bind fun bt114 => (if bt114.2 = true then ((laws_hRows.f kj7 bt114.1 t102).bind fun t118 => (if t118 = true then ((impl_AreHeights.f kj7 t105).bind fun t119 => (if t119 = true then (laws_FnHeightsAreMatrices.j1 kj7 l1) else (some false))) else (some false))) else (some false))) else (laws_FnHeightsAreMatrices.j1 kj7 l1)) = some r := by rw [if_neg (show ¬ (false = true) by decide)] at H; exact H
     clear H
     have H := H1
     clear H1
     have HC18 := am_ H
     clear H
     go_upto_if 65 with (fail)
     go_cut [] (fun wc => ∃ (kq : Nat), Aside0 (laws_FnHeightsAreMatrices.j1 kq l1 = some r) ∧ Aside0 (kq ≤ kj7) ∧ Aside0 (Below w.heap.size w wc))
     case first => as_aux_lemma =>
      have H := HC18.out
      clear HC18
      by_cases c19 : t106 = true
      ·subst c19
       have H1 : ((impl_FromHeights.f kj7 t105).bind fun bt114 => (if bt114.2 = true then ((laws_hRows.f kj7 bt114.1 t102).bind fun t118 => (if t118 = true then ((impl_AreHeights.f kj7 t105).bind fun t119 => (if t119 = true then (laws_FnHeightsAreMatrices.j1 kj7 l1) else (some false))) else (some false))) else (some false))) = some r := by rw [if_pos rfl] at H; exact H
       clear H
       have H := H1
       clear H1
       replace H := Option.bind_eq_some_iff.mp H
       obtain ⟨⟨t114, t115⟩, A200, H⟩ := H
       replace H : (if t115 = true then ((laws_hRows.f kj7 t114 t102).bind fun t118 => (if t118 = true then ((impl_AreHeights.f kj7 t105).bind fun t119 => (if t119 = true then (laws_FnHeightsAreMatrices.j1 kj7 l1) else (some false))) else (some false))) else (some false)) = some r := H
       have A20 := am_ A200
       clear A200
       by_cases c21 : t115 = true
       ·subst c21
        have H1 : ((laws_hRows.f kj7 t114 t102).bind fun t118 => (if t118 = true then ((impl_AreHeights.f kj7 t105).bind fun t119 => (if t119 = true then (laws_FnHeightsAreMatrices.j1 kj7 l1) else (some false))) else (some false))) = some r := by rw [if_pos rfl] at H; exact H
        clear H
        have H := H1
        clear H1
        replace H := Option.bind_eq_some_iff.mp H
        obtain ⟨t118, A220, H⟩ := H
        replace H : (if t118 = true then ((impl_AreHeights.f kj7 t105).bind fun t119 => (if t119 = true then (laws_FnHeightsAreMatrices.j1 kj7 l1) else (some false))) else (some false)) = some r := H
        have A22 := am_ A220
        clear A220
        by_cases c23 : t118 = true
        ·subst c23
         have H1 : ((impl_AreHeights.f kj7 t105).bind fun t119 => (if t119 = true then (laws_FnHeightsAreMatrices.j1 kj7 l1) else (some false))) = some r := by rw [if_pos rfl] at H; exact H
         clear H
         have H := H1
         clear H1
         replace H := Option.bind_eq_some_iff.mp H
         obtain ⟨t119, A240, H⟩ := H
         replace H : (if t119 = true then (laws_FnHeightsAreMatrices.j1 kj7 l1) else (some false)) = some r := H
         have A24 := am_ A240
         clear A240
         by_cases c25 : t119 = true
         ·subst c25
          have H1 : (laws_FnHeightsAreMatrices.j1 kj7 l1) = some r := by rw [if_pos rfl] at H; exact H
          clear H
          have H := H1
          clear H1
          have H' := am_ H
          clear H
          obtain ⟨Ao26, co26, eo26⟩ := Kd.S_slice HO_6.out
          subst eo26
          go_wp2_with (first | ((with_reducible refine gate_callee (f := 34) rfl ?_); refine goesL_ (some 68) rfl rfl Try.func34 (by kernel_rfl) rfl #[.slice Ao26 t105.length co26] rfl tc0_ ?_; (with_reducible refine (impl_FromHeights.calls kj7 _ _ t105 t114 true _ ?side1 ?side2 A20.out).mono ?_); (case side1 => repeat (first | exact (Kd.S_reads' HO_6.out).2.2 | (with_reducible refine Kd.C_alloc ?_ _) | (with_reducible refine Kd.C_drewN ?_ _) | (with_reducible refine Kd.C_drew ?_))); (case side2 => exact (Kd.S_reads' HO_6.out).2.1); rintro e w27 ⟨v116, rfl, ho0, hb⟩; refine ⟨_, rfl, ?_⟩; have n0_ := am_ (Kd.S_below tc16_ hb); have n1_ := am_ (Kd.S_below tc12_ hb); have n2_ := am_ (Kd.S_lower (Kd.S_new' (Kd.S_new' ho0 (Kd.S_lt tc16_)) (Kd.S_lt tc12_)) (below_size tc1_)); have n3_ := am_ (below_step tc1_ hb); clear HO_5 HO_6 HB; have HO_5 := n0_; have HO_6 := n1_; have HO117 := n2_; have HB := n3_; clear n0_ n1_ n2_ n3_; (try clear hb ho0); obtain ⟨Ao28, co28, eo28⟩ := Kd.S_slice HO117.out; subst eo28) | (go_at_call 14; (with_reducible refine (laws_hRows.calls kj7 _ _ t114 _ _ t102 true _ ?side1 ?side2 ?side3 ?side4 A22.out).mono ?_); (case side1 => repeat (first | exact (Kd.S_reads' HO117.out).2.2 | (with_reducible refine Kd.C_alloc ?_ _) | (with_reducible refine Kd.C_drewN ?_ _) | (with_reducible refine Kd.C_drew ?_))); (case side2 => exact (Kd.S_reads' HO117.out).2.1); (case side3 => exact tc51_); (case side4 => exact (Kd.S_reads' HO_5.out).2.1); rintro e w' ⟨rfl, ⟨nd, rfl⟩⟩) | (go_at_call 35; (with_reducible refine (impl_AreHeights.calls kj7 _ _ t105 true _ ?side1 ?side2 A24.out).mono ?_); (case side1 => repeat (first | exact (Kd.S_reads' HO_6.out).2.2 | (with_reducible refine Kd.C_alloc ?_ _) | (with_reducible refine Kd.C_drewN ?_ _) | (with_reducible refine Kd.C_drew ?_))); (case side2 => exact (Kd.S_reads' HO_6.out).2.1); rintro e w29 ⟨rfl, hb⟩; have n0_ := am_ (Kd.S_below tc16_ hb); have n1_ := am_ (Kd.S_below tc12_ hb); have n2_ := am_ (Kd.S_below tc61_ hb); have n3_ := am_ (below_step tc1_ hb); clear HO_5 HO_6; clear HO117 HB; have HO_5 := n0_; have HO_6 := n1_; have HO117 := n2_; have HB := n3_; clear n0_ n1_ n2_ n3_; (try clear hb hb2 hk hi)))
          go_meet
          case rel => exact ⟨_, H', ⟨by have := HJ7.out; first | omega | exact Nat.le_refl _⟩, ⟨by repeat (first | (with_reducible first | exact HB.out | apply below_alloc | apply pw_below_drewN | apply below_drew1) | exact HB.out)⟩⟩
         ·replace c25 := Bool.eq_false_iff.mpr c25
          subst c25
          exact absurd ((show (some false : Option Bool) = some r from tc33_).trans (congrArg some HR_.out)) (by simp)
        ·replace c23 := Bool.eq_false_iff.mpr c23
         subst c23
         exact absurd ((show (some false : Option Bool) = some r from tc33_).trans (congrArg some HR_.out)) (by simp)
       ·replace c21 := Bool.eq_false_iff.mpr c21
        subst c21
        exact absurd ((show (some false : Option Bool) = some r from tc33_).trans (congrArg some HR_.out)) (by simp)
      ·replace c19 := Bool.eq_false_iff.mpr c19
       subst c19
       have H1 : (laws_FnHeightsAreMatrices.j1 kj7 l1) = some r := by rw [if_neg (show ¬ (false = true) by decide)] at H; exact H
       clear H
       have H := H1
       clear H1
       have H' := am_ H
       clear H
       go_wp2
       go_meet
       case rel => exact ⟨_, H', ⟨by have := HJ7.out; first | omega | exact Nat.le_refl _⟩, ⟨by repeat (first | (with_reducible first | exact HB.out | apply below_alloc | apply pw_below_drewN | apply below_drew1) | exact HB.out)⟩⟩
     case rest => as_aux_lemma =>
      clear HC18
      try clear c1
      try clear c2
      try clear p2
      try clear c3
      try clear c4
      try clear c5
      try clear c7
      try clear c13
      try clear c13b0
      try clear c13b1
      try clear c13b2
      try clear c17
      try clear c19
      try clear c21
      try clear c23
      try clear c25
      try clear c31
      try clear c32
      try clear c33
      try clear c34
      try clear p2
      obtain ⟨kq, HA, HJ17, HB⟩ := hcut
      cases kq with
      | zero => exact absurd HA.out (by simp [laws_FnHeightsAreMatrices.j1])
      | succ kj17 =>
       have H := HA.out
       clear HA
       simp only [laws_FnHeightsAreMatrices.j1] at H
       replace H := Option.bind_eq_some_iff.mp H
       obtain ⟨t120, A390, H⟩ := H
       replace H : ((impl_FromHeights.f kj17 t120).bind fun bt123 => ((spec_FromHeights.f kj17 t120).bind fun bt127 => (if (bt123.2 != bt127.2) = true then (laws_FnHeightsAreMatrices.j2 kj17 l1 t120 bt123.1 bt123.2 true) else ((laws_hRows.f kj17 bt123.1 bt127.1).bind fun t131 => (if t131 = true then ((impl_AreHeights.f kj17 t120).bind fun t132 => (if (bt123.2 != t132) = true then (laws_FnHeightsAreMatrices.j2 kj17 l1 t120 bt123.1 bt123.2 true) else ((spec_AreHeights.f kj17 t120).bind fun t133 => (laws_FnHeightsAreMatrices.j2 kj17 l1 t120 bt123.1 bt123.2 (bt123.2 != t133))))) else (laws_FnHeightsAreMatrices.j2 kj17 l1 t120 bt123.1 bt123.2 true)))))) = some r := H
       have A39 := am_ A390
       clear A390
       replace H := Option.bind_eq_some_iff.mp H
       obtain ⟨⟨t123, t124⟩, A400, H⟩ := H
       replace H : ((spec_FromHeights.f kj17 t120).bind fun bt127 => (if (t124 != bt127.2) = true then (laws_FnHeightsAreMatrices.j2 kj17 l1 t120 t123 t124 true) else ((laws_hRows.f kj17 t123 bt127.1).bind fun t131 => (if t131 = true then ((impl_AreHeights.f kj17 t120).bind fun t132 => (if (t124 != t132) = true then (laws_FnHeightsAreMatrices.j2 kj17 l1 t120 t123 t124 true) else ((spec_AreHeights.f kj17 t120).bind fun t133 => (laws_FnHeightsAreMatrices.j2 kj17 l1 t120 t123 t124 (t124 != t133))))) else (laws_FnHeightsAreMatrices.j2 kj17 l1 t120 t123 t124 true))))) = some r := H
       have A40 := am_ A400
       clear A400
       replace H := Option.bind_eq_some_iff.mp H
       obtain ⟨⟨t127, t128⟩, A410, H⟩ := H
       replace H : (if (t124 != t128) = true then (laws_FnHeightsAreMatrices.j2 kj17 l1 t120 t123 t124 true) else ((laws_hRows.f kj17 t123 t127).bind fun t131 => (if t131 = true then ((impl_AreHeights.f kj17 t120).bind fun t132 => (if (t124 != t132) = true then (laws_FnHeightsAreMatrices.j2 kj17 l1 t120 t123 t124 true) else ((spec_AreHeights.f kj17 t120).bind fun t133 => (laws_FnHeightsAreMatrices.j2 kj17 l1 t120 t123 t124 (t124 != t133))))) else (laws_FnHeightsAreMatrices.j2 kj17 l1 t120 t123 t124 true)))) = some r := H
       have A41 := am_ A410
       clear A410
       have HC42 := am_ H
       clear H
       go_upto_region 15 with (first | ((with_reducible refine gate_callee (f := 36) rfl ?_); refine goesL_ (some 85) rfl rfl Try.func36 (by kernel_rfl) rfl #[.slice A1 l1.length c1] rfl tc0_ ?_; (with_reducible refine (spec_DrawFromHeights.calls kj17 _ _ l1 t120 _ ?side1 ?side2 A39.out).mono ?_); (case side1 => exact tc26_); (case side2 => exact HC1.out); rintro e w43 ⟨v121, rfl, ho0, hb⟩; refine ⟨_, rfl, ?_⟩; have n0_ := am_ (Kd.Q_lower ho0 (below_size tc1_)); have n1_ := am_ (below_step tc1_ hb); clear HB; have HO122 := n0_; have HB := n1_; clear n0_ n1_; (try clear hb ho0); obtain ⟨Ao44, co44, eo44, _⟩ := Kd.Q_slice HO122.out; subst eo44) | ((with_reducible refine gate_callee (f := 34) rfl ?_); refine goesL_ (some 88) rfl rfl Try.func34 (by kernel_rfl) rfl #[.slice Ao44 t120.length co44] rfl tc0_ ?_; (with_reducible refine (impl_FromHeights.calls kj17 _ _ t120 t123 t124 _ ?side1 ?side2 A40.out).mono ?_); (case side1 => exact tc50_); (case side2 => exact (Kd.Q_reads' HO122.out).2.1); rintro e w45 ⟨v125, rfl, ho0, hb⟩; refine ⟨_, rfl, ?_⟩; have n0_ := am_ (Kd.Q_elder' tc52_ (Kd.S_base ho0) hb); have n1_ := am_ (Kd.S_lower (Kd.S_new' ho0 (Kd.Q_lt tc52_)) (below_size tc1_)); have n2_ := am_ (below_step tc1_ hb); clear HO122 HB; have HO122 := n0_; have HO126 := n1_; have HB := n2_; clear n0_ n1_ n2_; (try clear hb ho0)) | ((with_reducible refine gate_callee (f := 37) rfl ?_); refine goesL_ (some 93) rfl rfl Try.func37 (by kernel_rfl) rfl #[.slice Ao44 t120.length co44] rfl tc0_ ?_; (with_reducible refine (spec_FromHeights.calls kj17 _ _ t120 t127 t128 _ ?side1 ?side2 A41.out).mono ?_); (case side1 => exact tc50_); (case side2 => exact (Kd.Q_reads' HO122.out).2.1); rintro e w46 ⟨v129, rfl, ho0, hb⟩; refine ⟨_, rfl, ?_⟩; have n0_ := am_ (Kd.Q_elder' tc52_ (Kd.S_base ho0) hb); have n1_ := am_ (Kd.S_below tc62_ hb); have n2_ := am_ (Kd.S_lower (Kd.S_new' (Kd.S_new' ho0 (Kd.Q_lt tc52_)) (Kd.S_lt tc62_)) (below_size tc1_)); have n3_ := am_ (below_step tc1_ hb); clear HO122 HO126 HB; have HO122 := n0_; have HO126 := n1_; have HO130 := n2_; have HB := n3_; clear n0_ n1_ n2_ n3_; (try clear hb ho0)))
       (try simp only [Act.put, List.setIfInBounds_toArray, List.set_cons_zero, List.set_cons_succ])
       go_cut [116] (fun v116 wc => ∃ (kq : Nat) (x116_41 : Bool), v116 = .bool x116_41 ∧ Aside0 (laws_FnHeightsAreMatrices.j2 kq l1 t120 t123 t124 x116_41 = some r) ∧ Aside0 (kq ≤ kj17) ∧ Aside0 (Kd.Q (Kd.slice 3 (Kd.int .i64)) 35 wc w.heap.size (fun _ => True) (.slice Ao44 t120.length co44) t120) ∧ Aside0 (Kd.S (Kd.slice 3 (Kd.int .i64)) 35 wc w.heap.size (fun _ => True) v125 t123) ∧ Aside0 (Below w.heap.size w wc))
       case first => as_aux_lemma =>
        have H := HC42.out
        clear HC42
        by_cases c47 : (t124 != t128) = true
        ·rw [if_pos c47] at H
         exact (laws_FnHeightsAreMatrices.j2_dead _ _ _ _ _ (H.trans (congrArg some HR_.out))).elim
        ·rw [if_neg c47] at H
         have c47b0 : (t124 != t128) = false := by simpa using c47
         (try (have c47b1 : decide (t124 = t128) = true := by simpa using c47))
         (try (have c47b2 : (t124 == t128) = true := by simpa using c47))
         clear c47
         (first | rw [c47b0] | (simp only [i64_w, i32_w]; rw [c47b0]) | skip)
         replace H := Option.bind_eq_some_iff.mp H
         obtain ⟨t131, A480, H⟩ := H
         replace H : (if t131 = true then ((impl_AreHeights.f kj17 t120).bind fun t132 => (if (t124 != t132) = true then (laws_FnHeightsAreMatrices.j2 kj17 l1 t120 t123 t124 true) else ((spec_AreHeights.f kj17 t120).bind fun t133 => (laws_FnHeightsAreMatrices.j2 kj17 l1 t120 t123 t124 (t124 != t133))))) else (laws_FnHeightsAreMatrices.j2 kj17 l1 t120 t123 t124 true)) = some r := H
         have A48 := am_ A480
         clear A480
         by_cases c49 : t131 = true
         ·subst c49
          have H1 : ((impl_AreHeights.f kj17 t120).bind fun t132 => (if (t124 != t132) = true then (laws_FnHeightsAreMatrices.j2 kj17 l1 t120 t123 t124 true) else ((spec_AreHeights.f kj17 t120).bind fun t133 => (laws_FnHeightsAreMatrices.j2 kj17 l1 t120 t123 t124 (t124 != t133))))) = some r := by rw [if_pos rfl] at H; exact H
          clear H
          have H := H1
          clear H1
          replace H := Option.bind_eq_some_iff.mp H
          obtain ⟨t132, A500, H⟩ := H
          replace H : (if (t124 != t132) = true then (laws_FnHeightsAreMatrices.j2 kj17 l1 t120 t123 t124 true) else ((spec_AreHeights.f kj17 t120).bind fun t133 => (laws_FnHeightsAreMatrices.j2 kj17 l1 t120 t123 t124 (t124 != t133)))) = some r := H
          have A50 := am_ A500
          clear A500
          by_cases c51 : (t124 != t132) = true
          ·rw [if_pos c51] at H
           exact (laws_FnHeightsAreMatrices.j2_dead _ _ _ _ _ (H.trans (congrArg some HR_.out))).elim
          ·rw [if_neg c51] at H
           have c51b0 : (t124 != t132) = false := by simpa using c51
           (try (have c51b1 : decide (t124 = t132) = true := by simpa using c51))
           (try (have c51b2 : (t124 == t132) = true := by simpa using c51))
           clear c51
           replace H := Option.bind_eq_some_iff.mp H
           obtain ⟨t133, A550, H⟩ := H
           replace H : (laws_FnHeightsAreMatrices.j2 kj17 l1 t120 t123 t124 (t124 != t133)) = some r := H
           have A55 := am_ A550
           clear A550
           have H' := am_ H
           clear H
           obtain ⟨Ao56, co56, eo56⟩ := Kd.S_slice HO126.out
           subst eo56
           obtain ⟨Ao57, co57, eo57⟩ := Kd.S_slice HO130.out
           subst eo57
           go_wp2_with (first | (go_at_call 14; (with_reducible refine (laws_hRows.calls kj17 _ _ t123 _ _ t127 true _ ?side1 ?side2 ?side3 ?side4 A48.out).mono ?_); (case side1 => repeat (first | exact (Kd.S_reads' HO126.out).2.2 | (with_reducible refine Kd.C_alloc ?_ _) | (with_reducible refine Kd.C_drewN ?_ _) | (with_reducible refine Kd.C_drew ?_))); (case side2 => exact (Kd.S_reads' HO126.out).2.1); (case side3 => repeat (first | exact (Kd.S_reads' HO130.out).2.2 | (with_reducible refine Kd.C_alloc ?_ _) | (with_reducible refine Kd.C_drewN ?_ _) | (with_reducible refine Kd.C_drew ?_))); (case side4 => exact (Kd.S_reads' HO130.out).2.1); rintro e w' ⟨rfl, ⟨nd, rfl⟩⟩) | (go_at_call 35; (with_reducible refine (impl_AreHeights.calls kj17 _ _ t120 t132 _ ?side1 ?side2 A50.out).mono ?_); (case side1 => exact tc50_); (case side2 => exact (Kd.Q_reads' HO122.out).2.1); rintro e w58 ⟨rfl, hb⟩; have n0_ := am_ (Kd.Q_below tc52_ hb); have n1_ := am_ (Kd.S_below tc62_ hb); have n2_ := am_ (Kd.S_below (by (with_reducible repeat (first | apply Kd.S_alloc | apply Kd.S_drewN | apply Kd.S_drew)); exact HO130.out) hb); have n3_ := am_ (below_step tc1_ hb); clear HO122 HO126; clear HO130 HB; have HO122 := n0_; have HO126 := n1_; have HO130 := n2_; have HB := n3_; clear n0_ n1_ n2_ n3_; (try clear hb)) | (go_at_call 38; (with_reducible refine (spec_AreHeights.calls kj17 _ _ t120 t133 _ ?side1 ?side2 A55.out).mono ?_); (case side1 => exact tc50_); (case side2 => exact (Kd.Q_reads' HO122.out).2.1); rintro e w59 ⟨rfl, hb⟩; have n0_ := am_ (Kd.Q_below tc52_ hb); have n1_ := am_ (Kd.S_below tc62_ hb); have n2_ := am_ (Kd.S_below (by (with_reducible repeat (first | apply Kd.S_alloc | apply Kd.S_drewN | apply Kd.S_drew)); exact HO130.out) hb); have n3_ := am_ (below_step tc1_ hb); clear HO122 HO126; clear HO130 HB; have HO122 := n0_; have HO126 := n1_; have HO130 := n2_; have HB := n3_; clear n0_ n1_ n2_ n3_; (try clear hb hb2 hk hi)))
           go_meet
           case rel => exact ⟨_, ((t124 != t133)), tc8_, H', ⟨by have := HJ7.out; have := HJ17.out; first | omega | exact Nat.le_refl _⟩, ⟨by (with_reducible repeat (first | apply Kd.Q_alloc | apply Kd.Q_drewN | apply Kd.Q_drew)); exact Kd.Q_mono HO122.out (fun _ _ => trivial)⟩, ⟨by (with_reducible repeat (first | apply Kd.S_alloc | apply Kd.S_drewN | apply Kd.S_drew)); exact Kd.S_mono HO126.out (fun _ _ => trivial)⟩, ⟨by repeat (first | (with_reducible first | exact HB.out | apply below_alloc | apply pw_below_drewN | apply below_drew1) | exact HB.out)⟩⟩
         ·replace c49 := Bool.eq_false_iff.mpr c49
          subst c49
          exact (laws_FnHeightsAreMatrices.j2_dead _ _ _ _ _ ((show (laws_FnHeightsAreMatrices.j2 kj17 l1 t120 t123 t124 true) = some r from tc33_).trans (congrArg some HR_.out))).elim
       case rest => as_aux_lemma =>
        clear HC42
        try clear c1
        try clear c2
        try clear p2
        try clear c3
        try clear c4
        try clear c5
        try clear c7
        try clear c13
        try clear c13b0
        try clear c13b1
        try clear c13b2
        try clear c17
        try clear c19
        try clear c21
        try clear c23
        try clear c25
        try clear c31
        try clear c32
        try clear c33
        try clear c34
        try clear c36
        try clear c37
        try clear c47
        try clear c47b0
        try clear c47b1
        try clear c47b2
        try clear c49
        try clear c51
        try clear c51b0
        try clear c51b1
        try clear c51b2
        try clear p2
        obtain ⟨kq, x116_41, rfl, HA, HJ41, HO_12, HO_13, HB⟩ := hcut
        cases kq with
        | zero => exact absurd HA.out (by simp [laws_FnHeightsAreMatrices.j2])
        | succ kj41 =>
         have H := HA.out
         clear HA
         simp only [laws_FnHeightsAreMatrices.j2] at H
         by_cases c62 : x116_41 = true
         ·subst c62
          exact absurd ((show (some false : Option Bool) = some r from (by rw [if_pos rfl] at H; exact H)).trans (congrArg some HR_.out)) (by simp)
         ·replace c62 := Bool.eq_false_iff.mpr c62
          subst c62
          have H1 : (if t124 = true then ((impl_HeightsOf.f kj41 t123).bind fun bt134 => (if bt134.2 = true then ((laws_hRows.f kj41 bt134.1 t120).bind fun t138 => (if t138 = true then (laws_FnHeightsAreMatrices.j3 kj41 l1) else (some false))) else (some false))) else (laws_FnHeightsAreMatrices.j3 kj41 l1)) = some r := by rw [if_neg (show ¬ (false = true) by decide)] at H; exact H
          clear H
          have H := H1
          clear H1
          have HC63 := am_ H
          clear H
          go_upto_if 117 with (fail)
          go_cut [] (fun wc => ∃ (kq : Nat), Aside0 (laws_FnHeightsAreMatrices.j3 kq l1 = some r) ∧ Aside0 (kq ≤ kj41) ∧ Aside0 (Below w.heap.size w wc))
          case first => as_aux_lemma =>
           have H := HC63.out
           clear HC63
           by_cases c64 : t124 = true
           ·subst c64
            have H1 : ((impl_HeightsOf.f kj41 t123).bind fun bt134 => (if bt134.2 = true then ((laws_hRows.f kj41 bt134.1 t120).bind fun t138 => (if t138 = true then (laws_FnHeightsAreMatrices.j3 kj41 l1) else (some false))) else (some false))) = some r := by rw [if_pos rfl] at H; exact H
            clear H
            have H := H1
            clear H1
            replace H := Option.bind_eq_some_iff.mp H
            obtain ⟨⟨t134, t135⟩, A650, H⟩ := H
            replace H : (if t135 = true then ((laws_hRows.f kj41 t134 t120).bind fun t138 => (if t138 = true then (laws_FnHeightsAreMatrices.j3 kj41 l1) else (some false))) else (some false)) = some r := H
            have A65 := am_ A650
            clear A650
            by_cases c66 : t135 = true
            ·subst c66
             have H1 : ((laws_hRows.f kj41 t134 t120).bind fun t138 => (if t138 = true then (laws_FnHeightsAreMatrices.j3 kj41 l1) else (some false))) = some r := by rw [if_pos rfl] at H; exact H
             clear H
             have H := H1
             clear H1
             replace H := Option.bind_eq_some_iff.mp H
             obtain ⟨t138, A670, H⟩ := H
             replace H : (if t138 = true then (laws_FnHeightsAreMatrices.j3 kj41 l1) else (some false)) = some r := H
             have A67 := am_ A670
             clear A670
             by_cases c68 : t138 = true
             ·subst c68
              have H1 : (laws_FnHeightsAreMatrices.j3 kj41 l1) = some r := by rw [if_pos rfl] at H; exact H
              clear H
              have H := H1
              clear H1
              have H' := am_ H
              clear H
              obtain ⟨Ao69, co69, eo69⟩ := Kd.S_slice HO_13.out
              subst eo69
              go_wp2_with (first | ((with_reducible refine gate_callee (f := 32) rfl ?_); refine goesL_ (some 120) rfl rfl Try.func32 (by kernel_rfl) rfl #[.slice Ao69 t123.length co69] rfl tc0_ ?_; (with_reducible refine (impl_HeightsOf.calls kj41 _ _ t123 t134 true _ ?side1 ?side2 A65.out).mono ?_); (case side1 => repeat (first | exact (Kd.S_reads' HO_13.out).2.2 | (with_reducible refine Kd.C_alloc ?_ _) | (with_reducible refine Kd.C_drewN ?_ _) | (with_reducible refine Kd.C_drew ?_))); (case side2 => exact (Kd.S_reads' HO_13.out).2.1); rintro e w70 ⟨v136, rfl, ho0, hb⟩; refine ⟨_, rfl, ?_⟩; have n0_ := am_ (Kd.Q_elder' (by (with_reducible repeat (first | apply Kd.Q_alloc | apply Kd.Q_drewN | apply Kd.Q_drew)); exact HO_12.out) (Kd.S_base ho0) hb); have n1_ := am_ (Kd.S_below (by (with_reducible repeat (first | apply Kd.S_alloc | apply Kd.S_drewN | apply Kd.S_drew)); exact HO_13.out) hb); have n2_ := am_ (Kd.S_lower (Kd.S_new' (Kd.S_new' ho0 (Kd.Q_lt (by (with_reducible repeat (first | apply Kd.Q_alloc | apply Kd.Q_drewN | apply Kd.Q_drew)); exact HO_12.out))) (Kd.S_lt (by (with_reducible repeat (first | apply Kd.S_alloc | apply Kd.S_drewN | apply Kd.S_drew)); exact HO_13.out))) (below_size tc1_)); have n3_ := am_ (below_step tc1_ hb); clear HO_12 HO_13 HB; have HO_12 := n0_; have HO_13 := n1_; have HO137 := n2_; have HB := n3_; clear n0_ n1_ n2_ n3_; (try clear hb ho0); obtain ⟨Ao71, co71, eo71⟩ := Kd.S_slice HO137.out; subst eo71) | (go_at_call 14; (with_reducible refine (laws_hRows.calls kj41 _ _ t134 _ _ t120 true _ ?side1 ?side2 ?side3 ?side4 A67.out).mono ?_); (case side1 => repeat (first | exact (Kd.S_reads' HO137.out).2.2 | (with_reducible refine Kd.C_alloc ?_ _) | (with_reducible refine Kd.C_drewN ?_ _) | (with_reducible refine Kd.C_drew ?_))); (case side2 => exact (Kd.S_reads' HO137.out).2.1); (case side3 => repeat (first | exact (Kd.Q_reads' HO_12.out).2.2 | (with_reducible refine Kd.C_alloc ?_ _) | (with_reducible refine Kd.C_drewN ?_ _) | (with_reducible refine Kd.C_drew ?_))); (case side4 => exact (Kd.Q_reads' HO_12.out).2.1); rintro e w' ⟨rfl, ⟨nd, rfl⟩⟩))
              go_meet
              case rel => exact ⟨_, H', ⟨by have := HJ7.out; have := HJ17.out; have := HJ41.out; first | omega | exact Nat.le_refl _⟩, ⟨by repeat (first | (with_reducible first | exact HB.out | apply below_alloc | apply pw_below_drewN | apply below_drew1) | exact HB.out)⟩⟩
             ·replace c68 := Bool.eq_false_iff.mpr c68
              subst c68
              exact absurd ((show (some false : Option Bool) = some r from tc33_).trans (congrArg some HR_.out)) (by simp)
            ·replace c66 := Bool.eq_false_iff.mpr c66
             subst c66
             exact absurd ((show (some false : Option Bool) = some r from tc33_).trans (congrArg some HR_.out)) (by simp)
           ·replace c64 := Bool.eq_false_iff.mpr c64
            subst c64
            have H1 : (laws_FnHeightsAreMatrices.j3 kj41 l1) = some r := by rw [if_neg (show ¬ (false = true) by decide)] at H; exact H
            clear H
            have H := H1
            clear H1
            have H' := am_ H
            clear H
            go_wp2
            go_meet
            case rel => exact ⟨_, H', ⟨by have := HJ7.out; have := HJ17.out; have := HJ41.out; first | omega | exact Nat.le_refl _⟩, ⟨by repeat (first | (with_reducible first | exact HB.out | apply below_alloc | apply pw_below_drewN | apply below_drew1) | exact HB.out)⟩⟩
          case rest => as_aux_lemma =>
           clear HC63
           try clear c1
           try clear c2
           try clear p2
           try clear c3
           try clear c4
           try clear c5
           try clear c6
           try clear c7
           try clear c13
           try clear c13b0
           try clear c13b1
           try clear c13b2
           try clear c17
           try clear c19
           try clear c21
           try clear c23
           try clear c25
           try clear c31
           try clear c32
           try clear c33
           try clear c34
           try clear c36
           try clear c37
           try clear c47
           try clear c47b0
           try clear c47b1
           try clear c47b2
           try clear c49
           try clear c51
           try clear c51b0
           try clear c51b1
           try clear c51b2
           try clear c62
           try clear c64
           try clear c66
           try clear c68
           try clear p2
           obtain ⟨kq, HA, HJ62, HB⟩ := hcut
           cases kq with
           | zero => exact absurd HA.out (by simp [laws_FnHeightsAreMatrices.j3])
           | succ kj62 =>
            have H := HA.out
            clear HA
            simp only [laws_FnHeightsAreMatrices.j3] at H
            replace H := Option.bind_eq_some_iff.mp H
            obtain ⟨⟨t139, t140⟩, A770, H⟩ := H
            replace H : ((impl_IsBelow.f kj62 t139 t140).bind fun bt145 => ((spec_IsBelow.f kj62 t139 t140).bind fun bt147 => (if (bt145.2 != bt147.2) = true then (laws_FnHeightsAreMatrices.j4 kj62 t139 t140 bt145.1 bt145.2 true) else (laws_FnHeightsAreMatrices.j4 kj62 t139 t140 bt145.1 bt145.2 (bt145.1 != bt147.1))))) = some r := H
            have A77 := am_ A770
            clear A770
            replace H := Option.bind_eq_some_iff.mp H
            obtain ⟨⟨t145, t146⟩, A780, H⟩ := H
            replace H : ((spec_IsBelow.f kj62 t139 t140).bind fun bt147 => (if (t146 != bt147.2) = true then (laws_FnHeightsAreMatrices.j4 kj62 t139 t140 t145 t146 true) else (laws_FnHeightsAreMatrices.j4 kj62 t139 t140 t145 t146 (t145 != bt147.1)))) = some r := H
            have A78 := am_ A780
            clear A780
            replace H := Option.bind_eq_some_iff.mp H
            obtain ⟨⟨t147, t148⟩, A790, H⟩ := H
            replace H : (if (t146 != t148) = true then (laws_FnHeightsAreMatrices.j4 kj62 t139 t140 t145 t146 true) else (laws_FnHeightsAreMatrices.j4 kj62 t139 t140 t145 t146 (t145 != t147))) = some r := H
            have A79 := am_ A790
            clear A790
            have HC80 := am_ H
            clear H
            go_upto_region 24 with (first | ((with_reducible refine gate_callee (f := 39) rfl ?_); refine goesL_ (some 133) rfl rfl Try.func39 (by kernel_rfl) rfl #[.slice A1 l1.length c1] rfl tc0_ ?_; (with_reducible refine (spec_DrawIsBelow.calls kj62 _ _ l1 t139 t140 _ ?side1 ?side2 A77.out).mono ?_); (case side1 => exact tc26_); (case side2 => exact HC1.out); rintro e w81 ⟨v141, v143, rfl, ho0, ho1, hb⟩; refine ⟨_, rfl, ?_⟩; have n0_ := am_ (Kd.S_lower ho0 (below_size tc1_)); have n1_ := am_ (Kd.S_lower ho1 (below_size tc1_)); have n2_ := am_ (below_step tc1_ hb); clear HB; have HO142 := n0_; have HO144 := n1_; have HB := n2_; clear n0_ n1_ n2_; (try clear hb ho0 ho1); obtain ⟨Ao82, co82, eo82⟩ := Kd.S_slice HO142.out; subst eo82; obtain ⟨Ao83, co83, eo83⟩ := Kd.S_slice HO144.out; subst eo83) | ((with_reducible refine gate_callee (f := 40) rfl ?_); refine goesL_ (some 139) rfl rfl Try.func40 (by kernel_rfl) rfl #[.slice Ao82 t139.length co82, .slice Ao83 t140.length co83] rfl tc0_ ?_; (with_reducible refine (impl_IsBelow.calls kj62 _ _ t139 _ _ t140 t145 t146 _ ?side1 ?side2 ?side3 ?side4 A78.out).mono ?_); (case side1 => repeat (first | exact (Kd.S_reads' HO142.out).2.2 | (with_reducible refine Kd.C_alloc ?_ _) | (with_reducible refine Kd.C_drewN ?_ _) | (with_reducible refine Kd.C_drew ?_))); (case side2 => exact (Kd.S_reads' HO142.out).2.1); (case side3 => repeat (first | exact (Kd.S_reads' HO144.out).2.2 | (with_reducible refine Kd.C_alloc ?_ _) | (with_reducible refine Kd.C_drewN ?_ _) | (with_reducible refine Kd.C_drew ?_))); (case side4 => exact (Kd.S_reads' HO144.out).2.1); rintro e w84 ⟨rfl, hb⟩; refine ⟨_, rfl, ?_⟩; have n0_ := am_ (Kd.S_below (by (with_reducible repeat (first | apply Kd.S_alloc | apply Kd.S_drewN | apply Kd.S_drew)); exact HO142.out) hb); have n1_ := am_ (Kd.S_below (by (with_reducible repeat (first | apply Kd.S_alloc | apply Kd.S_drewN | apply Kd.S_drew)); exact HO144.out) hb); have n2_ := am_ (below_step tc1_ hb); clear HO142 HO144 HB; have HO142 := n0_; have HO144 := n1_; have HB := n2_; clear n0_ n1_ n2_; (try clear hb)) | ((with_reducible refine gate_callee (f := 41) rfl ?_); refine goesL_ (some 145) rfl rfl Try.func41 (by kernel_rfl) rfl #[.slice Ao82 t139.length co82, .slice Ao83 t140.length co83] rfl tc0_ ?_; (with_reducible refine (spec_IsBelow.calls kj62 _ _ t139 _ _ t140 t147 t148 _ ?side1 ?side2 ?side3 ?side4 A79.out).mono ?_); (case side1 => repeat (first | exact (Kd.S_reads' HO142.out).2.2 | (with_reducible refine Kd.C_alloc ?_ _) | (with_reducible refine Kd.C_drewN ?_ _) | (with_reducible refine Kd.C_drew ?_))); (case side2 => exact (Kd.S_reads' HO142.out).2.1); (case side3 => repeat (first | exact (Kd.S_reads' HO144.out).2.2 | (with_reducible refine Kd.C_alloc ?_ _) | (with_reducible refine Kd.C_drewN ?_ _) | (with_reducible refine Kd.C_drew ?_))); (case side4 => exact (Kd.S_reads' HO144.out).2.1); rintro e w85 ⟨rfl, hb⟩; refine ⟨_, rfl, ?_⟩; have n0_ := am_ (Kd.S_below (by (with_reducible repeat (first | apply Kd.S_alloc | apply Kd.S_drewN | apply Kd.S_drew)); exact HO142.out) hb); have n1_ := am_ (Kd.S_below (by (with_reducible repeat (first | apply Kd.S_alloc | apply Kd.S_drewN | apply Kd.S_drew)); exact HO144.out) hb); have n2_ := am_ (below_step tc1_ hb); clear HO142 HO144 HB; have HO142 := n0_; have HO144 := n1_; have HB := n2_; clear n0_ n1_ n2_; (try clear hb)))
            (try simp only [Act.put, List.setIfInBounds_toArray, List.set_cons_zero, List.set_cons_succ])
            go_cut [155] (fun v155 wc => ∃ (kq : Nat) (x155_79 : Bool), v155 = .bool x155_79 ∧ Aside0 (laws_FnHeightsAreMatrices.j4 kq t139 t140 t145 t146 x155_79 = some r) ∧ Aside0 (kq ≤ kj62) ∧ Aside0 (Kd.S (Kd.slice 3 (Kd.int .i64)) 35 wc w.heap.size (fun _ => True) (.slice Ao82 t139.length co82) t139) ∧ Aside0 (Kd.S (Kd.slice 3 (Kd.int .i64)) 35 wc w.heap.size (fun _ => True) (.slice Ao83 t140.length co83) t140) ∧ Aside0 (Below w.heap.size w wc))
            case first => as_aux_lemma =>
             have H := HC80.out
             clear HC80
             by_cases c86 : (t146 != t148) = true
             ·rw [if_pos c86] at H
              exact (laws_FnHeightsAreMatrices.j4_dead _ _ _ _ _ (H.trans (congrArg some HR_.out))).elim
             ·rw [if_neg c86] at H
              have c86b0 : (t146 != t148) = false := by simpa using c86
              (try (have c86b1 : decide (t146 = t148) = true := by simpa using c86))
              (try (have c86b2 : (t146 == t148) = true := by simpa using c86))
              clear c86
              (first | rw [c86b0] | (simp only [i64_w, i32_w]; rw [c86b0]) | skip)
              have H' := am_ H
              clear H
              go_wp2
              go_meet
              case rel => exact ⟨_, ((t145 != t147)), tc8_, H', ⟨by have := HJ7.out; have := HJ17.out; have := HJ41.out; have := HJ62.out; first | omega | exact Nat.le_refl _⟩, ⟨by (with_reducible repeat (first | apply Kd.S_alloc | apply Kd.S_drewN | apply Kd.S_drew)); exact HO142.out⟩, ⟨by (with_reducible repeat (first | apply Kd.S_alloc | apply Kd.S_drewN | apply Kd.S_drew)); exact HO144.out⟩, ⟨by repeat (first | (with_reducible first | exact HB.out | apply below_alloc | apply pw_below_drewN | apply below_drew1) | exact HB.out)⟩⟩
            case rest => as_aux_lemma =>
             clear HC80
             try clear c1
             try clear c2
             try clear p2
             try clear c3
             try clear c4
             try clear c5
             try clear c6
             try clear c7
             try clear c8
             try clear c13
             try clear c13b0
             try clear c13b1
             try clear c13b2
             try clear c17
             try clear c19
             try clear c21
             try clear c23
             try clear c25
             try clear c31
             try clear c32
             try clear c33
             try clear c34
             try clear c36
             try clear c37
             try clear c39
             try clear c40
             try clear c41
             try clear c47
             try clear c47b0
             try clear c47b1
             try clear c47b2
             try clear c49
             try clear c51
             try clear c51b0
             try clear c51b1
             try clear c51b2
             try clear c62
             try clear c64
             try clear c66
             try clear c68
             try clear c86
             try clear c86b0
             try clear c86b1
             try clear c86b2
             try clear p2
             obtain ⟨kq, x155_79, rfl, HA, HJ79, HO_19, HO_20, HB⟩ := hcut
             cases kq with
             | zero => exact absurd HA.out (by simp [laws_FnHeightsAreMatrices.j4])
             | succ kj79 =>
              have H := HA.out
              clear HA
              simp only [laws_FnHeightsAreMatrices.j4] at H
              by_cases c87 : x155_79 = true
              ·subst c87
               exact absurd ((show (some false : Option Bool) = some r from (by rw [if_pos rfl] at H; exact H)).trans (congrArg some HR_.out)) (by simp)
              ·replace c87 := Bool.eq_false_iff.mpr c87
               subst c87
               have H1 : (if t146 = true then ((impl_DualOf.f kj79 t139).bind fun bt149 => ((impl_DualOf.f kj79 t140).bind fun bt153 => ((impl_IsBelow.f kj79 bt153.1 bt149.1).bind fun bt157 => ((impl_IsBelow.f kj79 t140 t139).bind fun bt159 => ((impl_LeastSigns.f kj79 (t139.length : Int)).bind fun bt161 => ((impl_IsBelow.f kj79 bt161.1 t139).bind fun bt165 => ((impl_GreatestSigns.f kj79 (t139.length : Int)).bind fun bt167 => ((impl_IsBelow.f kj79 t139 bt167.1).bind fun bt171 => (if bt149.2 = true then (if bt153.2 = true then (if bt157.2 = true then (if (bt157.1 == t145) = true then (if bt159.2 = true then (if t145 = true then ((laws_hRows.f kj79 t139 t140).bind fun t173 => (if (bt159.1 == t173) = true then (if bt161.2 = true then (if bt165.2 = true then (if bt165.1 = true then (if bt167.2 = true then (if bt171.2 = true then (some bt171.1) else (some false)) else (some false)) else (some false)) else (some false)) else (some false)) else (some false))) else ((laws_hRows.f kj79 t139 t140).bind fun t174 => (if (false == t174) = true then (if bt161.2 = true then (if bt165.2 = true then (if bt165.1 = true then (if bt167.2 = true then (if bt171.2 = true then (some bt171.1) else (some false)) else (some false)) else (some false)) else (some false)) else (some false)) else (some false)))) else (some false)) else (some false)) else (some false)) else (some false)) else (some false)))))))))) else (some true)) = some r := by rw [if_neg (show ¬ (false = true) by decide)] at H; exact H
               clear H
               have H := H1
               clear H1
               by_cases c88 : t146 = true
               ·subst c88
                have H1 : ((impl_DualOf.f kj79 t139).bind fun bt149 => ((impl_DualOf.f kj79 t140).bind fun bt153 => ((impl_IsBelow.f kj79 bt153.1 bt149.1).bind fun bt157 => ((impl_IsBelow.f kj79 t140 t139).bind fun bt159 => ((impl_LeastSigns.f kj79 (t139.length : Int)).bind fun bt161 => ((impl_IsBelow.f kj79 bt161.1 t139).bind fun bt165 => ((impl_GreatestSigns.f kj79 (t139.length : Int)).bind fun bt167 => ((impl_IsBelow.f kj79 t139 bt167.1).bind fun bt171 => (if bt149.2 = true then (if bt153.2 = true then (if bt157.2 = true then (if (bt157.1 == t145) = true then (if bt159.2 = true then (if t145 = true then ((laws_hRows.f kj79 t139 t140).bind fun t173 => (if (bt159.1 == t173) = true then (if bt161.2 = true then (if bt165.2 = true then (if bt165.1 = true then (if bt167.2 = true then (if bt171.2 = true then (some bt171.1) else (some false)) else (some false)) else (some false)) else (some false)) else (some false)) else (some false))) else ((laws_hRows.f kj79 t139 t140).bind fun t174 => (if (false == t174) = true then (if bt161.2 = true then (if bt165.2 = true then (if bt165.1 = true then (if bt167.2 = true then (if bt171.2 = true then (some bt171.1) else (some false)) else (some false)) else (some false)) else (some false)) else (some false)) else (some false)))) else (some false)) else (some false)) else (some false)) else (some false)) else (some false)))))))))) = some r := by rw [if_pos rfl] at H; exact H
                clear H
                have H := H1
                clear H1
                replace H := Option.bind_eq_some_iff.mp H
                obtain ⟨⟨t149, t150⟩, A890, H⟩ := H
                replace H : ((impl_DualOf.f kj79 t140).bind fun bt153 => ((impl_IsBelow.f kj79 bt153.1 t149).bind fun bt157 => ((impl_IsBelow.f kj79 t140 t139).bind fun bt159 => ((impl_LeastSigns.f kj79 (t139.length : Int)).bind fun bt161 => ((impl_IsBelow.f kj79 bt161.1 t139).bind fun bt165 => ((impl_GreatestSigns.f kj79 (t139.length : Int)).bind fun bt167 => ((impl_IsBelow.f kj79 t139 bt167.1).bind fun bt171 => (if t150 = true then (if bt153.2 = true then (if bt157.2 = true then (if (bt157.1 == t145) = true then (if bt159.2 = true then (if t145 = true then ((laws_hRows.f kj79 t139 t140).bind fun t173 => (if (bt159.1 == t173) = true then (if bt161.2 = true then (if bt165.2 = true then (if bt165.1 = true then (if bt167.2 = true then (if bt171.2 = true then (some bt171.1) else (some false)) else (some false)) else (some false)) else (some false)) else (some false)) else (some false))) else ((laws_hRows.f kj79 t139 t140).bind fun t174 => (if (false == t174) = true then (if bt161.2 = true then (if bt165.2 = true then (if bt165.1 = true then (if bt167.2 = true then (if bt171.2 = true then (some bt171.1) else (some false)) else (some false)) else (some false)) else (some false)) else (some false)) else (some false)))) else (some false)) else (some false)) else (some false)) else (some false)) else (some false))))))))) = some r := H
                have A89 := am_ A890
                clear A890
                replace H := Option.bind_eq_some_iff.mp H
                obtain ⟨⟨t153, t154⟩, A900, H⟩ := H
                replace H : ((impl_IsBelow.f kj79 t153 t149).bind fun bt157 => ((impl_IsBelow.f kj79 t140 t139).bind fun bt159 => ((impl_LeastSigns.f kj79 (t139.length : Int)).bind fun bt161 => ((impl_IsBelow.f kj79 bt161.1 t139).bind fun bt165 => ((impl_GreatestSigns.f kj79 (t139.length : Int)).bind fun bt167 => ((impl_IsBelow.f kj79 t139 bt167.1).bind fun bt171 => (if t150 = true then (if t154 = true then (if bt157.2 = true then (if (bt157.1 == t145) = true then (if bt159.2 = true then (if t145 = true then ((laws_hRows.f kj79 t139 t140).bind fun t173 => (if (bt159.1 == t173) = true then (if bt161.2 = true then (if bt165.2 = true then (if bt165.1 = true then (if bt167.2 = true then (if bt171.2 = true then (some bt171.1) else (some false)) else (some false)) else (some false)) else (some false)) else (some false)) else (some false))) else ((laws_hRows.f kj79 t139 t140).bind fun t174 => (if (false == t174) = true then (if bt161.2 = true then (if bt165.2 = true then (if bt165.1 = true then (if bt167.2 = true then (if bt171.2 = true then (some bt171.1) else (some false)) else (some false)) else (some false)) else (some false)) else (some false)) else (some false)))) else (some false)) else (some false)) else (some false)) else (some false)) else (some false)))))))) = some r := H
                have A90 := am_ A900
                clear A900
                replace H := Option.bind_eq_some_iff.mp H
                obtain ⟨⟨t157, t158⟩, A910, H⟩ := H
                replace H : ((impl_IsBelow.f kj79 t140 t139).bind fun bt159 => ((impl_LeastSigns.f kj79 (t139.length : Int)).bind fun bt161 => ((impl_IsBelow.f kj79 bt161.1 t139).bind fun bt165 => ((impl_GreatestSigns.f kj79 (t139.length : Int)).bind fun bt167 => ((impl_IsBelow.f kj79 t139 bt167.1).bind fun bt171 => (if t150 = true then (if t154 = true then (if t158 = true then (if (t157 == t145) = true then (if bt159.2 = true then (if t145 = true then ((laws_hRows.f kj79 t139 t140).bind fun t173 => (if (bt159.1 == t173) = true then (if bt161.2 = true then (if bt165.2 = true then (if bt165.1 = true then (if bt167.2 = true then (if bt171.2 = true then (some bt171.1) else (some false)) else (some false)) else (some false)) else (some false)) else (some false)) else (some false))) else ((laws_hRows.f kj79 t139 t140).bind fun t174 => (if (false == t174) = true then (if bt161.2 = true then (if bt165.2 = true then (if bt165.1 = true then (if bt167.2 = true then (if bt171.2 = true then (some bt171.1) else (some false)) else (some false)) else (some false)) else (some false)) else (some false)) else (some false)))) else (some false)) else (some false)) else (some false)) else (some false)) else (some false))))))) = some r := H
                have A91 := am_ A910
                clear A910
                replace H := Option.bind_eq_some_iff.mp H
                obtain ⟨⟨t159, t160⟩, A920, H⟩ := H
                replace H : ((impl_LeastSigns.f kj79 (t139.length : Int)).bind fun bt161 => ((impl_IsBelow.f kj79 bt161.1 t139).bind fun bt165 => ((impl_GreatestSigns.f kj79 (t139.length : Int)).bind fun bt167 => ((impl_IsBelow.f kj79 t139 bt167.1).bind fun bt171 => (if t150 = true then (if t154 = true then (if t158 = true then (if (t157 == t145) = true then (if t160 = true then (if t145 = true then ((laws_hRows.f kj79 t139 t140).bind fun t173 => (if (t159 == t173) = true then (if bt161.2 = true then (if bt165.2 = true then (if bt165.1 = true then (if bt167.2 = true then (if bt171.2 = true then (some bt171.1) else (some false)) else (some false)) else (some false)) else (some false)) else (some false)) else (some false))) else ((laws_hRows.f kj79 t139 t140).bind fun t174 => (if (false == t174) = true then (if bt161.2 = true then (if bt165.2 = true then (if bt165.1 = true then (if bt167.2 = true then (if bt171.2 = true then (some bt171.1) else (some false)) else (some false)) else (some false)) else (some false)) else (some false)) else (some false)))) else (some false)) else (some false)) else (some false)) else (some false)) else (some false)))))) = some r := H
                have A92 := am_ A920
                clear A920
                replace H := Option.bind_eq_some_iff.mp H
                obtain ⟨⟨t161, t162⟩, A930, H⟩ := H
                replace H : ((impl_IsBelow.f kj79 t161 t139).bind fun bt165 => ((impl_GreatestSigns.f kj79 (t139.length : Int)).bind fun bt167 => ((impl_IsBelow.f kj79 t139 bt167.1).bind fun bt171 => (if t150 = true then (if t154 = true then (if t158 = true then (if (t157 == t145) = true then (if t160 = true then (if t145 = true then ((laws_hRows.f kj79 t139 t140).bind fun t173 => (if (t159 == t173) = true then (if t162 = true then (if bt165.2 = true then (if bt165.1 = true then (if bt167.2 = true then (if bt171.2 = true then (some bt171.1) else (some false)) else (some false)) else (some false)) else (some false)) else (some false)) else (some false))) else ((laws_hRows.f kj79 t139 t140).bind fun t174 => (if (false == t174) = true then (if t162 = true then (if bt165.2 = true then (if bt165.1 = true then (if bt167.2 = true then (if bt171.2 = true then (some bt171.1) else (some false)) else (some false)) else (some false)) else (some false)) else (some false)) else (some false)))) else (some false)) else (some false)) else (some false)) else (some false)) else (some false))))) = some r := H
                have A93 := am_ A930
                clear A930
                replace H := Option.bind_eq_some_iff.mp H
                obtain ⟨⟨t165, t166⟩, A940, H⟩ := H
                replace H : ((impl_GreatestSigns.f kj79 (t139.length : Int)).bind fun bt167 => ((impl_IsBelow.f kj79 t139 bt167.1).bind fun bt171 => (if t150 = true then (if t154 = true then (if t158 = true then (if (t157 == t145) = true then (if t160 = true then (if t145 = true then ((laws_hRows.f kj79 t139 t140).bind fun t173 => (if (t159 == t173) = true then (if t162 = true then (if t166 = true then (if t165 = true then (if bt167.2 = true then (if bt171.2 = true then (some bt171.1) else (some false)) else (some false)) else (some false)) else (some false)) else (some false)) else (some false))) else ((laws_hRows.f kj79 t139 t140).bind fun t174 => (if (false == t174) = true then (if t162 = true then (if t166 = true then (if t165 = true then (if bt167.2 = true then (if bt171.2 = true then (some bt171.1) else (some false)) else (some false)) else (some false)) else (some false)) else (some false)) else (some false)))) else (some false)) else (some false)) else (some false)) else (some false)) else (some false)))) = some r := H
                have A94 := am_ A940
                clear A940
                replace H := Option.bind_eq_some_iff.mp H
                obtain ⟨⟨t167, t168⟩, A950, H⟩ := H
                replace H : ((impl_IsBelow.f kj79 t139 t167).bind fun bt171 => (if t150 = true then (if t154 = true then (if t158 = true then (if (t157 == t145) = true then (if t160 = true then (if t145 = true then ((laws_hRows.f kj79 t139 t140).bind fun t173 => (if (t159 == t173) = true then (if t162 = true then (if t166 = true then (if t165 = true then (if t168 = true then (if bt171.2 = true then (some bt171.1) else (some false)) else (some false)) else (some false)) else (some false)) else (some false)) else (some false))) else ((laws_hRows.f kj79 t139 t140).bind fun t174 => (if (false == t174) = true then (if t162 = true then (if t166 = true then (if t165 = true then (if t168 = true then (if bt171.2 = true then (some bt171.1) else (some false)) else (some false)) else (some false)) else (some false)) else (some false)) else (some false)))) else (some false)) else (some false)) else (some false)) else (some false)) else (some false))) = some r := H
                have A95 := am_ A950
                clear A950
                replace H := Option.bind_eq_some_iff.mp H
                obtain ⟨⟨t171, t172⟩, A960, H⟩ := H
                replace H : (if t150 = true then (if t154 = true then (if t158 = true then (if (t157 == t145) = true then (if t160 = true then (if t145 = true then ((laws_hRows.f kj79 t139 t140).bind fun t173 => (if (t159 == t173) = true then (if t162 = true then (if t166 = true then (if t165 = true then (if t168 = true then (if t172 = true then (some t171) else (some false)) else (some false)) else (some false)) else (some false)) else (some false)) else (some false))) else ((laws_hRows.f kj79 t139 t140).bind fun t174 => (if (false == t174) = true then (if t162 = true then (if t166 = true then (if t165 = true then (if t168 = true then (if t172 = true then (some t171) else (some false)) else (some false)) else (some false)) else (some false)) else (some false)) else (some false)))) else (some false)) else (some false)) else (some false)) else (some false)) else (some false)) = some r := H
                have A96 := am_ A960
                clear A960
                by_cases c97 : t150 = true
                ·subst c97
                 have H1 : (if t154 = true then (if t158 = true then (if (t157 == t145) = true then (if t160 = true then (if t145 = true then ((laws_hRows.f kj79 t139 t140).bind fun t173 => (if (t159 == t173) = true then (if t162 = true then (if t166 = true then (if t165 = true then (if t168 = true then (if t172 = true then (some t171) else (some false)) else (some false)) else (some false)) else (some false)) else (some false)) else (some false))) else ((laws_hRows.f kj79 t139 t140).bind fun t174 => (if (false == t174) = true then (if t162 = true then (if t166 = true then (if t165 = true then (if t168 = true then (if t172 = true then (some t171) else (some false)) else (some false)) else (some false)) else (some false)) else (some false)) else (some false)))) else (some false)) else (some false)) else (some false)) else (some false)) = some r := by rw [if_pos rfl] at H; exact H
                 clear H
                 have H := H1
                 clear H1
                 by_cases c98 : t154 = true
                 ·subst c98
                  have H1 : (if t158 = true then (if (t157 == t145) = true then (if t160 = true then (if t145 = true then ((laws_hRows.f kj79 t139 t140).bind fun t173 => (if (t159 == t173) = true then (if t162 = true then (if t166 = true then (if t165 = true then (if t168 = true then (if t172 = true then (some t171) else (some false)) else (some false)) else (some false)) else (some false)) else (some false)) else (some false))) else ((laws_hRows.f kj79 t139 t140).bind fun t174 => (if (false == t174) = true then (if t162 = true then (if t166 = true then (if t165 = true then (if t168 = true then (if t172 = true then (some t171) else (some false)) else (some false)) else (some false)) else (some false)) else (some false)) else (some false)))) else (some false)) else (some false)) else (some false)) = some r := by rw [if_pos rfl] at H; exact H
                  clear H
                  have H := H1
                  clear H1
                  by_cases c99 : t158 = true
                  ·subst c99
                   have H1 : (if (t157 == t145) = true then (if t160 = true then (if t145 = true then ((laws_hRows.f kj79 t139 t140).bind fun t173 => (if (t159 == t173) = true then (if t162 = true then (if t166 = true then (if t165 = true then (if t168 = true then (if t172 = true then (some t171) else (some false)) else (some false)) else (some false)) else (some false)) else (some false)) else (some false))) else ((laws_hRows.f kj79 t139 t140).bind fun t174 => (if (false == t174) = true then (if t162 = true then (if t166 = true then (if t165 = true then (if t168 = true then (if t172 = true then (some t171) else (some false)) else (some false)) else (some false)) else (some false)) else (some false)) else (some false)))) else (some false)) else (some false)) = some r := by rw [if_pos rfl] at H; exact H
                   clear H
                   have H := H1
                   clear H1
                   by_cases c100 : (t157 == t145) = true
                   ·rw [if_pos c100] at H
                    have c100b0 : (t157 == t145) = true := c100
                    (try (have c100b1 : decide (t157 = t145) = true := by simpa using c100))
                    (try (have c100b2 : (t157 == t145) = true := by simpa using c100))
                    clear c100
                    by_cases c101 : t160 = true
                    ·subst c101
                     have H1 : (if t145 = true then ((laws_hRows.f kj79 t139 t140).bind fun t173 => (if (t159 == t173) = true then (if t162 = true then (if t166 = true then (if t165 = true then (if t168 = true then (if t172 = true then (some t171) else (some false)) else (some false)) else (some false)) else (some false)) else (some false)) else (some false))) else ((laws_hRows.f kj79 t139 t140).bind fun t174 => (if (false == t174) = true then (if t162 = true then (if t166 = true then (if t165 = true then (if t168 = true then (if t172 = true then (some t171) else (some false)) else (some false)) else (some false)) else (some false)) else (some false)) else (some false)))) = some r := by rw [if_pos rfl] at H; exact H
                     clear H
                     have H := H1
                     clear H1
                     by_cases c102 : t145 = true
                     ·subst c102
                      have H1 : ((laws_hRows.f kj79 t139 t140).bind fun t173 => (if (t159 == t173) = true then (if t162 = true then (if t166 = true then (if t165 = true then (if t168 = true then (if t172 = true then (some t171) else (some false)) else (some false)) else (some false)) else (some false)) else (some false)) else (some false))) = some r := by rw [if_pos rfl] at H; exact H
                      clear H
                      have H := H1
                      clear H1
                      replace H := Option.bind_eq_some_iff.mp H
                      obtain ⟨t173, A1030, H⟩ := H
                      replace H : (if (t159 == t173) = true then (if t162 = true then (if t166 = true then (if t165 = true then (if t168 = true then (if t172 = true then (some t171) else (some false)) else (some false)) else (some false)) else (some false)) else (some false)) else (some false)) = some r := H
                      have A103 := am_ A1030
                      clear A1030
                      by_cases c104 : (t159 == t173) = true
                      ·rw [if_pos c104] at H
                       have c104b0 : (t159 == t173) = true := c104
                       (try (have c104b1 : decide (t159 = t173) = true := by simpa using c104))
                       (try (have c104b2 : (t159 == t173) = true := by simpa using c104))
                       clear c104
                       by_cases c105 : t162 = true
                       ·subst c105
                        have H1 : (if t166 = true then (if t165 = true then (if t168 = true then (if t172 = true then (some t171) else (some false)) else (some false)) else (some false)) else (some false)) = some r := by rw [if_pos rfl] at H; exact H
                        clear H
                        have H := H1
                        clear H1
                        by_cases c106 : t166 = true
                        ·subst c106
                         have H1 : (if t165 = true then (if t168 = true then (if t172 = true then (some t171) else (some false)) else (some false)) else (some false)) = some r := by rw [if_pos rfl] at H; exact H
                         clear H
                         have H := H1
                         clear H1
                         by_cases c107 : t165 = true
                         ·subst c107
                          have H1 : (if t168 = true then (if t172 = true then (some t171) else (some false)) else (some false)) = some r := by rw [if_pos rfl] at H; exact H
                          clear H
                          have H := H1
                          clear H1
                          by_cases c108 : t168 = true
                          ·subst c108
                           have H1 : (if t172 = true then (some t171) else (some false)) = some r := by rw [if_pos rfl] at H; exact H
                           clear H
                           have H := H1
                           clear H1
                           by_cases c109 : t172 = true
                           ·subst c109
                            have H1 : (some t171) = some r := by rw [if_pos rfl] at H; exact H
                            clear H
                            have H := H1
                            clear H1
                            obtain rfl := Option.some.inj H
                            go_wp2_with (first | ((with_reducible refine gate_callee (f := 42) rfl ?_); refine goesL_ (some 159) rfl rfl Try.func42 (by kernel_rfl) rfl #[.slice Ao82 t139.length co82] rfl tc0_ ?_; (with_reducible refine (impl_DualOf.calls kj79 _ _ t139 t149 true _ ?side1 ?side2 A89.out).mono ?_); (case side1 => exact tc21_); (case side2 => exact tc63_); rintro e w110 ⟨v151, rfl, ho0, hb⟩; refine ⟨_, rfl, ?_⟩; have n0_ := am_ (Kd.S_below tc13_ hb); have n1_ := am_ (Kd.S_below tc14_ hb); have n2_ := am_ (Kd.S_lower (Kd.S_new' (Kd.S_new' ho0 (Kd.S_lt tc13_)) (Kd.S_lt tc14_)) (below_size tc1_)); have n3_ := am_ (below_step tc1_ hb); clear HO_19 HO_20 HB; have HO_19 := n0_; have HO_20 := n1_; have HO152 := n2_; have HB := n3_; clear n0_ n1_ n2_ n3_; (try clear hb ho0)) | ((with_reducible refine gate_callee (f := 42) rfl ?_); refine goesL_ (some 164) rfl rfl Try.func42 (by kernel_rfl) rfl #[.slice Ao83 t140.length co83] rfl tc0_ ?_; (with_reducible refine (impl_DualOf.calls kj79 _ _ t140 t153 true _ ?side1 ?side2 A90.out).mono ?_); (case side1 => exact tc39_); (case side2 => exact (Kd.S_reads' HO_20.out).2.1); rintro e w111 ⟨v155, rfl, ho0, hb⟩; refine ⟨_, rfl, ?_⟩; have n0_ := am_ (Kd.S_below tc13_ hb); have n1_ := am_ (Kd.S_below tc14_ hb); have n2_ := am_ (Kd.S_below tc17_ hb); have n3_ := am_ (Kd.S_lower (Kd.S_new' (Kd.S_new' (Kd.S_new' ho0 (Kd.S_lt tc13_)) (Kd.S_lt tc14_)) (Kd.S_lt tc17_)) (below_size tc1_)); have n4_ := am_ (below_step tc1_ hb); clear HO_19 HO_20; clear HO152 HB; have HO_19 := n0_; have HO_20 := n1_; have HO152 := n2_; have HO156 := n3_; have HB := n4_; clear n0_ n1_ n2_ n3_ n4_; (try clear hb ho0); obtain ⟨Ao112, co112, eo112⟩ := Kd.S_slice HO156.out; subst eo112; obtain ⟨Ao113, co113, eo113⟩ := Kd.S_slice HO152.out; subst eo113) | ((with_reducible refine gate_callee (f := 40) rfl ?_); refine goesL_ (some 170) rfl rfl Try.func40 (by kernel_rfl) rfl #[.slice Ao112 t153.length co112, .slice Ao113 t149.length co113] rfl tc0_ ?_; (with_reducible refine (impl_IsBelow.calls kj79 _ _ t153 _ _ t149 t157 true _ ?side1 ?side2 ?side3 ?side4 A91.out).mono ?_); (case side1 => repeat (first | exact (Kd.S_reads' HO156.out).2.2 | (with_reducible refine Kd.C_alloc ?_ _) | (with_reducible refine Kd.C_drewN ?_ _) | (with_reducible refine Kd.C_drew ?_))); (case side2 => exact (Kd.S_reads' HO156.out).2.1); (case side3 => repeat (first | exact (Kd.S_reads' HO152.out).2.2 | (with_reducible refine Kd.C_alloc ?_ _) | (with_reducible refine Kd.C_drewN ?_ _) | (with_reducible refine Kd.C_drew ?_))); (case side4 => exact (Kd.S_reads' HO152.out).2.1); rintro e w114 ⟨rfl, hb⟩; refine ⟨_, rfl, ?_⟩; have n0_ := am_ (Kd.S_below tc13_ hb); have n1_ := am_ (Kd.S_below tc14_ hb); have n2_ := am_ (Kd.S_below tc17_ hb); have n3_ := am_ (Kd.S_below tc23_ hb); have n4_ := am_ (below_step tc1_ hb); clear HO_19 HO_20; clear HO152 HO156 HB; have HO_19 := n0_; have HO_20 := n1_; have HO152 := n2_; have HO156 := n3_; have HB := n4_; clear n0_ n1_ n2_ n3_ n4_; (try clear hb)) | ((with_reducible refine gate_callee (f := 40) rfl ?_); refine goesL_ (some 176) rfl rfl Try.func40 (by kernel_rfl) rfl #[.slice Ao83 t140.length co83, .slice Ao82 t139.length co82] rfl tc0_ ?_; (with_reducible refine (impl_IsBelow.calls kj79 _ _ t140 _ _ t139 t159 true _ ?side1 ?side2 ?side3 ?side4 A92.out).mono ?_); (case side1 => exact tc39_); (case side2 => exact (Kd.S_reads' HO_20.out).2.1); (case side3 => exact tc21_); (case side4 => exact tc63_); rintro e w115 ⟨rfl, hb⟩; refine ⟨_, rfl, ?_⟩; have n0_ := am_ (Kd.S_below tc13_ hb); have n1_ := am_ (Kd.S_below tc14_ hb); have n2_ := am_ (Kd.S_below tc17_ hb); have n3_ := am_ (Kd.S_below tc23_ hb); have n4_ := am_ (below_step tc1_ hb); clear HO_19 HO_20; clear HO152 HO156 HB; have HO_19 := n0_; have HO_20 := n1_; have HO152 := n2_; have HO156 := n3_; have HB := n4_; clear n0_ n1_ n2_ n3_ n4_; (try clear hb)) | ((with_reducible refine gate_callee (f := 43) rfl ?_); refine goesL_ (some 182) rfl rfl Try.func43 (by kernel_rfl) rfl #[.int .i64 (t139.length : Int)] rfl tc0_ ?_; (with_reducible refine (impl_LeastSigns.calls kj79 (t139.length : Int) t161 true _ A93.out).mono ?_); rintro e w116 ⟨v163, rfl, ho0, hb⟩; refine ⟨_, rfl, ?_⟩; have n0_ := am_ (Kd.S_below tc13_ hb); have n1_ := am_ (Kd.S_below tc14_ hb); have n2_ := am_ (Kd.S_below tc17_ hb); have n3_ := am_ (Kd.S_below tc23_ hb); have n4_ := am_ (Kd.S_lower (Kd.S_new' (Kd.S_new' (Kd.S_new' (Kd.S_new' ho0 (Kd.S_lt tc13_)) (Kd.S_lt tc14_)) (Kd.S_lt tc17_)) (Kd.S_lt tc23_)) (below_size tc1_)); have n5_ := am_ (below_step tc1_ hb); clear HO_19 HO_20; clear HO152 HO156 HB; have HO_19 := n0_; have HO_20 := n1_; have HO152 := n2_; have HO156 := n3_; have HO164 := n4_; have HB := n5_; clear n0_ n1_ n2_ n3_ n4_ n5_; (try clear hb ho0); obtain ⟨Ao117, co117, eo117⟩ := Kd.S_slice HO164.out; subst eo117) | ((with_reducible refine gate_callee (f := 40) rfl ?_); refine goesL_ (some 188) rfl rfl Try.func40 (by kernel_rfl) rfl #[.slice Ao117 t161.length co117, .slice Ao82 t139.length co82] rfl tc0_ ?_; (with_reducible refine (impl_IsBelow.calls kj79 _ _ t161 _ _ t139 true true _ ?side1 ?side2 ?side3 ?side4 A94.out).mono ?_); (case side1 => repeat (first | exact (Kd.S_reads' HO164.out).2.2 | (with_reducible refine Kd.C_alloc ?_ _) | (with_reducible refine Kd.C_drewN ?_ _) | (with_reducible refine Kd.C_drew ?_))); (case side2 => exact (Kd.S_reads' HO164.out).2.1); (case side3 => exact tc21_); (case side4 => exact tc63_); rintro e w118 ⟨rfl, hb⟩; refine ⟨_, rfl, ?_⟩; have n0_ := am_ (Kd.S_below tc13_ hb); have n1_ := am_ (Kd.S_below tc14_ hb); have n2_ := am_ (Kd.S_below tc17_ hb); have n3_ := am_ (Kd.S_below tc23_ hb); have n4_ := am_ (Kd.S_below tc45_ hb); have n5_ := am_ (below_step tc1_ hb); clear HO_19 HO_20; clear HO152 HO156; clear HO164 HB; have HO_19 := n0_; have HO_20 := n1_; have HO152 := n2_; have HO156 := n3_; have HO164 := n4_; have HB := n5_; clear n0_ n1_ n2_ n3_ n4_ n5_; (try clear hb)) | ((with_reducible refine gate_callee (f := 44) rfl ?_); refine goesL_ (some 194) rfl rfl Try.func44 (by kernel_rfl) rfl #[.int .i64 (t139.length : Int)] rfl tc0_ ?_; (with_reducible refine (impl_GreatestSigns.calls kj79 (t139.length : Int) t167 true _ A95.out).mono ?_); rintro e w119 ⟨v169, rfl, ho0, hb⟩; refine ⟨_, rfl, ?_⟩; have n0_ := am_ (Kd.S_below tc13_ hb); have n1_ := am_ (Kd.S_below tc14_ hb); have n2_ := am_ (Kd.S_below tc17_ hb); have n3_ := am_ (Kd.S_below tc23_ hb); have n4_ := am_ (Kd.S_below tc45_ hb); have n5_ := am_ (Kd.S_lower (Kd.S_new' (Kd.S_new' (Kd.S_new' (Kd.S_new' (Kd.S_new' ho0 (Kd.S_lt tc13_)) (Kd.S_lt tc14_)) (Kd.S_lt tc17_)) (Kd.S_lt tc23_)) (Kd.S_lt tc45_)) (below_size tc1_)); have n6_ := am_ (below_step tc1_ hb); clear HO_19 HO_20; clear HO152 HO156; clear HO164 HB; have HO_19 := n0_; have HO_20 := n1_; have HO152 := n2_; have HO156 := n3_; have HO164 := n4_; have HO170 := n5_; have HB := n6_; clear n0_ n1_ n2_ n3_ n4_ n5_ n6_; (try clear hb ho0); obtain ⟨Ao120, co120, eo120⟩ := Kd.S_slice HO170.out; subst eo120) | ((with_reducible refine gate_callee (f := 40) rfl ?_); refine goesL_ (some 200) rfl rfl Try.func40 (by kernel_rfl) rfl #[.slice Ao82 t139.length co82, .slice Ao120 t167.length co120] rfl tc0_ ?_; (with_reducible refine (impl_IsBelow.calls kj79 _ _ t139 _ _ t167 t171 true _ ?side1 ?side2 ?side3 ?side4 A96.out).mono ?_); (case side1 => exact tc21_); (case side2 => exact tc63_); (case side3 => repeat (first | exact (Kd.S_reads' HO170.out).2.2 | (with_reducible refine Kd.C_alloc ?_ _) | (with_reducible refine Kd.C_drewN ?_ _) | (with_reducible refine Kd.C_drew ?_))); (case side4 => exact (Kd.S_reads' HO170.out).2.1); rintro e w121 ⟨rfl, hb⟩; refine ⟨_, rfl, ?_⟩; have n0_ := am_ (Kd.S_below tc13_ hb); have n1_ := am_ (Kd.S_below tc14_ hb); have n2_ := am_ (Kd.S_below tc17_ hb); have n3_ := am_ (Kd.S_below tc23_ hb); have n4_ := am_ (Kd.S_below tc45_ hb); have n5_ := am_ (Kd.S_below (by (with_reducible repeat (first | apply Kd.S_alloc | apply Kd.S_drewN | apply Kd.S_drew)); exact HO170.out) hb); have n6_ := am_ (below_step tc1_ hb); clear HO_19 HO_20; clear HO152 HO156; clear HO164 HO170 HB; have HO_19 := n0_; have HO_20 := n1_; have HO152 := n2_; have HO156 := n3_; have HO164 := n4_; have HO170 := n5_; have HB := n6_; clear n0_ n1_ n2_ n3_ n4_ n5_ n6_; (try clear hb)) | (go_at_call 14; (with_reducible refine (laws_hRows.calls kj79 _ _ t139 _ _ t140 t173 _ ?side1 ?side2 ?side3 ?side4 A103.out).mono ?_); (case side1 => exact tc21_); (case side2 => exact tc63_); (case side3 => exact tc39_); (case side4 => exact (Kd.S_reads' HO_20.out).2.1); rintro e w' ⟨rfl, ⟨nd, rfl⟩⟩))
                            go_ret
                            exact ⟨by first | rfl | (simp [errW_none, errW_some] <;> rfl) | (simp [*, errW_none, errW_some] <;> rfl), by repeat (first | (with_reducible first | exact HB.out | apply below_alloc | apply pw_below_drewN | apply below_drew1) | exact HB.out)⟩
                           ·replace c109 := Bool.eq_false_iff.mpr c109
                            subst c109
                            exact absurd ((show (some false : Option Bool) = some r from tc33_).trans (congrArg some HR_.out)) (by simp)
                          ·replace c108 := Bool.eq_false_iff.mpr c108
                           subst c108
                           exact absurd ((show (some false : Option Bool) = some r from tc33_).trans (congrArg some HR_.out)) (by simp)
                         ·replace c107 := Bool.eq_false_iff.mpr c107
                          subst c107
                          exact absurd ((show (some false : Option Bool) = some r from tc33_).trans (congrArg some HR_.out)) (by simp)
                        ·replace c106 := Bool.eq_false_iff.mpr c106
                         subst c106
                         exact absurd ((show (some false : Option Bool) = some r from tc33_).trans (congrArg some HR_.out)) (by simp)
                       ·replace c105 := Bool.eq_false_iff.mpr c105
                        subst c105
                        exact absurd ((show (some false : Option Bool) = some r from tc33_).trans (congrArg some HR_.out)) (by simp)
                      ·rw [if_neg c104] at H
                       exact absurd (H.trans (congrArg some HR_.out)) (by simp)
                     ·replace c102 := Bool.eq_false_iff.mpr c102
                      subst c102
                      have H1 : ((laws_hRows.f kj79 t139 t140).bind fun t174 => (if (false == t174) = true then (if t162 = true then (if t166 = true then (if t165 = true then (if t168 = true then (if t172 = true then (some t171) else (some false)) else (some false)) else (some false)) else (some false)) else (some false)) else (some false))) = some r := by rw [if_neg (show ¬ (false = true) by decide)] at H; exact H
                      clear H
                      have H := H1
                      clear H1
                      replace H := Option.bind_eq_some_iff.mp H
                      obtain ⟨t174, A1940, H⟩ := H
                      replace H : (if (false == t174) = true then (if t162 = true then (if t166 = true then (if t165 = true then (if t168 = true then (if t172 = true then (some t171) else (some false)) else (some false)) else (some false)) else (some false)) else (some false)) else (some false)) = some r := H
                      have A194 := am_ A1940
                      clear A1940
                      by_cases c195 : (false == t174) = true
                      ·rw [if_pos c195] at H
                       have c195b0 : (false == t174) = true := c195
                       (try (have c195b1 : decide (false = t174) = true := by simpa using c195))
                       (try (have c195b2 : (false == t174) = true := by simpa using c195))
                       clear c195
                       by_cases c196 : t162 = true
                       ·subst c196
                        have H1 : (if t166 = true then (if t165 = true then (if t168 = true then (if t172 = true then (some t171) else (some false)) else (some false)) else (some false)) else (some false)) = some r := by rw [if_pos rfl] at H; exact H
                        clear H
                        have H := H1
                        clear H1
                        by_cases c197 : t166 = true
                        ·subst c197
                         have H1 : (if t165 = true then (if t168 = true then (if t172 = true then (some t171) else (some false)) else (some false)) else (some false)) = some r := by rw [if_pos rfl] at H; exact H
                         clear H
                         have H := H1
                         clear H1
                         by_cases c198 : t165 = true
                         ·subst c198
                          have H1 : (if t168 = true then (if t172 = true then (some t171) else (some false)) else (some false)) = some r := by rw [if_pos rfl] at H; exact H
                          clear H
                          have H := H1
                          clear H1
                          by_cases c199 : t168 = true
                          ·subst c199
                           have H1 : (if t172 = true then (some t171) else (some false)) = some r := by rw [if_pos rfl] at H; exact H
                           clear H
                           have H := H1
                           clear H1
                           by_cases c200 : t172 = true
                           ·subst c200
                            have H1 : (some t171) = some r := by rw [if_pos rfl] at H; exact H
                            clear H
                            have H := H1
                            clear H1
                            obtain rfl := Option.some.inj H
                            go_wp2_with (first | ((with_reducible refine gate_callee (f := 42) rfl ?_); refine goesL_ (some 159) rfl rfl Try.func42 (by kernel_rfl) rfl #[.slice Ao82 t139.length co82] rfl tc0_ ?_; (with_reducible refine (impl_DualOf.calls kj79 _ _ t139 t149 true _ ?side1 ?side2 A89.out).mono ?_); (case side1 => exact tc21_); (case side2 => exact tc63_); rintro e w201 ⟨v151, rfl, ho0, hb⟩; refine ⟨_, rfl, ?_⟩; have n0_ := am_ (Kd.S_below tc13_ hb); have n1_ := am_ (Kd.S_below tc14_ hb); have n2_ := am_ (Kd.S_lower (Kd.S_new' (Kd.S_new' ho0 (Kd.S_lt tc13_)) (Kd.S_lt tc14_)) (below_size tc1_)); have n3_ := am_ (below_step tc1_ hb); clear HO_19 HO_20 HB; have HO_19 := n0_; have HO_20 := n1_; have HO152 := n2_; have HB := n3_; clear n0_ n1_ n2_ n3_; (try clear hb ho0)) | ((with_reducible refine gate_callee (f := 42) rfl ?_); refine goesL_ (some 164) rfl rfl Try.func42 (by kernel_rfl) rfl #[.slice Ao83 t140.length co83] rfl tc0_ ?_; (with_reducible refine (impl_DualOf.calls kj79 _ _ t140 t153 true _ ?side1 ?side2 A90.out).mono ?_); (case side1 => exact tc39_); (case side2 => exact (Kd.S_reads' HO_20.out).2.1); rintro e w202 ⟨v155, rfl, ho0, hb⟩; refine ⟨_, rfl, ?_⟩; have n0_ := am_ (Kd.S_below tc13_ hb); have n1_ := am_ (Kd.S_below tc14_ hb); have n2_ := am_ (Kd.S_below tc17_ hb); have n3_ := am_ (Kd.S_lower (Kd.S_new' (Kd.S_new' (Kd.S_new' ho0 (Kd.S_lt tc13_)) (Kd.S_lt tc14_)) (Kd.S_lt tc17_)) (below_size tc1_)); have n4_ := am_ (below_step tc1_ hb); clear HO_19 HO_20; clear HO152 HB; have HO_19 := n0_; have HO_20 := n1_; have HO152 := n2_; have HO156 := n3_; have HB := n4_; clear n0_ n1_ n2_ n3_ n4_; (try clear hb ho0); obtain ⟨Ao203, co203, eo203⟩ := Kd.S_slice HO156.out; subst eo203; obtain ⟨Ao204, co204, eo204⟩ := Kd.S_slice HO152.out; subst eo204) | ((with_reducible refine gate_callee (f := 40) rfl ?_); refine goesL_ (some 170) rfl rfl Try.func40 (by kernel_rfl) rfl #[.slice Ao203 t153.length co203, .slice Ao204 t149.length co204] rfl tc0_ ?_; (with_reducible refine (impl_IsBelow.calls kj79 _ _ t153 _ _ t149 t157 true _ ?side1 ?side2 ?side3 ?side4 A91.out).mono ?_); (case side1 => repeat (first | exact (Kd.S_reads' HO156.out).2.2 | (with_reducible refine Kd.C_alloc ?_ _) | (with_reducible refine Kd.C_drewN ?_ _) | (with_reducible refine Kd.C_drew ?_))); (case side2 => exact (Kd.S_reads' HO156.out).2.1); (case side3 => repeat (first | exact (Kd.S_reads' HO152.out).2.2 | (with_reducible refine Kd.C_alloc ?_ _) | (with_reducible refine Kd.C_drewN ?_ _) | (with_reducible refine Kd.C_drew ?_))); (case side4 => exact (Kd.S_reads' HO152.out).2.1); rintro e w205 ⟨rfl, hb⟩; refine ⟨_, rfl, ?_⟩; have n0_ := am_ (Kd.S_below tc13_ hb); have n1_ := am_ (Kd.S_below tc14_ hb); have n2_ := am_ (Kd.S_below tc17_ hb); have n3_ := am_ (Kd.S_below tc23_ hb); have n4_ := am_ (below_step tc1_ hb); clear HO_19 HO_20; clear HO152 HO156 HB; have HO_19 := n0_; have HO_20 := n1_; have HO152 := n2_; have HO156 := n3_; have HB := n4_; clear n0_ n1_ n2_ n3_ n4_; (try clear hb)) | ((with_reducible refine gate_callee (f := 40) rfl ?_); refine goesL_ (some 176) rfl rfl Try.func40 (by kernel_rfl) rfl #[.slice Ao83 t140.length co83, .slice Ao82 t139.length co82] rfl tc0_ ?_; (with_reducible refine (impl_IsBelow.calls kj79 _ _ t140 _ _ t139 t159 true _ ?side1 ?side2 ?side3 ?side4 A92.out).mono ?_); (case side1 => exact tc39_); (case side2 => exact (Kd.S_reads' HO_20.out).2.1); (case side3 => exact tc21_); (case side4 => exact tc63_); rintro e w206 ⟨rfl, hb⟩; refine ⟨_, rfl, ?_⟩; have n0_ := am_ (Kd.S_below tc13_ hb); have n1_ := am_ (Kd.S_below tc14_ hb); have n2_ := am_ (Kd.S_below tc17_ hb); have n3_ := am_ (Kd.S_below tc23_ hb); have n4_ := am_ (below_step tc1_ hb); clear HO_19 HO_20; clear HO152 HO156 HB; have HO_19 := n0_; have HO_20 := n1_; have HO152 := n2_; have HO156 := n3_; have HB := n4_; clear n0_ n1_ n2_ n3_ n4_; (try clear hb)) | ((with_reducible refine gate_callee (f := 43) rfl ?_); refine goesL_ (some 182) rfl rfl Try.func43 (by kernel_rfl) rfl #[.int .i64 (t139.length : Int)] rfl tc0_ ?_; (with_reducible refine (impl_LeastSigns.calls kj79 (t139.length : Int) t161 true _ A93.out).mono ?_); rintro e w207 ⟨v163, rfl, ho0, hb⟩; refine ⟨_, rfl, ?_⟩; have n0_ := am_ (Kd.S_below tc13_ hb); have n1_ := am_ (Kd.S_below tc14_ hb); have n2_ := am_ (Kd.S_below tc17_ hb); have n3_ := am_ (Kd.S_below tc23_ hb); have n4_ := am_ (Kd.S_lower (Kd.S_new' (Kd.S_new' (Kd.S_new' (Kd.S_new' ho0 (Kd.S_lt tc13_)) (Kd.S_lt tc14_)) (Kd.S_lt tc17_)) (Kd.S_lt tc23_)) (below_size tc1_)); have n5_ := am_ (below_step tc1_ hb); clear HO_19 HO_20; clear HO152 HO156 HB; have HO_19 := n0_; have HO_20 := n1_; have HO152 := n2_; have HO156 := n3_; have HO164 := n4_; have HB := n5_; clear n0_ n1_ n2_ n3_ n4_ n5_; (try clear hb ho0); obtain ⟨Ao208, co208, eo208⟩ := Kd.S_slice HO164.out; subst eo208) | ((with_reducible refine gate_callee (f := 40) rfl ?_); refine goesL_ (some 188) rfl rfl Try.func40 (by kernel_rfl) rfl #[.slice Ao208 t161.length co208, .slice Ao82 t139.length co82] rfl tc0_ ?_; (with_reducible refine (impl_IsBelow.calls kj79 _ _ t161 _ _ t139 true true _ ?side1 ?side2 ?side3 ?side4 A94.out).mono ?_); (case side1 => repeat (first | exact (Kd.S_reads' HO164.out).2.2 | (with_reducible refine Kd.C_alloc ?_ _) | (with_reducible refine Kd.C_drewN ?_ _) | (with_reducible refine Kd.C_drew ?_))); (case side2 => exact (Kd.S_reads' HO164.out).2.1); (case side3 => exact tc21_); (case side4 => exact tc63_); rintro e w209 ⟨rfl, hb⟩; refine ⟨_, rfl, ?_⟩; have n0_ := am_ (Kd.S_below tc13_ hb); have n1_ := am_ (Kd.S_below tc14_ hb); have n2_ := am_ (Kd.S_below tc17_ hb); have n3_ := am_ (Kd.S_below tc23_ hb); have n4_ := am_ (Kd.S_below tc45_ hb); have n5_ := am_ (below_step tc1_ hb); clear HO_19 HO_20; clear HO152 HO156; clear HO164 HB; have HO_19 := n0_; have HO_20 := n1_; have HO152 := n2_; have HO156 := n3_; have HO164 := n4_; have HB := n5_; clear n0_ n1_ n2_ n3_ n4_ n5_; (try clear hb)) | ((with_reducible refine gate_callee (f := 44) rfl ?_); refine goesL_ (some 194) rfl rfl Try.func44 (by kernel_rfl) rfl #[.int .i64 (t139.length : Int)] rfl tc0_ ?_; (with_reducible refine (impl_GreatestSigns.calls kj79 (t139.length : Int) t167 true _ A95.out).mono ?_); rintro e w210 ⟨v169, rfl, ho0, hb⟩; refine ⟨_, rfl, ?_⟩; have n0_ := am_ (Kd.S_below tc13_ hb); have n1_ := am_ (Kd.S_below tc14_ hb); have n2_ := am_ (Kd.S_below tc17_ hb); have n3_ := am_ (Kd.S_below tc23_ hb); have n4_ := am_ (Kd.S_below tc45_ hb); have n5_ := am_ (Kd.S_lower (Kd.S_new' (Kd.S_new' (Kd.S_new' (Kd.S_new' (Kd.S_new' ho0 (Kd.S_lt tc13_)) (Kd.S_lt tc14_)) (Kd.S_lt tc17_)) (Kd.S_lt tc23_)) (Kd.S_lt tc45_)) (below_size tc1_)); have n6_ := am_ (below_step tc1_ hb); clear HO_19 HO_20; clear HO152 HO156; clear HO164 HB; have HO_19 := n0_; have HO_20 := n1_; have HO152 := n2_; have HO156 := n3_; have HO164 := n4_; have HO170 := n5_; have HB := n6_; clear n0_ n1_ n2_ n3_ n4_ n5_ n6_; (try clear hb ho0); obtain ⟨Ao211, co211, eo211⟩ := Kd.S_slice HO170.out; subst eo211) | ((with_reducible refine gate_callee (f := 40) rfl ?_); refine goesL_ (some 200) rfl rfl Try.func40 (by kernel_rfl) rfl #[.slice Ao82 t139.length co82, .slice Ao211 t167.length co211] rfl tc0_ ?_; (with_reducible refine (impl_IsBelow.calls kj79 _ _ t139 _ _ t167 t171 true _ ?side1 ?side2 ?side3 ?side4 A96.out).mono ?_); (case side1 => exact tc21_); (case side2 => exact tc63_); (case side3 => repeat (first | exact (Kd.S_reads' HO170.out).2.2 | (with_reducible refine Kd.C_alloc ?_ _) | (with_reducible refine Kd.C_drewN ?_ _) | (with_reducible refine Kd.C_drew ?_))); (case side4 => exact (Kd.S_reads' HO170.out).2.1); rintro e w212 ⟨rfl, hb⟩; refine ⟨_, rfl, ?_⟩; have n0_ := am_ (Kd.S_below tc13_ hb); have n1_ := am_ (Kd.S_below tc14_ hb); have n2_ := am_ (Kd.S_below tc17_ hb); have n3_ := am_ (Kd.S_below tc23_ hb); have n4_ := am_ (Kd.S_below tc45_ hb); have n5_ := am_ (Kd.S_below (by (with_reducible repeat (first | apply Kd.S_alloc | apply Kd.S_drewN | apply Kd.S_drew)); exact HO170.out) hb); have n6_ := am_ (below_step tc1_ hb); clear HO_19 HO_20; clear HO152 HO156; clear HO164 HO170 HB; have HO_19 := n0_; have HO_20 := n1_; have HO152 := n2_; have HO156 := n3_; have HO164 := n4_; have HO170 := n5_; have HB := n6_; clear n0_ n1_ n2_ n3_ n4_ n5_ n6_; (try clear hb)) | (go_at_call 14; (with_reducible refine (laws_hRows.calls kj79 _ _ t139 _ _ t140 t174 _ ?side1 ?side2 ?side3 ?side4 A194.out).mono ?_); (case side1 => exact tc21_); (case side2 => exact tc63_); (case side3 => exact tc39_); (case side4 => exact (Kd.S_reads' HO_20.out).2.1); rintro e w' ⟨rfl, ⟨nd, rfl⟩⟩))
                            go_ret
                            exact ⟨by first | rfl | (simp [errW_none, errW_some] <;> rfl) | (simp [*, errW_none, errW_some] <;> rfl), by repeat (first | (with_reducible first | exact HB.out | apply below_alloc | apply pw_below_drewN | apply below_drew1) | exact HB.out)⟩
                           ·replace c200 := Bool.eq_false_iff.mpr c200
                            subst c200
                            exact absurd ((show (some false : Option Bool) = some r from tc33_).trans (congrArg some HR_.out)) (by simp)
                          ·replace c199 := Bool.eq_false_iff.mpr c199
                           subst c199
                           exact absurd ((show (some false : Option Bool) = some r from tc33_).trans (congrArg some HR_.out)) (by simp)
                         ·replace c198 := Bool.eq_false_iff.mpr c198
                          subst c198
                          exact absurd ((show (some false : Option Bool) = some r from tc33_).trans (congrArg some HR_.out)) (by simp)
                        ·replace c197 := Bool.eq_false_iff.mpr c197
                         subst c197
                         exact absurd ((show (some false : Option Bool) = some r from tc33_).trans (congrArg some HR_.out)) (by simp)
                       ·replace c196 := Bool.eq_false_iff.mpr c196
                        subst c196
                        exact absurd ((show (some false : Option Bool) = some r from tc33_).trans (congrArg some HR_.out)) (by simp)
                      ·rw [if_neg c195] at H
                       exact absurd (H.trans (congrArg some HR_.out)) (by simp)
                    ·replace c101 := Bool.eq_false_iff.mpr c101
                     subst c101
                     exact absurd ((show (some false : Option Bool) = some r from tc33_).trans (congrArg some HR_.out)) (by simp)
                   ·rw [if_neg c100] at H
                    exact absurd (H.trans (congrArg some HR_.out)) (by simp)
                  ·replace c99 := Bool.eq_false_iff.mpr c99
                   subst c99
                   exact absurd ((show (some false : Option Bool) = some r from tc33_).trans (congrArg some HR_.out)) (by simp)
                 ·replace c98 := Bool.eq_false_iff.mpr c98
                  subst c98
                  exact absurd ((show (some false : Option Bool) = some r from tc33_).trans (congrArg some HR_.out)) (by simp)
                ·replace c97 := Bool.eq_false_iff.mpr c97
                 subst c97
                 exact absurd ((show (some false : Option Bool) = some r from tc33_).trans (congrArg some HR_.out)) (by simp)
               ·replace c88 := Bool.eq_false_iff.mpr c88
                subst c88
                have H1 : (some true) = some r := by rw [if_neg (show ¬ (false = true) by decide)] at H; exact H
                clear H
                have H := H1
                clear H1
                obtain rfl := Option.some.inj H
                go_wp2
                go_ret
                exact ⟨by first | rfl | (simp [errW_none, errW_some] <;> rfl) | (simp [*, errW_none, errW_some] <;> rfl), by repeat (first | (with_reducible first | exact HB.out | apply below_alloc | apply pw_below_drewN | apply below_drew1) | exact HB.out)⟩

/-- THE ONE PURE STATEMENT of laws_FnHeightsAreMatrices: yours. -/

def laws_FnHeightsAreMatrices.Pure : Prop := ∀ (l0 : List Int) (l1 : List Int), l0.length ≤ maxLen → l0.length * 1 ≤ 140737488351232 → (∀ x ∈ l0, (Lit.int .u8 x).wf = true) → l1.length ≤ maxLen → l1.length * 1 ≤ 140737488351232 → (∀ x ∈ l1, (Lit.int .u8 x).wf = true) → ∃ k, laws_FnHeightsAreMatrices.f k l0 l1 = some true
theorem laws_FnHeightsAreMatrices.walk (P : laws_FnHeightsAreMatrices.Pure) (a0 : Option Addr) (len0 cap0 : Nat) (z0 : List Int) (a1 : Option Addr) (len1 cap1 : Nat) (z1 : List Int) (w : World) (w0 : (a0 = none ∧ len0 = 0 ∧ cap0 = 0 ∧ z0 = []) ∨ ∃ x, a0 = some x ∧ len0 ≤ cap0 ∧ cap0 ≤ maxLen ∧ z0.length = cap0 ∧ (∀ i, i < z0.length → w.cell? (x.add i) = some (.int .u8 (z0.getD i 0))) ∧ ∀ n ∈ z0, (Lit.int .u8 n).wf = true) (y0 : len0 * 1 ≤ 140737488351232) (w1 : (a1 = none ∧ len1 = 0 ∧ cap1 = 0 ∧ z1 = []) ∨ ∃ x, a1 = some x ∧ len1 ≤ cap1 ∧ cap1 ≤ maxLen ∧ z1.length = cap1 ∧ (∀ i, i < z1.length → w.cell? (x.add i) = some (.int .u8 (z1.getD i 0))) ∧ ∀ n ∈ z1, (Lit.int .u8 n).wf = true) (y1 : len1 * 1 ≤ 140737488351232) :
  Calls Try.prog 5 #[.slice a0 len0 cap0, .slice a1 len1 cap1] w fun e w' => e = .returned (.bool true) ∧ Below w.heap.size w w' := by
 obtain ⟨l0, rfl, hr0, hm0, hw0, hc0⟩ := ReadsInt.ofRowC w0
 obtain ⟨l1, rfl, hr1, hm1, hw1, hc1⟩ := ReadsInt.ofRowC w1
 obtain ⟨k, h⟩ := P l0 l1 hm0 y0 hw0 hm1 y1 hw1
 refine (laws_FnHeightsAreMatrices.calls k _ _ l0 _ _ l1 true w rfl (Kd.C_of_reads (d := (0 : Int)) (h1 := fun _ => rfl) hr0) hc0 (Kd.C_of_reads (d := (0 : Int)) (h1 := fun _ => rfl) hr1) hc1 h).mono ?_
 rintro e w' ⟨rfl, hd⟩
 exact ⟨rfl, hd⟩

end Go.Proofs.Ytkbehdgneojdbaa.X
