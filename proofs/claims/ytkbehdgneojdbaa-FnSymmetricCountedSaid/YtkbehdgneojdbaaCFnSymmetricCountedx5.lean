-- Written by a program of this session (wip/xprint.py) that drives the kit's print; the contracts of what it does not take are this session's own.
import Derived.Test.YtkbehdgneojdbaaCFnSymmetricCountedx0
import Derived.Test.YtkbehdgneojdbaaCFnSymmetricCountedx1
import Derived.Test.YtkbehdgneojdbaaCFnSymmetricCountedx2
import Derived.Test.YtkbehdgneojdbaaCFnSymmetricCountedx3
import Derived.Test.YtkbehdgneojdbaaCFnSymmetricCountedx4
namespace Go.Proofs.Ytkbehdgneojdbaa.X
open Go.RowKit Go.Proofs.YtkbehdgneojdbaaW.PrintWords Go.Proofs.YtkbehdgneojdbaaW.PrintLast Go.Proofs.YtkbehdgneojdbaaW.PrintMore
attribute [local go_sem] max2_int min2_int max_two min_two max_three min_three max_four min_four   -- for this text's walks alone
set_option linter.unusedVariables false
set_option linter.unusedSimpArgs false

/-! ### spec_HalfTurnFormula: function 54 -/
mutual
def spec_HalfTurnFormula.l0 : Nat → Int → Int → Int → Int → Option (Int × Bool)
 | 0, _, _, _, _ => none
 | k + 1, x0, x7, x105000, x105001 => if x7 ≤ x0 then ((spec_smRatio_times.f k x105000 x105001 (wrap64 ((wrap64 (3 * x7)) - 1)) (wrap64 ((wrap64 (3 * x7)) - 2))).bind fun bt105 => (spec_HalfTurnFormula.l1 k x0 x7 x7 bt105.1 bt105.2)) else (some (x105000, true))
def spec_HalfTurnFormula.l1 : Nat → Int → Int → Int → Int → Int → Option (Int × Bool)
 | 0, _, _, _, _, _ => none
 | k + 1, x0, x7, x8, x105000, x105001 => if x8 ≤ x0 then ((spec_smRatio_times.f k x105000 x105001 (wrap64 ((wrap64 ((wrap64 (x0 + x7)) + x8)) - 1)) (wrap64 ((wrap64 ((wrap64 (2 * x7)) + x8)) - 1))).bind fun bt107 => (spec_HalfTurnFormula.l1 k x0 x7 (wrap64 (x8 + 1)) bt107.1 bt107.2)) else (spec_HalfTurnFormula.l0 k x0 (wrap64 (x7 + 1)) x105000 x105001)
end
def spec_HalfTurnFormula.f (k : Nat) (a0 : Int) : Option (Int × Bool) := (spec_l1In.f a0 1 6).bind fun t101 => (if t101 = true then ((spec_CountSigns.f k a0).bind fun bt102 => (spec_HalfTurnFormula.l0 k a0 1 bt102.1 1)) else (some (0, false)))
theorem spec_HalfTurnFormula.mono_l : ∀ k, (∀ y0 y1 y2 y3, LeO (spec_HalfTurnFormula.l0 k y0 y1 y2 y3) (spec_HalfTurnFormula.l0 (k + 1) y0 y1 y2 y3)) ∧ (∀ y0 y1 y2 y3 y4, LeO (spec_HalfTurnFormula.l1 k y0 y1 y2 y3 y4) (spec_HalfTurnFormula.l1 (k + 1) y0 y1 y2 y3 y4))
 | 0 => ⟨fun _ _ _ _ r h => by simp [spec_HalfTurnFormula.l0] at h, fun _ _ _ _ _ r h => by simp [spec_HalfTurnFormula.l1] at h⟩
 | k + 1 => by
  obtain ⟨ih0, ih1⟩ := spec_HalfTurnFormula.mono_l k
  refine ⟨?_, ?_⟩
  ·intro y0 y1 y2 y3
   unfold spec_HalfTurnFormula.l0
   repeat' first
   | (with_reducible exact ih0 _ _ _ _)
   | (with_reducible exact ih1 _ _ _ _ _)
   | (with_reducible exact spec_CountSigns.mono _ _)
   | (with_reducible exact spec_smRatio_times.mono _ _ _ _ _)
   | (with_reducible exact LeO.refl _)
   | (with_reducible exact LeO.none _)
   | (with_reducible refine LeO.ite ?_ ?_)
   | (with_reducible refine LeO.bind ?_ (fun _ => ?_))
   | exact ih0 _ _ _ _
   | exact ih1 _ _ _ _ _
   | exact spec_CountSigns.mono _ _
   | exact spec_smRatio_times.mono _ _ _ _ _
   | exact LeO.none _
   | refine LeO.ite ?_ ?_
   | refine LeO.bind ?_ (fun _ => ?_)
  ·intro y0 y1 y2 y3 y4
   unfold spec_HalfTurnFormula.l1
   repeat' first
   | (with_reducible exact ih0 _ _ _ _)
   | (with_reducible exact ih1 _ _ _ _ _)
   | (with_reducible exact spec_CountSigns.mono _ _)
   | (with_reducible exact spec_smRatio_times.mono _ _ _ _ _)
   | (with_reducible exact LeO.refl _)
   | (with_reducible exact LeO.none _)
   | (with_reducible refine LeO.ite ?_ ?_)
   | (with_reducible refine LeO.bind ?_ (fun _ => ?_))
   | exact ih0 _ _ _ _
   | exact ih1 _ _ _ _ _
   | exact spec_CountSigns.mono _ _
   | exact spec_smRatio_times.mono _ _ _ _ _
   | exact LeO.none _
   | refine LeO.ite ?_ ?_
   | refine LeO.bind ?_ (fun _ => ?_)
theorem spec_HalfTurnFormula.mono : ∀ a0  k, LeO (spec_HalfTurnFormula.f k a0) (spec_HalfTurnFormula.f (k + 1) a0) := by
 intro a0 k
 obtain ⟨ih0, ih1⟩ := spec_HalfTurnFormula.mono_l k
 unfold spec_HalfTurnFormula.f
 repeat' first
   | (with_reducible exact ih0 _ _ _ _)
   | (with_reducible exact ih1 _ _ _ _ _)
   | (with_reducible exact spec_CountSigns.mono _ _)
   | (with_reducible exact spec_smRatio_times.mono _ _ _ _ _)
   | (with_reducible exact LeO.refl _)
   | (with_reducible exact LeO.none _)
   | (with_reducible refine LeO.ite ?_ ?_)
   | (with_reducible refine LeO.bind ?_ (fun _ => ?_))
   | exact ih0 _ _ _ _
   | exact ih1 _ _ _ _ _
   | exact spec_CountSigns.mono _ _
   | exact spec_smRatio_times.mono _ _ _ _ _
   | exact LeO.none _
   | refine LeO.ite ?_ ?_
   | refine LeO.bind ?_ (fun _ => ?_)
set_option maxHeartbeats 8000000 in
set_option maxRecDepth 100000 in
theorem spec_HalfTurnFormula.calls (k : Nat) (a0 : Int) (r1 : Int) (r2 : Bool) (w : World) (h : spec_HalfTurnFormula.f k a0 = some (r1, r2)) :
  Calls Try.prog 54 #[.int .i64 a0] w fun e w' => e = .returned (.tuple #[.int .i64 r1, .bool r2]) ∧ Below w.heap.size w w' := by
 have hu90 := Try.underlying90
 have HB := am_ (Below.refl w.heap.size w)
 have H : ((spec_l1In.f a0 1 6).bind fun t101 => (if t101 = true then ((spec_CountSigns.f k a0).bind fun bt102 => (spec_HalfTurnFormula.l0 k a0 1 bt102.1 1)) else (some (0, false)))) = some (r1, r2) := h
 clear h
 replace H := Option.bind_eq_some_iff.mp H
 obtain ⟨t101, A20, H⟩ := H
 replace H : (if t101 = true then ((spec_CountSigns.f k a0).bind fun bt102 => (spec_HalfTurnFormula.l0 k a0 1 bt102.1 1)) else (some (0, false))) = some (r1, r2) := H
 have A2 := am_ A20
 clear A20
 by_cases c3 : t101 = true
 ·subst c3
  have H1 : ((spec_CountSigns.f k a0).bind fun bt102 => (spec_HalfTurnFormula.l0 k a0 1 bt102.1 1)) = some (r1, r2) := by rw [if_pos rfl] at H; exact H
  clear H
  have H := H1
  clear H1
  replace H := Option.bind_eq_some_iff.mp H
  obtain ⟨⟨t102, t103⟩, A40, H⟩ := H
  replace H : (spec_HalfTurnFormula.l0 k a0 1 t102 1) = some (r1, r2) := H
  have A4 := am_ A40
  clear A40
  have H' := am_ H
  clear H
  go_enter Try.func54, Try.ntmps54
  go_wp2_with (first | ((with_reducible refine gate_callee (f := 112) rfl ?_); refine goesL_ (some 10) rfl rfl Try.func112 (by kernel_rfl) rfl #[.int .i64 a0, .int .i64 1, .int .i64 6] rfl tc1_ ?_; (with_reducible refine (spec_l1In.calls a0 1 6 true _ A2.out).mono ?_); rintro e w' ⟨rfl, ⟨nd, rfl⟩⟩; refine ⟨_, rfl, ?_⟩) | ((with_reducible refine gate_callee (f := 123) rfl ?_); refine goesL_ (some 14) rfl rfl Try.func123 (by kernel_rfl) rfl #[.int .i64 a0] rfl tc1_ ?_; (with_reducible refine (spec_CountSigns.calls k a0 t102 t103 _ A4.out).mono ?_); rintro e w' ⟨rfl, ⟨nd, rfl⟩⟩; refine ⟨_, rfl, ?_⟩) | ((with_reducible refine gate_dst (N := 19) rfl ?_); refine box_event ?hg (N := 19) ?hd (cs := #[.int .i64 t102, .int .i64 1]) (t := 90) ?hr ?_; (case hd => rfl); (case hg => rfl); (case hr => exact tc19_); intro gb104 hg w5 hbox hb; have n0_ := am_ (below_step tc0_ hb); have n1_ := am_ ((by rw [hg]; exact (below_size tc0_) : w.heap.size ≤ gb104)); have n2_ := am_ ((by rw [hg]; exact (below_size tc0_) : w.heap.size ≤ gb104)); have n3_ := am_ ((show IsS90 w w5 gb104 t102 1 from ⟨hbox, (by rw [hg]; exact (below_size tc0_) : w.heap.size ≤ gb104)⟩)); clear HB; have HB := n0_; have GW104 := n1_; have GE104 := n2_; have HI104 := n3_; clear n0_ n1_ n2_ n3_; clear hb hbox hg))
  go_loopg [7] k (fun kq v7 w' => ∃ (x7_1 : Int) (x105000_1 : Int) (x105001_1 : Int), v7 = .int .i64 x7_1 ∧ Aside0 (spec_HalfTurnFormula.l0 kq a0 x7_1 x105000_1 x105001_1 = some (r1, r2)) ∧ Aside0 (kq ≤ k) ∧ Aside0 (IsS90 w w' gb104 x105000_1 x105001_1) ∧ Aside0 (Below w.heap.size w w'))
  case atStart => exact ⟨(1), (t102), (1), tc7_, H', ⟨Nat.le_refl _⟩, ⟨by repeat (first | (with_reducible first | exact HI104.out | apply IsS90.alloc | apply IsS90.drewN | apply IsS90.drew | apply IsS90.set_0 | apply IsS90.set_1) | exact HI104.out)⟩, ⟨by repeat (first | (with_reducible first | exact HB.out | apply below_alloc | apply pw_below_drewN | apply below_drew1 | refine below_set ?_ (IsS90.ge HI104.out)) | exact HB.out)⟩⟩
  case round =>
   clear H'
   try clear c1
   try clear p2
   try clear c3
   try clear c5
   obtain ⟨x7_1, x105000_1, x105001_1, rfl, HA, HK1, HI104, HB⟩ := hrel
   cases gk with
   | zero => exact absurd HA.out (by simp [spec_HalfTurnFormula.l0])
   | succ k1 =>
    have H := HA.out
    clear HA
    simp only [spec_HalfTurnFormula.l0] at H
    by_cases c6 : x7_1 ≤ a0
    ·rw [if_pos c6] at H
     have c6b0 : decide (x7_1 ≤ a0) = true := decide_eq_true c6
     clear c6
     replace H := Option.bind_eq_some_iff.mp H
     obtain ⟨⟨t105, t106⟩, A70, H⟩ := H
     replace H : (spec_HalfTurnFormula.l1 k1 a0 x7_1 x7_1 t105 t106) = some (r1, r2) := H
     have A7 := am_ A70
     clear A70
     have H' := am_ H
     clear H
     go_wp2_with (first | ((with_reducible refine gate_callee (f := 124) rfl ?_); refine goesL_ (some 32) rfl rfl Try.func124 (by kernel_rfl) rfl #[.pointer (some ⟨gb104, 0, none⟩), .int .i64 (wrap64 ((wrap64 (3 * x7_1)) - 1)), .int .i64 (wrap64 ((wrap64 (3 * x7_1)) - 2))] rfl tc1_ ?_; (with_reducible refine (spec_smRatio_times.calls k1 gb104 x105000_1 x105001_1 (wrap64 ((wrap64 (3 * x7_1)) - 1)) (wrap64 ((wrap64 (3 * x7_1)) - 2)) t105 t106 w _ ?side1 ?side2 A7.out).mono ?_); (case side1 => repeat (first | (with_reducible first | exact HI104.out | apply IsS90.alloc | apply IsS90.drewN | apply IsS90.drew | apply IsS90.set_0 | apply IsS90.set_1) | exact HI104.out)); (case side2 => repeat (first | (with_reducible first | exact HB.out | apply below_alloc | apply pw_below_drewN | apply below_drew1 | refine below_set ?_ (IsS90.ge HI104.out)) | exact HB.out)); rintro e w8 ⟨rfl, hi, hb, hk⟩; refine ⟨_, rfl, ?_⟩; have n0_ := am_ (hb); have n1_ := am_ (hi); clear HB HI104; have HB := n0_; have HI104 := n1_; clear n0_ n1_; (try clear hb hk hi)))
     go_loopg [8] k1 (fun kq v8 w' => ∃ (x8_2 : Int) (x105000_2 : Int) (x105001_2 : Int), v8 = .int .i64 x8_2 ∧ Aside0 (spec_HalfTurnFormula.l1 kq a0 x7_1 x8_2 x105000_2 x105001_2 = some (r1, r2)) ∧ Aside0 (kq ≤ k1) ∧ Aside0 (IsS90 w w' gb104 x105000_2 x105001_2) ∧ Aside0 (Below w.heap.size w w'))
     case atStart => exact ⟨(x7_1), (t105), (t106), tc7_, H', ⟨Nat.le_refl _⟩, ⟨by repeat (first | (with_reducible first | exact HI104.out | apply IsS90.alloc | apply IsS90.drewN | apply IsS90.drew | apply IsS90.set_0 | apply IsS90.set_1) | exact HI104.out)⟩, ⟨by repeat (first | (with_reducible first | exact HB.out | apply below_alloc | apply pw_below_drewN | apply below_drew1 | refine below_set ?_ (IsS90.ge HI104.out)) | exact HB.out)⟩⟩
     case round =>
      clear H'
      try clear c1
      try clear p2
      try clear c3
      try clear c5
      try clear c6
      try clear c6b0
      try clear p6
      try clear p2
      obtain ⟨x8_2, x105000_2, x105001_2, rfl, HA, HK2, HI104, HB⟩ := hrel
      cases gk with
      | zero => exact absurd HA.out (by simp [spec_HalfTurnFormula.l1])
      | succ k2 =>
       have H := HA.out
       clear HA
       simp only [spec_HalfTurnFormula.l1] at H
       by_cases c9 : x8_2 ≤ a0
       ·rw [if_pos c9] at H
        have c9b0 : decide (x8_2 ≤ a0) = true := decide_eq_true c9
        clear c9
        replace H := Option.bind_eq_some_iff.mp H
        obtain ⟨⟨t107, t108⟩, A100, H⟩ := H
        replace H : (spec_HalfTurnFormula.l1 k2 a0 x7_1 (wrap64 (x8_2 + 1)) t107 t108) = some (r1, r2) := H
        have A10 := am_ A100
        clear A100
        have H' := am_ H
        clear H
        go_wp2_with (first | ((with_reducible refine gate_callee (f := 124) rfl ?_); refine goesL_ (some 51) rfl rfl Try.func124 (by kernel_rfl) rfl #[.pointer (some ⟨gb104, 0, none⟩), .int .i64 (wrap64 ((wrap64 ((wrap64 (a0 + x7_1)) + x8_2)) - 1)), .int .i64 (wrap64 ((wrap64 ((wrap64 (2 * x7_1)) + x8_2)) - 1))] rfl tc1_ ?_; (with_reducible refine (spec_smRatio_times.calls k2 gb104 x105000_2 x105001_2 (wrap64 ((wrap64 ((wrap64 (a0 + x7_1)) + x8_2)) - 1)) (wrap64 ((wrap64 ((wrap64 (2 * x7_1)) + x8_2)) - 1)) t107 t108 w _ ?side1 ?side2 A10.out).mono ?_); (case side1 => repeat (first | (with_reducible first | exact HI104.out | apply IsS90.alloc | apply IsS90.drewN | apply IsS90.drew | apply IsS90.set_0 | apply IsS90.set_1) | exact HI104.out)); (case side2 => repeat (first | (with_reducible first | exact HB.out | apply below_alloc | apply pw_below_drewN | apply below_drew1 | refine below_set ?_ (IsS90.ge HI104.out)) | exact HB.out)); rintro e w11 ⟨rfl, hi, hb, hk⟩; refine ⟨_, rfl, ?_⟩; have n0_ := am_ (hb); have n1_ := am_ (hi); clear HB HI104; have HB := n0_; have HI104 := n1_; clear n0_ n1_; (try clear hb hk hi)))
        go_roundg k2
        case measure => have := HK1.out; have := HK2.out; omega
        case rel => exact ⟨(wrap64 (x8_2 + 1)), (t107), (t108), tc7_, H', ⟨by have := HK1.out; have := HK2.out; omega⟩, ⟨by repeat (first | (with_reducible first | exact HI104.out | apply IsS90.alloc | apply IsS90.drewN | apply IsS90.drew | apply IsS90.set_0 | apply IsS90.set_1) | exact HI104.out)⟩, ⟨by repeat (first | (with_reducible first | exact HB.out | apply below_alloc | apply pw_below_drewN | apply below_drew1 | refine below_set ?_ (IsS90.ge HI104.out)) | exact HB.out)⟩⟩
       ·rw [if_neg c9] at H
        have c9b0 : decide (x8_2 ≤ a0) = false := decide_eq_false c9
        clear c9
        have H' := am_ H
        clear H
        go_wp2
        go_roundg k2
        case measure => have := HK1.out; have := HK2.out; omega
        case rel => exact ⟨(wrap64 (x7_1 + 1)), (x105000_2), (x105001_2), tc7_, H', ⟨by have := HK1.out; have := HK2.out; omega⟩, ⟨by repeat (first | (with_reducible first | exact HI104.out | apply IsS90.alloc | apply IsS90.drewN | apply IsS90.drew | apply IsS90.set_0 | apply IsS90.set_1) | exact HI104.out)⟩, ⟨by repeat (first | (with_reducible first | exact HB.out | apply below_alloc | apply pw_below_drewN | apply below_drew1 | refine below_set ?_ (IsS90.ge HI104.out)) | exact HB.out)⟩⟩
    ·rw [if_neg c6] at H
     have c6b0 : decide (x7_1 ≤ a0) = false := decide_eq_false c6
     clear c6
     simp only [Option.some.injEq, Prod.mk.injEq] at H
     obtain ⟨rfl, rfl⟩ := H
     obtain ⟨HGz12, hgz12⟩ := HI104.out
     have hcz12_0 := cellS90_0 HGz12
     have hcz12_1 := cellS90_1 HGz12
     have hfz12_0 := blk_frozen HGz12 0
     have hfz12_1 := blk_frozen HGz12 1
     clear HGz12 hgz12
     go_wp2
     go_ret2
     exact ⟨by first | rfl | (simp [errW_none, errW_some] <;> rfl) | (simp [*, errW_none, errW_some] <;> rfl), by repeat (first | (with_reducible first | exact HB.out | apply below_alloc | apply pw_below_drewN | apply below_drew1 | refine below_set ?_ (IsS90.ge HI104.out)) | exact HB.out)⟩
 ·replace c3 := Bool.eq_false_iff.mpr c3
  subst c3
  have H1 : (some (0, false)) = some (r1, r2) := by rw [if_neg (show ¬ (false = true) by decide)] at H; exact H
  clear H
  have H := H1
  clear H1
  simp only [Option.some.injEq, Prod.mk.injEq] at H
  obtain ⟨rfl, rfl⟩ := H
  go_enter Try.func54, Try.ntmps54
  go_wp2_with (first | ((with_reducible refine gate_callee (f := 112) rfl ?_); refine goesL_ (some 10) rfl rfl Try.func112 (by kernel_rfl) rfl #[.int .i64 a0, .int .i64 1, .int .i64 6] rfl tc1_ ?_; (with_reducible refine (spec_l1In.calls a0 1 6 false _ A2.out).mono ?_); rintro e w' ⟨rfl, ⟨nd, rfl⟩⟩; refine ⟨_, rfl, ?_⟩))
  go_ret2
  exact ⟨by first | rfl | (simp [errW_none, errW_some] <;> rfl) | (simp [*, errW_none, errW_some] <;> rfl), by repeat (first | (with_reducible first | exact HB.out | apply below_alloc | apply pw_below_drewN | apply below_drew1) | exact HB.out)⟩

/-! ### spec_DrawMirrorFormula: function 55 -/
def spec_DrawMirrorFormula.f (l0 : List Int) : Option (Int) := (spec_l1Cur_side.f l0 0 0 6).bind fun bt102 => (some (wrap64 (bt102.1 - 1)))
set_option maxHeartbeats 8000000 in
set_option maxRecDepth 100000 in
theorem spec_DrawMirrorFormula.calls (A0 : Option Addr) (c0 : Nat) (l0 : List Int) (r : Int) (w : World) (hr0 : Kd.C (Kd.int .u8) w A0 l0.length l0) (hc0 : l0.length ≤ c0) (h : spec_DrawMirrorFormula.f l0 = some r) :
  Calls Try.prog 55 #[.slice A0 l0.length c0] w fun e w' => e = .returned (.int .i64 r) ∧ Below w.heap.size w w' := by
 have hu74 := Try.underlying74
 have HR0 := am_ hr0
 have HC0 := am_ hc0
 clear hr0 hc0
 have HB := am_ (Below.refl w.heap.size w)
 have H : ((spec_l1Cur_side.f l0 0 0 6).bind fun bt102 => (some (wrap64 (bt102.1 - 1)))) = some r := h
 clear h
 replace H := Option.bind_eq_some_iff.mp H
 obtain ⟨⟨t102, t103, t104⟩, A20, H⟩ := H
 replace H : (some (wrap64 (t102 - 1))) = some r := H
 have A2 := am_ A20
 clear A20
 obtain rfl := Option.some.inj H
 go_enter Try.func55, Try.ntmps55
 go_wp2_with (first | ((with_reducible refine gate_dst (N := 6) rfl ?_); refine box_event ?hg (N := 6) ?hd (cs := #[.slice A0 l0.length c0, .int .i64 0, .int .u64 0]) (t := 74) ?hr ?_; (case hd => rfl); (case hg => rfl); (case hr => exact tc19_); intro gb101 hg w3 hbox hb; have n0_ := am_ (below_step tc0_ hb); have n1_ := am_ ((by rw [hg]; exact (below_size tc0_) : w.heap.size ≤ gb101)); have n2_ := am_ ((by rw [hg]; exact (below_size tc0_) : w.heap.size ≤ gb101)); have n3_ := am_ ((show IsS74 w w3 gb101 l0 0 0 from ⟨A0, c0, hbox, (by rw [hg]; exact (below_size tc0_) : w.heap.size ≤ gb101), HR0.out⟩)); clear HB; have HB := n0_; have GW101 := n1_; have GE101 := n2_; have HI101 := n3_; clear n0_ n1_ n2_ n3_; clear hb hbox hg) | ((with_reducible refine gate_callee (f := 105) rfl ?_); refine goesL_ (some 8) rfl rfl Try.func105 (by kernel_rfl) rfl #[.pointer (some ⟨gb101, 0, none⟩), .int .i64 6] rfl tc1_ ?_; (with_reducible refine (spec_l1Cur_side.calls gb101 l0 0 0 6 t102 t103 t104 w _ ?side1 ?side2 A2.out).mono ?_); (case side1 => exact tc17_); (case side2 => exact tc18_); rintro e w4 ⟨rfl, hi, hb, hk⟩; refine ⟨_, rfl, ?_⟩; have n0_ := am_ (hb); have n1_ := am_ (hi); clear HB HI101; have HB := n0_; have HI101 := n1_; clear n0_ n1_; (try clear hb hk hi)))
 go_ret
 exact ⟨by first | rfl | (simp [errW_none, errW_some] <;> rfl) | (simp [*, errW_none, errW_some] <;> rfl), by repeat (first | (with_reducible first | exact HB.out | apply below_alloc | apply pw_below_drewN | apply below_drew1 | refine below_set ?_ (IsS74.ge HI101.out)) | exact HB.out)⟩

/-! ### impl_MirrorFormula: function 56 -/
def impl_MirrorFormula.l0 : Nat → Int → Int → Int → Int → Option (Int × Bool)
 | 0, _, _, _, _ => none
 | k + 1, x0, x5, x103000, x103001 => if x5 ≤ x0 then ((impl_product.f k (wrap64 (4 * x5)) (wrap64 ((wrap64 (6 * x5)) - 2))).bind fun t103 => ((impl_product.f k (wrap64 (2 * x5)) (wrap64 ((wrap64 (4 * x5)) - 2))).bind fun t104 => ((impl_ratio.f k t103 (wrap64 (2 * t104))).bind fun bt105 => ((impl_Ratio_times.f k x103000 x103001 bt105.1 bt105.2).bind fun bt107 => (impl_MirrorFormula.l0 k x0 (wrap64 (x5 + 1)) bt107.1 bt107.2))))) else (some (x103000, true))
def impl_MirrorFormula.f (k : Nat) (a0 : Int) : Option (Int × Bool) := (impl_within.f a0 0 5).bind fun t101 => (if t101 = true then (impl_MirrorFormula.l0 k a0 1 1 1) else (some (0, false)))
theorem impl_MirrorFormula.mono_l : ∀ k, (∀ y0 y1 y2 y3, LeO (impl_MirrorFormula.l0 k y0 y1 y2 y3) (impl_MirrorFormula.l0 (k + 1) y0 y1 y2 y3))
 | 0 => fun _ _ _ _ r h => by simp [impl_MirrorFormula.l0] at h
 | k + 1 => by
  have ih0 := impl_MirrorFormula.mono_l k
  ·intro y0 y1 y2 y3
   unfold impl_MirrorFormula.l0
   repeat' first
   | (with_reducible exact ih0 _ _ _ _)
   | (with_reducible exact impl_Ratio_times.mono _ _ _ _ _)
   | (with_reducible exact impl_product.mono _ _ _)
   | (with_reducible exact impl_ratio.mono _ _ _)
   | (with_reducible exact LeO.refl _)
   | (with_reducible exact LeO.none _)
   | (with_reducible refine LeO.ite ?_ ?_)
   | (with_reducible refine LeO.bind ?_ (fun _ => ?_))
   | exact ih0 _ _ _ _
   | exact impl_Ratio_times.mono _ _ _ _ _
   | exact impl_product.mono _ _ _
   | exact impl_ratio.mono _ _ _
   | exact LeO.none _
   | refine LeO.ite ?_ ?_
   | refine LeO.bind ?_ (fun _ => ?_)
theorem impl_MirrorFormula.mono : ∀ a0  k, LeO (impl_MirrorFormula.f k a0) (impl_MirrorFormula.f (k + 1) a0) := by
 intro a0 k
 have ih0 := impl_MirrorFormula.mono_l k
 unfold impl_MirrorFormula.f
 repeat' first
   | (with_reducible exact ih0 _ _ _ _)
   | (with_reducible exact impl_Ratio_times.mono _ _ _ _ _)
   | (with_reducible exact impl_product.mono _ _ _)
   | (with_reducible exact impl_ratio.mono _ _ _)
   | (with_reducible exact LeO.refl _)
   | (with_reducible exact LeO.none _)
   | (with_reducible refine LeO.ite ?_ ?_)
   | (with_reducible refine LeO.bind ?_ (fun _ => ?_))
   | exact ih0 _ _ _ _
   | exact impl_Ratio_times.mono _ _ _ _ _
   | exact impl_product.mono _ _ _
   | exact impl_ratio.mono _ _ _
   | exact LeO.none _
   | refine LeO.ite ?_ ?_
   | refine LeO.bind ?_ (fun _ => ?_)
def impl_MirrorFormula.T7 : Bool × List (List Nat × List Nat) := (true, [([], []), ([], []), ([1], [1]), ([], []), ([3], [3]), ([4], [4]), ([2, 5], [2, 5]), ([], []), ([7], [7]), ([], []), ([9], [9]), ([10], [10]), ([8, 11, 6], [8, 11]), ([12], [12]), ([6, 13, 12], [6, 13]), ([0, 14, 14], [0, 14]), ([15, 15, 0, 1, 2, 3, 4, 5, 6, 7, 8, 9, 10, 11, 12, 13, 14, 15], [15])])
def impl_MirrorFormula.B7 : List Nat := [0, 0, 2, 0, 8, 24, 62, 0, 128, 0, 512, 1536, 4094, 8190, 16382, 32767, 65535]
theorem impl_MirrorFormula.tab7 : rtab .any (opsOf Try.f56 7) = impl_MirrorFormula.T7 := by kernel_rfl
theorem impl_MirrorFormula.bits7 : waitsOk impl_MirrorFormula.T7.2 impl_MirrorFormula.B7 = true := by kernel_rfl
set_option maxHeartbeats 8000000 in
set_option maxRecDepth 100000 in
theorem impl_MirrorFormula.calls (k : Nat) (a0 : Int) (r1 : Int) (r2 : Bool) (w : World) (h : impl_MirrorFormula.f k a0 = some (r1, r2)) :
  Calls Try.prog 56 #[.int .i64 a0] w fun e w' => e = .returned (.tuple #[.int .i64 r1, .bool r2]) ∧ Below w.heap.size w w' := by
 have hu85 := Try.underlying85
 have HB := am_ (Below.refl w.heap.size w)
 have H : ((impl_within.f a0 0 5).bind fun t101 => (if t101 = true then (impl_MirrorFormula.l0 k a0 1 1 1) else (some (0, false)))) = some (r1, r2) := h
 clear h
 replace H := Option.bind_eq_some_iff.mp H
 obtain ⟨t101, A20, H⟩ := H
 replace H : (if t101 = true then (impl_MirrorFormula.l0 k a0 1 1 1) else (some (0, false))) = some (r1, r2) := H
 have A2 := am_ A20
 clear A20
 by_cases c3 : t101 = true
 ·subst c3
  have H1 : (impl_MirrorFormula.l0 k a0 1 1 1) = some (r1, r2) := by rw [if_pos rfl] at H; exact H
  clear H
  have H := H1
  clear H1
  have H' := am_ H
  clear H
  go_enter Try.func56, Try.ntmps56
  go_wp2_with (first | ((with_reducible refine gate_callee (f := 107) rfl ?_); refine goesL_ (some 7) rfl rfl Try.func107 (by kernel_rfl) rfl #[.int .i64 a0, .int .i64 0, .int .i64 5] rfl tc1_ ?_; (with_reducible refine (impl_within.calls a0 0 5 true _ A2.out).mono ?_); rintro e w' ⟨rfl, ⟨nd, rfl⟩⟩; refine ⟨_, rfl, ?_⟩) | ((with_reducible refine gate_dst (N := 4) rfl ?_); refine box_event ?hg (N := 4) ?hd (cs := #[.int .i64 0, .int .i64 0]) (t := 85) ?hr ?_; (case hd => rfl); (case hg => rfl); (case hr => exact tc19_); intro gb102 hg w4 hbox hb; have n0_ := am_ (below_step tc0_ hb); have n1_ := am_ (hbox); have n2_ := am_ ((by rw [hg]; exact (below_size tc0_) : w.heap.size ≤ gb102)); have n3_ := am_ ((by rw [hg]; exact (below_size tc0_) : w.heap.size ≤ gb102)); clear HB; have HB := n0_; have BK102 := n1_; have GW102 := n2_; have GE102 := n3_; clear n0_ n1_ n2_ n3_; clear hb hbox hg; have hcz5_0 : w4.cell? ⟨gb102, 0, none⟩ = some (.int .i64 0) := (blk_cell BK102.out 0).trans rfl; have hcz5_1 : w4.cell? ⟨gb102, 1, none⟩ = some (.int .i64 0) := (blk_cell BK102.out 1).trans rfl; have hfz5_0 := blk_frozen BK102.out 0; have hfz5_1 := blk_frozen BK102.out 1))
  go_loopg [5] k (fun kq v5 w' => ∃ (x5_1 : Int) (x103000_1 : Int) (x103001_1 : Int), v5 = .int .i64 x5_1 ∧ Aside0 (impl_MirrorFormula.l0 kq a0 x5_1 x103000_1 x103001_1 = some (r1, r2)) ∧ Aside0 (kq ≤ k) ∧ Aside0 (w'.heap[gb102]? = some (.cells #[.int .i64 x103000_1, .int .i64 x103001_1] 85 (0, 0))) ∧ Aside0 (Below w.heap.size w w'))
  case atStart => exact ⟨(1), (1), (1), tc7_, H', ⟨Nat.le_refl _⟩, ⟨by (with_reducible repeat (first | refine blk_drewN ?_ _ | refine blk_drew ?_ | refine blk_alloc ?_ _)); refine blk_put (cs := #[.int .i64 1, .int .i64 0]) ?_ 1 _ rfl; (with_reducible repeat (first | refine blk_drewN ?_ _ | refine blk_drew ?_ | refine blk_alloc ?_ _)); refine blk_put (cs := #[.int .i64 0, .int .i64 0]) ?_ 0 _ rfl; (with_reducible repeat (first | refine blk_drewN ?_ _ | refine blk_drew ?_ | refine blk_alloc ?_ _)); exact BK102.out⟩, ⟨by repeat (first | (with_reducible first | exact HB.out | apply below_alloc | apply pw_below_drewN | apply below_drew1 | refine below_set ?_ GE102.out) | exact HB.out)⟩⟩
  case round =>
   clear H'
   try clear c1
   try clear p2
   try clear c3
   try clear c5
   try clear hcz5_0
   try clear hcz5_1
   try clear hfz5_0
   try clear hfz5_1
   obtain ⟨x5_1, x103000_1, x103001_1, rfl, HA, HK1, BK102, HB⟩ := hrel
   cases gk with
   | zero => exact absurd HA.out (by simp [impl_MirrorFormula.l0])
   | succ k1 =>
    have H := HA.out
    clear HA
    simp only [impl_MirrorFormula.l0] at H
    by_cases c6 : x5_1 ≤ a0
    ·rw [if_pos c6] at H
     have c6b0 : decide (x5_1 ≤ a0) = true := decide_eq_true c6
     clear c6
     replace H := Option.bind_eq_some_iff.mp H
     obtain ⟨t103, A70, H⟩ := H
     replace H : ((impl_product.f k1 (wrap64 (2 * x5_1)) (wrap64 ((wrap64 (4 * x5_1)) - 2))).bind fun t104 => ((impl_ratio.f k1 t103 (wrap64 (2 * t104))).bind fun bt105 => ((impl_Ratio_times.f k1 x103000_1 x103001_1 bt105.1 bt105.2).bind fun bt107 => (impl_MirrorFormula.l0 k1 a0 (wrap64 (x5_1 + 1)) bt107.1 bt107.2)))) = some (r1, r2) := H
     have A7 := am_ A70
     clear A70
     replace H := Option.bind_eq_some_iff.mp H
     obtain ⟨t104, A80, H⟩ := H
     replace H : ((impl_ratio.f k1 t103 (wrap64 (2 * t104))).bind fun bt105 => ((impl_Ratio_times.f k1 x103000_1 x103001_1 bt105.1 bt105.2).bind fun bt107 => (impl_MirrorFormula.l0 k1 a0 (wrap64 (x5_1 + 1)) bt107.1 bt107.2))) = some (r1, r2) := H
     have A8 := am_ A80
     clear A80
     replace H := Option.bind_eq_some_iff.mp H
     obtain ⟨⟨t105, t106⟩, A90, H⟩ := H
     replace H : ((impl_Ratio_times.f k1 x103000_1 x103001_1 t105 t106).bind fun bt107 => (impl_MirrorFormula.l0 k1 a0 (wrap64 (x5_1 + 1)) bt107.1 bt107.2)) = some (r1, r2) := H
     have A9 := am_ A90
     clear A90
     replace H := Option.bind_eq_some_iff.mp H
     obtain ⟨⟨t107, t108⟩, A100, H⟩ := H
     replace H : (impl_MirrorFormula.l0 k1 a0 (wrap64 (x5_1 + 1)) t107 t108) = some (r1, r2) := H
     have A10 := am_ A100
     clear A100
     have H' := am_ H
     clear H
     try go_wp2
     have n0_ := am_ (blk_drew BK102.out)
     have n1_ := am_ (below_drew1 HB.out)
     clear BK102
     clear HB
     have BK102 := n0_
     have HB := n1_
     clear n0_ n1_
     refine start_ (n := 17) (S := fun w' => w'.cell? ⟨gb102, 0, none⟩ = some (.int .i64 x103000_1) ∧ w'.cell? ⟨gb102, 1, none⟩ = some (.int .i64 x103001_1)) (ds := [16]) #[false, false, false, false, false, false, false, false, false, false, false, false, false, false, false, false, false] (by kernel_rfl) rfl rfl ⟨(blk_cell BK102.out 0).trans rfl, (blk_cell BK102.out 1).trans rfl⟩ (fun hHeld => ?_); refine with_tabW impl_MirrorFormula.tab7 impl_MirrorFormula.bits7 (fun HT_ HW_ => ?_)
     generalize wr.drew = w11 at BK102 HB hHeld ⊢
     refine pure_ (i := 1) (N := some 16) (v := ?_) (a' := ?_) #[false, true, false, false, false, false, false, false, false, false, false, false, false, false, false, false, false] rfl rfl (any_of HT_.out (by kernel_rfl)) (fun _ _ _ h => h) (Or.inl ⟨by rfl, ?_⟩) ?_ ?_
     rotate_left
     ·intro w'
      go_simp
      with_reducible rfl
     rotate_left
     ·simp only [Act.put, List.setIfInBounds_toArray, List.set_cons_zero, List.set_cons_succ, i64_w, i32_w]
      rfl
     refine pure_ (i := 2) (N := some 17) (v := ?_) (a' := ?_) #[false, true, true, false, false, false, false, false, false, false, false, false, false, false, false, false, false] rfl rfl (any_of HT_.out (by kernel_rfl)) (fun _ _ _ h => h) (Or.inl ⟨by rfl, ?_⟩) ?_ ?_
     rotate_left
     ·intro w'
      go_simp
      with_reducible rfl
     rotate_left
     ·simp only [Act.put, List.setIfInBounds_toArray, List.set_cons_zero, List.set_cons_succ, i64_w, i32_w]
      rfl
     refine pure_ (i := 3) (N := some 18) (v := ?_) (a' := ?_) #[false, true, true, true, false, false, false, false, false, false, false, false, false, false, false, false, false] rfl rfl (any_of HT_.out (by kernel_rfl)) (fun _ _ _ h => h) (Or.inl ⟨by rfl, ?_⟩) ?_ ?_
     rotate_left
     ·intro w'
      go_simp
      with_reducible rfl
     rotate_left
     ·simp only [Act.put, List.setIfInBounds_toArray, List.set_cons_zero, List.set_cons_succ, i64_w, i32_w]
      rfl
     refine pure_ (i := 4) (N := some 19) (v := ?_) (a' := ?_) #[false, true, true, true, true, false, false, false, false, false, false, false, false, false, false, false, false] rfl rfl (any_of HT_.out (by kernel_rfl)) (fun _ _ _ h => h) (Or.inl ⟨by rfl, ?_⟩) ?_ ?_
     rotate_left
     ·intro w'
      go_simp
      with_reducible rfl
     rotate_left
     ·simp only [Act.put, List.setIfInBounds_toArray, List.set_cons_zero, List.set_cons_succ, i64_w, i32_w]
      rfl
     refine pure_ (i := 5) (N := some 20) (v := ?_) (a' := ?_) #[false, true, true, true, true, true, false, false, false, false, false, false, false, false, false, false, false] rfl rfl (any_of HT_.out (by kernel_rfl)) (fun _ _ _ h => h) (Or.inl ⟨by rfl, ?_⟩) ?_ ?_
     rotate_left
     ·intro w'
      go_simp
      with_reducible rfl
     rotate_left
     ·simp only [Act.put, List.setIfInBounds_toArray, List.set_cons_zero, List.set_cons_succ, i64_w, i32_w]
      rfl
     refine pure_ (i := 7) (N := some 22) (v := ?_) (a' := ?_) #[false, true, true, true, true, true, false, true, false, false, false, false, false, false, false, false, false] rfl rfl (any_of HT_.out (by kernel_rfl)) (fun _ _ _ h => h) (Or.inl ⟨by rfl, ?_⟩) ?_ ?_
     rotate_left
     ·intro w'
      go_simp
      with_reducible rfl
     rotate_left
     ·simp only [Act.put, List.setIfInBounds_toArray, List.set_cons_zero, List.set_cons_succ, i64_w, i32_w]
      rfl
     refine pure_ (i := 8) (N := some 23) (v := ?_) (a' := ?_) #[false, true, true, true, true, true, false, true, true, false, false, false, false, false, false, false, false] rfl rfl (any_of HT_.out (by kernel_rfl)) (fun _ _ _ h => h) (Or.inl ⟨by rfl, ?_⟩) ?_ ?_
     rotate_left
     ·intro w'
      go_simp
      with_reducible rfl
     rotate_left
     ·simp only [Act.put, List.setIfInBounds_toArray, List.set_cons_zero, List.set_cons_succ, i64_w, i32_w]
      rfl
     refine pure_ (i := 9) (N := some 24) (v := ?_) (a' := ?_) #[false, true, true, true, true, true, false, true, true, true, false, false, false, false, false, false, false] rfl rfl (any_of HT_.out (by kernel_rfl)) (fun _ _ _ h => h) (Or.inl ⟨by rfl, ?_⟩) ?_ ?_
     rotate_left
     ·intro w'
      go_simp
      with_reducible rfl
     rotate_left
     ·simp only [Act.put, List.setIfInBounds_toArray, List.set_cons_zero, List.set_cons_succ, i64_w, i32_w]
      rfl
     refine pure_ (i := 10) (N := some 25) (v := ?_) (a' := ?_) #[false, true, true, true, true, true, false, true, true, true, true, false, false, false, false, false, false] rfl rfl (any_of HT_.out (by kernel_rfl)) (fun _ _ _ h => h) (Or.inl ⟨by rfl, ?_⟩) ?_ ?_
     rotate_left
     ·intro w'
      go_simp
      with_reducible rfl
     rotate_left
     ·simp only [Act.put, List.setIfInBounds_toArray, List.set_cons_zero, List.set_cons_succ, i64_w, i32_w]
      rfl
     refine pure_ (i := 11) (N := some 26) (v := ?_) (a' := ?_) #[false, true, true, true, true, true, false, true, true, true, true, true, false, false, false, false, false] rfl rfl (any_of HT_.out (by kernel_rfl)) (fun _ _ _ h => h) (Or.inl ⟨by rfl, ?_⟩) ?_ ?_
     rotate_left
     ·intro w'
      go_simp
      with_reducible rfl
     rotate_left
     ·simp only [Act.put, List.setIfInBounds_toArray, List.set_cons_zero, List.set_cons_succ, i64_w, i32_w]
      rfl
     refine take_ (i := 0) (N := some 15) (v := ?_) (a' := ?_) #[true, true, true, true, true, true, false, true, true, true, true, true, false, false, false, false, false] rfl rfl (take_ofW HT_.out HW_.out (by kernel_rfl)) (fun _ _ _ h => h) (Or.inl ⟨by rfl, ?_⟩) hHeld ?_ ?_
     rotate_left
     ·rintro w' ⟨s0, s1⟩
      go_simp
      with_reducible rfl
     rotate_left
     ·simp only [Act.put, List.setIfInBounds_toArray, List.set_cons_zero, List.set_cons_succ, i64_w, i32_w]
      rfl
     refine one_ (i := 6) (N := some 21) #[true, true, true, true, true, true, true, true, true, true, true, true, false, false, false, false, false] rfl rfl (one_of HT_.out (by kernel_rfl)) (by decide) (fun K hK => ?_)
     refine goes_ Try.func125 (by kernel_rfl) rfl #[.int .i64 (wrap64 (4 * x5_1)), .int .i64 (wrap64 ((wrap64 (6 * x5_1)) - 2))] (by rfl) rfl rfl tc1_ ?_
     with_reducible refine (impl_product.calls k1 (wrap64 (4 * x5_1)) (wrap64 ((wrap64 (6 * x5_1)) - 2)) t103 _ A7.out).mono ?_
     rintro e w' ⟨rfl, ⟨nd, rfl⟩⟩
     refine ⟨_, rfl, ?_⟩
     refine hK.out _ _ ⟨(blk_cell BK102.out 0).trans rfl, (blk_cell BK102.out 1).trans rfl⟩ (fun hHeld => ?_)
     clear hK K
     refine norm_ (a' := ?_) ?_ ?_
     rotate_left
     ·show Act.put _ (some 21) _ = _
      simp only [Act.put, List.setIfInBounds_toArray, List.set_cons_zero, List.set_cons_succ, i64_w, i32_w]
      rfl
     refine one_ (i := 12) (N := some 27) #[true, true, true, true, true, true, true, true, true, true, true, true, true, false, false, false, false] rfl rfl (one_of HT_.out (by kernel_rfl)) (by decide) (fun K hK => ?_)
     refine goes_ Try.func125 (by kernel_rfl) rfl #[.int .i64 (wrap64 (2 * x5_1)), .int .i64 (wrap64 ((wrap64 (4 * x5_1)) - 2))] (by rfl) rfl rfl tc1_ ?_
     with_reducible refine (impl_product.calls k1 (wrap64 (2 * x5_1)) (wrap64 ((wrap64 (4 * x5_1)) - 2)) t104 _ A8.out).mono ?_
     rintro e w' ⟨rfl, ⟨nd, rfl⟩⟩
     refine ⟨_, rfl, ?_⟩
     refine hK.out _ _ ⟨(blk_cell BK102.out 0).trans rfl, (blk_cell BK102.out 1).trans rfl⟩ (fun hHeld => ?_)
     clear hK K
     refine norm_ (a' := ?_) ?_ ?_
     rotate_left
     ·show Act.put _ (some 27) _ = _
      simp only [Act.put, List.setIfInBounds_toArray, List.set_cons_zero, List.set_cons_succ, i64_w, i32_w]
      rfl
     refine pure_ (i := 13) (N := some 28) (v := ?_) (a' := ?_) #[true, true, true, true, true, true, true, true, true, true, true, true, true, true, false, false, false] rfl rfl (any_of HT_.out (by kernel_rfl)) (fun _ _ _ h => h) (Or.inl ⟨by rfl, ?_⟩) ?_ ?_
     rotate_left
     ·intro w'
      go_simp
      with_reducible rfl
     rotate_left
     ·simp only [Act.put, List.setIfInBounds_toArray, List.set_cons_zero, List.set_cons_succ, i64_w, i32_w]
      rfl
     refine one_ (i := 14) (N := some 29) #[true, true, true, true, true, true, true, true, true, true, true, true, true, true, true, false, false] rfl rfl (one_of HT_.out (by kernel_rfl)) (by decide) (fun K hK => ?_)
     refine goes_ Try.func122 (by kernel_rfl) rfl #[.int .i64 t103, .int .i64 (wrap64 (2 * t104))] (by rfl) rfl rfl tc1_ ?_
     with_reducible refine (impl_ratio.calls k1 t103 (wrap64 (2 * t104)) t105 t106 _ A9.out).mono ?_
     rintro e w12 ⟨rfl, hb⟩
     refine ⟨_, rfl, ?_⟩
     have n0_ := am_ (blk_below (g := gb102) (o := .cells #[.int .i64 x103000_1, .int .i64 x103001_1] 85 (0, 0)) tc4_ hb)
     have n1_ := am_ (below_step (by repeat (first | (with_reducible first | exact HB.out | apply below_alloc | apply pw_below_drewN | apply below_drew1 | refine below_set ?_ GE102.out) | exact HB.out)) hb)
     clear BK102
     clear HB
     have BK102 := n0_
     have HB := n1_
     clear n0_ n1_
     (try clear hb)
     (try clear hb2)
     (try clear hk)
     (try clear hi)
     refine hK.out _ _ ⟨(blk_cell BK102.out 0).trans rfl, (blk_cell BK102.out 1).trans rfl⟩ (fun hHeld => ?_)
     clear hK K
     refine norm_ (a' := ?_) ?_ ?_
     rotate_left
     ·show Act.put _ (some 29) _ = _
      simp only [Act.put, List.setIfInBounds_toArray, List.set_cons_zero, List.set_cons_succ, i64_w, i32_w]
      rfl
     refine one_ (i := 15) (N := some 30) #[true, true, true, true, true, true, true, true, true, true, true, true, true, true, true, true, false] rfl rfl (one_of HT_.out (by kernel_rfl)) (by decide) (fun K hK => ?_)
     refine goes_ Try.func121 (by kernel_rfl) rfl #[.agg #[.int .i64 x103000_1, .int .i64 x103001_1], .agg #[.int .i64 t105, .int .i64 t106]] (by rfl) rfl rfl tc1_ ?_
     with_reducible refine (impl_Ratio_times.calls k1 x103000_1 x103001_1 t105 t106 t107 t108 _ A10.out).mono ?_
     rintro e w13 ⟨rfl, hb⟩
     refine ⟨_, rfl, ?_⟩
     have n0_ := am_ (blk_below (g := gb102) (o := .cells #[.int .i64 x103000_1, .int .i64 x103001_1] 85 (0, 0)) tc4_ hb)
     have n1_ := am_ (below_step (by repeat (first | (with_reducible first | exact HB.out | apply below_alloc | apply pw_below_drewN | apply below_drew1 | refine below_set ?_ GE102.out) | exact HB.out)) hb)
     clear BK102
     clear HB
     have BK102 := n0_
     have HB := n1_
     clear n0_ n1_
     (try clear hb)
     (try clear hb2)
     (try clear hk)
     (try clear hi)
     refine hK.out _ _ ⟨(blk_cell BK102.out 0).trans rfl, (blk_cell BK102.out 1).trans rfl⟩ (fun hHeld => ?_)
     clear hK K
     refine norm_ (a' := ?_) ?_ ?_
     rotate_left
     ·show Act.put _ (some 30) _ = _
      simp only [Act.put, List.setIfInBounds_toArray, List.set_cons_zero, List.set_cons_succ, i64_w, i32_w]
      rfl
     refine last_ (i := 16) (N := none) #[true, true, true, true, true, true, true, true, true, true, true, true, true, true, true, true, true] rfl rfl (one_of HT_.out (by kernel_rfl)) (by decide) (fun K hK => ?_)
     have hs14 : w13.cell? ⟨gb102, 0, none⟩ = some (.int .i64 x103000_1) := (blk_cell BK102.out 0).trans rfl
     have hfs14 := blk_frozen BK102.out 0
     have hs15 : w13.cell? ⟨gb102, 1, none⟩ = some (.int .i64 x103001_1) := (blk_cell BK102.out 1).trans rfl
     have hfs15 := blk_frozen BK102.out 1
     refine skip_ (w1 := ?_) (by rfl) rfl ?_ ?_
     rotate_left
     ·go_simp
      rfl
     refine hK.out _ _ ?_
     clear hK K
     refine done_ (done_of HT_.out (by kernel_rfl)) ?_
     try go_wp2
     go_roundg k1
     case measure => have := HK1.out; omega
     case rel => exact ⟨(wrap64 (x5_1 + 1)), (t107), (t108), tc7_, H', ⟨by have := HK1.out; omega⟩, ⟨by (with_reducible repeat (first | refine blk_drewN ?_ _ | refine blk_drew ?_ | refine blk_alloc ?_ _)); refine blk_put (cs := #[.int .i64 t107, .int .i64 x103001_1]) ?_ 1 _ rfl; (with_reducible repeat (first | refine blk_drewN ?_ _ | refine blk_drew ?_ | refine blk_alloc ?_ _)); refine blk_put (cs := #[.int .i64 x103000_1, .int .i64 x103001_1]) ?_ 0 _ rfl; (with_reducible repeat (first | refine blk_drewN ?_ _ | refine blk_drew ?_ | refine blk_alloc ?_ _)); exact BK102.out⟩, ⟨by repeat (first | (with_reducible first | exact HB.out | apply below_alloc | apply pw_below_drewN | apply below_drew1 | refine below_set ?_ GE102.out) | exact HB.out)⟩⟩
    ·rw [if_neg c6] at H
     have c6b0 : decide (x5_1 ≤ a0) = false := decide_eq_false c6
     clear c6
     simp only [Option.some.injEq, Prod.mk.injEq] at H
     obtain ⟨rfl, rfl⟩ := H
     have hcz16_0 : wr.cell? ⟨gb102, 0, none⟩ = some (.int .i64 x103000_1) := (blk_cell BK102.out 0).trans rfl
     have hcz16_1 : wr.cell? ⟨gb102, 1, none⟩ = some (.int .i64 x103001_1) := (blk_cell BK102.out 1).trans rfl
     have hfz16_0 := blk_frozen BK102.out 0
     have hfz16_1 := blk_frozen BK102.out 1
     go_wp2
     go_ret2
     exact ⟨by first | rfl | (simp [errW_none, errW_some] <;> rfl) | (simp [*, errW_none, errW_some] <;> rfl), by repeat (first | (with_reducible first | exact HB.out | apply below_alloc | apply pw_below_drewN | apply below_drew1 | refine below_set ?_ GE102.out) | exact HB.out)⟩
 ·replace c3 := Bool.eq_false_iff.mpr c3
  subst c3
  have H1 : (some (0, false)) = some (r1, r2) := by rw [if_neg (show ¬ (false = true) by decide)] at H; exact H
  clear H
  have H := H1
  clear H1
  simp only [Option.some.injEq, Prod.mk.injEq] at H
  obtain ⟨rfl, rfl⟩ := H
  go_enter Try.func56, Try.ntmps56
  go_wp2_with (first | ((with_reducible refine gate_callee (f := 107) rfl ?_); refine goesL_ (some 7) rfl rfl Try.func107 (by kernel_rfl) rfl #[.int .i64 a0, .int .i64 0, .int .i64 5] rfl tc1_ ?_; (with_reducible refine (impl_within.calls a0 0 5 false _ A2.out).mono ?_); rintro e w' ⟨rfl, ⟨nd, rfl⟩⟩; refine ⟨_, rfl, ?_⟩))
  go_ret2
  exact ⟨by first | rfl | (simp [errW_none, errW_some] <;> rfl) | (simp [*, errW_none, errW_some] <;> rfl), by repeat (first | (with_reducible first | exact HB.out | apply below_alloc | apply pw_below_drewN | apply below_drew1) | exact HB.out)⟩

/-! ### spec_MirrorFormula: function 57 -/
mutual
def spec_MirrorFormula.l0 : Nat → Int → Int → Int → Int → Option (Int × Bool)
 | 0, _, _, _, _ => none
 | k + 1, x0, x5, x103000, x103001 => if x5 ≤ x0 then ((spec_smRatio_times.f k x103000 x103001 1 2).bind fun bt103 => (spec_MirrorFormula.l1 k x0 x5 2 bt103.1 bt103.2)) else (some (x103000, true))
def spec_MirrorFormula.l1 : Nat → Int → Int → Int → Int → Int → Option (Int × Bool)
 | 0, _, _, _, _, _ => none
 | k + 1, x0, x5, x6, x103000, x103001 => if x6 ≤ (wrap64 ((wrap64 (6 * x5)) - 2)) then ((spec_smRatio_times.f k x103000 x103001 x6 1).bind fun bt105 => (if x6 ≤ (wrap64 ((wrap64 (2 * x5)) - 1)) then ((spec_smRatio_times.f k bt105.1 bt105.2 x6 1).bind fun bt107 => (spec_MirrorFormula.j2 k x0 x5 x6 bt107.1 bt107.2)) else (spec_MirrorFormula.j2 k x0 x5 x6 bt105.1 bt105.2))) else (spec_MirrorFormula.l0 k x0 (wrap64 (x5 + 1)) x103000 x103001)
def spec_MirrorFormula.j2 : Nat → Int → Int → Int → Int → Int → Option (Int × Bool)
 | 0, _, _, _, _, _ => none
 | k + 1, x0, x5, x6, x103000, x103001 => if x6 ≤ (wrap64 ((wrap64 (4 * x5)) - 1)) then ((spec_smRatio_times.f k x103000 x103001 1 x6).bind fun bt109 => (if x6 ≤ (wrap64 ((wrap64 (4 * x5)) - 2)) then ((spec_smRatio_times.f k bt109.1 bt109.2 1 x6).bind fun bt111 => (spec_MirrorFormula.l1 k x0 x5 (wrap64 (x6 + 1)) bt111.1 bt111.2)) else (spec_MirrorFormula.l1 k x0 x5 (wrap64 (x6 + 1)) bt109.1 bt109.2))) else (if x6 ≤ (wrap64 ((wrap64 (4 * x5)) - 2)) then ((spec_smRatio_times.f k x103000 x103001 1 x6).bind fun bt113 => (spec_MirrorFormula.l1 k x0 x5 (wrap64 (x6 + 1)) bt113.1 bt113.2)) else (spec_MirrorFormula.l1 k x0 x5 (wrap64 (x6 + 1)) x103000 x103001))
end
def spec_MirrorFormula.f (k : Nat) (a0 : Int) : Option (Int × Bool) := (spec_l1In.f a0 0 5).bind fun t101 => (if t101 = true then (spec_MirrorFormula.l0 k a0 1 1 1) else (some (0, false)))
theorem spec_MirrorFormula.mono_l : ∀ k, (∀ y0 y1 y2 y3, LeO (spec_MirrorFormula.l0 k y0 y1 y2 y3) (spec_MirrorFormula.l0 (k + 1) y0 y1 y2 y3)) ∧ (∀ y0 y1 y2 y3 y4, LeO (spec_MirrorFormula.l1 k y0 y1 y2 y3 y4) (spec_MirrorFormula.l1 (k + 1) y0 y1 y2 y3 y4)) ∧ (∀ y0 y1 y2 y3 y4, LeO (spec_MirrorFormula.j2 k y0 y1 y2 y3 y4) (spec_MirrorFormula.j2 (k + 1) y0 y1 y2 y3 y4))
 | 0 => ⟨fun _ _ _ _ r h => by simp [spec_MirrorFormula.l0] at h, fun _ _ _ _ _ r h => by simp [spec_MirrorFormula.l1] at h, fun _ _ _ _ _ r h => by simp [spec_MirrorFormula.j2] at h⟩
 | k + 1 => by
  obtain ⟨ih0, ih1, ih2⟩ := spec_MirrorFormula.mono_l k
  refine ⟨?_, ?_, ?_⟩
  ·intro y0 y1 y2 y3
   unfold spec_MirrorFormula.l0
   repeat' first
   | (with_reducible exact ih0 _ _ _ _)
   | (with_reducible exact ih1 _ _ _ _ _)
   | (with_reducible exact ih2 _ _ _ _ _)
   | (with_reducible exact spec_smRatio_times.mono _ _ _ _ _)
   | (with_reducible exact LeO.refl _)
   | (with_reducible exact LeO.none _)
   | (with_reducible refine LeO.ite ?_ ?_)
   | (with_reducible refine LeO.bind ?_ (fun _ => ?_))
   | exact ih0 _ _ _ _
   | exact ih1 _ _ _ _ _
   | exact ih2 _ _ _ _ _
   | exact spec_smRatio_times.mono _ _ _ _ _
   | exact LeO.none _
   | refine LeO.ite ?_ ?_
   | refine LeO.bind ?_ (fun _ => ?_)
  ·intro y0 y1 y2 y3 y4
   unfold spec_MirrorFormula.l1
   repeat' first
   | (with_reducible exact ih0 _ _ _ _)
   | (with_reducible exact ih1 _ _ _ _ _)
   | (with_reducible exact ih2 _ _ _ _ _)
   | (with_reducible exact spec_smRatio_times.mono _ _ _ _ _)
   | (with_reducible exact LeO.refl _)
   | (with_reducible exact LeO.none _)
   | (with_reducible refine LeO.ite ?_ ?_)
   | (with_reducible refine LeO.bind ?_ (fun _ => ?_))
   | exact ih0 _ _ _ _
   | exact ih1 _ _ _ _ _
   | exact ih2 _ _ _ _ _
   | exact spec_smRatio_times.mono _ _ _ _ _
   | exact LeO.none _
   | refine LeO.ite ?_ ?_
   | refine LeO.bind ?_ (fun _ => ?_)
  ·intro y0 y1 y2 y3 y4
   unfold spec_MirrorFormula.j2
   repeat' first
   | (with_reducible exact ih0 _ _ _ _)
   | (with_reducible exact ih1 _ _ _ _ _)
   | (with_reducible exact ih2 _ _ _ _ _)
   | (with_reducible exact spec_smRatio_times.mono _ _ _ _ _)
   | (with_reducible exact LeO.refl _)
   | (with_reducible exact LeO.none _)
   | (with_reducible refine LeO.ite ?_ ?_)
   | (with_reducible refine LeO.bind ?_ (fun _ => ?_))
   | exact ih0 _ _ _ _
   | exact ih1 _ _ _ _ _
   | exact ih2 _ _ _ _ _
   | exact spec_smRatio_times.mono _ _ _ _ _
   | exact LeO.none _
   | refine LeO.ite ?_ ?_
   | refine LeO.bind ?_ (fun _ => ?_)
theorem spec_MirrorFormula.mono : ∀ a0  k, LeO (spec_MirrorFormula.f k a0) (spec_MirrorFormula.f (k + 1) a0) := by
 intro a0 k
 obtain ⟨ih0, ih1, ih2⟩ := spec_MirrorFormula.mono_l k
 unfold spec_MirrorFormula.f
 repeat' first
   | (with_reducible exact ih0 _ _ _ _)
   | (with_reducible exact ih1 _ _ _ _ _)
   | (with_reducible exact ih2 _ _ _ _ _)
   | (with_reducible exact spec_smRatio_times.mono _ _ _ _ _)
   | (with_reducible exact LeO.refl _)
   | (with_reducible exact LeO.none _)
   | (with_reducible refine LeO.ite ?_ ?_)
   | (with_reducible refine LeO.bind ?_ (fun _ => ?_))
   | exact ih0 _ _ _ _
   | exact ih1 _ _ _ _ _
   | exact ih2 _ _ _ _ _
   | exact spec_smRatio_times.mono _ _ _ _ _
   | exact LeO.none _
   | refine LeO.ite ?_ ?_
   | refine LeO.bind ?_ (fun _ => ?_)
set_option maxHeartbeats 8000000 in
set_option maxRecDepth 100000 in
theorem spec_MirrorFormula.calls (k : Nat) (a0 : Int) (r1 : Int) (r2 : Bool) (w : World) (h : spec_MirrorFormula.f k a0 = some (r1, r2)) :
  Calls Try.prog 57 #[.int .i64 a0] w fun e w' => e = .returned (.tuple #[.int .i64 r1, .bool r2]) ∧ Below w.heap.size w w' := by
 have hu90 := Try.underlying90
 have HB := am_ (Below.refl w.heap.size w)
 have H : ((spec_l1In.f a0 0 5).bind fun t101 => (if t101 = true then (spec_MirrorFormula.l0 k a0 1 1 1) else (some (0, false)))) = some (r1, r2) := h
 clear h
 replace H := Option.bind_eq_some_iff.mp H
 obtain ⟨t101, A20, H⟩ := H
 replace H : (if t101 = true then (spec_MirrorFormula.l0 k a0 1 1 1) else (some (0, false))) = some (r1, r2) := H
 have A2 := am_ A20
 clear A20
 by_cases c3 : t101 = true
 ·subst c3
  have H1 : (spec_MirrorFormula.l0 k a0 1 1 1) = some (r1, r2) := by rw [if_pos rfl] at H; exact H
  clear H
  have H := H1
  clear H1
  have H' := am_ H
  clear H
  go_enter Try.func57, Try.ntmps57
  go_wp2_with (first | ((with_reducible refine gate_callee (f := 112) rfl ?_); refine goesL_ (some 8) rfl rfl Try.func112 (by kernel_rfl) rfl #[.int .i64 a0, .int .i64 0, .int .i64 5] rfl tc1_ ?_; (with_reducible refine (spec_l1In.calls a0 0 5 true _ A2.out).mono ?_); rintro e w' ⟨rfl, ⟨nd, rfl⟩⟩; refine ⟨_, rfl, ?_⟩) | ((with_reducible refine gate_dst (N := 11) rfl ?_); refine box_event ?hg (N := 11) ?hd (cs := #[.int .i64 1, .int .i64 1]) (t := 90) ?hr ?_; (case hd => rfl); (case hg => rfl); (case hr => exact tc19_); intro gb102 hg w4 hbox hb; have n0_ := am_ (below_step tc0_ hb); have n1_ := am_ ((by rw [hg]; exact (below_size tc0_) : w.heap.size ≤ gb102)); have n2_ := am_ ((by rw [hg]; exact (below_size tc0_) : w.heap.size ≤ gb102)); have n3_ := am_ ((show IsS90 w w4 gb102 1 1 from ⟨hbox, (by rw [hg]; exact (below_size tc0_) : w.heap.size ≤ gb102)⟩)); clear HB; have HB := n0_; have GW102 := n1_; have GE102 := n2_; have HI102 := n3_; clear n0_ n1_ n2_ n3_; clear hb hbox hg))
  go_loopg [5] k (fun kq v5 w' => ∃ (x5_1 : Int) (x103000_1 : Int) (x103001_1 : Int), v5 = .int .i64 x5_1 ∧ Aside0 (spec_MirrorFormula.l0 kq a0 x5_1 x103000_1 x103001_1 = some (r1, r2)) ∧ Aside0 (kq ≤ k) ∧ Aside0 (IsS90 w w' gb102 x103000_1 x103001_1) ∧ Aside0 (Below w.heap.size w w'))
  case atStart => exact ⟨(1), (1), (1), tc7_, H', ⟨Nat.le_refl _⟩, ⟨by repeat (first | (with_reducible first | exact HI102.out | apply IsS90.alloc | apply IsS90.drewN | apply IsS90.drew | apply IsS90.set_0 | apply IsS90.set_1) | exact HI102.out)⟩, ⟨by repeat (first | (with_reducible first | exact HB.out | apply below_alloc | apply pw_below_drewN | apply below_drew1 | refine below_set ?_ (IsS90.ge HI102.out)) | exact HB.out)⟩⟩
  case round =>
   clear H'
   try clear c1
   try clear p2
   try clear c3
   obtain ⟨x5_1, x103000_1, x103001_1, rfl, HA, HK1, HI102, HB⟩ := hrel
   cases gk with
   | zero => exact absurd HA.out (by simp [spec_MirrorFormula.l0])
   | succ k1 =>
    have H := HA.out
    clear HA
    simp only [spec_MirrorFormula.l0] at H
    by_cases c5 : x5_1 ≤ a0
    ·rw [if_pos c5] at H
     have c5b0 : decide (x5_1 ≤ a0) = true := decide_eq_true c5
     clear c5
     replace H := Option.bind_eq_some_iff.mp H
     obtain ⟨⟨t103, t104⟩, A60, H⟩ := H
     replace H : (spec_MirrorFormula.l1 k1 a0 x5_1 2 t103 t104) = some (r1, r2) := H
     have A6 := am_ A60
     clear A60
     have H' := am_ H
     clear H
     go_wp2_with (first | ((with_reducible refine gate_callee (f := 124) rfl ?_); refine goesL_ (some 18) rfl rfl Try.func124 (by kernel_rfl) rfl #[.pointer (some ⟨gb102, 0, none⟩), .int .i64 1, .int .i64 2] rfl tc1_ ?_; (with_reducible refine (spec_smRatio_times.calls k1 gb102 x103000_1 x103001_1 1 2 t103 t104 w _ ?side1 ?side2 A6.out).mono ?_); (case side1 => exact tc39_); (case side2 => exact tc38_); rintro e w7 ⟨rfl, hi, hb, hk⟩; refine ⟨_, rfl, ?_⟩; have n0_ := am_ (hb); have n1_ := am_ (hi); clear HB HI102; have HB := n0_; have HI102 := n1_; clear n0_ n1_; (try clear hb hk hi)))
     go_loopg [6] k1 (fun kq v6 w' => ∃ (x6_2 : Int) (x103000_2 : Int) (x103001_2 : Int), v6 = .int .i64 x6_2 ∧ Aside0 (spec_MirrorFormula.l1 kq a0 x5_1 x6_2 x103000_2 x103001_2 = some (r1, r2)) ∧ Aside0 (kq ≤ k1) ∧ Aside0 (IsS90 w w' gb102 x103000_2 x103001_2) ∧ Aside0 (Below w.heap.size w w'))
     case atStart => exact ⟨(2), (t103), (t104), tc7_, H', ⟨Nat.le_refl _⟩, ⟨by repeat (first | (with_reducible first | exact HI102.out | apply IsS90.alloc | apply IsS90.drewN | apply IsS90.drew | apply IsS90.set_0 | apply IsS90.set_1) | exact HI102.out)⟩, ⟨by repeat (first | (with_reducible first | exact HB.out | apply below_alloc | apply pw_below_drewN | apply below_drew1 | refine below_set ?_ (IsS90.ge HI102.out)) | exact HB.out)⟩⟩
     case round =>
      clear H'
      try clear c1
      try clear p2
      try clear c3
      try clear c5
      try clear c5b0
      try clear p2
      obtain ⟨x6_2, x103000_2, x103001_2, rfl, HA, HK2, HI102, HB⟩ := hrel
      cases gk with
      | zero => exact absurd HA.out (by simp [spec_MirrorFormula.l1])
      | succ k2 =>
       have H := HA.out
       clear HA
       simp only [spec_MirrorFormula.l1] at H
       by_cases c8 : x6_2 ≤ (wrap64 ((wrap64 (6 * x5_1)) - 2))
       ·rw [if_pos c8] at H
        have c8b0 : decide (x6_2 ≤ (wrap64 ((wrap64 (6 * x5_1)) - 2))) = true := decide_eq_true c8
        clear c8
        replace H := Option.bind_eq_some_iff.mp H
        obtain ⟨⟨t105, t106⟩, A90, H⟩ := H
        replace H : (if x6_2 ≤ (wrap64 ((wrap64 (2 * x5_1)) - 1)) then ((spec_smRatio_times.f k2 t105 t106 x6_2 1).bind fun bt107 => (spec_MirrorFormula.j2 k2 a0 x5_1 x6_2 bt107.1 bt107.2)) else (spec_MirrorFormula.j2 k2 a0 x5_1 x6_2 t105 t106)) = some (r1, r2) := H
        have A9 := am_ A90
        clear A90
        have HC10 := am_ H
        clear H
        go_upto_if 33 with (first | ((with_reducible refine gate_callee (f := 124) rfl ?_); refine goesL_ (some 28) rfl rfl Try.func124 (by kernel_rfl) rfl #[.pointer (some ⟨gb102, 0, none⟩), .int .i64 x6_2, .int .i64 1] rfl tc1_ ?_; (with_reducible refine (spec_smRatio_times.calls k2 gb102 x103000_2 x103001_2 x6_2 1 t105 t106 w _ ?side1 ?side2 A9.out).mono ?_); (case side1 => exact tc39_); (case side2 => exact tc38_); rintro e w11 ⟨rfl, hi, hb, hk⟩; refine ⟨_, rfl, ?_⟩; have n0_ := am_ (hb); have n1_ := am_ (hi); clear HB HI102; have HB := n0_; have HI102 := n1_; clear n0_ n1_; (try clear hb hk hi)))
        (try simp only [Act.put, List.setIfInBounds_toArray, List.set_cons_zero, List.set_cons_succ])
        go_cut [] (fun wc => ∃ (kq : Nat) (x103000_9 : Int) (x103001_9 : Int), Aside0 (spec_MirrorFormula.j2 kq a0 x5_1 x6_2 x103000_9 x103001_9 = some (r1, r2)) ∧ Aside0 (kq ≤ k2) ∧ Aside0 (IsS90 w wc gb102 x103000_9 x103001_9) ∧ Aside0 (Below w.heap.size w wc))
        case first =>
         have H := HC10.out
         clear HC10
         by_cases c12 : x6_2 ≤ (wrap64 ((wrap64 (2 * x5_1)) - 1))
         ·rw [if_pos c12] at H
          have c12b0 : decide (x6_2 ≤ (wrap64 ((wrap64 (2 * x5_1)) - 1))) = true := decide_eq_true c12
          clear c12
          (first | rw [c12b0] | (simp only [i64_w, i32_w]; rw [c12b0]) | skip)
          replace H := Option.bind_eq_some_iff.mp H
          obtain ⟨⟨t107, t108⟩, A130, H⟩ := H
          replace H : (spec_MirrorFormula.j2 k2 a0 x5_1 x6_2 t107 t108) = some (r1, r2) := H
          have A13 := am_ A130
          clear A130
          have H' := am_ H
          clear H
          go_wp2_with (first | ((with_reducible refine gate_callee (f := 124) rfl ?_); refine goesL_ (some 36) rfl rfl Try.func124 (by kernel_rfl) rfl #[.pointer (some ⟨gb102, 0, none⟩), .int .i64 x6_2, .int .i64 1] rfl tc1_ ?_; (with_reducible refine (spec_smRatio_times.calls k2 gb102 t105 t106 x6_2 1 t107 t108 w _ ?side1 ?side2 A13.out).mono ?_); (case side1 => exact tc39_); (case side2 => exact tc38_); rintro e w14 ⟨rfl, hi, hb, hk⟩; refine ⟨_, rfl, ?_⟩; have n0_ := am_ (hb); have n1_ := am_ (hi); clear HB HI102; have HB := n0_; have HI102 := n1_; clear n0_ n1_; (try clear hb hk hi)))
          go_meet
          case rel => exact ⟨_, (t107), (t108), H', ⟨by have := HK1.out; have := HK2.out; first | omega | exact Nat.le_refl _⟩, ⟨by repeat (first | (with_reducible first | exact HI102.out | apply IsS90.alloc | apply IsS90.drewN | apply IsS90.drew | apply IsS90.set_0 | apply IsS90.set_1) | exact HI102.out)⟩, ⟨by repeat (first | (with_reducible first | exact HB.out | apply below_alloc | apply pw_below_drewN | apply below_drew1 | refine below_set ?_ (IsS90.ge HI102.out)) | exact HB.out)⟩⟩
         ·rw [if_neg c12] at H
          have c12b0 : decide (x6_2 ≤ (wrap64 ((wrap64 (2 * x5_1)) - 1))) = false := decide_eq_false c12
          clear c12
          (first | rw [c12b0] | (simp only [i64_w, i32_w]; rw [c12b0]) | skip)
          have H' := am_ H
          clear H
          go_wp2
          go_meet
          case rel => exact ⟨_, (t105), (t106), H', ⟨by have := HK1.out; have := HK2.out; first | omega | exact Nat.le_refl _⟩, ⟨by repeat (first | (with_reducible first | exact HI102.out | apply IsS90.alloc | apply IsS90.drewN | apply IsS90.drew | apply IsS90.set_0 | apply IsS90.set_1) | exact HI102.out)⟩, ⟨by repeat (first | (with_reducible first | exact HB.out | apply below_alloc | apply pw_below_drewN | apply below_drew1 | refine below_set ?_ (IsS90.ge HI102.out)) | exact HB.out)⟩⟩
        case rest =>
         clear HC10
         try clear c1
         try clear p2
         try clear c3
         try clear c5
         try clear c5b0
         try clear p6
         try clear c8
         try clear c8b0
         try clear c11
         try clear c12
         try clear c12b0
         try clear p2
         obtain ⟨kq, x103000_9, x103001_9, HA, HJ9, HI102, HB⟩ := hcut
         cases kq with
         | zero => exact absurd HA.out (by simp [spec_MirrorFormula.j2])
         | succ kj9 =>
          have H := HA.out
          clear HA
          simp only [spec_MirrorFormula.j2] at H
          by_cases c15 : x6_2 ≤ (wrap64 ((wrap64 (4 * x5_1)) - 1))
          ·rw [if_pos c15] at H
           have c15b0 : decide (x6_2 ≤ (wrap64 ((wrap64 (4 * x5_1)) - 1))) = true := decide_eq_true c15
           clear c15
           replace H := Option.bind_eq_some_iff.mp H
           obtain ⟨⟨t109, t110⟩, A160, H⟩ := H
           replace H : (if x6_2 ≤ (wrap64 ((wrap64 (4 * x5_1)) - 2)) then ((spec_smRatio_times.f kj9 t109 t110 1 x6_2).bind fun bt111 => (spec_MirrorFormula.l1 kj9 a0 x5_1 (wrap64 (x6_2 + 1)) bt111.1 bt111.2)) else (spec_MirrorFormula.l1 kj9 a0 x5_1 (wrap64 (x6_2 + 1)) t109 t110)) = some (r1, r2) := H
           have A16 := am_ A160
           clear A160
           by_cases c17 : x6_2 ≤ (wrap64 ((wrap64 (4 * x5_1)) - 2))
           ·rw [if_pos c17] at H
            have c17b0 : decide (x6_2 ≤ (wrap64 ((wrap64 (4 * x5_1)) - 2))) = true := decide_eq_true c17
            clear c17
            replace H := Option.bind_eq_some_iff.mp H
            obtain ⟨⟨t111, t112⟩, A180, H⟩ := H
            replace H : (spec_MirrorFormula.l1 kj9 a0 x5_1 (wrap64 (x6_2 + 1)) t111 t112) = some (r1, r2) := H
            have A18 := am_ A180
            clear A180
            have H' := am_ H
            clear H
            go_wp2_with (first | ((with_reducible refine gate_callee (f := 124) rfl ?_); refine goesL_ (some 44) rfl rfl Try.func124 (by kernel_rfl) rfl #[.pointer (some ⟨gb102, 0, none⟩), .int .i64 1, .int .i64 x6_2] rfl tc1_ ?_; (with_reducible refine (spec_smRatio_times.calls kj9 gb102 x103000_9 x103001_9 1 x6_2 t109 t110 w _ ?side1 ?side2 A16.out).mono ?_); (case side1 => exact tc39_); (case side2 => exact tc38_); rintro e w19 ⟨rfl, hi, hb, hk⟩; refine ⟨_, rfl, ?_⟩; have n0_ := am_ (hb); have n1_ := am_ (hi); clear HB HI102; have HB := n0_; have HI102 := n1_; clear n0_ n1_; (try clear hb hk hi)) | ((with_reducible refine gate_callee (f := 124) rfl ?_); refine goesL_ (some 52) rfl rfl Try.func124 (by kernel_rfl) rfl #[.pointer (some ⟨gb102, 0, none⟩), .int .i64 1, .int .i64 x6_2] rfl tc1_ ?_; (with_reducible refine (spec_smRatio_times.calls kj9 gb102 t109 t110 1 x6_2 t111 t112 w _ ?side1 ?side2 A18.out).mono ?_); (case side1 => exact tc39_); (case side2 => exact tc38_); rintro e w20 ⟨rfl, hi, hb, hk⟩; refine ⟨_, rfl, ?_⟩; have n0_ := am_ (hb); have n1_ := am_ (hi); clear HB HI102; have HB := n0_; have HI102 := n1_; clear n0_ n1_; (try clear hb hk hi)))
            go_roundg kj9
            case measure => have := HK1.out; have := HK2.out; have := HJ9.out; omega
            case rel => exact ⟨(wrap64 (x6_2 + 1)), (t111), (t112), tc7_, H', ⟨by have := HK1.out; have := HK2.out; have := HJ9.out; omega⟩, ⟨by repeat (first | (with_reducible first | exact HI102.out | apply IsS90.alloc | apply IsS90.drewN | apply IsS90.drew | apply IsS90.set_0 | apply IsS90.set_1) | exact HI102.out)⟩, ⟨by repeat (first | (with_reducible first | exact HB.out | apply below_alloc | apply pw_below_drewN | apply below_drew1 | refine below_set ?_ (IsS90.ge HI102.out)) | exact HB.out)⟩⟩
           ·rw [if_neg c17] at H
            have c17b0 : decide (x6_2 ≤ (wrap64 ((wrap64 (4 * x5_1)) - 2))) = false := decide_eq_false c17
            clear c17
            have H' := am_ H
            clear H
            go_wp2_with (first | ((with_reducible refine gate_callee (f := 124) rfl ?_); refine goesL_ (some 44) rfl rfl Try.func124 (by kernel_rfl) rfl #[.pointer (some ⟨gb102, 0, none⟩), .int .i64 1, .int .i64 x6_2] rfl tc1_ ?_; (with_reducible refine (spec_smRatio_times.calls kj9 gb102 x103000_9 x103001_9 1 x6_2 t109 t110 w _ ?side1 ?side2 A16.out).mono ?_); (case side1 => exact tc39_); (case side2 => exact tc38_); rintro e w21 ⟨rfl, hi, hb, hk⟩; refine ⟨_, rfl, ?_⟩; have n0_ := am_ (hb); have n1_ := am_ (hi); clear HB HI102; have HB := n0_; have HI102 := n1_; clear n0_ n1_; (try clear hb hk hi)))
            go_roundg kj9
            case measure => have := HK1.out; have := HK2.out; have := HJ9.out; omega
            case rel => exact ⟨(wrap64 (x6_2 + 1)), (t109), (t110), tc7_, H', ⟨by have := HK1.out; have := HK2.out; have := HJ9.out; omega⟩, ⟨by repeat (first | (with_reducible first | exact HI102.out | apply IsS90.alloc | apply IsS90.drewN | apply IsS90.drew | apply IsS90.set_0 | apply IsS90.set_1) | exact HI102.out)⟩, ⟨by repeat (first | (with_reducible first | exact HB.out | apply below_alloc | apply pw_below_drewN | apply below_drew1 | refine below_set ?_ (IsS90.ge HI102.out)) | exact HB.out)⟩⟩
          ·rw [if_neg c15] at H
           have c15b0 : decide (x6_2 ≤ (wrap64 ((wrap64 (4 * x5_1)) - 1))) = false := decide_eq_false c15
           clear c15
           by_cases c22 : x6_2 ≤ (wrap64 ((wrap64 (4 * x5_1)) - 2))
           ·rw [if_pos c22] at H
            have c22b0 : decide (x6_2 ≤ (wrap64 ((wrap64 (4 * x5_1)) - 2))) = true := decide_eq_true c22
            clear c22
            replace H := Option.bind_eq_some_iff.mp H
            obtain ⟨⟨t113, t114⟩, A230, H⟩ := H
            replace H : (spec_MirrorFormula.l1 kj9 a0 x5_1 (wrap64 (x6_2 + 1)) t113 t114) = some (r1, r2) := H
            have A23 := am_ A230
            clear A230
            have H' := am_ H
            clear H
            go_wp2_with (first | ((with_reducible refine gate_callee (f := 124) rfl ?_); refine goesL_ (some 52) rfl rfl Try.func124 (by kernel_rfl) rfl #[.pointer (some ⟨gb102, 0, none⟩), .int .i64 1, .int .i64 x6_2] rfl tc1_ ?_; (with_reducible refine (spec_smRatio_times.calls kj9 gb102 x103000_9 x103001_9 1 x6_2 t113 t114 w _ ?side1 ?side2 A23.out).mono ?_); (case side1 => exact tc39_); (case side2 => exact tc38_); rintro e w24 ⟨rfl, hi, hb, hk⟩; refine ⟨_, rfl, ?_⟩; have n0_ := am_ (hb); have n1_ := am_ (hi); clear HB HI102; have HB := n0_; have HI102 := n1_; clear n0_ n1_; (try clear hb hk hi)))
            go_roundg kj9
            case measure => have := HK1.out; have := HK2.out; have := HJ9.out; omega
            case rel => exact ⟨(wrap64 (x6_2 + 1)), (t113), (t114), tc7_, H', ⟨by have := HK1.out; have := HK2.out; have := HJ9.out; omega⟩, ⟨by repeat (first | (with_reducible first | exact HI102.out | apply IsS90.alloc | apply IsS90.drewN | apply IsS90.drew | apply IsS90.set_0 | apply IsS90.set_1) | exact HI102.out)⟩, ⟨by repeat (first | (with_reducible first | exact HB.out | apply below_alloc | apply pw_below_drewN | apply below_drew1 | refine below_set ?_ (IsS90.ge HI102.out)) | exact HB.out)⟩⟩
           ·rw [if_neg c22] at H
            have c22b0 : decide (x6_2 ≤ (wrap64 ((wrap64 (4 * x5_1)) - 2))) = false := decide_eq_false c22
            clear c22
            have H' := am_ H
            clear H
            go_wp2
            go_roundg kj9
            case measure => have := HK1.out; have := HK2.out; have := HJ9.out; omega
            case rel => exact ⟨(wrap64 (x6_2 + 1)), (x103000_9), (x103001_9), tc7_, H', ⟨by have := HK1.out; have := HK2.out; have := HJ9.out; omega⟩, ⟨by repeat (first | (with_reducible first | exact HI102.out | apply IsS90.alloc | apply IsS90.drewN | apply IsS90.drew | apply IsS90.set_0 | apply IsS90.set_1) | exact HI102.out)⟩, ⟨by repeat (first | (with_reducible first | exact HB.out | apply below_alloc | apply pw_below_drewN | apply below_drew1 | refine below_set ?_ (IsS90.ge HI102.out)) | exact HB.out)⟩⟩
       ·rw [if_neg c8] at H
        have c8b0 : decide (x6_2 ≤ (wrap64 ((wrap64 (6 * x5_1)) - 2))) = false := decide_eq_false c8
        clear c8
        have H' := am_ H
        clear H
        go_wp2
        go_roundg k2
        case measure => have := HK1.out; have := HK2.out; omega
        case rel => exact ⟨(wrap64 (x5_1 + 1)), (x103000_2), (x103001_2), tc7_, H', ⟨by have := HK1.out; have := HK2.out; omega⟩, ⟨by repeat (first | (with_reducible first | exact HI102.out | apply IsS90.alloc | apply IsS90.drewN | apply IsS90.drew | apply IsS90.set_0 | apply IsS90.set_1) | exact HI102.out)⟩, ⟨by repeat (first | (with_reducible first | exact HB.out | apply below_alloc | apply pw_below_drewN | apply below_drew1 | refine below_set ?_ (IsS90.ge HI102.out)) | exact HB.out)⟩⟩
    ·rw [if_neg c5] at H
     have c5b0 : decide (x5_1 ≤ a0) = false := decide_eq_false c5
     clear c5
     simp only [Option.some.injEq, Prod.mk.injEq] at H
     obtain ⟨rfl, rfl⟩ := H
     obtain ⟨HGz25, hgz25⟩ := HI102.out
     have hcz25_0 := cellS90_0 HGz25
     have hcz25_1 := cellS90_1 HGz25
     have hfz25_0 := blk_frozen HGz25 0
     have hfz25_1 := blk_frozen HGz25 1
     clear HGz25 hgz25
     go_wp2
     go_ret2
     exact ⟨by first | rfl | (simp [errW_none, errW_some] <;> rfl) | (simp [*, errW_none, errW_some] <;> rfl), by repeat (first | (with_reducible first | exact HB.out | apply below_alloc | apply pw_below_drewN | apply below_drew1 | refine below_set ?_ (IsS90.ge HI102.out)) | exact HB.out)⟩
 ·replace c3 := Bool.eq_false_iff.mpr c3
  subst c3
  have H1 : (some (0, false)) = some (r1, r2) := by rw [if_neg (show ¬ (false = true) by decide)] at H; exact H
  clear H
  have H := H1
  clear H1
  simp only [Option.some.injEq, Prod.mk.injEq] at H
  obtain ⟨rfl, rfl⟩ := H
  go_enter Try.func57, Try.ntmps57
  go_wp2_with (first | ((with_reducible refine gate_callee (f := 112) rfl ?_); refine goesL_ (some 8) rfl rfl Try.func112 (by kernel_rfl) rfl #[.int .i64 a0, .int .i64 0, .int .i64 5] rfl tc1_ ?_; (with_reducible refine (spec_l1In.calls a0 0 5 false _ A2.out).mono ?_); rintro e w' ⟨rfl, ⟨nd, rfl⟩⟩; refine ⟨_, rfl, ?_⟩))
  go_ret2
  exact ⟨by first | rfl | (simp [errW_none, errW_some] <;> rfl) | (simp [*, errW_none, errW_some] <;> rfl), by repeat (first | (with_reducible first | exact HB.out | apply below_alloc | apply pw_below_drewN | apply below_drew1) | exact HB.out)⟩

/-! ### spec_DrawCountUpToAll: function 58 -/
def spec_DrawCountUpToAll.f (l0 : List Int) : Option (Int) := (spec_l1Cur_side.f l0 0 0 5).bind fun bt102 => (some bt102.1)
set_option maxHeartbeats 8000000 in
set_option maxRecDepth 100000 in
theorem spec_DrawCountUpToAll.calls (A0 : Option Addr) (c0 : Nat) (l0 : List Int) (r : Int) (w : World) (hr0 : Kd.C (Kd.int .u8) w A0 l0.length l0) (hc0 : l0.length ≤ c0) (h : spec_DrawCountUpToAll.f l0 = some r) :
  Calls Try.prog 58 #[.slice A0 l0.length c0] w fun e w' => e = .returned (.int .i64 r) ∧ Below w.heap.size w w' := by
 have hu74 := Try.underlying74
 have HR0 := am_ hr0
 have HC0 := am_ hc0
 clear hr0 hc0
 have HB := am_ (Below.refl w.heap.size w)
 have H : ((spec_l1Cur_side.f l0 0 0 5).bind fun bt102 => (some bt102.1)) = some r := h
 clear h
 replace H := Option.bind_eq_some_iff.mp H
 obtain ⟨⟨t102, t103, t104⟩, A20, H⟩ := H
 replace H : (some t102) = some r := H
 have A2 := am_ A20
 clear A20
 obtain rfl := Option.some.inj H
 go_enter Try.func58, Try.ntmps58
 go_wp2_with (first | ((with_reducible refine gate_dst (N := 6) rfl ?_); refine box_event ?hg (N := 6) ?hd (cs := #[.slice A0 l0.length c0, .int .i64 0, .int .u64 0]) (t := 74) ?hr ?_; (case hd => rfl); (case hg => rfl); (case hr => exact tc19_); intro gb101 hg w3 hbox hb; have n0_ := am_ (below_step tc0_ hb); have n1_ := am_ ((by rw [hg]; exact (below_size tc0_) : w.heap.size ≤ gb101)); have n2_ := am_ ((by rw [hg]; exact (below_size tc0_) : w.heap.size ≤ gb101)); have n3_ := am_ ((show IsS74 w w3 gb101 l0 0 0 from ⟨A0, c0, hbox, (by rw [hg]; exact (below_size tc0_) : w.heap.size ≤ gb101), HR0.out⟩)); clear HB; have HB := n0_; have GW101 := n1_; have GE101 := n2_; have HI101 := n3_; clear n0_ n1_ n2_ n3_; clear hb hbox hg) | ((with_reducible refine gate_callee (f := 105) rfl ?_); refine goesL_ (some 8) rfl rfl Try.func105 (by kernel_rfl) rfl #[.pointer (some ⟨gb101, 0, none⟩), .int .i64 5] rfl tc1_ ?_; (with_reducible refine (spec_l1Cur_side.calls gb101 l0 0 0 5 t102 t103 t104 w _ ?side1 ?side2 A2.out).mono ?_); (case side1 => exact tc17_); (case side2 => exact tc18_); rintro e w4 ⟨rfl, hi, hb, hk⟩; refine ⟨_, rfl, ?_⟩; have n0_ := am_ (hb); have n1_ := am_ (hi); clear HB HI101; have HB := n0_; have HI101 := n1_; clear n0_ n1_; (try clear hb hk hi)))
 go_ret
 exact ⟨by first | rfl | (simp [errW_none, errW_some] <;> rfl) | (simp [*, errW_none, errW_some] <;> rfl), by repeat (first | (with_reducible first | exact HB.out | apply below_alloc | apply pw_below_drewN | apply below_drew1 | refine below_set ?_ (IsS74.ge HI101.out)) | exact HB.out)⟩

/-! ### slices_MinFunc_int_int: function 127 (by hand) -/
def slices_MinFunc_int_int.l0 : Nat → List (List (List Int)) → (List (List Int) → List (List Int) → Option Int) → List (List Int) → Int → Option (List (List Int))
  | 0, _, _, _, _ => none
  | k + 1, l0, a1, m, i => if i < (l0.length : Int) then (if 0 ≤ i then ((a1 (l0.getD i.toNat []) m).bind fun t => (if t < 0 then slices_MinFunc_int_int.l0 k l0 a1 (l0.getD i.toNat []) (i + 1) else slices_MinFunc_int_int.l0 k l0 a1 m (i + 1))) else none) else some m
def slices_MinFunc_int_int.f (k : Nat) (l0 : List (List (List Int))) (a1 : List (List Int) → List (List Int) → Option Int) : Option (List (List Int)) := if 0 < l0.length then slices_MinFunc_int_int.l0 k l0 a1 (l0.getD 0 []) 1 else none
set_option maxHeartbeats 4000000 in
set_option maxRecDepth 100000 in
theorem slices_MinFunc_int_int.calls (k : Nat) (P0_ : Nat → Prop) (A0 : Option Addr) (c0 : Nat) (l0 : List (List (List Int))) (g1 : Nat) (b1 : Array Value) (a1 : List (List Int) → List (List Int) → Option Int) (r : List (List Int)) (w : World)
    (hs0 : Kd.V (Kd.slice 35 (Kd.slice 3 (Kd.int .i64))) 24 w w.heap.size (fun k_ => P0_ k_) (.slice A0 l0.length c0) l0) (hf1 : Fn2 (Kd.slice 35 (Kd.slice 3 (Kd.int .i64))) (Kd.slice 35 (Kd.slice 3 (Kd.int .i64))) (Value.int .i64) Try.prog g1 b1 a1 w) (h : slices_MinFunc_int_int.f k l0 a1 = some r) :
    Calls Try.prog 127 #[.slice A0 l0.length c0, .func (.func g1) #[] b1] w fun e w' => ∃ v0_ : Value, e = .returned v0_ ∧ Kd.V (Kd.slice 3 (Kd.int .i64)) 35 w' w.heap.size (fun k_ => (P0_ k_ ∨ w.heap.size ≤ k_)) v0_ r ∧ Below w.heap.size w w' := by
  have HV := am_ hs0
  have HF := am_ hf1.cl
  have eg := hf1.eg
  have hz0 : l0.length ≤ 9223372036854775807 := (Kd.V_reads' hs0).2.2.2.1
  clear hs0 hf1
  unfold slices_MinFunc_int_int.f at h
  by_cases c1 : 0 < l0.length
  · rw [if_pos c1] at h
    have HL := am_ h
    clear h
    have c1a : decide ((l0.length : Int) < 1) = false := decide_eq_false (by omega)
    have c1b : decide (l0.length < 1) = false := decide_eq_false (by omega)
    obtain ⟨ad, Aw, cw, eA, hxw, hVw⟩ := V_row (b' := w.heap.size) HV.out 0 (by omega) (by omega)
    subst eA
    rw [show (0 : Int).toNat = 0 from rfl] at hxw hVw
    have hxw2 := hxw
    rw [show ad.add 0 = ad by cases ad; rfl] at hxw2
    obtain ⟨m0, hm0⟩ : ∃ x, l0.getD 0 [] = x := ⟨_, rfl⟩
    rw [hm0] at hxw hxw2 hVw HL
    clear hm0
    have HM := am_ hVw
    clear hVw
    go_enter Try.func127, Try.ntmps127
    go_wp2
    go_loopg [5, 6] k (fun kq v5 v6 w' => ∃ (m : List (List Int)) (i : Int), v6 = .int .i64 i ∧ Aside0 (slices_MinFunc_int_int.l0 kq l0 a1 m i = some r) ∧ Aside0 (kq ≤ k) ∧ Aside0 (Kd.V (Kd.slice 3 (Kd.int .i64)) 35 w' w.heap.size (fun k_ => P0_ k_) v5 m) ∧ Aside0 (Below w.heap.size w w'))
    case atStart => exact ⟨m0, 1, rfl, HL, ⟨Nat.le_refl _⟩, HM, ⟨Below.refl _ _⟩⟩
    case round =>
      clear HL HM hxw hxw2
      obtain ⟨wo, rfl⟩ : ∃ w_ : World, w_ = wr := ⟨_, rfl⟩
      obtain ⟨m, i, rfl, HL, HK, HM, HB⟩ := hrel
      cases gk with
      | zero => exact absurd HL.out (by simp [slices_MinFunc_int_int.l0])
      | succ k1 =>
        have H := HL.out
        clear HL
        simp only [slices_MinFunc_int_int.l0] at H
        obtain ⟨A5, c5, e5⟩ := Kd.V_slice HM.out
        subst e5
        by_cases c3 : i < (l0.length : Int)
        · rw [if_pos c3] at H
          by_cases c4 : 0 ≤ i
          · rw [if_pos c4] at H
            obtain ⟨t, ht, H⟩ := Option.bind_eq_some_iff.mp H
            obtain ⟨ad2, Ax, cx, eA, hxx, hVx⟩ := V_row (b' := w.heap.size) (Kd.V_below HV.out HB.out) i c4 c3
            cases eA
            obtain ⟨x, hx0⟩ : ∃ x, l0.getD i.toNat [] = x := ⟨_, rfl⟩
            rw [hx0] at hxx hVx ht H
            clear hx0
            have HX := am_ hVx
            have HT := am_ ht
            clear hVx ht
            have hd3 : decide (i < (l0.length : Int)) = true := decide_eq_true c3
            have hd4 : decide (0 ≤ i) = true := decide_eq_true c4
            by_cases c6 : t < 0
            · rw [if_pos c6] at H
              have HL := am_ H
              have hd6 : decide (t < 0) = true := decide_eq_true c6
              go_wp2_with (go_at_fn g1; (refine (HF.out _ HB.out x _ (K_slice (Kd.V_reads' HX.out).2.1 (Kd.V_reads' HX.out).2.2) m _ (K_slice (Kd.V_reads' HM.out).2.1 (Kd.V_reads' HM.out).2.2) t HT.out).mono ?_); rintro e w2 ⟨rfl, hb⟩; have HB2 := am_ hb; clear hb; have hxx2 := cell_of_below HB2.out hxx)
              go_roundg k1
              case measure => have := HK.out; omega
              case rel => exact ⟨x, i + 1, by go_num, HL, ⟨by have := HK.out; omega⟩, ⟨Kd.V_below HX.out HB2.out⟩, ⟨below_step HB.out HB2.out⟩⟩
            · rw [if_neg c6] at H
              have HL := am_ H
              have hd6 : decide (t < 0) = false := decide_eq_false c6
              go_wp2_with (go_at_fn g1; (refine (HF.out _ HB.out x _ (K_slice (Kd.V_reads' HX.out).2.1 (Kd.V_reads' HX.out).2.2) m _ (K_slice (Kd.V_reads' HM.out).2.1 (Kd.V_reads' HM.out).2.2) t HT.out).mono ?_); rintro e w2 ⟨rfl, hb⟩; have HB2 := am_ hb; clear hb)
              go_roundg k1
              case measure => have := HK.out; omega
              case rel => exact ⟨m, i + 1, by go_num, HL, ⟨by have := HK.out; omega⟩, ⟨Kd.V_below HM.out HB2.out⟩, ⟨below_step HB.out HB2.out⟩⟩
          · rw [if_neg c4] at H
            exact absurd H (by simp)
        · rw [if_neg c3] at H
          have hd3 : decide (i < (l0.length : Int)) = false := decide_eq_false c3
          obtain rfl := Option.some.inj H
          clear H
          go_wp2
          go_ret
          exact ⟨_, rfl, Kd.V_mono HM.out (fun _ h => .inl h), HB.out⟩
  · rw [if_neg c1] at h
    exact absurd h (by simp)

/-! ### impl_CountUpToAll_1: function 126 -/
def impl_CountUpToAll_1.f (k : Nat) (l0 : List (List Int)) : Option (Int) := (impl_eight.f k l0).bind fun t101 => ((slices_MinFunc_int_int.f k t101 (fun x0_ x1_ => impl_compareTables.f k x0_ x1_)).bind fun t104 => ((impl_compareTables.f k t104 l0).bind fun t107 => ((impl_bit.f (t107 == 0)).bind fun t108 => (some t108))))
set_option maxHeartbeats 8000000 in
set_option maxRecDepth 100000 in
theorem impl_CountUpToAll_1.calls (k : Nat) (A0 : Option Addr) (c0 : Nat) (l0 : List (List Int)) (r : Int) (w : World) (hr0 : Kd.C (Kd.slice 3 (Kd.int .i64)) w A0 l0.length l0) (hc0 : l0.length ≤ c0) (h : impl_CountUpToAll_1.f k l0 = some r) :
  Calls Try.prog 126 #[.slice A0 l0.length c0] w fun e w' => e = .returned (.int .i64 r) ∧ Below w.heap.size w w' := by
 have HR0 := am_ hr0
 have HC0 := am_ hc0
 clear hr0 hc0
 have HB := am_ (Below.refl w.heap.size w)
 have H : ((impl_eight.f k l0).bind fun t101 => ((slices_MinFunc_int_int.f k t101 (fun x0_ x1_ => impl_compareTables.f k x0_ x1_)).bind fun t104 => ((impl_compareTables.f k t104 l0).bind fun t107 => ((impl_bit.f (t107 == 0)).bind fun t108 => (some t108))))) = some r := h
 clear h
 replace H := Option.bind_eq_some_iff.mp H
 obtain ⟨t101, A20, H⟩ := H
 replace H : ((slices_MinFunc_int_int.f k t101 (fun x0_ x1_ => impl_compareTables.f k x0_ x1_)).bind fun t104 => ((impl_compareTables.f k t104 l0).bind fun t107 => ((impl_bit.f (t107 == 0)).bind fun t108 => (some t108)))) = some r := H
 have A2 := am_ A20
 clear A20
 replace H := Option.bind_eq_some_iff.mp H
 obtain ⟨t104, A30, H⟩ := H
 replace H : ((impl_compareTables.f k t104 l0).bind fun t107 => ((impl_bit.f (t107 == 0)).bind fun t108 => (some t108))) = some r := H
 have A3 := am_ A30
 clear A30
 replace H := Option.bind_eq_some_iff.mp H
 obtain ⟨t107, A40, H⟩ := H
 replace H : ((impl_bit.f (t107 == 0)).bind fun t108 => (some t108)) = some r := H
 have A4 := am_ A40
 clear A40
 replace H := Option.bind_eq_some_iff.mp H
 obtain ⟨t108, A50, H⟩ := H
 replace H : (some t108) = some r := H
 have A5 := am_ A50
 clear A50
 obtain rfl := Option.some.inj H
 go_enter Try.func126, Try.ntmps126
 go_wp2_with (first | ((with_reducible refine gate_callee (f := 128) rfl ?_); refine goesL_ (some 4) rfl rfl Try.func128 (by kernel_rfl) rfl #[.slice A0 l0.length c0] rfl tc1_ ?_; (with_reducible refine (impl_eight.calls k (fun k_ => k_ < w.heap.size) _ _ l0 t101 _ ?side1 A2.out).mono ?_); (case side1 => exact tc25_); rintro e w6 ⟨v102, rfl, ho0, hb⟩; refine ⟨_, rfl, ?_⟩; have n0_ := am_ (Kd.N_lower (Kd.N_mono (ok' := fun k_ => True) ho0 (fun k_ hk_ => trivial)) (below_size tc0_)); have n1_ := am_ (below_step tc0_ hb); clear HB; have HO103 := n0_; have HB := n1_; clear n0_ n1_; (try clear hb ho0); obtain ⟨Ao7, co7, eo7⟩ := Kd.N_slice HO103.out; subst eo7) | ((with_reducible refine gate_callee (f := 127) rfl ?_); refine goesL_ (some 5) rfl rfl Try.func127 (by kernel_rfl) rfl #[.slice Ao7 t101.length co7, .func (.func 74) #[] #[]] rfl tc1_ ?_; (with_reducible refine (slices_MinFunc_int_int.calls k (fun k_ => True) _ _ t101 _ _ (fun x0_ x1_ => impl_compareTables.f k x0_ x1_) t104 _ ?side1 ?side2 A3.out).mono ?_); (case side1 => exact Kd.N_V (HO103.out)); (case side2 => refine ⟨enters_of Try.func74 (by kernel_rfl) rfl, fun W_ hW_ x0_ v0_ hK0_ x1_ v1_ hK1_ r_ hr_ => ?_⟩; obtain ⟨A0_, c0_, e0_, hl0_, hC0_⟩ := hK0_; cases e0_; obtain ⟨A1_, c1_, e1_, hl1_, hC1_⟩ := hK1_; cases e1_; refine (impl_compareTables.calls k A0_ c0_ x0_ A1_ c1_ x1_ r_ W_ hC0_ hl0_ hC1_ hl1_ hr_).mono ?_; exact fun _ _ h_ => ⟨h_.1, h_.2⟩); rintro e w8 ⟨v105, rfl, ho0, hb⟩; refine ⟨_, rfl, ?_⟩; have n0_ := am_ (Kd.N_below tc63_ hb); have n1_ := am_ (Kd.V_lower (Kd.V_mono (ok' := fun k_ => True) ho0 (fun k_ hk_ => trivial)) (below_size tc0_)); have n2_ := am_ (below_step tc0_ hb); clear HO103 HB; have HO103 := n0_; have HO106 := n1_; have HB := n2_; clear n0_ n1_ n2_; (try clear hb ho0); obtain ⟨Ao9, co9, eo9⟩ := Kd.V_slice HO106.out; subst eo9) | ((with_reducible refine gate_callee (f := 74) rfl ?_); refine goesL_ (some 7) rfl rfl Try.func74 (by kernel_rfl) rfl #[.slice Ao9 t104.length co9, .slice A0 l0.length c0] rfl tc1_ ?_; (with_reducible refine (impl_compareTables.calls k _ _ t104 _ _ l0 t107 _ ?side1 ?side2 ?side3 ?side4 A4.out).mono ?_); (case side1 => repeat (first | exact (Kd.V_reads' HO106.out).2.2 | (with_reducible refine Kd.C_alloc ?_ _) | (with_reducible refine Kd.C_drewN ?_ _) | (with_reducible refine Kd.C_drew ?_))); (case side2 => exact (Kd.V_reads' HO106.out).2.1); (case side3 => exact tc12_); (case side4 => exact HC0.out); rintro e w10 ⟨rfl, hb⟩; refine ⟨_, rfl, ?_⟩; have n0_ := am_ (Kd.N_below tc63_ hb); have n1_ := am_ (Kd.V_below (by (with_reducible repeat (first | apply Kd.V_alloc | apply Kd.V_drewN | apply Kd.V_drew)); exact HO106.out) hb); have n2_ := am_ (below_step tc0_ hb); clear HO103 HO106 HB; have HO103 := n0_; have HO106 := n1_; have HB := n2_; clear n0_ n1_ n2_; (try clear hb)) | ((with_reducible refine gate_callee (f := 82) rfl ?_); refine goesL_ (some 9) rfl rfl Try.func82 (by kernel_rfl) rfl #[.bool (t107 == 0)] rfl tc1_ ?_; (with_reducible refine (impl_bit.calls (t107 == 0) t108 _ A5.out).mono ?_); rintro e w' ⟨rfl, ⟨nd, rfl⟩⟩; refine ⟨_, rfl, ?_⟩))
 go_ret
 exact ⟨by first | rfl | (simp [errW_none, errW_some] <;> rfl) | (simp [*, errW_none, errW_some] <;> rfl), by repeat (first | (with_reducible first | exact HB.out | apply below_alloc | apply pw_below_drewN | apply below_drew1) | exact HB.out)⟩

/-! ### impl_CountUpToAll: function 59 -/
def impl_CountUpToAll.f (k : Nat) (a0 : Int) : Option (Int × Bool) := (impl_within.f a0 1 5).bind fun t101 => (if t101 = true then ((impl_total.f k a0 (fun x0_ => impl_CountUpToAll_1.f k x0_)).bind fun t102 => (some (t102, true))) else (some (0, false)))
set_option maxHeartbeats 8000000 in
set_option maxRecDepth 100000 in
theorem impl_CountUpToAll.calls (k : Nat) (a0 : Int) (r1 : Int) (r2 : Bool) (w : World) (h : impl_CountUpToAll.f k a0 = some (r1, r2)) :
  Calls Try.prog 59 #[.int .i64 a0] w fun e w' => e = .returned (.tuple #[.int .i64 r1, .bool r2]) ∧ Below w.heap.size w w' := by
 have HB := am_ (Below.refl w.heap.size w)
 have H : ((impl_within.f a0 1 5).bind fun t101 => (if t101 = true then ((impl_total.f k a0 (fun x0_ => impl_CountUpToAll_1.f k x0_)).bind fun t102 => (some (t102, true))) else (some (0, false)))) = some (r1, r2) := h
 clear h
 replace H := Option.bind_eq_some_iff.mp H
 obtain ⟨t101, A20, H⟩ := H
 replace H : (if t101 = true then ((impl_total.f k a0 (fun x0_ => impl_CountUpToAll_1.f k x0_)).bind fun t102 => (some (t102, true))) else (some (0, false))) = some (r1, r2) := H
 have A2 := am_ A20
 clear A20
 by_cases c3 : t101 = true
 ·subst c3
  have H1 : ((impl_total.f k a0 (fun x0_ => impl_CountUpToAll_1.f k x0_)).bind fun t102 => (some (t102, true))) = some (r1, r2) := by rw [if_pos rfl] at H; exact H
  clear H
  have H := H1
  clear H1
  replace H := Option.bind_eq_some_iff.mp H
  obtain ⟨t102, A40, H⟩ := H
  replace H : (some (t102, true)) = some (r1, r2) := H
  have A4 := am_ A40
  clear A40
  simp only [Option.some.injEq, Prod.mk.injEq] at H
  obtain ⟨rfl, rfl⟩ := H
  go_enter Try.func59, Try.ntmps59
  go_wp2_with (first | ((with_reducible refine gate_callee (f := 107) rfl ?_); refine goesL_ (some 5) rfl rfl Try.func107 (by kernel_rfl) rfl #[.int .i64 a0, .int .i64 1, .int .i64 5] rfl tc1_ ?_; (with_reducible refine (impl_within.calls a0 1 5 true _ A2.out).mono ?_); rintro e w' ⟨rfl, ⟨nd, rfl⟩⟩; refine ⟨_, rfl, ?_⟩) | ((with_reducible refine gate_callee (f := 118) rfl ?_); refine goesL_ (some 8) rfl rfl Try.func118 (by kernel_rfl) rfl #[.int .i64 a0, .func (.func 126) #[] #[]] rfl tc1_ ?_; (with_reducible refine (impl_total.calls k a0 _ _ (fun x0_ => impl_CountUpToAll_1.f k x0_) t102 _ ?side1 A4.out).mono ?_); (case side1 => refine ⟨enters_of Try.func126 (by kernel_rfl) rfl, fun W_ hW_ x0_ v0_ hK0_ r_ hr_ => ?_⟩; obtain ⟨A0_, c0_, e0_, hl0_, hC0_⟩ := hK0_; cases e0_; refine (impl_CountUpToAll_1.calls k A0_ c0_ x0_ r_ W_ hC0_ hl0_ hr_).mono ?_; exact fun _ _ h_ => ⟨h_.1, h_.2⟩); rintro e w5 ⟨rfl, hb⟩; refine ⟨_, rfl, ?_⟩; have n0_ := am_ (below_step tc0_ hb); clear HB; have HB := n0_; clear n0_; (try clear hb)))
  go_ret2
  exact ⟨by first | rfl | (simp [errW_none, errW_some] <;> rfl) | (simp [*, errW_none, errW_some] <;> rfl), by repeat (first | (with_reducible first | exact HB.out | apply below_alloc | apply pw_below_drewN | apply below_drew1) | exact HB.out)⟩
 ·replace c3 := Bool.eq_false_iff.mpr c3
  subst c3
  have H1 : (some (0, false)) = some (r1, r2) := by rw [if_neg (show ¬ (false = true) by decide)] at H; exact H
  clear H
  have H := H1
  clear H1
  simp only [Option.some.injEq, Prod.mk.injEq] at H
  obtain ⟨rfl, rfl⟩ := H
  go_enter Try.func59, Try.ntmps59
  go_wp2_with (first | ((with_reducible refine gate_callee (f := 107) rfl ?_); refine goesL_ (some 5) rfl rfl Try.func107 (by kernel_rfl) rfl #[.int .i64 a0, .int .i64 1, .int .i64 5] rfl tc1_ ?_; (with_reducible refine (impl_within.calls a0 1 5 false _ A2.out).mono ?_); rintro e w' ⟨rfl, ⟨nd, rfl⟩⟩; refine ⟨_, rfl, ?_⟩))
  go_ret2
  exact ⟨by first | rfl | (simp [errW_none, errW_some] <;> rfl) | (simp [*, errW_none, errW_some] <;> rfl), by repeat (first | (with_reducible first | exact HB.out | apply below_alloc | apply pw_below_drewN | apply below_drew1) | exact HB.out)⟩

/-! ### spec_smOwn: function 130 -/
def spec_smOwn.l0 : Nat → List (List Int) → List Int → List (List (List Int)) → Int → Int → Option (List Int)
 | 0, _, _, _, _, _ => none
 | k + 1, x0, x3, x7, x8, x9 => if x9 < x8 then (if 0 ≤ x9 then (if x9 < (x7.length : Int) then ((spec_weSame.f k (rd_L4 x7 x9) x0).bind fun t105 => (if t105 = true then (if x3.length < 17592186044416 then (spec_smOwn.l0 k x0 (x3 ++ [x9]) x7 x8 (wrap64 (x9 + 1))) else (none)) else (spec_smOwn.l0 k x0 x3 x7 x8 (wrap64 (x9 + 1))))) else (none)) else (none)) else (some x3)
def spec_smOwn.f (k : Nat) (l0 : List (List Int)) : Option (List Int) := (spec_smSymmetries.f k l0).bind fun t101 => (spec_smOwn.l0 k l0 ([] : List Int) t101 (t101.length : Int) 0)
set_option maxHeartbeats 8000000 in
set_option maxRecDepth 100000 in
theorem spec_smOwn.calls (k : Nat) (A0 : Option Addr) (c0 : Nat) (l0 : List (List Int)) (r : List Int) (w : World) (hr0 : Kd.C (Kd.slice 3 (Kd.int .i64)) w A0 l0.length l0) (hc0 : l0.length ≤ c0) (h : spec_smOwn.f k l0 = some r) :
  Calls Try.prog 130 #[.slice A0 l0.length c0] w fun e w' => ∃ v0_ : Value, e = .returned (v0_) ∧ Kd.R (Kd.int .i64) 3 w' w.heap.size (fun _ => True) v0_ r ∧ Below w.heap.size w w' := by
 have HR0 := am_ hr0
 have HC0 := am_ hc0
 clear hr0 hc0
 have HB := am_ (Below.refl w.heap.size w)
 have H : ((spec_smSymmetries.f k l0).bind fun t101 => (spec_smOwn.l0 k l0 ([] : List Int) t101 (t101.length : Int) 0)) = some r := h
 clear h
 replace H := Option.bind_eq_some_iff.mp H
 obtain ⟨t101, A20, H⟩ := H
 replace H : (spec_smOwn.l0 k l0 ([] : List Int) t101 (t101.length : Int) 0) = some r := H
 have A2 := am_ A20
 clear A20
 have H' := am_ H
 clear H
 go_enter Try.func130, Try.ntmps130
 go_wp2_with (first | ((with_reducible refine gate_callee (f := 183) rfl ?_); refine goesL_ (some 7) rfl rfl Try.func183 (by kernel_rfl) rfl #[.slice A0 l0.length c0] rfl tc1_ ?_; (with_reducible refine (spec_smSymmetries.calls k (fun k_ => k_ < w.heap.size) _ _ l0 t101 _ ?side1 A2.out).mono ?_); (case side1 => exact tc25_); rintro e w3 ⟨v102, rfl, ho0, hb⟩; refine ⟨_, rfl, ?_⟩; have n0_ := am_ (Kd.N_lower (Kd.N_mono (ok' := fun k_ => True) ho0 (fun k_ hk_ => trivial)) (below_size tc0_)); have n1_ := am_ (below_step tc0_ hb); clear HB; have HO103 := n0_; have HB := n1_; clear n0_ n1_; (try clear hb ho0); obtain ⟨Ao4, co4, eo4⟩ := Kd.N_slice HO103.out; subst eo4))
 go_loopg [3, 9] k (fun kq v3 v9 w' => ∃ (x3_1 : List Int) (x9_1 : Int), v9 = .int .i64 x9_1 ∧ Aside0 (spec_smOwn.l0 kq l0 x3_1 t101 (t101.length : Int) x9_1 = some r) ∧ Aside0 (kq ≤ k) ∧ Aside0 (Kd.R (Kd.int .i64) 3 w' w.heap.size (fun _ => True) v3 x3_1) ∧ Aside0 (Kd.N (Kd.slice 35 (Kd.slice 3 (Kd.int .i64))) 24 w' w.heap.size (fun k_ => some k_ ≠ (v3 : Value).ownBlock) (.slice Ao4 t101.length co4) t101) ∧ Aside0 (Below w.heap.size w w'))
 case atStart => exact ⟨(([] : List Int)), (0), tc7_, H', ⟨Nat.le_refl _⟩, ⟨by first | exact Kd.R_nil _ _ _ _ _ | exact Kd.N_nil _ _ _ _ _ | exact Kd.V_nil _ _ _ _ _ | exact Kd.Q_nil _ _ _ _ _ | exact Kd.S_nil _ _ _ _ _⟩, ⟨by (with_reducible repeat (first | apply Kd.N_alloc | apply Kd.N_drewN | apply Kd.N_drew)); exact Kd.N_mono HO103.out (fun _ hk => (by simp [Value.ownBlock]))⟩, ⟨by repeat (first | (with_reducible first | exact HB.out | apply below_alloc | apply pw_below_drewN | apply below_drew1) | exact HB.out)⟩⟩
 case round =>
  clear H'
  try clear c1
  try clear p2
  obtain ⟨x3_1, x9_1, rfl, HA, HK1, HO_3, HO_7, HB⟩ := hrel
  cases gk with
  | zero => exact absurd HA.out (by simp [spec_smOwn.l0])
  | succ k1 =>
   have H := HA.out
   clear HA
   simp only [spec_smOwn.l0] at H
   by_cases c5 : x9_1 < (t101.length : Int)
   ·rw [if_pos c5] at H
    have c5b0 : decide (x9_1 < (t101.length : Int)) = true := decide_eq_true c5
    clear c5
    by_cases c6 : 0 ≤ x9_1
    ·rw [if_pos c6] at H
     have c6b0 : decide (0 ≤ x9_1) = true := decide_eq_true c6
     clear c6
     by_cases c7 : x9_1 < (t101.length : Int)
     ·rw [if_pos c7] at H
      have c7b0 : decide (x9_1 < (t101.length : Int)) = true := decide_eq_true c7
      clear c7
      replace H := Option.bind_eq_some_iff.mp H
      obtain ⟨t105, A80, H⟩ := H
      replace H : (if t105 = true then (if x3_1.length < 17592186044416 then (spec_smOwn.l0 k1 l0 (x3_1 ++ [x9_1]) t101 (t101.length : Int) (wrap64 (x9_1 + 1))) else (none)) else (spec_smOwn.l0 k1 l0 x3_1 t101 (t101.length : Int) (wrap64 (x9_1 + 1)))) = some r := H
      have A8 := am_ A80
      clear A80
      by_cases c9 : t105 = true
      ·subst c9
       have H1 : (if x3_1.length < 17592186044416 then (spec_smOwn.l0 k1 l0 (x3_1 ++ [x9_1]) t101 (t101.length : Int) (wrap64 (x9_1 + 1))) else (none)) = some r := by rw [if_pos rfl] at H; exact H
       clear H
       have H := H1
       clear H1
       by_cases c10 : x3_1.length < 17592186044416
       ·rw [if_pos c10] at H
        have LMc10 := am_ c10
        clear c10
        obtain ⟨y106, hy106⟩ : ∃ y_ : List Int, y_ = (x3_1 ++ [x9_1]) := ⟨_, rfl⟩
        replace H : (spec_smOwn.l0 k1 l0 y106 t101 (t101.length : Int) (wrap64 (x9_1 + 1))) = some r := by first | (rw [hy106]; with_reducible exact H) | (have H2_ := (Option.bind_some _ _).symm.trans H; rw [hy106]; with_reducible exact H2_) | (have H2_ := (Option.bind_some _ _).symm.trans H; with_reducible exact H2_) | with_reducible exact H | (rw [hy106]; exact H) | exact H
        have Ny106 := am_ hy106
        clear hy106
        have H' := am_ H
        clear H
        have p104 : 0 ≤ (x9_1 : Int) := of_decide_eq_true tc3_
        have q104 : x9_1 < (t101.length : Int) := of_decide_eq_true tc3_
        obtain ⟨ad104, A104_0, c104_0, e104, hx104_0, hl104_0, hi104_0⟩ := at_L4 (Kd.N_reads' HO_7.out).2.2 x9_1 p104 q104
        cases e104
        obtain ⟨ce104, hce104, hMe104, hcc104⟩ := Kd.N_get HO_7.out [] x9_1 p104 (by first | exact q104 | exact of_decide_eq_true tc3_ | (have e_ := (Kd.N_reads' HO_7.out).1; omega))
        obtain ⟨ua104_0, uc104_0, rfl, ul104_0, ge104_0⟩ := Kd.FK_slice_open hMe104
        have hv104_0 := hcc104 0 _ rfl
        rw [Nat.add_zero, show ((Kd.slice 35 (Kd.slice 3 (Kd.int .i64)))).sz = 1 from rfl, Nat.mul_one] at hv104_0
        replace hv104_0 := Option.some.inj (hv104_0.symm.trans hx104_0)
        injection hv104_0 with hva_ hvn_ hvc_
        rw [hva_] at ge104_0
        rw [hvc_] at ul104_0
        have HL104_0 := am_ (show Kd.V (Kd.slice 3 (Kd.int .i64)) 35 _ w.heap.size _ _ (rd_L4 t101 x9_1) from Kd.V_mk ul104_0 ge104_0)
        clear hva_ hvn_ hvc_ ge104_0 ul104_0
        clear hcc104 hce104
        have HR104_0 := am_ hi104_0
        have HC104_0 := am_ hl104_0
        clear hi104_0 hl104_0
        replace p104 := eq_true p104
        replace q104 := eq_true q104
        go_wp2_with (first | ((with_reducible refine gate_callee (f := 184) rfl ?_); refine goesL_ (some 16) rfl rfl Try.func184 (by kernel_rfl) rfl #[.slice A104_0 (rd_L4 t101 x9_1).length c104_0, .slice A0 l0.length c0] rfl tc1_ ?_; (with_reducible refine (spec_weSame.calls k1 _ _ (rd_L4 t101 x9_1) _ _ l0 true _ ?side1 ?side2 ?side3 ?side4 A8.out).mono ?_); (case side1 => exact tc28_); (case side2 => exact HC104_0.out); (case side3 => exact tc12_); (case side4 => exact HC0.out); rintro e w' ⟨rfl, ⟨nd, rfl⟩⟩; refine ⟨_, rfl, ?_⟩) | ((with_reducible refine gate_builtin (b := .append) (xs := #[.tmp 17, .tmp 19]) rfl ?_); at_builtin; refine Kd.R_append (Kd.int .i64) (w0 := w) w.heap.size rfl (.tmp 17) (.tmp 19) 35 3 (.int .i64 0) 8 rfl Try.underlying35 info3 rfl (by decide) (by omega) u3 x3_1 x9_1 [.int .i64 x9_1] (fun _ => True) (fun _ => False) rfl rfl ?aP (fun _ hk => hk.elim) ?aF ?aO ?aB ?aS ?aL ?_; (case aP => exact rfl); (case aB => exact tc13_); (case aF => exact tc70_); (case aO => exact (by (with_reducible repeat (first | apply Kd.R_alloc | apply Kd.R_drewN | apply Kd.R_drew)); exact HO_3.out)); (case aS => exact tc16_); (case aL => have := LMc10.out; omega); intro v107 w11 ho hb hg hat; rw [← Ny106.out] at ho; have n0_ := am_ (Kd.N_afterv (ok := (fun _ => True)) (by (with_reducible repeat (first | apply Kd.N_alloc | apply Kd.N_drewN | apply Kd.N_drew)); exact Kd.N_mono HO_7.out (fun _ hk => ⟨trivial, hk⟩)) hg hat); have n1_ := am_ (Kd.V_afterv (ok := (fun k_ => some k_ ≠ (.slice (some ad104) t101.length co4 : Value).ownBlock)) (by (with_reducible repeat (first | apply Kd.V_alloc | apply Kd.V_drewN | apply Kd.V_drew)); exact Kd.V_mono HL104_0.out (fun _ hk => ⟨hk.2, hk.1⟩)) hg hat); have n2_ := am_ (hb); have n3_ := am_ (ho); clear HO_7 HL104_0; clear HB HO_3; have HO_7 := n0_; have HL104_0 := n1_; have HB := n2_; have HO108 := n3_; clear n0_ n1_ n2_ n3_; clear ho hb hg hat))
        go_roundg k1
        case measure => have := HK1.out; omega
        case rel => exact ⟨(y106), (wrap64 (x9_1 + 1)), tc7_, H', ⟨by have := HK1.out; omega⟩, ⟨by (with_reducible repeat (first | apply Kd.R_alloc | apply Kd.R_drewN | apply Kd.R_drew)); exact HO108.out⟩, ⟨by (with_reducible repeat (first | apply Kd.N_alloc | apply Kd.N_drewN | apply Kd.N_drew)); exact Kd.N_mono HO_7.out (fun _ hk => hk.2)⟩, ⟨by repeat (first | (with_reducible first | exact HB.out | apply below_alloc | apply pw_below_drewN | apply below_drew1) | exact HB.out)⟩⟩
       ·rw [if_neg c10] at H
        exact absurd H (by simp)
      ·replace c9 := Bool.eq_false_iff.mpr c9
       subst c9
       have H1 : (spec_smOwn.l0 k1 l0 x3_1 t101 (t101.length : Int) (wrap64 (x9_1 + 1))) = some r := by rw [if_neg (show ¬ (false = true) by decide)] at H; exact H
       clear H
       have H := H1
       clear H1
       have H' := am_ H
       clear H
       have p104 : 0 ≤ (x9_1 : Int) := of_decide_eq_true tc3_
       have q104 : x9_1 < (t101.length : Int) := of_decide_eq_true tc3_
       obtain ⟨ad104, A104_0, c104_0, e104, hx104_0, hl104_0, hi104_0⟩ := at_L4 (Kd.N_reads' HO_7.out).2.2 x9_1 p104 q104
       cases e104
       obtain ⟨ce104, hce104, hMe104, hcc104⟩ := Kd.N_get HO_7.out [] x9_1 p104 (by first | exact q104 | exact of_decide_eq_true tc3_ | (have e_ := (Kd.N_reads' HO_7.out).1; omega))
       obtain ⟨ua104_0, uc104_0, rfl, ul104_0, ge104_0⟩ := Kd.FK_slice_open hMe104
       have hv104_0 := hcc104 0 _ rfl
       rw [Nat.add_zero, show ((Kd.slice 35 (Kd.slice 3 (Kd.int .i64)))).sz = 1 from rfl, Nat.mul_one] at hv104_0
       replace hv104_0 := Option.some.inj (hv104_0.symm.trans hx104_0)
       injection hv104_0 with hva_ hvn_ hvc_
       rw [hva_] at ge104_0
       rw [hvc_] at ul104_0
       have HL104_0 := am_ (show Kd.V (Kd.slice 3 (Kd.int .i64)) 35 _ w.heap.size _ _ (rd_L4 t101 x9_1) from Kd.V_mk ul104_0 ge104_0)
       clear hva_ hvn_ hvc_ ge104_0 ul104_0
       clear hcc104 hce104
       have HR104_0 := am_ hi104_0
       have HC104_0 := am_ hl104_0
       clear hi104_0 hl104_0
       replace p104 := eq_true p104
       replace q104 := eq_true q104
       go_wp2_with (first | ((with_reducible refine gate_callee (f := 184) rfl ?_); refine goesL_ (some 16) rfl rfl Try.func184 (by kernel_rfl) rfl #[.slice A104_0 (rd_L4 t101 x9_1).length c104_0, .slice A0 l0.length c0] rfl tc1_ ?_; (with_reducible refine (spec_weSame.calls k1 _ _ (rd_L4 t101 x9_1) _ _ l0 false _ ?side1 ?side2 ?side3 ?side4 A8.out).mono ?_); (case side1 => exact tc28_); (case side2 => exact HC104_0.out); (case side3 => exact tc12_); (case side4 => exact HC0.out); rintro e w' ⟨rfl, ⟨nd, rfl⟩⟩; refine ⟨_, rfl, ?_⟩))
       go_roundg k1
       case measure => have := HK1.out; omega
       case rel => exact ⟨(x3_1), (wrap64 (x9_1 + 1)), tc7_, H', ⟨by have := HK1.out; omega⟩, ⟨by (with_reducible repeat (first | apply Kd.R_alloc | apply Kd.R_drewN | apply Kd.R_drew)); exact HO_3.out⟩, ⟨by (with_reducible repeat (first | apply Kd.N_alloc | apply Kd.N_drewN | apply Kd.N_drew)); exact HO_7.out⟩, ⟨by repeat (first | (with_reducible first | exact HB.out | apply below_alloc | apply pw_below_drewN | apply below_drew1) | exact HB.out)⟩⟩
     ·rw [if_neg c7] at H
      exact absurd H (by simp)
    ·rw [if_neg c6] at H
     exact absurd H (by simp)
   ·rw [if_neg c5] at H
    have c5b0 : decide (x9_1 < (t101.length : Int)) = false := decide_eq_false c5
    clear c5
    obtain rfl := Option.some.inj H
    go_wp2
    go_ret
    exact ⟨_, by first | rfl | (simp [errW_none, errW_some] <;> rfl) | (simp [*, errW_none, errW_some] <;> rfl), by (with_reducible repeat (first | apply Kd.R_alloc | apply Kd.R_drewN | apply Kd.R_drew)); exact HO_3.out, by repeat (first | (with_reducible first | exact HB.out | apply below_alloc | apply pw_below_drewN | apply below_drew1) | exact HB.out)⟩

/-! ### spec_CountUpToAll: function 60 -/
def spec_CountUpToAll.l0 : Nat → Int → List (List (List Int)) → Int → Int → Option (Int × Bool)
 | 0, _, _, _, _ => none
 | k + 1, x4, x11, x12, x13 => if x13 < x12 then (if 0 ≤ x13 then (if x13 < (x11.length : Int) then ((spec_smOwn.f k (rd_L4 x11 x13)).bind fun t106 => (spec_CountUpToAll.l0 k (wrap64 (x4 + (t106.length : Int))) x11 x12 (wrap64 (x13 + 1)))) else (none)) else (none)) else (some (wrap64 (Int.tdiv x4 8), true))
def spec_CountUpToAll.f (k : Nat) (a0 : Int) : Option (Int × Bool) := (spec_l1In.f a0 1 5).bind fun t101 => (if t101 = true then ((spec_weAll.f k a0).bind fun t102 => (spec_CountUpToAll.l0 k 0 t102 (t102.length : Int) 0)) else (some (0, false)))
set_option maxHeartbeats 8000000 in
set_option maxRecDepth 100000 in
theorem spec_CountUpToAll.calls (k : Nat) (a0 : Int) (r1 : Int) (r2 : Bool) (w : World) (h : spec_CountUpToAll.f k a0 = some (r1, r2)) :
  Calls Try.prog 60 #[.int .i64 a0] w fun e w' => e = .returned (.tuple #[.int .i64 r1, .bool r2]) ∧ Below w.heap.size w w' := by
 have HB := am_ (Below.refl w.heap.size w)
 have H : ((spec_l1In.f a0 1 5).bind fun t101 => (if t101 = true then ((spec_weAll.f k a0).bind fun t102 => (spec_CountUpToAll.l0 k 0 t102 (t102.length : Int) 0)) else (some (0, false)))) = some (r1, r2) := h
 clear h
 replace H := Option.bind_eq_some_iff.mp H
 obtain ⟨t101, A20, H⟩ := H
 replace H : (if t101 = true then ((spec_weAll.f k a0).bind fun t102 => (spec_CountUpToAll.l0 k 0 t102 (t102.length : Int) 0)) else (some (0, false))) = some (r1, r2) := H
 have A2 := am_ A20
 clear A20
 by_cases c3 : t101 = true
 ·subst c3
  have H1 : ((spec_weAll.f k a0).bind fun t102 => (spec_CountUpToAll.l0 k 0 t102 (t102.length : Int) 0)) = some (r1, r2) := by rw [if_pos rfl] at H; exact H
  clear H
  have H := H1
  clear H1
  replace H := Option.bind_eq_some_iff.mp H
  obtain ⟨t102, A40, H⟩ := H
  replace H : (spec_CountUpToAll.l0 k 0 t102 (t102.length : Int) 0) = some (r1, r2) := H
  have A4 := am_ A40
  clear A40
  have H' := am_ H
  clear H
  go_enter Try.func60, Try.ntmps60
  go_wp2_with (first | ((with_reducible refine gate_callee (f := 112) rfl ?_); refine goesL_ (some 8) rfl rfl Try.func112 (by kernel_rfl) rfl #[.int .i64 a0, .int .i64 1, .int .i64 5] rfl tc1_ ?_; (with_reducible refine (spec_l1In.calls a0 1 5 true _ A2.out).mono ?_); rintro e w' ⟨rfl, ⟨nd, rfl⟩⟩; refine ⟨_, rfl, ?_⟩) | ((with_reducible refine gate_callee (f := 129) rfl ?_); refine goesL_ (some 11) rfl rfl Try.func129 (by kernel_rfl) rfl #[.int .i64 a0] rfl tc1_ ?_; (with_reducible refine (spec_weAll.calls k a0 t102 _ A4.out).mono ?_); rintro e w5 ⟨v103, rfl, ho0, hb⟩; refine ⟨_, rfl, ?_⟩; have n0_ := am_ (Kd.N_lower (Kd.N_mono (ok' := fun k_ => True) ho0 (fun k_ hk_ => trivial)) (below_size tc0_)); have n1_ := am_ (below_step tc0_ hb); clear HB; have HO104 := n0_; have HB := n1_; clear n0_ n1_; (try clear hb ho0); obtain ⟨Ao6, co6, eo6⟩ := Kd.N_slice HO104.out; subst eo6))
  go_loopg [4, 13] k (fun kq v4 v13 w' => ∃ (x4_1 : Int) (x13_1 : Int), v4 = .int .i64 x4_1 ∧ v13 = .int .i64 x13_1 ∧ Aside0 (spec_CountUpToAll.l0 kq x4_1 t102 (t102.length : Int) x13_1 = some (r1, r2)) ∧ Aside0 (kq ≤ k) ∧ Aside0 (Kd.N (Kd.slice 35 (Kd.slice 3 (Kd.int .i64))) 24 w' w.heap.size (fun _ => True) (.slice Ao6 t102.length co6) t102) ∧ Aside0 (Below w.heap.size w w'))
  case atStart => exact ⟨(0), (0), tc7_, tc7_, H', ⟨Nat.le_refl _⟩, ⟨by (with_reducible repeat (first | apply Kd.N_alloc | apply Kd.N_drewN | apply Kd.N_drew)); exact HO104.out⟩, ⟨by repeat (first | (with_reducible first | exact HB.out | apply below_alloc | apply pw_below_drewN | apply below_drew1) | exact HB.out)⟩⟩
  case round =>
   clear H'
   try clear c1
   try clear p2
   try clear c3
   try clear c6
   obtain ⟨x4_1, x13_1, rfl, rfl, HA, HK1, HO_11, HB⟩ := hrel
   cases gk with
   | zero => exact absurd HA.out (by simp [spec_CountUpToAll.l0])
   | succ k1 =>
    have H := HA.out
    clear HA
    simp only [spec_CountUpToAll.l0] at H
    by_cases c7 : x13_1 < (t102.length : Int)
    ·rw [if_pos c7] at H
     have c7b0 : decide (x13_1 < (t102.length : Int)) = true := decide_eq_true c7
     clear c7
     by_cases c8 : 0 ≤ x13_1
     ·rw [if_pos c8] at H
      have c8b0 : decide (0 ≤ x13_1) = true := decide_eq_true c8
      clear c8
      by_cases c9 : x13_1 < (t102.length : Int)
      ·rw [if_pos c9] at H
       have c9b0 : decide (x13_1 < (t102.length : Int)) = true := decide_eq_true c9
       clear c9
       replace H := Option.bind_eq_some_iff.mp H
       obtain ⟨t106, A100, H⟩ := H
       replace H : (spec_CountUpToAll.l0 k1 (wrap64 (x4_1 + (t106.length : Int))) t102 (t102.length : Int) (wrap64 (x13_1 + 1))) = some (r1, r2) := H
       have A10 := am_ A100
       clear A100
       have H' := am_ H
       clear H
       have p105 : 0 ≤ (x13_1 : Int) := of_decide_eq_true tc3_
       have q105 : x13_1 < (t102.length : Int) := of_decide_eq_true tc3_
       obtain ⟨ad105, A105_0, c105_0, e105, hx105_0, hl105_0, hi105_0⟩ := at_L4 (Kd.N_reads' HO_11.out).2.2 x13_1 p105 q105
       cases e105
       obtain ⟨ce105, hce105, hMe105, hcc105⟩ := Kd.N_get HO_11.out [] x13_1 p105 (by first | exact q105 | exact of_decide_eq_true tc3_ | (have e_ := (Kd.N_reads' HO_11.out).1; omega))
       obtain ⟨ua105_0, uc105_0, rfl, ul105_0, ge105_0⟩ := Kd.FK_slice_open hMe105
       have hv105_0 := hcc105 0 _ rfl
       rw [Nat.add_zero, show ((Kd.slice 35 (Kd.slice 3 (Kd.int .i64)))).sz = 1 from rfl, Nat.mul_one] at hv105_0
       replace hv105_0 := Option.some.inj (hv105_0.symm.trans hx105_0)
       injection hv105_0 with hva_ hvn_ hvc_
       rw [hva_] at ge105_0
       rw [hvc_] at ul105_0
       have HL105_0 := am_ (show Kd.V (Kd.slice 3 (Kd.int .i64)) 35 _ w.heap.size _ _ (rd_L4 t102 x13_1) from Kd.V_mk ul105_0 ge105_0)
       clear hva_ hvn_ hvc_ ge105_0 ul105_0
       clear hcc105 hce105
       have HR105_0 := am_ hi105_0
       have HC105_0 := am_ hl105_0
       clear hi105_0 hl105_0
       replace p105 := eq_true p105
       replace q105 := eq_true q105
       go_wp2_with (first | ((with_reducible refine gate_callee (f := 130) rfl ?_); refine goesL_ (some 19) rfl rfl Try.func130 (by kernel_rfl) rfl #[.slice A105_0 (rd_L4 t102 x13_1).length c105_0] rfl tc1_ ?_; (with_reducible refine (spec_smOwn.calls k1 _ _ (rd_L4 t102 x13_1) t106 _ ?side1 ?side2 A10.out).mono ?_); (case side1 => repeat (first | exact tc49_ | (with_reducible refine Kd.C_alloc ?_ _) | (with_reducible refine Kd.C_drewN ?_ _) | (with_reducible refine Kd.C_drew ?_))); (case side2 => exact HC105_0.out); rintro e w11 ⟨v107, rfl, ho0, hb⟩; refine ⟨_, rfl, ?_⟩; have n0_ := am_ (Kd.N_elder' (by (with_reducible repeat (first | apply Kd.N_alloc | apply Kd.N_drewN | apply Kd.N_drew)); exact HO_11.out) (Kd.R_base ho0) hb); have n1_ := am_ (Kd.V_elder' (by (with_reducible repeat (first | apply Kd.V_alloc | apply Kd.V_drewN | apply Kd.V_drew)); exact HL105_0.out) (Kd.R_base ho0) hb); have n2_ := am_ (Kd.R_lower ho0 (below_size tc0_)); have n3_ := am_ (Kd.C_below tc49_ hb); have n4_ := am_ (below_step tc0_ hb); clear HO_11 HL105_0; clear HR105_0 HB; have HO_11 := n0_; have HL105_0 := n1_; have HO108 := n2_; have HR105_0 := n3_; have HB := n4_; clear n0_ n1_ n2_ n3_ n4_; (try clear hb ho0); obtain ⟨Ao12, co12, eo12⟩ := Kd.R_slice HO108.out; subst eo12))
       go_roundg k1
       case measure => have := HK1.out; omega
       case rel => exact ⟨(wrap64 (x4_1 + (t106.length : Int))), (wrap64 (x13_1 + 1)), tc7_, tc7_, H', ⟨by have := HK1.out; omega⟩, ⟨by (with_reducible repeat (first | apply Kd.N_alloc | apply Kd.N_drewN | apply Kd.N_drew)); exact Kd.N_mono HO_11.out (fun _ hk => trivial)⟩, ⟨by repeat (first | (with_reducible first | exact HB.out | apply below_alloc | apply pw_below_drewN | apply below_drew1) | exact HB.out)⟩⟩
      ·rw [if_neg c9] at H
       exact absurd H (by simp)
     ·rw [if_neg c8] at H
      exact absurd H (by simp)
    ·rw [if_neg c7] at H
     have c7b0 : decide (x13_1 < (t102.length : Int)) = false := decide_eq_false c7
     clear c7
     simp only [Option.some.injEq, Prod.mk.injEq] at H
     obtain ⟨rfl, rfl⟩ := H
     go_wp2
     go_ret2
     exact ⟨by first | rfl | (simp [errW_none, errW_some] <;> rfl) | (simp [*, errW_none, errW_some] <;> rfl), by repeat (first | (with_reducible first | exact HB.out | apply below_alloc | apply pw_below_drewN | apply below_drew1) | exact HB.out)⟩
 ·replace c3 := Bool.eq_false_iff.mpr c3
  subst c3
  have H1 : (some (0, false)) = some (r1, r2) := by rw [if_neg (show ¬ (false = true) by decide)] at H; exact H
  clear H
  have H := H1
  clear H1
  simp only [Option.some.injEq, Prod.mk.injEq] at H
  obtain ⟨rfl, rfl⟩ := H
  go_enter Try.func60, Try.ntmps60
  go_wp2_with (first | ((with_reducible refine gate_callee (f := 112) rfl ?_); refine goesL_ (some 8) rfl rfl Try.func112 (by kernel_rfl) rfl #[.int .i64 a0, .int .i64 1, .int .i64 5] rfl tc1_ ?_; (with_reducible refine (spec_l1In.calls a0 1 5 false _ A2.out).mono ?_); rintro e w' ⟨rfl, ⟨nd, rfl⟩⟩; refine ⟨_, rfl, ?_⟩))
  go_ret2
  exact ⟨by first | rfl | (simp [errW_none, errW_some] <;> rfl) | (simp [*, errW_none, errW_some] <;> rfl), by repeat (first | (with_reducible first | exact HB.out | apply below_alloc | apply pw_below_drewN | apply below_drew1) | exact HB.out)⟩

/-! ### spec_DrawCountSymmetric: function 61 -/
def spec_DrawCountSymmetric.f (l0 : List Int) : Option (Int × Int) := (spec_l1Cur_one.f l0 0 0 20).bind fun bt102 => (if bt102.1 = true then ((spec_l1Cur_among.f l0 bt102.2.1 bt102.2.2 (([6, 7] : List Int))).bind fun bt108 => ((spec_l1Cur_kind.f l0 bt108.2.1 bt108.2.2).bind fun bt111 => (some (bt108.1, bt111.1)))) else ((spec_l1Cur_side.f l0 bt102.2.1 bt102.2.2 5).bind fun bt114 => ((spec_l1Cur_kind.f l0 bt114.2.1 bt114.2.2).bind fun bt117 => (some (bt114.1, bt117.1)))))
set_option maxHeartbeats 8000000 in
set_option maxRecDepth 100000 in
theorem spec_DrawCountSymmetric.calls (A0 : Option Addr) (c0 : Nat) (l0 : List Int) (r1 : Int) (r2 : Int) (w : World) (hr0 : Kd.C (Kd.int .u8) w A0 l0.length l0) (hc0 : l0.length ≤ c0) (h : spec_DrawCountSymmetric.f l0 = some (r1, r2)) :
  Calls Try.prog 61 #[.slice A0 l0.length c0] w fun e w' => e = .returned (.tuple #[.int .i64 r1, .int .i64 r2]) ∧ Below w.heap.size w w' := by
 have hu74 := Try.underlying74
 have HR0 := am_ hr0
 have HC0 := am_ hc0
 clear hr0 hc0
 have HB := am_ (Below.refl w.heap.size w)
 have H : ((spec_l1Cur_one.f l0 0 0 20).bind fun bt102 => (if bt102.1 = true then ((spec_l1Cur_among.f l0 bt102.2.1 bt102.2.2 (([6, 7] : List Int))).bind fun bt108 => ((spec_l1Cur_kind.f l0 bt108.2.1 bt108.2.2).bind fun bt111 => (some (bt108.1, bt111.1)))) else ((spec_l1Cur_side.f l0 bt102.2.1 bt102.2.2 5).bind fun bt114 => ((spec_l1Cur_kind.f l0 bt114.2.1 bt114.2.2).bind fun bt117 => (some (bt114.1, bt117.1)))))) = some (r1, r2) := h
 clear h
 replace H := Option.bind_eq_some_iff.mp H
 obtain ⟨⟨t102, t103, t104⟩, A20, H⟩ := H
 replace H : (if t102 = true then ((spec_l1Cur_among.f l0 t103 t104 (([6, 7] : List Int))).bind fun bt108 => ((spec_l1Cur_kind.f l0 bt108.2.1 bt108.2.2).bind fun bt111 => (some (bt108.1, bt111.1)))) else ((spec_l1Cur_side.f l0 t103 t104 5).bind fun bt114 => ((spec_l1Cur_kind.f l0 bt114.2.1 bt114.2.2).bind fun bt117 => (some (bt114.1, bt117.1))))) = some (r1, r2) := H
 have A2 := am_ A20
 clear A20
 by_cases c3 : t102 = true
 ·subst c3
  have H1 : ((spec_l1Cur_among.f l0 t103 t104 (([6, 7] : List Int))).bind fun bt108 => ((spec_l1Cur_kind.f l0 bt108.2.1 bt108.2.2).bind fun bt111 => (some (bt108.1, bt111.1)))) = some (r1, r2) := by rw [if_pos rfl] at H; exact H
  clear H
  have H := H1
  clear H1
  obtain ⟨y105, hy105⟩ : ∃ y_ : List Int, y_ = (([6, 7] : List Int)) := ⟨_, rfl⟩
  replace H : ((spec_l1Cur_among.f l0 t103 t104 y105).bind fun bt108 => ((spec_l1Cur_kind.f l0 bt108.2.1 bt108.2.2).bind fun bt111 => (some (bt108.1, bt111.1)))) = some (r1, r2) := by first | (rw [hy105]; with_reducible exact H) | (have H2_ := (Option.bind_some _ _).symm.trans H; rw [hy105]; with_reducible exact H2_) | (have H2_ := (Option.bind_some _ _).symm.trans H; with_reducible exact H2_) | with_reducible exact H | (rw [hy105]; exact H) | exact H
  have Ny105 := am_ hy105
  clear hy105
  replace H := Option.bind_eq_some_iff.mp H
  obtain ⟨⟨t108, t109, t110⟩, A40, H⟩ := H
  replace H : ((spec_l1Cur_kind.f l0 t109 t110).bind fun bt111 => (some (t108, bt111.1))) = some (r1, r2) := H
  have A4 := am_ A40
  clear A40
  replace H := Option.bind_eq_some_iff.mp H
  obtain ⟨⟨t111, t112, t113⟩, A50, H⟩ := H
  replace H : (some (t108, t111)) = some (r1, r2) := H
  have A5 := am_ A50
  clear A50
  simp only [Option.some.injEq, Prod.mk.injEq] at H
  obtain ⟨rfl, rfl⟩ := H
  go_enter Try.func61, Try.ntmps61
  go_wp2_with (first | ((with_reducible refine gate_dst (N := 7) rfl ?_); refine box_event ?hg (N := 7) ?hd (cs := #[.slice A0 l0.length c0, .int .i64 0, .int .u64 0]) (t := 74) ?hr ?_; (case hd => rfl); (case hg => rfl); (case hr => exact tc19_); intro gb101 hg w6 hbox hb; have n0_ := am_ (below_step tc0_ hb); have n1_ := am_ ((by rw [hg]; exact (below_size tc0_) : w.heap.size ≤ gb101)); have n2_ := am_ ((by rw [hg]; exact (below_size tc0_) : w.heap.size ≤ gb101)); have n3_ := am_ ((show IsS74 w w6 gb101 l0 0 0 from ⟨A0, c0, hbox, (by rw [hg]; exact (below_size tc0_) : w.heap.size ≤ gb101), HR0.out⟩)); clear HB; have HB := n0_; have GW101 := n1_; have GE101 := n2_; have HI101 := n3_; clear n0_ n1_ n2_ n3_; clear hb hbox hg) | ((with_reducible refine gate_callee (f := 131) rfl ?_); refine goesL_ (some 9) rfl rfl Try.func131 (by kernel_rfl) rfl #[.pointer (some ⟨gb101, 0, none⟩), .int .i64 20] rfl tc1_ ?_; (with_reducible refine (spec_l1Cur_one.calls gb101 l0 0 0 20 true t103 t104 w _ ?side1 ?side2 A2.out).mono ?_); (case side1 => exact tc17_); (case side2 => exact tc18_); rintro e w7 ⟨rfl, hi, hb, hk⟩; refine ⟨_, rfl, ?_⟩; have n0_ := am_ (hb); have n1_ := am_ (hi); clear HB HI101; have HB := n0_; have HI101 := n1_; clear n0_ n1_; (try clear hb hk hi)) | ((with_reducible refine gate_dst (N := 11) rfl ?_); refine Kd.R_lit (Kd.int .i64) _ 3 ?hg (N := 11) ?hd (xs := ([6, 7] : List Int)) (inner := [.int .i64 6, .int .i64 7]) (ok := fun _ => True) (okp := fun _ => True) ?hr ?hp (fun _ hk => hk) trivial (Below.refl _ _) (Nat.le_refl _) (by simp) ?_; (case hd => rfl); (case hg => rfl); (case hr => exact tc19_); (case hp => exact (Reps.one (show Kd.M (Kd.int .i64) _ _ _ 6 [.int .i64 6] from rfl) (Reps.one (show Kd.M (Kd.int .i64) _ _ _ 7 [.int .i64 7] from rfl) (Reps.none _ _)))); intro v106 w8 ho9 hb hg_ hnew_; clear hg_ hnew_; (first | rw [← Ny105.out] at ho9 | (simp only [Int.reduceToNat] at ho9; rw [← Ny105.out] at ho9)); have n0_ := am_ (Kd.R_lower ho9 (below_size tc18_)); have n1_ := am_ (IsS74.below tc17_ hb); have n2_ := am_ (below_step tc18_ hb); clear HI101 HB; have HO107 := n0_; have HI101 := n1_; have HB := n2_; clear n0_ n1_ n2_; clear hb ho9; obtain ⟨Ao10, co10, eo10⟩ := Kd.R_slice HO107.out; subst eo10) | ((with_reducible refine gate_callee (f := 132) rfl ?_); refine goesL_ (some 12) rfl rfl Try.func132 (by kernel_rfl) rfl #[.pointer (some ⟨gb101, 0, none⟩), .slice Ao10 y105.length co10] rfl tc1_ ?_; (with_reducible refine (spec_l1Cur_among.calls gb101 l0 t103 t104 _ _ y105 t108 t109 t110 w _ ?side1 ?side2 ?side3 ?side4 ?side5 A4.out).mono ?_); (case side1 => exact tc17_); (case side2 => exact tc18_); (case side3 => exact tc59_); (case side4 => exact (Kd.R_reads' HO107.out).2.1); (case side5 => exact far_slice (IsS74.own_ne HI101.out HO107.out (by decide))); rintro e w11 ⟨rfl, hi, hb, hk⟩; refine ⟨_, rfl, ?_⟩; have n0_ := am_ (Kd.R_mono (Kd.R_keep (IsS74.apart (show IsS74 w _ gb101 l0 t103 t104 from tc17_) (by (with_reducible repeat (first | apply Kd.R_alloc | apply Kd.R_drewN | apply Kd.R_drew)); exact HO107.out) (by decide)) hk (fun _ h => h.2)) (fun _ h => h.1)); have n1_ := am_ (hb); have n2_ := am_ (hi); clear HO107 HB HI101; have HO107 := n0_; have HB := n1_; have HI101 := n2_; clear n0_ n1_ n2_; (try clear hb hk hi)) | ((with_reducible refine gate_callee (f := 106) rfl ?_); refine goesL_ (some 14) rfl rfl Try.func106 (by kernel_rfl) rfl #[.pointer (some ⟨gb101, 0, none⟩)] rfl tc1_ ?_; (with_reducible refine (spec_l1Cur_kind.calls gb101 l0 t109 t110 t111 t112 t113 w _ ?side1 ?side2 A5.out).mono ?_); (case side1 => exact tc17_); (case side2 => exact tc18_); rintro e w12 ⟨rfl, hi, hb, hk⟩; refine ⟨_, rfl, ?_⟩; have n0_ := am_ (Kd.R_mono (Kd.R_keep (IsS74.apart (show IsS74 w _ gb101 l0 t109 t110 from tc17_) (by (with_reducible repeat (first | apply Kd.R_alloc | apply Kd.R_drewN | apply Kd.R_drew)); exact HO107.out) (by decide)) hk (fun _ h => h.2)) (fun _ h => h.1)); have n1_ := am_ (hb); have n2_ := am_ (hi); clear HO107 HB HI101; have HO107 := n0_; have HB := n1_; have HI101 := n2_; clear n0_ n1_ n2_; (try clear hb hk hi)))
  go_ret2
  exact ⟨by first | rfl | (simp [errW_none, errW_some] <;> rfl) | (simp [*, errW_none, errW_some] <;> rfl), by repeat (first | (with_reducible first | exact HB.out | apply below_alloc | apply pw_below_drewN | apply below_drew1 | refine below_set ?_ (IsS74.ge HI101.out)) | exact HB.out)⟩
 ·replace c3 := Bool.eq_false_iff.mpr c3
  subst c3
  have H1 : ((spec_l1Cur_side.f l0 t103 t104 5).bind fun bt114 => ((spec_l1Cur_kind.f l0 bt114.2.1 bt114.2.2).bind fun bt117 => (some (bt114.1, bt117.1)))) = some (r1, r2) := by rw [if_neg (show ¬ (false = true) by decide)] at H; exact H
  clear H
  have H := H1
  clear H1
  replace H := Option.bind_eq_some_iff.mp H
  obtain ⟨⟨t114, t115, t116⟩, A130, H⟩ := H
  replace H : ((spec_l1Cur_kind.f l0 t115 t116).bind fun bt117 => (some (t114, bt117.1))) = some (r1, r2) := H
  have A13 := am_ A130
  clear A130
  replace H := Option.bind_eq_some_iff.mp H
  obtain ⟨⟨t117, t118, t119⟩, A140, H⟩ := H
  replace H : (some (t114, t117)) = some (r1, r2) := H
  have A14 := am_ A140
  clear A140
  simp only [Option.some.injEq, Prod.mk.injEq] at H
  obtain ⟨rfl, rfl⟩ := H
  go_enter Try.func61, Try.ntmps61
  go_wp2_with (first | ((with_reducible refine gate_dst (N := 7) rfl ?_); refine box_event ?hg (N := 7) ?hd (cs := #[.slice A0 l0.length c0, .int .i64 0, .int .u64 0]) (t := 74) ?hr ?_; (case hd => rfl); (case hg => rfl); (case hr => exact tc19_); intro gb101 hg w15 hbox hb; have n0_ := am_ (below_step tc0_ hb); have n1_ := am_ ((by rw [hg]; exact (below_size tc0_) : w.heap.size ≤ gb101)); have n2_ := am_ ((by rw [hg]; exact (below_size tc0_) : w.heap.size ≤ gb101)); have n3_ := am_ ((show IsS74 w w15 gb101 l0 0 0 from ⟨A0, c0, hbox, (by rw [hg]; exact (below_size tc0_) : w.heap.size ≤ gb101), HR0.out⟩)); clear HB; have HB := n0_; have GW101 := n1_; have GE101 := n2_; have HI101 := n3_; clear n0_ n1_ n2_ n3_; clear hb hbox hg) | ((with_reducible refine gate_callee (f := 131) rfl ?_); refine goesL_ (some 9) rfl rfl Try.func131 (by kernel_rfl) rfl #[.pointer (some ⟨gb101, 0, none⟩), .int .i64 20] rfl tc1_ ?_; (with_reducible refine (spec_l1Cur_one.calls gb101 l0 0 0 20 false t103 t104 w _ ?side1 ?side2 A2.out).mono ?_); (case side1 => exact tc17_); (case side2 => exact tc18_); rintro e w16 ⟨rfl, hi, hb, hk⟩; refine ⟨_, rfl, ?_⟩; have n0_ := am_ (hb); have n1_ := am_ (hi); clear HB HI101; have HB := n0_; have HI101 := n1_; clear n0_ n1_; (try clear hb hk hi)) | ((with_reducible refine gate_callee (f := 105) rfl ?_); refine goesL_ (some 16) rfl rfl Try.func105 (by kernel_rfl) rfl #[.pointer (some ⟨gb101, 0, none⟩), .int .i64 5] rfl tc1_ ?_; (with_reducible refine (spec_l1Cur_side.calls gb101 l0 t103 t104 5 t114 t115 t116 w _ ?side1 ?side2 A13.out).mono ?_); (case side1 => exact tc17_); (case side2 => exact tc18_); rintro e w17 ⟨rfl, hi, hb, hk⟩; refine ⟨_, rfl, ?_⟩; have n0_ := am_ (hb); have n1_ := am_ (hi); clear HB HI101; have HB := n0_; have HI101 := n1_; clear n0_ n1_; (try clear hb hk hi)) | ((with_reducible refine gate_callee (f := 106) rfl ?_); refine goesL_ (some 18) rfl rfl Try.func106 (by kernel_rfl) rfl #[.pointer (some ⟨gb101, 0, none⟩)] rfl tc1_ ?_; (with_reducible refine (spec_l1Cur_kind.calls gb101 l0 t115 t116 t117 t118 t119 w _ ?side1 ?side2 A14.out).mono ?_); (case side1 => exact tc17_); (case side2 => exact tc18_); rintro e w18 ⟨rfl, hi, hb, hk⟩; refine ⟨_, rfl, ?_⟩; have n0_ := am_ (hb); have n1_ := am_ (hi); clear HB HI101; have HB := n0_; have HI101 := n1_; clear n0_ n1_; (try clear hb hk hi)))
  go_ret2
  exact ⟨by first | rfl | (simp [errW_none, errW_some] <;> rfl) | (simp [*, errW_none, errW_some] <;> rfl), by repeat (first | (with_reducible first | exact HB.out | apply below_alloc | apply pw_below_drewN | apply below_drew1 | refine below_set ?_ (IsS74.ge HI101.out)) | exact HB.out)⟩

/-! ### spec_CountSymmetric: function 62 -/
def spec_CountSymmetric.f (k : Nat) (a0 : Int) (a1 : Int) : Option (Int × Bool) := (spec_l1In.f a0 1 6).bind fun t101 => (if t101 = true then ((spec_smKind.f a1).bind fun t102 => (if t102 = true then ((spec_smList.f k a0 a1).bind fun t103 => (some ((t103.length : Int), true))) else (some (0, false)))) else (some (0, false)))
set_option maxHeartbeats 8000000 in
set_option maxRecDepth 100000 in
theorem spec_CountSymmetric.calls (k : Nat) (a0 : Int) (a1 : Int) (r1 : Int) (r2 : Bool) (w : World) (h : spec_CountSymmetric.f k a0 a1 = some (r1, r2)) :
  Calls Try.prog 62 #[.int .i64 a0, .int .i64 a1] w fun e w' => e = .returned (.tuple #[.int .i64 r1, .bool r2]) ∧ Below w.heap.size w w' := by
 have HB := am_ (Below.refl w.heap.size w)
 have H : ((spec_l1In.f a0 1 6).bind fun t101 => (if t101 = true then ((spec_smKind.f a1).bind fun t102 => (if t102 = true then ((spec_smList.f k a0 a1).bind fun t103 => (some ((t103.length : Int), true))) else (some (0, false)))) else (some (0, false)))) = some (r1, r2) := h
 clear h
 replace H := Option.bind_eq_some_iff.mp H
 obtain ⟨t101, A30, H⟩ := H
 replace H : (if t101 = true then ((spec_smKind.f a1).bind fun t102 => (if t102 = true then ((spec_smList.f k a0 a1).bind fun t103 => (some ((t103.length : Int), true))) else (some (0, false)))) else (some (0, false))) = some (r1, r2) := H
 have A3 := am_ A30
 clear A30
 by_cases c4 : t101 = true
 ·subst c4
  have H1 : ((spec_smKind.f a1).bind fun t102 => (if t102 = true then ((spec_smList.f k a0 a1).bind fun t103 => (some ((t103.length : Int), true))) else (some (0, false)))) = some (r1, r2) := by rw [if_pos rfl] at H; exact H
  clear H
  have H := H1
  clear H1
  replace H := Option.bind_eq_some_iff.mp H
  obtain ⟨t102, A50, H⟩ := H
  replace H : (if t102 = true then ((spec_smList.f k a0 a1).bind fun t103 => (some ((t103.length : Int), true))) else (some (0, false))) = some (r1, r2) := H
  have A5 := am_ A50
  clear A50
  by_cases c6 : t102 = true
  ·subst c6
   have H1 : ((spec_smList.f k a0 a1).bind fun t103 => (some ((t103.length : Int), true))) = some (r1, r2) := by rw [if_pos rfl] at H; exact H
   clear H
   have H := H1
   clear H1
   replace H := Option.bind_eq_some_iff.mp H
   obtain ⟨t103, A70, H⟩ := H
   replace H : (some ((t103.length : Int), true)) = some (r1, r2) := H
   have A7 := am_ A70
   clear A70
   simp only [Option.some.injEq, Prod.mk.injEq] at H
   obtain ⟨rfl, rfl⟩ := H
   go_enter Try.func62, Try.ntmps62
   go_wp2_with (first | ((with_reducible refine gate_callee (f := 112) rfl ?_); refine goesL_ (some 7) rfl rfl Try.func112 (by kernel_rfl) rfl #[.int .i64 a0, .int .i64 1, .int .i64 6] rfl tc1_ ?_; (with_reducible refine (spec_l1In.calls a0 1 6 true _ A3.out).mono ?_); rintro e w' ⟨rfl, ⟨nd, rfl⟩⟩; refine ⟨_, rfl, ?_⟩) | (go_at_call 113; (with_reducible refine (spec_smKind.calls a1 true _ A5.out).mono ?_); rintro e w' ⟨rfl, ⟨nd, rfl⟩⟩) | ((with_reducible refine gate_callee (f := 114) rfl ?_); refine goesL_ (some 16) rfl rfl Try.func114 (by kernel_rfl) rfl #[.int .i64 a0, .int .i64 a1] rfl tc1_ ?_; (with_reducible refine (spec_smList.calls k a0 a1 t103 _ A7.out).mono ?_); rintro e w8 ⟨v104, rfl, ho0, hb⟩; refine ⟨_, rfl, ?_⟩; have n0_ := am_ (Kd.N_lower (Kd.N_mono (ok' := fun k_ => True) ho0 (fun k_ hk_ => trivial)) (below_size tc0_)); have n1_ := am_ (below_step tc0_ hb); clear HB; have HO105 := n0_; have HB := n1_; clear n0_ n1_; (try clear hb ho0); obtain ⟨Ao9, co9, eo9⟩ := Kd.N_slice HO105.out; subst eo9))
   go_ret2
   exact ⟨by first | rfl | (simp [errW_none, errW_some] <;> rfl) | (simp [*, errW_none, errW_some] <;> rfl), by repeat (first | (with_reducible first | exact HB.out | apply below_alloc | apply pw_below_drewN | apply below_drew1) | exact HB.out)⟩
  ·replace c6 := Bool.eq_false_iff.mpr c6
   subst c6
   have H1 : (some (0, false)) = some (r1, r2) := by rw [if_neg (show ¬ (false = true) by decide)] at H; exact H
   clear H
   have H := H1
   clear H1
   simp only [Option.some.injEq, Prod.mk.injEq] at H
   obtain ⟨rfl, rfl⟩ := H
   go_enter Try.func62, Try.ntmps62
   go_wp2_with (first | ((with_reducible refine gate_callee (f := 112) rfl ?_); refine goesL_ (some 7) rfl rfl Try.func112 (by kernel_rfl) rfl #[.int .i64 a0, .int .i64 1, .int .i64 6] rfl tc1_ ?_; (with_reducible refine (spec_l1In.calls a0 1 6 true _ A3.out).mono ?_); rintro e w' ⟨rfl, ⟨nd, rfl⟩⟩; refine ⟨_, rfl, ?_⟩) | (go_at_call 113; (with_reducible refine (spec_smKind.calls a1 false _ A5.out).mono ?_); rintro e w' ⟨rfl, ⟨nd, rfl⟩⟩))
   go_ret2
   exact ⟨by first | rfl | (simp [errW_none, errW_some] <;> rfl) | (simp [*, errW_none, errW_some] <;> rfl), by repeat (first | (with_reducible first | exact HB.out | apply below_alloc | apply pw_below_drewN | apply below_drew1) | exact HB.out)⟩
 ·replace c4 := Bool.eq_false_iff.mpr c4
  subst c4
  have H1 : (some (0, false)) = some (r1, r2) := by rw [if_neg (show ¬ (false = true) by decide)] at H; exact H
  clear H
  have H := H1
  clear H1
  simp only [Option.some.injEq, Prod.mk.injEq] at H
  obtain ⟨rfl, rfl⟩ := H
  go_enter Try.func62, Try.ntmps62
  go_wp2_with (first | ((with_reducible refine gate_callee (f := 112) rfl ?_); refine goesL_ (some 7) rfl rfl Try.func112 (by kernel_rfl) rfl #[.int .i64 a0, .int .i64 1, .int .i64 6] rfl tc1_ ?_; (with_reducible refine (spec_l1In.calls a0 1 6 false _ A3.out).mono ?_); rintro e w' ⟨rfl, ⟨nd, rfl⟩⟩; refine ⟨_, rfl, ?_⟩))
  go_ret2
  exact ⟨by first | rfl | (simp [errW_none, errW_some] <;> rfl) | (simp [*, errW_none, errW_some] <;> rfl), by repeat (first | (with_reducible first | exact HB.out | apply below_alloc | apply pw_below_drewN | apply below_drew1) | exact HB.out)⟩

/-! ### impl_CountSigns: function 63 -/
def impl_CountSigns.f (k : Nat) (a0 : Int) : Option (Int × Bool) := (impl_within.f a0 1 8).bind fun t101 => (if t101 = true then ((impl_countSigns.f k a0).bind fun t102 => (some (t102, true))) else (some (0, false)))
theorem impl_CountSigns.mono : ∀ a0  k, LeO (impl_CountSigns.f k a0) (impl_CountSigns.f (k + 1) a0) := by
 intro a0 k
 unfold impl_CountSigns.f
 repeat' first
   | (with_reducible exact impl_countSigns.mono _ _)
   | (with_reducible exact LeO.refl _)
   | (with_reducible exact LeO.none _)
   | (with_reducible refine LeO.ite ?_ ?_)
   | (with_reducible refine LeO.bind ?_ (fun _ => ?_))
   | exact impl_countSigns.mono _ _
   | exact LeO.none _
   | refine LeO.ite ?_ ?_
   | refine LeO.bind ?_ (fun _ => ?_)
set_option maxHeartbeats 8000000 in
set_option maxRecDepth 100000 in
theorem impl_CountSigns.calls (k : Nat) (a0 : Int) (r1 : Int) (r2 : Bool) (w : World) (h : impl_CountSigns.f k a0 = some (r1, r2)) :
  Calls Try.prog 63 #[.int .i64 a0] w fun e w' => e = .returned (.tuple #[.int .i64 r1, .bool r2]) ∧ Drawn0 w w' := by
 have H : ((impl_within.f a0 1 8).bind fun t101 => (if t101 = true then ((impl_countSigns.f k a0).bind fun t102 => (some (t102, true))) else (some (0, false)))) = some (r1, r2) := h
 clear h
 replace H := Option.bind_eq_some_iff.mp H
 obtain ⟨t101, A20, H⟩ := H
 replace H : (if t101 = true then ((impl_countSigns.f k a0).bind fun t102 => (some (t102, true))) else (some (0, false))) = some (r1, r2) := H
 have A2 := am_ A20
 clear A20
 by_cases c3 : t101 = true
 ·subst c3
  have H1 : ((impl_countSigns.f k a0).bind fun t102 => (some (t102, true))) = some (r1, r2) := by rw [if_pos rfl] at H; exact H
  clear H
  have H := H1
  clear H1
  replace H := Option.bind_eq_some_iff.mp H
  obtain ⟨t102, A40, H⟩ := H
  replace H : (some (t102, true)) = some (r1, r2) := H
  have A4 := am_ A40
  clear A40
  simp only [Option.some.injEq, Prod.mk.injEq] at H
  obtain ⟨rfl, rfl⟩ := H
  go_enter Try.func63, Try.ntmps63
  go_wp2_with (first | ((with_reducible refine gate_callee (f := 107) rfl ?_); refine goesL_ (some 5) rfl rfl Try.func107 (by kernel_rfl) rfl #[.int .i64 a0, .int .i64 1, .int .i64 8] rfl tc1_ ?_; (with_reducible refine (impl_within.calls a0 1 8 true _ A2.out).mono ?_); rintro e w' ⟨rfl, ⟨nd, rfl⟩⟩; refine ⟨_, rfl, ?_⟩) | ((with_reducible refine gate_callee (f := 120) rfl ?_); refine goesL_ (some 8) rfl rfl Try.func120 (by kernel_rfl) rfl #[.int .i64 a0] rfl tc1_ ?_; (with_reducible refine (impl_countSigns.calls k a0 t102 _ A4.out).mono ?_); rintro e w' ⟨rfl, ⟨nd, rfl⟩⟩; refine ⟨_, rfl, ?_⟩))
  go_ret2
  exact ⟨by first | rfl | (simp; done) | (simp [*]; done), by repeat (first | exact Drawn0.refl _ | apply Drawn0.step)⟩
 ·replace c3 := Bool.eq_false_iff.mpr c3
  subst c3
  have H1 : (some (0, false)) = some (r1, r2) := by rw [if_neg (show ¬ (false = true) by decide)] at H; exact H
  clear H
  have H := H1
  clear H1
  simp only [Option.some.injEq, Prod.mk.injEq] at H
  obtain ⟨rfl, rfl⟩ := H
  go_enter Try.func63, Try.ntmps63
  go_wp2_with (first | ((with_reducible refine gate_callee (f := 107) rfl ?_); refine goesL_ (some 5) rfl rfl Try.func107 (by kernel_rfl) rfl #[.int .i64 a0, .int .i64 1, .int .i64 8] rfl tc1_ ?_; (with_reducible refine (impl_within.calls a0 1 8 false _ A2.out).mono ?_); rintro e w' ⟨rfl, ⟨nd, rfl⟩⟩; refine ⟨_, rfl, ?_⟩))
  go_ret2
  exact ⟨by first | rfl | (simp; done) | (simp [*]; done), by repeat (first | exact Drawn0.refl _ | apply Drawn0.step)⟩

end Go.Proofs.Ytkbehdgneojdbaa.X
