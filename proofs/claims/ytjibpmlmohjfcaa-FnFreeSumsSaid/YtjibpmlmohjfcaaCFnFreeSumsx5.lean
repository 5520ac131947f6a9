-- Written by a program of this session (wip/xprint.py) that drives the kit's print; the contracts of what it does not take are this session's own.
import Derived.Test.YtjibpmlmohjfcaaCFnFreeSumsx0
import Derived.Test.YtjibpmlmohjfcaaCFnFreeSumsx1
import Derived.Test.YtjibpmlmohjfcaaCFnFreeSumsx2
import Derived.Test.YtjibpmlmohjfcaaCFnFreeSumsx3
import Derived.Test.YtjibpmlmohjfcaaCFnFreeSumsx4
namespace Go.Proofs.Ytjibpmlmohjfcaa.X
open Go.RowKit Go.Proofs.YtjibpmlmohjfcaaW.PrintWords Go.Proofs.YtjibpmlmohjfcaaW.PrintLast Go.Proofs.YtjibpmlmohjfcaaW.PrintMore
attribute [local go_sem] max2_int min2_int max_two min_two max_three min_three max_four min_four   -- for this text's walks alone
set_option linter.unusedVariables false
set_option linter.unusedSimpArgs false

/-! ### spec_WeightSum: function 16 -/
mutual
def spec_WeightSum.j0 : Nat → Int → Int → Int → Int → Bool → Option (Int × Bool)
 | 0, _, _, _, _, _ => none
 | k + 1, x0, x1, x2, x3, x23 => if x23 = true then (some (0, false)) else ((spec_weAll.f k x0).bind fun t106 => (spec_WeightSum.l0 k x1 x2 x3 0 t106 (t106.length : Int) 0))
def spec_WeightSum.l0 : Nat → Int → Int → Int → Int → List (List (List Int)) → Int → Int → Option (Int × Bool)
 | 0, _, _, _, _, _, _, _ => none
 | k + 1, x1, x2, x3, x10, x25, x26, x27 => if x27 < x26 then (if 0 ≤ x27 then (if x27 < (x25.length : Int) then ((spec_weWeight.f k (rd_L4 x25 x27) x1 x2 x3).bind fun t110 => (spec_WeightSum.l0 k x1 x2 x3 (wrap64 (x10 + t110)) x25 x26 (wrap64 (x27 + 1)))) else (none)) else (none)) else (some (x10, true))
end
def spec_WeightSum.f (k : Nat) (a0 : Int) (a1 : Int) (a2 : Int) (a3 : Int) : Option (Int × Bool) := (spec_weSide.f a0).bind fun t101 => (if t101 = true then ((spec_weWeights.f k (([a1, a2, a3] : List Int))).bind fun t105 => (spec_WeightSum.j0 k a0 a1 a2 a3 (!t105))) else (spec_WeightSum.j0 k a0 a1 a2 a3 true))
theorem spec_WeightSum.mono_l : ∀ k, (∀ y0 y1 y2 y3 y4, LeO (spec_WeightSum.j0 k y0 y1 y2 y3 y4) (spec_WeightSum.j0 (k + 1) y0 y1 y2 y3 y4)) ∧ (∀ y0 y1 y2 y3 y4 y5 y6, LeO (spec_WeightSum.l0 k y0 y1 y2 y3 y4 y5 y6) (spec_WeightSum.l0 (k + 1) y0 y1 y2 y3 y4 y5 y6))
 | 0 => ⟨fun _ _ _ _ _ r h => by simp [spec_WeightSum.j0] at h, fun _ _ _ _ _ _ _ r h => by simp [spec_WeightSum.l0] at h⟩
 | k + 1 => by
  obtain ⟨ih0, ih1⟩ := spec_WeightSum.mono_l k
  refine ⟨?_, ?_⟩
  ·intro y0 y1 y2 y3 y4
   unfold spec_WeightSum.j0
   repeat' first
   | (with_reducible exact ih0 _ _ _ _ _)
   | (with_reducible exact ih1 _ _ _ _ _ _ _)
   | (with_reducible exact spec_weAll.mono _ _)
   | (with_reducible exact spec_weWeight.mono _ _ _ _ _)
   | (with_reducible exact spec_weWeights.mono _ _)
   | (with_reducible exact LeO.refl _)
   | (with_reducible exact LeO.none _)
   | (with_reducible refine LeO.ite ?_ ?_)
   | (with_reducible refine LeO.bind ?_ (fun _ => ?_))
   | exact ih0 _ _ _ _ _
   | exact ih1 _ _ _ _ _ _ _
   | exact spec_weAll.mono _ _
   | exact spec_weWeight.mono _ _ _ _ _
   | exact spec_weWeights.mono _ _
   | exact LeO.none _
   | refine LeO.ite ?_ ?_
   | refine LeO.bind ?_ (fun _ => ?_)
  ·intro y0 y1 y2 y3 y4 y5 y6
   unfold spec_WeightSum.l0
   repeat' first
   | (with_reducible exact ih0 _ _ _ _ _)
   | (with_reducible exact ih1 _ _ _ _ _ _ _)
   | (with_reducible exact spec_weAll.mono _ _)
   | (with_reducible exact spec_weWeight.mono _ _ _ _ _)
   | (with_reducible exact spec_weWeights.mono _ _)
   | (with_reducible exact LeO.refl _)
   | (with_reducible exact LeO.none _)
   | (with_reducible refine LeO.ite ?_ ?_)
   | (with_reducible refine LeO.bind ?_ (fun _ => ?_))
   | exact ih0 _ _ _ _ _
   | exact ih1 _ _ _ _ _ _ _
   | exact spec_weAll.mono _ _
   | exact spec_weWeight.mono _ _ _ _ _
   | exact spec_weWeights.mono _ _
   | exact LeO.none _
   | refine LeO.ite ?_ ?_
   | refine LeO.bind ?_ (fun _ => ?_)
theorem spec_WeightSum.mono : ∀ a0 a1 a2 a3  k, LeO (spec_WeightSum.f k a0 a1 a2 a3) (spec_WeightSum.f (k + 1) a0 a1 a2 a3) := by
 intro a0 a1 a2 a3 k
 obtain ⟨ih0, ih1⟩ := spec_WeightSum.mono_l k
 unfold spec_WeightSum.f
 repeat' first
   | (with_reducible exact ih0 _ _ _ _ _)
   | (with_reducible exact ih1 _ _ _ _ _ _ _)
   | (with_reducible exact spec_weAll.mono _ _)
   | (with_reducible exact spec_weWeight.mono _ _ _ _ _)
   | (with_reducible exact spec_weWeights.mono _ _)
   | (with_reducible exact LeO.refl _)
   | (with_reducible exact LeO.none _)
   | (with_reducible refine LeO.ite ?_ ?_)
   | (with_reducible refine LeO.bind ?_ (fun _ => ?_))
   | exact ih0 _ _ _ _ _
   | exact ih1 _ _ _ _ _ _ _
   | exact spec_weAll.mono _ _
   | exact spec_weWeight.mono _ _ _ _ _
   | exact spec_weWeights.mono _ _
   | exact LeO.none _
   | refine LeO.ite ?_ ?_
   | refine LeO.bind ?_ (fun _ => ?_)
set_option maxHeartbeats 8000000 in
set_option maxRecDepth 100000 in
theorem spec_WeightSum.calls (k : Nat) (a0 : Int) (a1 : Int) (a2 : Int) (a3 : Int) (r1 : Int) (r2 : Bool) (w : World) (h : spec_WeightSum.f k a0 a1 a2 a3 = some (r1, r2)) :
  Calls Try.prog 16 #[.int .i64 a0, .int .i64 a1, .int .i64 a2, .int .i64 a3] w fun e w' => e = .returned (.tuple #[.int .i64 r1, .bool r2]) ∧ Below w.heap.size w w' := by
 have HB := Aside0.mk (Below.refl w.heap.size w)
 have H : ((spec_weSide.f a0).bind fun t101 => (if t101 = true then ((spec_weWeights.f k (([a1, a2, a3] : List Int))).bind fun t105 => (spec_WeightSum.j0 k a0 a1 a2 a3 (!t105))) else (spec_WeightSum.j0 k a0 a1 a2 a3 true))) = some (r1, r2) := h
 clear h
 have HC5 := Aside0.mk H
 clear H
 go_enter Try.func16, Try.ntmps16
 go_upto_region 1 with (fail)
 go_cut [23] (fun v23 wc => ∃ (kq : Nat) (x23_4 : Bool), v23 = .bool x23_4 ∧ Aside0 (spec_WeightSum.j0 kq a0 a1 a2 a3 x23_4 = some (r1, r2)) ∧ Aside0 (kq ≤ k) ∧ Aside0 (Below w.heap.size w wc))
 case first =>
  have H := HC5.out
  clear HC5
  replace H := Option.bind_eq_some_iff.mp H
  obtain ⟨t101, A60, H⟩ := H
  replace H : (if t101 = true then ((spec_weWeights.f k (([a1, a2, a3] : List Int))).bind fun t105 => (spec_WeightSum.j0 k a0 a1 a2 a3 (!t105))) else (spec_WeightSum.j0 k a0 a1 a2 a3 true)) = some (r1, r2) := H
  have A6 := Aside0.mk A60
  clear A60
  by_cases c7 : t101 = true
  ·subst c7
   have H1 : ((spec_weWeights.f k (([a1, a2, a3] : List Int))).bind fun t105 => (spec_WeightSum.j0 k a0 a1 a2 a3 (!t105))) = some (r1, r2) := by rw [if_pos rfl] at H; exact H
   clear H
   have H := H1
   clear H1
   obtain ⟨y102, hy102⟩ : ∃ y_ : List Int, y_ = (([a1, a2, a3] : List Int)) := ⟨_, rfl⟩
   replace H : ((spec_weWeights.f k y102).bind fun t105 => (spec_WeightSum.j0 k a0 a1 a2 a3 (!t105))) = some (r1, r2) := by first | (rw [hy102]; with_reducible exact H) | (have H2_ := (Option.bind_some _ _).symm.trans H; rw [hy102]; with_reducible exact H2_) | (have H2_ := (Option.bind_some _ _).symm.trans H; with_reducible exact H2_) | with_reducible exact H | (rw [hy102]; exact H) | exact H
   have Ny102 := Aside0.mk hy102
   clear hy102
   replace H := Option.bind_eq_some_iff.mp H
   obtain ⟨t105, A80, H⟩ := H
   replace H : (spec_WeightSum.j0 k a0 a1 a2 a3 (!t105)) = some (r1, r2) := H
   have A8 := Aside0.mk A80
   clear A80
   have H' := Aside0.mk H
   clear H
   go_wp2_with (first | ((with_reducible refine gate_callee (f := 55) rfl ?_); refine goesL_ (some 14) rfl rfl Try.func55 (by kernel_rfl) rfl #[.int .i64 a0] rfl tc1_ ?_; (with_reducible refine (spec_weSide.calls a0 true _ A6.out).mono ?_); rintro e w' ⟨rfl, ⟨nd, rfl⟩⟩; refine ⟨_, rfl, ?_⟩) | ((with_reducible refine gate_dst (N := 20) rfl ?_); (try (refine gate_guard (by rfl) ?_; dsimp only)); refine Kd.R_lit (Kd.int .i64) _ 3 ?hg (N := 20) ?hd (xs := ([a1, a2, a3] : List Int)) (inner := [.int .i64 a1, .int .i64 a2, .int .i64 a3]) (ok := fun _ => True) (okp := fun _ => True) ?hr ?hp (fun _ hk => hk) trivial (Below.refl _ _) (Nat.le_refl _) (by simp) ?_; (case hd => rfl); (case hg => rfl); (case hr => first | (go_simp; done) | (go_simp; rfl)); (case hp => exact (Reps.one (show Kd.M (Kd.int .i64) _ _ _ a1 [.int .i64 a1] from rfl) (Reps.one (show Kd.M (Kd.int .i64) _ _ _ a2 [.int .i64 a2] from rfl) (Reps.one (show Kd.M (Kd.int .i64) _ _ _ a3 [.int .i64 a3] from rfl) (Reps.none _ _))))); intro v103 w9 ho10 hb hg_ hnew_; clear hg_ hnew_; (first | rw [← Ny102.out] at ho10 | (simp only [Int.reduceToNat] at ho10; rw [← Ny102.out] at ho10)); have n0_ := Aside0.mk (Kd.R_lower ho10 (below_size tc0_)); have n1_ := Aside0.mk (below_step tc0_ hb); clear HB; have HO104 := n0_; have HB := n1_; clear n0_ n1_; clear hb ho10; obtain ⟨Ao11, co11, eo11⟩ := Kd.R_slice HO104.out; subst eo11) | (go_at_call 56; (with_reducible refine (spec_weWeights.calls k _ _ y102 t105 _ ?side1 ?side2 A8.out).mono ?_); (case side1 => repeat (first | exact (Kd.R_reads' HO104.out).2.2 | (with_reducible refine Kd.C_alloc ?_ _) | (with_reducible refine Kd.C_drewN ?_ _) | (with_reducible refine Kd.C_drew ?_))); (case side2 => exact (Kd.R_reads' HO104.out).2.1); rintro e w' ⟨rfl, ⟨nd, rfl⟩⟩))
   go_meet
   case rel => exact ⟨_, (!t105), tc4_, H', ⟨by first | omega | exact Nat.le_refl _⟩, ⟨by repeat (first | (with_reducible first | exact HB.out | apply below_alloc | apply pw_below_drewN | apply below_drew1) | exact HB.out)⟩⟩
  ·replace c7 := Bool.eq_false_iff.mpr c7
   subst c7
   have H1 : (spec_WeightSum.j0 k a0 a1 a2 a3 true) = some (r1, r2) := by rw [if_neg (show ¬ (false = true) by decide)] at H; exact H
   clear H
   have H := H1
   clear H1
   have H' := Aside0.mk H
   clear H
   go_wp2_with (first | ((with_reducible refine gate_callee (f := 55) rfl ?_); refine goesL_ (some 14) rfl rfl Try.func55 (by kernel_rfl) rfl #[.int .i64 a0] rfl tc1_ ?_; (with_reducible refine (spec_weSide.calls a0 false _ A6.out).mono ?_); rintro e w' ⟨rfl, ⟨nd, rfl⟩⟩; refine ⟨_, rfl, ?_⟩))
   go_meet
   case rel => exact ⟨_, (true), tc4_, H', ⟨by first | omega | exact Nat.le_refl _⟩, ⟨by repeat (first | (with_reducible first | exact HB.out | apply below_alloc | apply pw_below_drewN | apply below_drew1) | exact HB.out)⟩⟩
 case rest =>
  clear HC5
  try clear c1
  try clear p2
  try clear c5
  try clear c7
  obtain ⟨kq, x23_4, rfl, HA, HJ4, HB⟩ := hcut
  cases kq with
  | zero => exact absurd HA.out (by simp [spec_WeightSum.j0])
  | succ kj4 =>
   have H := HA.out
   clear HA
   simp only [spec_WeightSum.j0] at H
   by_cases c12 : x23_4 = true
   ·subst c12
    have H1 : (some (0, false)) = some (r1, r2) := by rw [if_pos rfl] at H; exact H
    clear H
    have H := H1
    clear H1
    simp only [Option.some.injEq, Prod.mk.injEq] at H
    obtain ⟨rfl, rfl⟩ := H
    go_wp2
    go_ret2
    exact ⟨by first | rfl | (simp [errW_none, errW_some] <;> rfl) | (simp [*, errW_none, errW_some] <;> rfl), by repeat (first | (with_reducible first | exact HB.out | apply below_alloc | apply pw_below_drewN | apply below_drew1) | exact HB.out)⟩
   ·replace c12 := Bool.eq_false_iff.mpr c12
    subst c12
    have H1 : ((spec_weAll.f kj4 a0).bind fun t106 => (spec_WeightSum.l0 kj4 a1 a2 a3 0 t106 (t106.length : Int) 0)) = some (r1, r2) := by rw [if_neg (show ¬ (false = true) by decide)] at H; exact H
    clear H
    have H := H1
    clear H1
    replace H := Option.bind_eq_some_iff.mp H
    obtain ⟨t106, A130, H⟩ := H
    replace H : (spec_WeightSum.l0 kj4 a1 a2 a3 0 t106 (t106.length : Int) 0) = some (r1, r2) := H
    have A13 := Aside0.mk A130
    clear A130
    have H' := Aside0.mk H
    clear H
    go_wp2_with (first | ((with_reducible refine gate_callee (f := 57) rfl ?_); refine goesL_ (some 25) rfl rfl Try.func57 (by kernel_rfl) rfl #[.int .i64 a0] rfl tc1_ ?_; (with_reducible refine (spec_weAll.calls kj4 a0 t106 _ A13.out).mono ?_); rintro e w14 ⟨v107, rfl, ho0, hb⟩; refine ⟨_, rfl, ?_⟩; have n0_ := Aside0.mk (Kd.N_lower (Kd.N_mono (ok' := fun k_ => True) ho0 (fun k_ hk_ => trivial)) (below_size tc0_)); have n1_ := Aside0.mk (below_step tc0_ hb); clear HB; have HO108 := n0_; have HB := n1_; clear n0_ n1_; (try clear hb); (try clear hb2); (try clear hk); (try clear hi); (try clear ho0); obtain ⟨Ao15, co15, eo15⟩ := Kd.N_slice HO108.out; subst eo15))
    go_loopg [10, 27] kj4 (fun kq v10 v27 w' => ∃ (x10_2 : Int) (x27_2 : Int), v10 = .int .i64 x10_2 ∧ v27 = .int .i64 x27_2 ∧ Aside0 (spec_WeightSum.l0 kq a1 a2 a3 x10_2 t106 (t106.length : Int) x27_2 = some (r1, r2)) ∧ Aside0 (kq ≤ kj4) ∧ Aside0 (Kd.N (Kd.slice 40 (Kd.slice 3 (Kd.int .i64))) 28 w' w.heap.size (fun _ => True) (.slice Ao15 t106.length co15) t106) ∧ Aside0 (Below w.heap.size w w'))
    case atStart => exact ⟨(0), (0), tc4_, tc4_, H', ⟨Nat.le_refl _⟩, ⟨by (with_reducible repeat (first | apply Kd.N_alloc | apply Kd.N_drewN | apply Kd.N_drew)); exact HO108.out⟩, ⟨by repeat (first | (with_reducible first | exact HB.out | apply below_alloc | apply pw_below_drewN | apply below_drew1) | exact HB.out)⟩⟩
    case round =>
     clear H'
     try clear c1
     try clear p2
     try clear c5
     try clear c7
     try clear c12
     try clear p2
     obtain ⟨x10_2, x27_2, rfl, rfl, HA, HK2, HO_25, HB⟩ := hrel
     cases gk with
     | zero => exact absurd HA.out (by simp [spec_WeightSum.l0])
     | succ k2 =>
      have H := HA.out
      clear HA
      simp only [spec_WeightSum.l0] at H
      by_cases c16 : x27_2 < (t106.length : Int)
      ·rw [if_pos c16] at H
       have c16b0 : decide (x27_2 < (t106.length : Int)) = true := decide_eq_true c16
       clear c16
       by_cases c17 : 0 ≤ x27_2
       ·rw [if_pos c17] at H
        have c17b0 : decide (0 ≤ x27_2) = true := decide_eq_true c17
        clear c17
        by_cases c18 : x27_2 < (t106.length : Int)
        ·rw [if_pos c18] at H
         have c18b0 : decide (x27_2 < (t106.length : Int)) = true := decide_eq_true c18
         clear c18
         replace H := Option.bind_eq_some_iff.mp H
         obtain ⟨t110, A190, H⟩ := H
         replace H : (spec_WeightSum.l0 k2 a1 a2 a3 (wrap64 (x10_2 + t110)) t106 (t106.length : Int) (wrap64 (x27_2 + 1))) = some (r1, r2) := H
         have A19 := Aside0.mk A190
         clear A190
         have H' := Aside0.mk H
         clear H
         have p109 : 0 ≤ (x27_2 : Int) := of_decide_eq_true tc2_
         have q109 : x27_2 < (t106.length : Int) := of_decide_eq_true tc2_
         obtain ⟨ad109, A109_0, c109_0, e109, hx109_0, hl109_0, hi109_0⟩ := at_L4 (Kd.N_reads' HO_25.out).2.2 x27_2 p109 q109
         cases e109
         obtain ⟨ce109, hce109, hMe109, hcc109⟩ := Kd.N_get HO_25.out [] x27_2 p109 (by first | exact q109 | exact of_decide_eq_true tc2_ | (have e_ := (Kd.N_reads' HO_25.out).1; omega))
         obtain ⟨ua109_0, uc109_0, rfl, ul109_0, ge109_0⟩ := Kd.FK_slice_open hMe109
         have hv109_0 := hcc109 0 _ rfl
         rw [Nat.add_zero, show ((Kd.slice 40 (Kd.slice 3 (Kd.int .i64)))).sz = 1 from rfl, Nat.mul_one] at hv109_0
         replace hv109_0 := Option.some.inj (hv109_0.symm.trans hx109_0)
         injection hv109_0 with hva_ hvn_ hvc_
         rw [hva_] at ge109_0
         rw [hvc_] at ul109_0
         have HL109_0 := Aside0.mk (show Kd.V (Kd.slice 3 (Kd.int .i64)) 40 _ w.heap.size _ _ (rd_L4 t106 x27_2) from Kd.V_mk ul109_0 ge109_0)
         clear hva_ hvn_ hvc_ ge109_0 ul109_0
         clear hcc109 hce109
         have HR109_0 := Aside0.mk hi109_0
         have HC109_0 := Aside0.mk hl109_0
         clear hi109_0 hl109_0
         replace p109 := eq_true p109
         replace q109 := eq_true q109
         go_wp2_with (first | ((with_reducible refine gate_callee (f := 64) rfl ?_); refine goesL_ (some 36) rfl rfl Try.func64 (by kernel_rfl) rfl #[.slice A109_0 (rd_L4 t106 x27_2).length c109_0, .int .i64 a1, .int .i64 a2, .int .i64 a3] rfl tc1_ ?_; (with_reducible refine (spec_weWeight.calls k2 _ _ (rd_L4 t106 x27_2) a1 a2 a3 t110 _ ?side1 ?side2 A19.out).mono ?_); (case side1 => repeat (first | exact tc11_ | (with_reducible refine Kd.C_alloc ?_ _) | (with_reducible refine Kd.C_drewN ?_ _) | (with_reducible refine Kd.C_drew ?_))); (case side2 => exact HC109_0.out); rintro e w20 ⟨rfl, hb⟩; refine ⟨_, rfl, ?_⟩; have n0_ := Aside0.mk (Kd.N_below (by (with_reducible repeat (first | apply Kd.N_alloc | apply Kd.N_drewN | apply Kd.N_drew)); exact HO_25.out) hb); have n1_ := Aside0.mk (Kd.V_below tc27_ hb); have n2_ := Aside0.mk (Kd.C_below tc11_ hb); have n3_ := Aside0.mk (below_step tc0_ hb); clear HO_25; clear HL109_0; clear HR109_0; clear HB; have HO_25 := n0_; have HL109_0 := n1_; have HR109_0 := n2_; have HB := n3_; clear n0_ n1_ n2_ n3_; (try clear hb); (try clear hb2); (try clear hk); (try clear hi)))
         go_roundg k2
         case measure => have := HJ4.out; have := HK2.out; omega
         case rel => exact ⟨(wrap64 (x10_2 + t110)), (wrap64 (x27_2 + 1)), tc4_, tc4_, H', ⟨by have := HJ4.out; have := HK2.out; omega⟩, ⟨by (with_reducible repeat (first | apply Kd.N_alloc | apply Kd.N_drewN | apply Kd.N_drew)); exact HO_25.out⟩, ⟨by repeat (first | (with_reducible first | exact HB.out | apply below_alloc | apply pw_below_drewN | apply below_drew1) | exact HB.out)⟩⟩
        ·rw [if_neg c18] at H
         exact absurd H (by simp)
       ·rw [if_neg c17] at H
        exact absurd H (by simp)
      ·rw [if_neg c16] at H
       have c16b0 : decide (x27_2 < (t106.length : Int)) = false := decide_eq_false c16
       clear c16
       simp only [Option.some.injEq, Prod.mk.injEq] at H
       obtain ⟨rfl, rfl⟩ := H
       go_wp2
       go_ret2
       exact ⟨by first | rfl | (simp [errW_none, errW_some] <;> rfl) | (simp [*, errW_none, errW_some] <;> rfl), by repeat (first | (with_reducible first | exact HB.out | apply below_alloc | apply pw_below_drewN | apply below_drew1) | exact HB.out)⟩

/-! ### impl_product: function 118 -/
def impl_product.l0 : Nat → Int → Int → Int → Option (Int)
 | 0, _, _, _ => none
 | k + 1, x1, x5, x6 => if x6 ≤ x1 then (impl_product.l0 k x1 (wrap64 (x5 * x6)) (wrap64 (x6 + 1))) else (some x5)
def impl_product.f (k : Nat) (a0 : Int) (a1 : Int) : Option (Int) := impl_product.l0 k a1 1 a0
theorem impl_product.mono_l : ∀ k, (∀ y0 y1 y2, LeO (impl_product.l0 k y0 y1 y2) (impl_product.l0 (k + 1) y0 y1 y2))
 | 0 => fun _ _ _ r h => by simp [impl_product.l0] at h
 | k + 1 => by
  have ih0 := impl_product.mono_l k
  ·intro y0 y1 y2
   unfold impl_product.l0
   repeat' first
   | (with_reducible exact ih0 _ _ _)
   | (with_reducible exact LeO.refl _)
   | (with_reducible exact LeO.none _)
   | (with_reducible refine LeO.ite ?_ ?_)
   | (with_reducible refine LeO.bind ?_ (fun _ => ?_))
   | exact ih0 _ _ _
   | exact LeO.none _
   | refine LeO.ite ?_ ?_
   | refine LeO.bind ?_ (fun _ => ?_)
theorem impl_product.mono : ∀ a0 a1  k, LeO (impl_product.f k a0 a1) (impl_product.f (k + 1) a0 a1) := by
 intro a0 a1 k
 have ih0 := impl_product.mono_l k
 unfold impl_product.f
 repeat' first
   | (with_reducible exact ih0 _ _ _)
   | (with_reducible exact LeO.refl _)
   | (with_reducible exact LeO.none _)
   | (with_reducible refine LeO.ite ?_ ?_)
   | (with_reducible refine LeO.bind ?_ (fun _ => ?_))
   | exact ih0 _ _ _
   | exact LeO.none _
   | refine LeO.ite ?_ ?_
   | refine LeO.bind ?_ (fun _ => ?_)
set_option maxHeartbeats 8000000 in
set_option maxRecDepth 100000 in
theorem impl_product.calls (k : Nat) (a0 : Int) (a1 : Int) (r : Int) (w : World) (h : impl_product.f k a0 a1 = some r) :
  Calls Try.prog 118 #[.int .i64 a0, .int .i64 a1] w fun e w' => e = .returned (.int .i64 r) ∧ Drawn0 w w' := by
 have H : (impl_product.l0 k a1 1 a0) = some r := h
 clear h
 have H' := Aside0.mk H
 clear H
 go_enter Try.func118, Try.ntmps118
 go_wp2
 go_loopg [5, 6] k (fun kq v5 v6 w' => ∃ (x5_1 : Int) (x6_1 : Int), v5 = .int .i64 x5_1 ∧ v6 = .int .i64 x6_1 ∧ Aside0 (impl_product.l0 kq a1 x5_1 x6_1 = some r) ∧ Aside0 (kq ≤ k) ∧ Drawn0 w w')
 case atStart => exact ⟨(1), (a0), tc4_, tc4_, H', ⟨Nat.le_refl _⟩, by repeat (first | exact Drawn0.refl _ | apply Drawn0.step)⟩
 case round =>
  clear H'
  try clear c1
  try clear p2
  obtain ⟨x5_1, x6_1, rfl, rfl, HA, HK1, ⟨m1, rfl⟩⟩ := hrel
  cases gk with
  | zero => exact absurd HA.out (by simp [impl_product.l0])
  | succ k1 =>
   have H := HA.out
   clear HA
   simp only [impl_product.l0] at H
   by_cases c3 : x6_1 ≤ a1
   ·rw [if_pos c3] at H
    have c3b0 : decide (x6_1 ≤ a1) = true := decide_eq_true c3
    clear c3
    have H' := Aside0.mk H
    clear H
    go_wp2
    go_roundg k1
    case measure => have := HK1.out; omega
    case rel => exact ⟨(wrap64 (x5_1 * x6_1)), (wrap64 (x6_1 + 1)), tc4_, tc4_, H', ⟨by have := HK1.out; omega⟩, by repeat (first | exact Drawn0.refl _ | apply Drawn0.step)⟩
   ·rw [if_neg c3] at H
    have c3b0 : decide (x6_1 ≤ a1) = false := decide_eq_false c3
    clear c3
    obtain rfl := Option.some.inj H
    go_wp2
    go_ret
    exact ⟨by first | rfl | (simp; done) | (simp [*]; done), by repeat (first | exact Drawn0.refl _ | apply Drawn0.step)⟩

/-! ### impl_countSigns: function 70 -/
def impl_countSigns.l0 : Nat → Int → Int → Int → Option (Int)
 | 0, _, _, _ => none
 | k + 1, x0, x3, x4 => if x4 < x0 then ((impl_product.f k (wrap64 ((wrap64 (2 * x4)) + 2)) (wrap64 ((wrap64 (3 * x4)) + 1))).bind fun t101 => ((impl_product.f k (wrap64 (x4 + 1)) (wrap64 (2 * x4))).bind fun t102 => (if t102 = 0 then (none) else (impl_countSigns.l0 k x0 (wrap64 (Int.tdiv (wrap64 (x3 * t101)) t102)) (wrap64 (x4 + 1)))))) else (some x3)
def impl_countSigns.f (k : Nat) (a0 : Int) : Option (Int) := impl_countSigns.l0 k a0 1 1
theorem impl_countSigns.mono_l : ∀ k, (∀ y0 y1 y2, LeO (impl_countSigns.l0 k y0 y1 y2) (impl_countSigns.l0 (k + 1) y0 y1 y2))
 | 0 => fun _ _ _ r h => by simp [impl_countSigns.l0] at h
 | k + 1 => by
  have ih0 := impl_countSigns.mono_l k
  ·intro y0 y1 y2
   unfold impl_countSigns.l0
   repeat' first
   | (with_reducible exact ih0 _ _ _)
   | (with_reducible exact impl_product.mono _ _ _)
   | (with_reducible exact LeO.refl _)
   | (with_reducible exact LeO.none _)
   | (with_reducible refine LeO.ite ?_ ?_)
   | (with_reducible refine LeO.bind ?_ (fun _ => ?_))
   | exact ih0 _ _ _
   | exact impl_product.mono _ _ _
   | exact LeO.none _
   | refine LeO.ite ?_ ?_
   | refine LeO.bind ?_ (fun _ => ?_)
theorem impl_countSigns.mono : ∀ a0  k, LeO (impl_countSigns.f k a0) (impl_countSigns.f (k + 1) a0) := by
 intro a0 k
 have ih0 := impl_countSigns.mono_l k
 unfold impl_countSigns.f
 repeat' first
   | (with_reducible exact ih0 _ _ _)
   | (with_reducible exact impl_product.mono _ _ _)
   | (with_reducible exact LeO.refl _)
   | (with_reducible exact LeO.none _)
   | (with_reducible refine LeO.ite ?_ ?_)
   | (with_reducible refine LeO.bind ?_ (fun _ => ?_))
   | exact ih0 _ _ _
   | exact impl_product.mono _ _ _
   | exact LeO.none _
   | refine LeO.ite ?_ ?_
   | refine LeO.bind ?_ (fun _ => ?_)
set_option maxHeartbeats 8000000 in
set_option maxRecDepth 100000 in
theorem impl_countSigns.calls (k : Nat) (a0 : Int) (r : Int) (w : World) (h : impl_countSigns.f k a0 = some r) :
  Calls Try.prog 70 #[.int .i64 a0] w fun e w' => e = .returned (.int .i64 r) ∧ Drawn0 w w' := by
 have H : (impl_countSigns.l0 k a0 1 1) = some r := h
 clear h
 have H' := Aside0.mk H
 clear H
 go_enter Try.func70, Try.ntmps70
 go_wp2
 go_loopg [3, 4] k (fun kq v3 v4 w' => ∃ (x3_1 : Int) (x4_1 : Int), v3 = .int .i64 x3_1 ∧ v4 = .int .i64 x4_1 ∧ Aside0 (impl_countSigns.l0 kq a0 x3_1 x4_1 = some r) ∧ Aside0 (kq ≤ k) ∧ Drawn0 w w')
 case atStart => exact ⟨(1), (1), tc4_, tc4_, H', ⟨Nat.le_refl _⟩, by repeat (first | exact Drawn0.refl _ | apply Drawn0.step)⟩
 case round =>
  clear H'
  obtain ⟨x3_1, x4_1, rfl, rfl, HA, HK1, ⟨m1, rfl⟩⟩ := hrel
  cases gk with
  | zero => exact absurd HA.out (by simp [impl_countSigns.l0])
  | succ k1 =>
   have H := HA.out
   clear HA
   simp only [impl_countSigns.l0] at H
   by_cases c2 : x4_1 < a0
   ·rw [if_pos c2] at H
    have c2b0 : decide (x4_1 < a0) = true := decide_eq_true c2
    clear c2
    replace H := Option.bind_eq_some_iff.mp H
    obtain ⟨t101, A30, H⟩ := H
    replace H : ((impl_product.f k1 (wrap64 (x4_1 + 1)) (wrap64 (2 * x4_1))).bind fun t102 => (if t102 = 0 then (none) else (impl_countSigns.l0 k1 a0 (wrap64 (Int.tdiv (wrap64 (x3_1 * t101)) t102)) (wrap64 (x4_1 + 1))))) = some r := H
    have A3 := Aside0.mk A30
    clear A30
    replace H := Option.bind_eq_some_iff.mp H
    obtain ⟨t102, A40, H⟩ := H
    replace H : (if t102 = 0 then (none) else (impl_countSigns.l0 k1 a0 (wrap64 (Int.tdiv (wrap64 (x3_1 * t101)) t102)) (wrap64 (x4_1 + 1)))) = some r := H
    have A4 := Aside0.mk A40
    clear A40
    by_cases c5 : t102 = 0
    ·rw [if_pos c5] at H
     exact absurd H (by simp)
    ·rw [if_neg c5] at H
     have c5b0 : (t102 == 0) = false := beq_eq_false_iff_ne.mpr c5
     have c5b1 : (t102 != 0) = true := bne_iff_ne.mpr c5
     have H' := Aside0.mk H
     clear H
     go_wp2_with (first | ((with_reducible refine gate_callee (f := 118) rfl ?_); refine goesL_ (some 17) rfl rfl Try.func118 (by kernel_rfl) rfl #[.int .i64 (wrap64 ((wrap64 (2 * x4_1)) + 2)), .int .i64 (wrap64 ((wrap64 (3 * x4_1)) + 1))] rfl tc1_ ?_; (with_reducible refine (impl_product.calls k1 (wrap64 ((wrap64 (2 * x4_1)) + 2)) (wrap64 ((wrap64 (3 * x4_1)) + 1)) t101 _ A3.out).mono ?_); rintro e w' ⟨rfl, ⟨nd, rfl⟩⟩; refine ⟨_, rfl, ?_⟩) | ((with_reducible refine gate_callee (f := 118) rfl ?_); refine goesL_ (some 23) rfl rfl Try.func118 (by kernel_rfl) rfl #[.int .i64 (wrap64 (x4_1 + 1)), .int .i64 (wrap64 (2 * x4_1))] rfl tc1_ ?_; (with_reducible refine (impl_product.calls k1 (wrap64 (x4_1 + 1)) (wrap64 (2 * x4_1)) t102 _ A4.out).mono ?_); rintro e w' ⟨rfl, ⟨nd, rfl⟩⟩; refine ⟨_, rfl, ?_⟩))
     go_roundg k1
     case measure => have := HK1.out; omega
     case rel => exact ⟨(wrap64 (Int.tdiv (wrap64 (x3_1 * t101)) t102)), (wrap64 (x4_1 + 1)), tc4_, tc4_, H', ⟨by have := HK1.out; omega⟩, by repeat (first | exact Drawn0.refl _ | apply Drawn0.step)⟩
   ·rw [if_neg c2] at H
    have c2b0 : decide (x4_1 < a0) = false := decide_eq_false c2
    clear c2
    obtain rfl := Option.some.inj H
    go_wp2
    go_ret
    exact ⟨by first | rfl | (simp; done) | (simp [*]; done), by repeat (first | exact Drawn0.refl _ | apply Drawn0.step)⟩

/-! ### impl_CountSigns: function 17 -/
def impl_CountSigns.f (k : Nat) (a0 : Int) : Option (Int × Bool) := (impl_within.f a0 1 8).bind fun t101 => (if t101 = true then ((impl_countSigns.f k a0).bind fun t102 => (some (t102, true))) else (some (0, false)))
theorem impl_CountSigns.mono : ∀ a0  k, LeO (impl_CountSigns.f k a0) (impl_CountSigns.f (k + 1) a0) := by
 intro a0 k
 unfold impl_CountSigns.f
 repeat' first
   | (with_reducible exact impl_countSigns.mono _ _)
   | (with_reducible exact LeO.refl _)
   | (with_reducible exact LeO.none _)
   | (with_reducible refine LeO.ite ?_ ?_)
   | (with_reducible refine LeO.bind ?_ (fun _ => ?_))
   | exact impl_countSigns.mono _ _
   | exact LeO.none _
   | refine LeO.ite ?_ ?_
   | refine LeO.bind ?_ (fun _ => ?_)
set_option maxHeartbeats 8000000 in
set_option maxRecDepth 100000 in
theorem impl_CountSigns.calls (k : Nat) (a0 : Int) (r1 : Int) (r2 : Bool) (w : World) (h : impl_CountSigns.f k a0 = some (r1, r2)) :
  Calls Try.prog 17 #[.int .i64 a0] w fun e w' => e = .returned (.tuple #[.int .i64 r1, .bool r2]) ∧ Drawn0 w w' := by
 have H : ((impl_within.f a0 1 8).bind fun t101 => (if t101 = true then ((impl_countSigns.f k a0).bind fun t102 => (some (t102, true))) else (some (0, false)))) = some (r1, r2) := h
 clear h
 replace H := Option.bind_eq_some_iff.mp H
 obtain ⟨t101, A20, H⟩ := H
 replace H : (if t101 = true then ((impl_countSigns.f k a0).bind fun t102 => (some (t102, true))) else (some (0, false))) = some (r1, r2) := H
 have A2 := Aside0.mk A20
 clear A20
 by_cases c3 : t101 = true
 ·subst c3
  have H1 : ((impl_countSigns.f k a0).bind fun t102 => (some (t102, true))) = some (r1, r2) := by rw [if_pos rfl] at H; exact H
  clear H
  have H := H1
  clear H1
  replace H := Option.bind_eq_some_iff.mp H
  obtain ⟨t102, A40, H⟩ := H
  replace H : (some (t102, true)) = some (r1, r2) := H
  have A4 := Aside0.mk A40
  clear A40
  simp only [Option.some.injEq, Prod.mk.injEq] at H
  obtain ⟨rfl, rfl⟩ := H
  go_enter Try.func17, Try.ntmps17
  go_wp2_with (first | ((with_reducible refine gate_callee (f := 69) rfl ?_); refine goesL_ (some 5) rfl rfl Try.func69 (by kernel_rfl) rfl #[.int .i64 a0, .int .i64 1, .int .i64 8] rfl tc1_ ?_; (with_reducible refine (impl_within.calls a0 1 8 true _ A2.out).mono ?_); rintro e w' ⟨rfl, ⟨nd, rfl⟩⟩; refine ⟨_, rfl, ?_⟩) | ((with_reducible refine gate_callee (f := 70) rfl ?_); refine goesL_ (some 8) rfl rfl Try.func70 (by kernel_rfl) rfl #[.int .i64 a0] rfl tc1_ ?_; (with_reducible refine (impl_countSigns.calls k a0 t102 _ A4.out).mono ?_); rintro e w' ⟨rfl, ⟨nd, rfl⟩⟩; refine ⟨_, rfl, ?_⟩))
  go_ret2
  exact ⟨by first | rfl | (simp; done) | (simp [*]; done), by repeat (first | exact Drawn0.refl _ | apply Drawn0.step)⟩
 ·replace c3 := Bool.eq_false_iff.mpr c3
  subst c3
  have H1 : (some (0, false)) = some (r1, r2) := by rw [if_neg (show ¬ (false = true) by decide)] at H; exact H
  clear H
  have H := H1
  clear H1
  simp only [Option.some.injEq, Prod.mk.injEq] at H
  obtain ⟨rfl, rfl⟩ := H
  go_enter Try.func17, Try.ntmps17
  go_wp2_with (first | ((with_reducible refine gate_callee (f := 69) rfl ?_); refine goesL_ (some 5) rfl rfl Try.func69 (by kernel_rfl) rfl #[.int .i64 a0, .int .i64 1, .int .i64 8] rfl tc1_ ?_; (with_reducible refine (impl_within.calls a0 1 8 false _ A2.out).mono ?_); rintro e w' ⟨rfl, ⟨nd, rfl⟩⟩; refine ⟨_, rfl, ?_⟩))
  go_ret2
  exact ⟨by first | rfl | (simp; done) | (simp [*]; done), by repeat (first | exact Drawn0.refl _ | apply Drawn0.step)⟩

/-! ### laws_uPower: function 18 -/
def laws_uPower.l0 : Nat → Int → Int → Int → Option (Int)
 | 0, _, _, _ => none
 | k + 1, x0, x1, x5 => if x1 > 0 then (laws_uPower.l0 k x0 (wrap64 (x1 - 1)) (wrap64 (x5 * x0))) else (some x5)
def laws_uPower.f (k : Nat) (a0 : Int) (a1 : Int) : Option (Int) := laws_uPower.l0 k a0 a1 1
theorem laws_uPower.mono_l : ∀ k, (∀ y0 y1 y2, LeO (laws_uPower.l0 k y0 y1 y2) (laws_uPower.l0 (k + 1) y0 y1 y2))
 | 0 => fun _ _ _ r h => by simp [laws_uPower.l0] at h
 | k + 1 => by
  have ih0 := laws_uPower.mono_l k
  ·intro y0 y1 y2
   unfold laws_uPower.l0
   repeat' first
   | (with_reducible exact ih0 _ _ _)
   | (with_reducible exact LeO.refl _)
   | (with_reducible exact LeO.none _)
   | (with_reducible refine LeO.ite ?_ ?_)
   | (with_reducible refine LeO.bind ?_ (fun _ => ?_))
   | exact ih0 _ _ _
   | exact LeO.none _
   | refine LeO.ite ?_ ?_
   | refine LeO.bind ?_ (fun _ => ?_)
theorem laws_uPower.mono : ∀ a0 a1  k, LeO (laws_uPower.f k a0 a1) (laws_uPower.f (k + 1) a0 a1) := by
 intro a0 a1 k
 have ih0 := laws_uPower.mono_l k
 unfold laws_uPower.f
 repeat' first
   | (with_reducible exact ih0 _ _ _)
   | (with_reducible exact LeO.refl _)
   | (with_reducible exact LeO.none _)
   | (with_reducible refine LeO.ite ?_ ?_)
   | (with_reducible refine LeO.bind ?_ (fun _ => ?_))
   | exact ih0 _ _ _
   | exact LeO.none _
   | refine LeO.ite ?_ ?_
   | refine LeO.bind ?_ (fun _ => ?_)
set_option maxHeartbeats 8000000 in
set_option maxRecDepth 100000 in
theorem laws_uPower.calls (k : Nat) (a0 : Int) (a1 : Int) (r : Int) (w : World) (h : laws_uPower.f k a0 a1 = some r) :
  Calls Try.prog 18 #[.int .i64 a0, .int .i64 a1] w fun e w' => e = .returned (.int .i64 r) ∧ Drawn0 w w' := by
 have H : (laws_uPower.l0 k a0 a1 1) = some r := h
 clear h
 have H' := Aside0.mk H
 clear H
 go_enter Try.func18, Try.ntmps18
 go_wp2
 go_loopg [1, 5] k (fun kq v1 v5 w' => ∃ (x1_1 : Int) (x5_1 : Int), v1 = .int .i64 x1_1 ∧ v5 = .int .i64 x5_1 ∧ Aside0 (laws_uPower.l0 kq a0 x1_1 x5_1 = some r) ∧ Aside0 (kq ≤ k) ∧ Drawn0 w w')
 case atStart => exact ⟨(a1), (1), tc4_, tc4_, H', ⟨Nat.le_refl _⟩, by repeat (first | exact Drawn0.refl _ | apply Drawn0.step)⟩
 case round =>
  clear H'
  try clear c1
  try clear p2
  obtain ⟨x1_1, x5_1, rfl, rfl, HA, HK1, ⟨m1, rfl⟩⟩ := hrel
  cases gk with
  | zero => exact absurd HA.out (by simp [laws_uPower.l0])
  | succ k1 =>
   have H := HA.out
   clear HA
   simp only [laws_uPower.l0] at H
   by_cases c3 : x1_1 > 0
   ·rw [if_pos c3] at H
    have c3b0 : decide (0 < x1_1) = true := decide_eq_true c3
    clear c3
    have H' := Aside0.mk H
    clear H
    go_wp2
    go_roundg k1
    case measure => have := HK1.out; omega
    case rel => exact ⟨(wrap64 (x1_1 - 1)), (wrap64 (x5_1 * a0)), tc4_, tc4_, H', ⟨by have := HK1.out; omega⟩, by repeat (first | exact Drawn0.refl _ | apply Drawn0.step)⟩
   ·rw [if_neg c3] at H
    have c3b0 : decide (0 < x1_1) = false := decide_eq_false c3
    clear c3
    obtain rfl := Option.some.inj H
    go_wp2
    go_ret
    exact ⟨by first | rfl | (simp; done) | (simp [*]; done), by repeat (first | exact Drawn0.refl _ | apply Drawn0.step)⟩

/-! ### laws_FnFreeSums: function 3 -/
mutual
def laws_FnFreeSums.j0 : Nat → List Int → Int → Int → Int → Int → Bool → Bool → Option (Bool)
 | 0, _, _, _, _, _, _, _ => none
 | k + 1, x1, x5, x6, x7, x8, x11, x68 => if x68 = true then (some false) else ((spec_DrawWeightOf.f k x1).bind fun bt109 => ((impl_WeightOf.f k bt109.1 bt109.2.1 bt109.2.2.1 bt109.2.2.2).bind fun bt115 => ((spec_WeightOf.f k bt109.1 bt109.2.1 bt109.2.2.1 bt109.2.2.2).bind fun bt117 => (if (bt115.2 != bt117.2) = true then (laws_FnFreeSums.j1 k x1 x5 x6 x7 x8 x11 bt109.1 bt109.2.1 bt109.2.2.1 bt109.2.2.2 bt115.1 bt115.2 true) else (laws_FnFreeSums.j1 k x1 x5 x6 x7 x8 x11 bt109.1 bt109.2.1 bt109.2.2.1 bt109.2.2.2 bt115.1 bt115.2 (bt115.1 != bt117.1))))))
def laws_FnFreeSums.j1 : Nat → List Int → Int → Int → Int → Int → Bool → List (List Int) → Int → Int → Int → Int → Bool → Bool → Option (Bool)
 | 0, _, _, _, _, _, _, _, _, _, _, _, _, _ => none
 | k + 1, x1, x5, x6, x7, x8, x11, x12, x13, x14, x15, x16, x17, x99 => if x99 = true then (some false) else (if x17 = true then ((impl_MirrorMatrix.f k x12).bind fun bt119 => ((impl_WeightOf.f k bt119.1 x14 x13 x15).bind fun bt123 => (if bt119.2 = true then (if bt123.2 = true then (if bt123.1 = x16 then (laws_FnFreeSums.j2 k x1 x5 x6 x7 x8 x11) else (some false)) else (some false)) else (some false)))) else (laws_FnFreeSums.j2 k x1 x5 x6 x7 x8 x11))
def laws_FnFreeSums.j2 : Nat → List Int → Int → Int → Int → Int → Bool → Option (Bool)
 | 0, _, _, _, _, _, _ => none
 | k + 1, x1, x5, x6, x7, x8, x11 => (spec_DrawWeightSum.f x1).bind fun bt125 => ((impl_WeightSum.f k bt125.1 bt125.2.1 bt125.2.2.1 bt125.2.2.2).bind fun bt129 => ((spec_WeightSum.f k bt125.1 bt125.2.1 bt125.2.2.1 bt125.2.2.2).bind fun bt131 => (if (bt129.2 != bt131.2) = true then (laws_FnFreeSums.j3 k x5 x6 x7 x8 x11 bt125.1 bt125.2.1 bt125.2.2.1 bt125.2.2.2 bt129.1 bt129.2 true) else (laws_FnFreeSums.j3 k x5 x6 x7 x8 x11 bt125.1 bt125.2.1 bt125.2.2.1 bt125.2.2.2 bt129.1 bt129.2 (bt129.1 != bt131.1)))))
def laws_FnFreeSums.j3 : Nat → Int → Int → Int → Int → Bool → Int → Int → Int → Int → Int → Bool → Bool → Option (Bool)
 | 0, _, _, _, _, _, _, _, _, _, _, _, _ => none
 | k + 1, x5, x6, x7, x8, x11, x24, x25, x26, x27, x28, x29, x155 => if x155 = true then (some false) else (if x29 = true then ((impl_WeightSum.f k x24 x26 x25 x27).bind fun bt133 => ((impl_WeightSum.f k x24 1 1 1).bind fun bt135 => ((impl_CountSigns.f k x24).bind fun bt137 => (if bt133.2 = true then (if bt135.2 = true then (if bt137.2 = true then (if bt133.1 = x28 then (if bt135.1 = bt137.1 then (if x11 = true then ((laws_uPower.f k (wrap64 (x6 + x7)) (wrap64 (Int.tdiv (wrap64 (x5 * (wrap64 (x5 - 1)))) 2))).bind fun t139 => (some (x8 == t139))) else (some true)) else (some false)) else (some false)) else (some false)) else (some false)) else (some false))))) else (if x11 = true then ((laws_uPower.f k (wrap64 (x6 + x7)) (wrap64 (Int.tdiv (wrap64 (x5 * (wrap64 (x5 - 1)))) 2))).bind fun t140 => (some (x8 == t140))) else (some true)))
end
def laws_FnFreeSums.f (k : Nat) (l0 : List Int) (l1 : List Int) : Option (Bool) := (laws_big.f l0 l1).bind fun t101 => (if t101 = true then (some true) else ((spec_DrawFreeSum.f l0).bind fun bt102 => ((impl_FreeSum.f k bt102.1 bt102.2.1 bt102.2.2).bind fun bt105 => ((spec_FreeSum.f k bt102.1 bt102.2.1 bt102.2.2).bind fun bt107 => (if (bt105.2 != bt107.2) = true then (laws_FnFreeSums.j0 k l1 bt102.1 bt102.2.1 bt102.2.2 bt105.1 bt107.2 true) else (laws_FnFreeSums.j0 k l1 bt102.1 bt102.2.1 bt102.2.2 bt105.1 bt107.2 (bt105.1 != bt107.1)))))))
theorem laws_FnFreeSums.mono_l : ∀ k, (∀ y0 y1 y2 y3 y4 y5 y6, LeO (laws_FnFreeSums.j0 k y0 y1 y2 y3 y4 y5 y6) (laws_FnFreeSums.j0 (k + 1) y0 y1 y2 y3 y4 y5 y6)) ∧ (∀ y0 y1 y2 y3 y4 y5 y6 y7 y8 y9 y10 y11 y12, LeO (laws_FnFreeSums.j1 k y0 y1 y2 y3 y4 y5 y6 y7 y8 y9 y10 y11 y12) (laws_FnFreeSums.j1 (k + 1) y0 y1 y2 y3 y4 y5 y6 y7 y8 y9 y10 y11 y12)) ∧ (∀ y0 y1 y2 y3 y4 y5, LeO (laws_FnFreeSums.j2 k y0 y1 y2 y3 y4 y5) (laws_FnFreeSums.j2 (k + 1) y0 y1 y2 y3 y4 y5)) ∧ (∀ y0 y1 y2 y3 y4 y5 y6 y7 y8 y9 y10 y11, LeO (laws_FnFreeSums.j3 k y0 y1 y2 y3 y4 y5 y6 y7 y8 y9 y10 y11) (laws_FnFreeSums.j3 (k + 1) y0 y1 y2 y3 y4 y5 y6 y7 y8 y9 y10 y11))
 | 0 => ⟨fun _ _ _ _ _ _ _ r h => by simp [laws_FnFreeSums.j0] at h, fun _ _ _ _ _ _ _ _ _ _ _ _ _ r h => by simp [laws_FnFreeSums.j1] at h, fun _ _ _ _ _ _ r h => by simp [laws_FnFreeSums.j2] at h, fun _ _ _ _ _ _ _ _ _ _ _ _ r h => by simp [laws_FnFreeSums.j3] at h⟩
 | k + 1 => by
  obtain ⟨ih0, ih1, ih2, ih3⟩ := laws_FnFreeSums.mono_l k
  refine ⟨?_, ?_, ?_, ?_⟩
  ·intro y0 y1 y2 y3 y4 y5 y6
   unfold laws_FnFreeSums.j0
   repeat' first
   | (with_reducible exact ih0 _ _ _ _ _ _ _)
   | (with_reducible exact ih1 _ _ _ _ _ _ _ _ _ _ _ _ _)
   | (with_reducible exact ih2 _ _ _ _ _ _)
   | (with_reducible exact ih3 _ _ _ _ _ _ _ _ _ _ _ _)
   | (with_reducible exact impl_CountSigns.mono _ _)
   | (with_reducible exact impl_FreeSum.mono _ _ _ _)
   | (with_reducible exact impl_MirrorMatrix.mono _ _)
   | (with_reducible exact impl_WeightOf.mono _ _ _ _ _)
   | (with_reducible exact impl_WeightSum.mono _ _ _ _ _)
   | (with_reducible exact laws_uPower.mono _ _ _)
   | (with_reducible exact spec_DrawWeightOf.mono _ _)
   | (with_reducible exact spec_FreeSum.mono _ _ _ _)
   | (with_reducible exact spec_WeightOf.mono _ _ _ _ _)
   | (with_reducible exact spec_WeightSum.mono _ _ _ _ _)
   | (with_reducible exact LeO.refl _)
   | (with_reducible exact LeO.none _)
   | (with_reducible refine LeO.ite ?_ ?_)
   | (with_reducible refine LeO.bind ?_ (fun _ => ?_))
   | exact ih0 _ _ _ _ _ _ _
   | exact ih1 _ _ _ _ _ _ _ _ _ _ _ _ _
   | exact ih2 _ _ _ _ _ _
   | exact ih3 _ _ _ _ _ _ _ _ _ _ _ _
   | exact impl_CountSigns.mono _ _
   | exact impl_FreeSum.mono _ _ _ _
   | exact impl_MirrorMatrix.mono _ _
   | exact impl_WeightOf.mono _ _ _ _ _
   | exact impl_WeightSum.mono _ _ _ _ _
   | exact laws_uPower.mono _ _ _
   | exact spec_DrawWeightOf.mono _ _
   | exact spec_FreeSum.mono _ _ _ _
   | exact spec_WeightOf.mono _ _ _ _ _
   | exact spec_WeightSum.mono _ _ _ _ _
   | exact LeO.none _
   | refine LeO.ite ?_ ?_
   | refine LeO.bind ?_ (fun _ => ?_)
  ·intro y0 y1 y2 y3 y4 y5 y6 y7 y8 y9 y10 y11 y12
   unfold laws_FnFreeSums.j1
   repeat' first
   | (with_reducible exact ih0 _ _ _ _ _ _ _)
   | (with_reducible exact ih1 _ _ _ _ _ _ _ _ _ _ _ _ _)
   | (with_reducible exact ih2 _ _ _ _ _ _)
   | (with_reducible exact ih3 _ _ _ _ _ _ _ _ _ _ _ _)
   | (with_reducible exact impl_CountSigns.mono _ _)
   | (with_reducible exact impl_FreeSum.mono _ _ _ _)
   | (with_reducible exact impl_MirrorMatrix.mono _ _)
   | (with_reducible exact impl_WeightOf.mono _ _ _ _ _)
   | (with_reducible exact impl_WeightSum.mono _ _ _ _ _)
   | (with_reducible exact laws_uPower.mono _ _ _)
   | (with_reducible exact spec_DrawWeightOf.mono _ _)
   | (with_reducible exact spec_FreeSum.mono _ _ _ _)
   | (with_reducible exact spec_WeightOf.mono _ _ _ _ _)
   | (with_reducible exact spec_WeightSum.mono _ _ _ _ _)
   | (with_reducible exact LeO.refl _)
   | (with_reducible exact LeO.none _)
   | (with_reducible refine LeO.ite ?_ ?_)
   | (with_reducible refine LeO.bind ?_ (fun _ => ?_))
   | exact ih0 _ _ _ _ _ _ _
   | exact ih1 _ _ _ _ _ _ _ _ _ _ _ _ _
   | exact ih2 _ _ _ _ _ _
   | exact ih3 _ _ _ _ _ _ _ _ _ _ _ _
   | exact impl_CountSigns.mono _ _
   | exact impl_FreeSum.mono _ _ _ _
   | exact impl_MirrorMatrix.mono _ _
   | exact impl_WeightOf.mono _ _ _ _ _
   | exact impl_WeightSum.mono _ _ _ _ _
   | exact laws_uPower.mono _ _ _
   | exact spec_DrawWeightOf.mono _ _
   | exact spec_FreeSum.mono _ _ _ _
   | exact spec_WeightOf.mono _ _ _ _ _
   | exact spec_WeightSum.mono _ _ _ _ _
   | exact LeO.none _
   | refine LeO.ite ?_ ?_
   | refine LeO.bind ?_ (fun _ => ?_)
  ·intro y0 y1 y2 y3 y4 y5
   unfold laws_FnFreeSums.j2
   repeat' first
   | (with_reducible exact ih0 _ _ _ _ _ _ _)
   | (with_reducible exact ih1 _ _ _ _ _ _ _ _ _ _ _ _ _)
   | (with_reducible exact ih2 _ _ _ _ _ _)
   | (with_reducible exact ih3 _ _ _ _ _ _ _ _ _ _ _ _)
   | (with_reducible exact impl_CountSigns.mono _ _)
   | (with_reducible exact impl_FreeSum.mono _ _ _ _)
   | (with_reducible exact impl_MirrorMatrix.mono _ _)
   | (with_reducible exact impl_WeightOf.mono _ _ _ _ _)
   | (with_reducible exact impl_WeightSum.mono _ _ _ _ _)
   | (with_reducible exact laws_uPower.mono _ _ _)
   | (with_reducible exact spec_DrawWeightOf.mono _ _)
   | (with_reducible exact spec_FreeSum.mono _ _ _ _)
   | (with_reducible exact spec_WeightOf.mono _ _ _ _ _)
   | (with_reducible exact spec_WeightSum.mono _ _ _ _ _)
   | (with_reducible exact LeO.refl _)
   | (with_reducible exact LeO.none _)
   | (with_reducible refine LeO.ite ?_ ?_)
   | (with_reducible refine LeO.bind ?_ (fun _ => ?_))
   | exact ih0 _ _ _ _ _ _ _
   | exact ih1 _ _ _ _ _ _ _ _ _ _ _ _ _
   | exact ih2 _ _ _ _ _ _
   | exact ih3 _ _ _ _ _ _ _ _ _ _ _ _
   | exact impl_CountSigns.mono _ _
   | exact impl_FreeSum.mono _ _ _ _
   | exact impl_MirrorMatrix.mono _ _
   | exact impl_WeightOf.mono _ _ _ _ _
   | exact impl_WeightSum.mono _ _ _ _ _
   | exact laws_uPower.mono _ _ _
   | exact spec_DrawWeightOf.mono _ _
   | exact spec_FreeSum.mono _ _ _ _
   | exact spec_WeightOf.mono _ _ _ _ _
   | exact spec_WeightSum.mono _ _ _ _ _
   | exact LeO.none _
   | refine LeO.ite ?_ ?_
   | refine LeO.bind ?_ (fun _ => ?_)
  ·intro y0 y1 y2 y3 y4 y5 y6 y7 y8 y9 y10 y11
   unfold laws_FnFreeSums.j3
   repeat' first
   | (with_reducible exact ih0 _ _ _ _ _ _ _)
   | (with_reducible exact ih1 _ _ _ _ _ _ _ _ _ _ _ _ _)
   | (with_reducible exact ih2 _ _ _ _ _ _)
   | (with_reducible exact ih3 _ _ _ _ _ _ _ _ _ _ _ _)
   | (with_reducible exact impl_CountSigns.mono _ _)
   | (with_reducible exact impl_FreeSum.mono _ _ _ _)
   | (with_reducible exact impl_MirrorMatrix.mono _ _)
   | (with_reducible exact impl_WeightOf.mono _ _ _ _ _)
   | (with_reducible exact impl_WeightSum.mono _ _ _ _ _)
   | (with_reducible exact laws_uPower.mono _ _ _)
   | (with_reducible exact spec_DrawWeightOf.mono _ _)
   | (with_reducible exact spec_FreeSum.mono _ _ _ _)
   | (with_reducible exact spec_WeightOf.mono _ _ _ _ _)
   | (with_reducible exact spec_WeightSum.mono _ _ _ _ _)
   | (with_reducible exact LeO.refl _)
   | (with_reducible exact LeO.none _)
   | (with_reducible refine LeO.ite ?_ ?_)
   | (with_reducible refine LeO.bind ?_ (fun _ => ?_))
   | exact ih0 _ _ _ _ _ _ _
   | exact ih1 _ _ _ _ _ _ _ _ _ _ _ _ _
   | exact ih2 _ _ _ _ _ _
   | exact ih3 _ _ _ _ _ _ _ _ _ _ _ _
   | exact impl_CountSigns.mono _ _
   | exact impl_FreeSum.mono _ _ _ _
   | exact impl_MirrorMatrix.mono _ _
   | exact impl_WeightOf.mono _ _ _ _ _
   | exact impl_WeightSum.mono _ _ _ _ _
   | exact laws_uPower.mono _ _ _
   | exact spec_DrawWeightOf.mono _ _
   | exact spec_FreeSum.mono _ _ _ _
   | exact spec_WeightOf.mono _ _ _ _ _
   | exact spec_WeightSum.mono _ _ _ _ _
   | exact LeO.none _
   | refine LeO.ite ?_ ?_
   | refine LeO.bind ?_ (fun _ => ?_)
theorem laws_FnFreeSums.mono : ∀ a0 a1  k, LeO (laws_FnFreeSums.f k a0 a1) (laws_FnFreeSums.f (k + 1) a0 a1) := by
 intro a0 a1 k
 obtain ⟨ih0, ih1, ih2, ih3⟩ := laws_FnFreeSums.mono_l k
 unfold laws_FnFreeSums.f
 repeat' first
   | (with_reducible exact ih0 _ _ _ _ _ _ _)
   | (with_reducible exact ih1 _ _ _ _ _ _ _ _ _ _ _ _ _)
   | (with_reducible exact ih2 _ _ _ _ _ _)
   | (with_reducible exact ih3 _ _ _ _ _ _ _ _ _ _ _ _)
   | (with_reducible exact impl_CountSigns.mono _ _)
   | (with_reducible exact impl_FreeSum.mono _ _ _ _)
   | (with_reducible exact impl_MirrorMatrix.mono _ _)
   | (with_reducible exact impl_WeightOf.mono _ _ _ _ _)
   | (with_reducible exact impl_WeightSum.mono _ _ _ _ _)
   | (with_reducible exact laws_uPower.mono _ _ _)
   | (with_reducible exact spec_DrawWeightOf.mono _ _)
   | (with_reducible exact spec_FreeSum.mono _ _ _ _)
   | (with_reducible exact spec_WeightOf.mono _ _ _ _ _)
   | (with_reducible exact spec_WeightSum.mono _ _ _ _ _)
   | (with_reducible exact LeO.refl _)
   | (with_reducible exact LeO.none _)
   | (with_reducible refine LeO.ite ?_ ?_)
   | (with_reducible refine LeO.bind ?_ (fun _ => ?_))
   | exact ih0 _ _ _ _ _ _ _
   | exact ih1 _ _ _ _ _ _ _ _ _ _ _ _ _
   | exact ih2 _ _ _ _ _ _
   | exact ih3 _ _ _ _ _ _ _ _ _ _ _ _
   | exact impl_CountSigns.mono _ _
   | exact impl_FreeSum.mono _ _ _ _
   | exact impl_MirrorMatrix.mono _ _
   | exact impl_WeightOf.mono _ _ _ _ _
   | exact impl_WeightSum.mono _ _ _ _ _
   | exact laws_uPower.mono _ _ _
   | exact spec_DrawWeightOf.mono _ _
   | exact spec_FreeSum.mono _ _ _ _
   | exact spec_WeightOf.mono _ _ _ _ _
   | exact spec_WeightSum.mono _ _ _ _ _
   | exact LeO.none _
   | refine LeO.ite ?_ ?_
   | refine LeO.bind ?_ (fun _ => ?_)
set_option maxHeartbeats 8000000 in
set_option maxRecDepth 100000 in
theorem laws_FnFreeSums.calls (k : Nat) (A0 : Option Addr) (c0 : Nat) (l0 : List Int) (A1 : Option Addr) (c1 : Nat) (l1 : List Int) (r : Bool) (w : World) (hr_ : r = true) (hr0 : Kd.C (Kd.int .u8) w A0 l0.length l0) (hc0 : l0.length ≤ c0) (hr1 : Kd.C (Kd.int .u8) w A1 l1.length l1) (hc1 : l1.length ≤ c1) (h : laws_FnFreeSums.f k l0 l1 = some r) :
  Calls Try.prog 3 #[.slice A0 l0.length c0, .slice A1 l1.length c1] w fun e w' => e = .returned (.bool r) ∧ Below w.heap.size w w' := by
 have HR_ := Aside0.mk hr_
 clear hr_
 have HR0 := Aside0.mk hr0
 have HC0 := Aside0.mk hc0
 clear hr0 hc0
 have HR1 := Aside0.mk hr1
 have HC1 := Aside0.mk hc1
 clear hr1 hc1
 have HB := Aside0.mk (Below.refl w.heap.size w)
 have H : ((laws_big.f l0 l1).bind fun t101 => (if t101 = true then (some true) else ((spec_DrawFreeSum.f l0).bind fun bt102 => ((impl_FreeSum.f k bt102.1 bt102.2.1 bt102.2.2).bind fun bt105 => ((spec_FreeSum.f k bt102.1 bt102.2.1 bt102.2.2).bind fun bt107 => (if (bt105.2 != bt107.2) = true then (laws_FnFreeSums.j0 k l1 bt102.1 bt102.2.1 bt102.2.2 bt105.1 bt107.2 true) else (laws_FnFreeSums.j0 k l1 bt102.1 bt102.2.1 bt102.2.2 bt105.1 bt107.2 (bt105.1 != bt107.1)))))))) = some r := h
 clear h
 replace H := Option.bind_eq_some_iff.mp H
 obtain ⟨t101, A30, H⟩ := H
 replace H : (if t101 = true then (some true) else ((spec_DrawFreeSum.f l0).bind fun bt102 => ((impl_FreeSum.f k bt102.1 bt102.2.1 bt102.2.2).bind fun bt105 => ((spec_FreeSum.f k bt102.1 bt102.2.1 bt102.2.2).bind fun bt107 => (if (bt105.2 != bt107.2) = true then (laws_FnFreeSums.j0 k l1 bt102.1 bt102.2.1 bt102.2.2 bt105.1 bt107.2 true) else (laws_FnFreeSums.j0 k l1 bt102.1 bt102.2.1 bt102.2.2 bt105.1 bt107.2 (bt105.1 != bt107.1))))))) = some r := H
 have A3 := Aside0.mk A30
 clear A30
 by_cases c4 : t101 = true
 ·subst c4
  have H1 : (some true) = some r := by rw [if_pos rfl] at H; exact H
  clear H
  have H := H1
  clear H1
  obtain rfl := Option.some.inj H
  go_enter Try.func3, Try.ntmps3
  go_wp2_with (first | ((with_reducible refine gate_callee (f := 6) rfl ?_); refine goesL_ (some 40) rfl rfl Try.func6 (by kernel_rfl) rfl #[.slice A0 l0.length c0, .slice A1 l1.length c1] rfl tc1_ ?_; (with_reducible refine (laws_big.calls _ _ l0 _ _ l1 true _ ?side1 ?side2 ?side3 ?side4 A3.out).mono ?_); (case side1 => repeat (first | exact HR0.out | (with_reducible refine Kd.C_alloc ?_ _) | (with_reducible refine Kd.C_drewN ?_ _) | (with_reducible refine Kd.C_drew ?_))); (case side2 => exact HC0.out); (case side3 => repeat (first | exact HR1.out | (with_reducible refine Kd.C_alloc ?_ _) | (with_reducible refine Kd.C_drewN ?_ _) | (with_reducible refine Kd.C_drew ?_))); (case side4 => exact HC1.out); rintro e w' ⟨rfl, ⟨nd, rfl⟩⟩; refine ⟨_, rfl, ?_⟩))
  go_ret
  exact ⟨by first | rfl | (simp [errW_none, errW_some] <;> rfl) | (simp [*, errW_none, errW_some] <;> rfl), by repeat (first | (with_reducible first | exact HB.out | apply below_alloc | apply pw_below_drewN | apply below_drew1) | exact HB.out)⟩
 ·replace c4 := Bool.eq_false_iff.mpr c4
  subst c4
  have H1 : ((spec_DrawFreeSum.f l0).bind fun bt102 => ((impl_FreeSum.f k bt102.1 bt102.2.1 bt102.2.2).bind fun bt105 => ((spec_FreeSum.f k bt102.1 bt102.2.1 bt102.2.2).bind fun bt107 => (if (bt105.2 != bt107.2) = true then (laws_FnFreeSums.j0 k l1 bt102.1 bt102.2.1 bt102.2.2 bt105.1 bt107.2 true) else (laws_FnFreeSums.j0 k l1 bt102.1 bt102.2.1 bt102.2.2 bt105.1 bt107.2 (bt105.1 != bt107.1)))))) = some r := by rw [if_neg (show ¬ (false = true) by decide)] at H; exact H
  clear H
  have H := H1
  clear H1
  replace H := Option.bind_eq_some_iff.mp H
  obtain ⟨⟨t102, t103, t104⟩, A50, H⟩ := H
  replace H : ((impl_FreeSum.f k t102 t103 t104).bind fun bt105 => ((spec_FreeSum.f k t102 t103 t104).bind fun bt107 => (if (bt105.2 != bt107.2) = true then (laws_FnFreeSums.j0 k l1 t102 t103 t104 bt105.1 bt107.2 true) else (laws_FnFreeSums.j0 k l1 t102 t103 t104 bt105.1 bt107.2 (bt105.1 != bt107.1))))) = some r := H
  have A5 := Aside0.mk A50
  clear A50
  replace H := Option.bind_eq_some_iff.mp H
  obtain ⟨⟨t105, t106⟩, A60, H⟩ := H
  replace H : ((spec_FreeSum.f k t102 t103 t104).bind fun bt107 => (if (t106 != bt107.2) = true then (laws_FnFreeSums.j0 k l1 t102 t103 t104 t105 bt107.2 true) else (laws_FnFreeSums.j0 k l1 t102 t103 t104 t105 bt107.2 (t105 != bt107.1)))) = some r := H
  have A6 := Aside0.mk A60
  clear A60
  replace H := Option.bind_eq_some_iff.mp H
  obtain ⟨⟨t107, t108⟩, A70, H⟩ := H
  replace H : (if (t106 != t108) = true then (laws_FnFreeSums.j0 k l1 t102 t103 t104 t105 t108 true) else (laws_FnFreeSums.j0 k l1 t102 t103 t104 t105 t108 (t105 != t107))) = some r := H
  have A7 := Aside0.mk A70
  clear A70
  have HC8 := Aside0.mk H
  clear H
  go_enter Try.func3, Try.ntmps3
  go_upto_region 6 with (first | ((with_reducible refine gate_callee (f := 6) rfl ?_); refine goesL_ (some 40) rfl rfl Try.func6 (by kernel_rfl) rfl #[.slice A0 l0.length c0, .slice A1 l1.length c1] rfl tc1_ ?_; (with_reducible refine (laws_big.calls _ _ l0 _ _ l1 false _ ?side1 ?side2 ?side3 ?side4 A3.out).mono ?_); (case side1 => repeat (first | exact HR0.out | (with_reducible refine Kd.C_alloc ?_ _) | (with_reducible refine Kd.C_drewN ?_ _) | (with_reducible refine Kd.C_drew ?_))); (case side2 => exact HC0.out); (case side3 => repeat (first | exact HR1.out | (with_reducible refine Kd.C_alloc ?_ _) | (with_reducible refine Kd.C_drewN ?_ _) | (with_reducible refine Kd.C_drew ?_))); (case side4 => exact HC1.out); rintro e w' ⟨rfl, ⟨nd, rfl⟩⟩; refine ⟨_, rfl, ?_⟩) | ((with_reducible refine gate_callee (f := 7) rfl ?_); refine goesL_ (some 43) rfl rfl Try.func7 (by kernel_rfl) rfl #[.slice A0 l0.length c0] rfl tc1_ ?_; (with_reducible refine (spec_DrawFreeSum.calls _ _ l0 t102 t103 t104 _ ?side1 ?side2 A5.out).mono ?_); (case side1 => repeat (first | exact HR0.out | (with_reducible refine Kd.C_alloc ?_ _) | (with_reducible refine Kd.C_drewN ?_ _) | (with_reducible refine Kd.C_drew ?_))); (case side2 => exact HC0.out); rintro e w9 ⟨rfl, hb⟩; refine ⟨_, rfl, ?_⟩; have n0_ := Aside0.mk (below_step tc0_ hb); clear HB; have HB := n0_; clear n0_; (try clear hb); (try clear hb2); (try clear hk); (try clear hi)) | ((with_reducible refine gate_callee (f := 8) rfl ?_); refine goesL_ (some 51) rfl rfl Try.func8 (by kernel_rfl) rfl #[.int .i64 t102, .int .i64 t103, .int .i64 t104] rfl tc1_ ?_; (with_reducible refine (impl_FreeSum.calls k t102 t103 t104 t105 t106 _ A6.out).mono ?_); rintro e w10 ⟨rfl, hb⟩; refine ⟨_, rfl, ?_⟩; have n0_ := Aside0.mk (below_step tc0_ hb); clear HB; have HB := n0_; clear n0_; (try clear hb); (try clear hb2); (try clear hk); (try clear hi)) | ((with_reducible refine gate_callee (f := 9) rfl ?_); refine goesL_ (some 58) rfl rfl Try.func9 (by kernel_rfl) rfl #[.int .i64 t102, .int .i64 t103, .int .i64 t104] rfl tc1_ ?_; (with_reducible refine (spec_FreeSum.calls k t102 t103 t104 t107 t108 _ A7.out).mono ?_); rintro e w11 ⟨rfl, hb⟩; refine ⟨_, rfl, ?_⟩; have n0_ := Aside0.mk (below_step tc0_ hb); clear HB; have HB := n0_; clear n0_; (try clear hb); (try clear hb2); (try clear hk); (try clear hi)))
  (try simp only [Act.put, List.setIfInBounds_toArray, List.set_cons_zero, List.set_cons_succ])
  go_cut [68] (fun v68 wc => ∃ (kq : Nat) (x68_7 : Bool), v68 = .bool x68_7 ∧ Aside0 (laws_FnFreeSums.j0 kq l1 t102 t103 t104 t105 t108 x68_7 = some r) ∧ Aside0 (kq ≤ k) ∧ Aside0 (Below w.heap.size w wc))
  case first => as_aux_lemma =>
   have H := HC8.out
   clear HC8
   by_cases c12 : (t106 != t108) = true
   ·rw [if_pos c12] at H
    have c12b0 : (t106 != t108) = true := c12
    (try (have c12b1 : decide (t106 = t108) = false := by simpa using c12))
    (try (have c12b2 : (t106 == t108) = false := by simpa using c12))
    (try (have c12b3 : ¬ (t106 = t108) := by simpa using c12))
    clear c12
    (first | rw [c12b0] | (simp only [i64_w, i32_w]; rw [c12b0]) | skip)
    have H' := Aside0.mk H
    clear H
    go_wp2
    go_meet
    case rel => exact ⟨_, (true), tc4_, H', ⟨by first | omega | exact Nat.le_refl _⟩, ⟨by repeat (first | (with_reducible first | exact HB.out | apply below_alloc | apply pw_below_drewN | apply below_drew1) | exact HB.out)⟩⟩
   ·rw [if_neg c12] at H
    have c12b0 : (t106 != t108) = false := by simpa using c12
    (try (have c12b1 : decide (t106 = t108) = true := by simpa using c12))
    (try (have c12b2 : (t106 == t108) = true := by simpa using c12))
    clear c12
    (first | rw [c12b0] | (simp only [i64_w, i32_w]; rw [c12b0]) | skip)
    have H' := Aside0.mk H
    clear H
    go_wp2
    go_meet
    case rel => exact ⟨_, ((t105 != t107)), tc4_, H', ⟨by first | omega | exact Nat.le_refl _⟩, ⟨by repeat (first | (with_reducible first | exact HB.out | apply below_alloc | apply pw_below_drewN | apply below_drew1) | exact HB.out)⟩⟩
  case rest => as_aux_lemma =>
   clear HC8
   try clear c1
   try clear p2
   try clear c3
   try clear c4
   try clear c6
   try clear c7
   try clear c8
   try clear c9
   try clear c12
   try clear c12b0
   try clear c12b1
   try clear c12b2
   obtain ⟨kq, x68_7, rfl, HA, HJ7, HB⟩ := hcut
   cases kq with
   | zero => exact absurd HA.out (by simp [laws_FnFreeSums.j0])
   | succ kj7 =>
    have H := HA.out
    clear HA
    simp only [laws_FnFreeSums.j0] at H
    by_cases c13 : x68_7 = true
    ·subst c13
     exact absurd ((show (some false : Option Bool) = some r from by rw [if_pos rfl] at H; exact H).trans (congrArg some HR_.out)) (by simp)
    ·replace c13 := Bool.eq_false_iff.mpr c13
     subst c13
     have H1 : ((spec_DrawWeightOf.f kj7 l1).bind fun bt109 => ((impl_WeightOf.f kj7 bt109.1 bt109.2.1 bt109.2.2.1 bt109.2.2.2).bind fun bt115 => ((spec_WeightOf.f kj7 bt109.1 bt109.2.1 bt109.2.2.1 bt109.2.2.2).bind fun bt117 => (if (bt115.2 != bt117.2) = true then (laws_FnFreeSums.j1 kj7 l1 t102 t103 t104 t105 t108 bt109.1 bt109.2.1 bt109.2.2.1 bt109.2.2.2 bt115.1 bt115.2 true) else (laws_FnFreeSums.j1 kj7 l1 t102 t103 t104 t105 t108 bt109.1 bt109.2.1 bt109.2.2.1 bt109.2.2.2 bt115.1 bt115.2 (bt115.1 != bt117.1)))))) = some r := by rw [if_neg (show ¬ (false = true) by decide)] at H; exact H
     clear H
     have H := H1
     clear H1
     replace H := Option.bind_eq_some_iff.mp H
     obtain ⟨⟨t109, t110, t111, t112⟩, A140, H⟩ := H
     replace H : ((impl_WeightOf.f kj7 t109 t110 t111 t112).bind fun bt115 => ((spec_WeightOf.f kj7 t109 t110 t111 t112).bind fun bt117 => (if (bt115.2 != bt117.2) = true then (laws_FnFreeSums.j1 kj7 l1 t102 t103 t104 t105 t108 t109 t110 t111 t112 bt115.1 bt115.2 true) else (laws_FnFreeSums.j1 kj7 l1 t102 t103 t104 t105 t108 t109 t110 t111 t112 bt115.1 bt115.2 (bt115.1 != bt117.1))))) = some r := H
     have A14 := Aside0.mk A140
     clear A140
     replace H := Option.bind_eq_some_iff.mp H
     obtain ⟨⟨t115, t116⟩, A150, H⟩ := H
     replace H : ((spec_WeightOf.f kj7 t109 t110 t111 t112).bind fun bt117 => (if (t116 != bt117.2) = true then (laws_FnFreeSums.j1 kj7 l1 t102 t103 t104 t105 t108 t109 t110 t111 t112 t115 t116 true) else (laws_FnFreeSums.j1 kj7 l1 t102 t103 t104 t105 t108 t109 t110 t111 t112 t115 t116 (t115 != bt117.1)))) = some r := H
     have A15 := Aside0.mk A150
     clear A150
     replace H := Option.bind_eq_some_iff.mp H
     obtain ⟨⟨t117, t118⟩, A160, H⟩ := H
     replace H : (if (t116 != t118) = true then (laws_FnFreeSums.j1 kj7 l1 t102 t103 t104 t105 t108 t109 t110 t111 t112 t115 t116 true) else (laws_FnFreeSums.j1 kj7 l1 t102 t103 t104 t105 t108 t109 t110 t111 t112 t115 t116 (t115 != t117))) = some r := H
     have A16 := Aside0.mk A160
     clear A160
     have HC17 := Aside0.mk H
     clear H
     go_upto_region 11 with (first | ((with_reducible refine gate_callee (f := 10) rfl ?_); refine goesL_ (some 71) rfl rfl Try.func10 (by kernel_rfl) rfl #[.slice A1 l1.length c1] rfl tc1_ ?_; (with_reducible refine (spec_DrawWeightOf.calls kj7 _ _ l1 t109 t110 t111 t112 _ ?side1 ?side2 A14.out).mono ?_); (case side1 => repeat (first | exact (Kd.C_below HR1.out HB.out) | (with_reducible refine Kd.C_alloc ?_ _) | (with_reducible refine Kd.C_drewN ?_ _) | (with_reducible refine Kd.C_drew ?_))); (case side2 => exact HC1.out); rintro e w18 ⟨v113, rfl, ho0, hb⟩; refine ⟨_, rfl, ?_⟩; have n0_ := Aside0.mk (Kd.S_lower ho0 (below_size tc0_)); have n1_ := Aside0.mk (below_step tc0_ hb); clear HB; have HO114 := n0_; have HB := n1_; clear n0_ n1_; (try clear hb); (try clear hb2); (try clear hk); (try clear hi); (try clear ho0); obtain ⟨Ao19, co19, eo19⟩ := Kd.S_slice HO114.out; subst eo19) | ((with_reducible refine gate_callee (f := 11) rfl ?_); refine goesL_ (some 81) rfl rfl Try.func11 (by kernel_rfl) rfl #[.slice Ao19 t109.length co19, .int .i64 t110, .int .i64 t111, .int .i64 t112] rfl tc1_ ?_; (with_reducible refine (impl_WeightOf.calls kj7 _ _ t109 t110 t111 t112 t115 t116 _ ?side1 ?side2 A15.out).mono ?_); (case side1 => repeat (first | exact (Kd.S_reads' HO114.out).2.2 | (with_reducible refine Kd.C_alloc ?_ _) | (with_reducible refine Kd.C_drewN ?_ _) | (with_reducible refine Kd.C_drew ?_))); (case side2 => exact (Kd.S_reads' HO114.out).2.1); rintro e w20 ⟨rfl, hb⟩; refine ⟨_, rfl, ?_⟩; have n0_ := Aside0.mk (Kd.S_below (by (with_reducible repeat (first | apply Kd.S_alloc | apply Kd.S_drewN | apply Kd.S_drew)); exact HO114.out) hb); have n1_ := Aside0.mk (below_step tc0_ hb); clear HO114; clear HB; have HO114 := n0_; have HB := n1_; clear n0_ n1_; (try clear hb); (try clear hb2); (try clear hk); (try clear hi)) | ((with_reducible refine gate_callee (f := 12) rfl ?_); refine goesL_ (some 89) rfl rfl Try.func12 (by kernel_rfl) rfl #[.slice Ao19 t109.length co19, .int .i64 t110, .int .i64 t111, .int .i64 t112] rfl tc1_ ?_; (with_reducible refine (spec_WeightOf.calls kj7 _ _ t109 t110 t111 t112 t117 t118 _ ?side1 ?side2 A16.out).mono ?_); (case side1 => repeat (first | exact (Kd.S_reads' HO114.out).2.2 | (with_reducible refine Kd.C_alloc ?_ _) | (with_reducible refine Kd.C_drewN ?_ _) | (with_reducible refine Kd.C_drew ?_))); (case side2 => exact (Kd.S_reads' HO114.out).2.1); rintro e w21 ⟨rfl, hb⟩; refine ⟨_, rfl, ?_⟩; have n0_ := Aside0.mk (Kd.S_below (by (with_reducible repeat (first | apply Kd.S_alloc | apply Kd.S_drewN | apply Kd.S_drew)); exact HO114.out) hb); have n1_ := Aside0.mk (below_step tc0_ hb); clear HO114; clear HB; have HO114 := n0_; have HB := n1_; clear n0_ n1_; (try clear hb); (try clear hb2); (try clear hk); (try clear hi)))
     (try simp only [Act.put, List.setIfInBounds_toArray, List.set_cons_zero, List.set_cons_succ])
     go_cut [99] (fun v99 wc => ∃ (kq : Nat) (x99_16 : Bool), v99 = .bool x99_16 ∧ Aside0 (laws_FnFreeSums.j1 kq l1 t102 t103 t104 t105 t108 t109 t110 t111 t112 t115 t116 x99_16 = some r) ∧ Aside0 (kq ≤ kj7) ∧ Aside0 (Kd.S (Kd.slice 3 (Kd.int .i64)) 40 wc w.heap.size (fun _ => True) (.slice Ao19 t109.length co19) t109) ∧ Aside0 (Below w.heap.size w wc))
     case first => as_aux_lemma =>
      have H := HC17.out
      clear HC17
      by_cases c22 : (t116 != t118) = true
      ·rw [if_pos c22] at H
       have c22b0 : (t116 != t118) = true := c22
       (try (have c22b1 : decide (t116 = t118) = false := by simpa using c22))
       (try (have c22b2 : (t116 == t118) = false := by simpa using c22))
       (try (have c22b3 : ¬ (t116 = t118) := by simpa using c22))
       clear c22
       (first | rw [c22b0] | (simp only [i64_w, i32_w]; rw [c22b0]) | skip)
       have H' := Aside0.mk H
       clear H
       go_wp2
       go_meet
       case rel => exact ⟨_, (true), tc4_, H', ⟨by have := HJ7.out; first | omega | exact Nat.le_refl _⟩, ⟨by (with_reducible repeat (first | apply Kd.S_alloc | apply Kd.S_drewN | apply Kd.S_drew)); exact HO114.out⟩, ⟨by repeat (first | (with_reducible first | exact HB.out | apply below_alloc | apply pw_below_drewN | apply below_drew1) | exact HB.out)⟩⟩
      ·rw [if_neg c22] at H
       have c22b0 : (t116 != t118) = false := by simpa using c22
       (try (have c22b1 : decide (t116 = t118) = true := by simpa using c22))
       (try (have c22b2 : (t116 == t118) = true := by simpa using c22))
       clear c22
       (first | rw [c22b0] | (simp only [i64_w, i32_w]; rw [c22b0]) | skip)
       have H' := Aside0.mk H
       clear H
       go_wp2
       go_meet
       case rel => exact ⟨_, ((t115 != t117)), tc4_, H', ⟨by have := HJ7.out; first | omega | exact Nat.le_refl _⟩, ⟨by (with_reducible repeat (first | apply Kd.S_alloc | apply Kd.S_drewN | apply Kd.S_drew)); exact HO114.out⟩, ⟨by repeat (first | (with_reducible first | exact HB.out | apply below_alloc | apply pw_below_drewN | apply below_drew1) | exact HB.out)⟩⟩
     case rest => as_aux_lemma =>
      clear HC17
      try clear c1
      try clear c2
      try clear p2
      try clear c3
      try clear c4
      try clear c6
      try clear c7
      try clear c8
      try clear c9
      try clear c10
      try clear c11
      try clear c12
      try clear c12b0
      try clear c12b1
      try clear c12b2
      try clear c13
      try clear c22
      try clear c22b0
      try clear c22b1
      try clear c22b2
      try clear p2
      obtain ⟨kq, x99_16, rfl, HA, HJ16, HO_12, HB⟩ := hcut
      cases kq with
      | zero => exact absurd HA.out (by simp [laws_FnFreeSums.j1])
      | succ kj16 =>
       have H := HA.out
       clear HA
       simp only [laws_FnFreeSums.j1] at H
       by_cases c23 : x99_16 = true
       ·subst c23
        exact absurd ((show (some false : Option Bool) = some r from by rw [if_pos rfl] at H; exact H).trans (congrArg some HR_.out)) (by simp)
       ·replace c23 := Bool.eq_false_iff.mpr c23
        subst c23
        have H1 : (if t116 = true then ((impl_MirrorMatrix.f kj16 t109).bind fun bt119 => ((impl_WeightOf.f kj16 bt119.1 t111 t110 t112).bind fun bt123 => (if bt119.2 = true then (if bt123.2 = true then (if bt123.1 = t115 then (laws_FnFreeSums.j2 kj16 l1 t102 t103 t104 t105 t108) else (some false)) else (some false)) else (some false)))) else (laws_FnFreeSums.j2 kj16 l1 t102 t103 t104 t105 t108)) = some r := by rw [if_neg (show ¬ (false = true) by decide)] at H; exact H
        clear H
        have H := H1
        clear H1
        have HC24 := Aside0.mk H
        clear H
        go_upto_if 100 with (fail)
        go_cut [] (fun wc => ∃ (kq : Nat), Aside0 (laws_FnFreeSums.j2 kq l1 t102 t103 t104 t105 t108 = some r) ∧ Aside0 (kq ≤ kj16) ∧ Aside0 (Below w.heap.size w wc))
        case first => as_aux_lemma =>
         have H := HC24.out
         clear HC24
         by_cases c25 : t116 = true
         ·subst c25
          have H1 : ((impl_MirrorMatrix.f kj16 t109).bind fun bt119 => ((impl_WeightOf.f kj16 bt119.1 t111 t110 t112).bind fun bt123 => (if bt119.2 = true then (if bt123.2 = true then (if bt123.1 = t115 then (laws_FnFreeSums.j2 kj16 l1 t102 t103 t104 t105 t108) else (some false)) else (some false)) else (some false)))) = some r := by rw [if_pos rfl] at H; exact H
          clear H
          have H := H1
          clear H1
          replace H := Option.bind_eq_some_iff.mp H
          obtain ⟨⟨t119, t120⟩, A260, H⟩ := H
          replace H : ((impl_WeightOf.f kj16 t119 t111 t110 t112).bind fun bt123 => (if t120 = true then (if bt123.2 = true then (if bt123.1 = t115 then (laws_FnFreeSums.j2 kj16 l1 t102 t103 t104 t105 t108) else (some false)) else (some false)) else (some false))) = some r := H
          have A26 := Aside0.mk A260
          clear A260
          replace H := Option.bind_eq_some_iff.mp H
          obtain ⟨⟨t123, t124⟩, A270, H⟩ := H
          replace H : (if t120 = true then (if t124 = true then (if t123 = t115 then (laws_FnFreeSums.j2 kj16 l1 t102 t103 t104 t105 t108) else (some false)) else (some false)) else (some false)) = some r := H
          have A27 := Aside0.mk A270
          clear A270
          by_cases c28 : t120 = true
          ·subst c28
           have H1 : (if t124 = true then (if t123 = t115 then (laws_FnFreeSums.j2 kj16 l1 t102 t103 t104 t105 t108) else (some false)) else (some false)) = some r := by rw [if_pos rfl] at H; exact H
           clear H
           have H := H1
           clear H1
           by_cases c29 : t124 = true
           ·subst c29
            have H1 : (if t123 = t115 then (laws_FnFreeSums.j2 kj16 l1 t102 t103 t104 t105 t108) else (some false)) = some r := by rw [if_pos rfl] at H; exact H
            clear H
            have H := H1
            clear H1
            by_cases c30 : t123 = t115
            ·rw [if_pos c30] at H
             have c30b0 : (t123 == t115) = true := beq_iff_eq.mpr c30
             have c30b1 : (t123 != t115) = false := bne_eq_false_iff_eq.mpr c30
             clear c30
             (first | rw [c30b0] | (simp only [i64_w, i32_w]; rw [c30b0]) | skip)
             have H' := Aside0.mk H
             clear H
             go_wp2_with (first | ((with_reducible refine gate_callee (f := 13) rfl ?_); refine goesL_ (some 103) rfl rfl Try.func13 (by kernel_rfl) rfl #[.slice Ao19 t109.length co19] rfl tc1_ ?_; (with_reducible refine (impl_MirrorMatrix.calls kj16 _ _ t109 t119 true _ ?side1 ?side2 A26.out).mono ?_); (case side1 => repeat (first | exact (Kd.S_reads' HO_12.out).2.2 | (with_reducible refine Kd.C_alloc ?_ _) | (with_reducible refine Kd.C_drewN ?_ _) | (with_reducible refine Kd.C_drew ?_))); (case side2 => exact (Kd.S_reads' HO_12.out).2.1); rintro e w31 ⟨v121, rfl, ho0, hb⟩; refine ⟨_, rfl, ?_⟩; have n0_ := Aside0.mk (Kd.S_elder' tc20_ (Kd.S_base ho0) hb); have n1_ := Aside0.mk (Kd.S_lower (Kd.S_new' ho0 (Kd.S_lt tc20_)) (below_size tc0_)); have n2_ := Aside0.mk (below_step tc0_ hb); clear HO_12; clear HB; have HO_12 := n0_; have HO122 := n1_; have HB := n2_; clear n0_ n1_ n2_; (try clear hb); (try clear hb2); (try clear hk); (try clear hi); (try clear ho0); obtain ⟨Ao32, co32, eo32⟩ := Kd.S_slice HO122.out; subst eo32) | ((with_reducible refine gate_callee (f := 11) rfl ?_); refine goesL_ (some 111) rfl rfl Try.func11 (by kernel_rfl) rfl #[.slice Ao32 t119.length co32, .int .i64 t111, .int .i64 t110, .int .i64 t112] rfl tc1_ ?_; (with_reducible refine (impl_WeightOf.calls kj16 _ _ t119 t111 t110 t112 t123 true _ ?side1 ?side2 A27.out).mono ?_); (case side1 => repeat (first | exact (Kd.S_reads' HO122.out).2.2 | (with_reducible refine Kd.C_alloc ?_ _) | (with_reducible refine Kd.C_drewN ?_ _) | (with_reducible refine Kd.C_drew ?_))); (case side2 => exact (Kd.S_reads' HO122.out).2.1); rintro e w33 ⟨rfl, hb⟩; refine ⟨_, rfl, ?_⟩; have n0_ := Aside0.mk (Kd.S_below tc20_ hb); have n1_ := Aside0.mk (Kd.S_below (by (with_reducible repeat (first | apply Kd.S_alloc | apply Kd.S_drewN | apply Kd.S_drew)); exact HO122.out) hb); have n2_ := Aside0.mk (below_step tc0_ hb); clear HO_12; clear HO122; clear HB; have HO_12 := n0_; have HO122 := n1_; have HB := n2_; clear n0_ n1_ n2_; (try clear hb); (try clear hb2); (try clear hk); (try clear hi)))
             go_meet
             case rel => exact ⟨_, H', ⟨by have := HJ7.out; have := HJ16.out; first | omega | exact Nat.le_refl _⟩, ⟨by repeat (first | (with_reducible first | exact HB.out | apply below_alloc | apply pw_below_drewN | apply below_drew1) | exact HB.out)⟩⟩
            ·rw [if_neg c30] at H
             have c30b0 : (t123 == t115) = false := beq_eq_false_iff_ne.mpr c30
             have c30b1 : (t123 != t115) = true := bne_iff_ne.mpr c30
             (first | rw [c30b0] | (simp only [i64_w, i32_w]; rw [c30b0]) | skip)
             obtain rfl := Option.some.inj H
             go_wp2_with (first | ((with_reducible refine gate_callee (f := 13) rfl ?_); refine goesL_ (some 103) rfl rfl Try.func13 (by kernel_rfl) rfl #[.slice Ao19 t109.length co19] rfl tc1_ ?_; (with_reducible refine (impl_MirrorMatrix.calls kj16 _ _ t109 t119 true _ ?side1 ?side2 A26.out).mono ?_); (case side1 => repeat (first | exact (Kd.S_reads' HO_12.out).2.2 | (with_reducible refine Kd.C_alloc ?_ _) | (with_reducible refine Kd.C_drewN ?_ _) | (with_reducible refine Kd.C_drew ?_))); (case side2 => exact (Kd.S_reads' HO_12.out).2.1); rintro e w34 ⟨v121, rfl, ho0, hb⟩; refine ⟨_, rfl, ?_⟩; have n0_ := Aside0.mk (Kd.S_elder' tc20_ (Kd.S_base ho0) hb); have n1_ := Aside0.mk (Kd.S_lower (Kd.S_new' ho0 (Kd.S_lt tc20_)) (below_size tc0_)); have n2_ := Aside0.mk (below_step tc0_ hb); clear HO_12; clear HB; have HO_12 := n0_; have HO122 := n1_; have HB := n2_; clear n0_ n1_ n2_; (try clear hb); (try clear hb2); (try clear hk); (try clear hi); (try clear ho0); obtain ⟨Ao35, co35, eo35⟩ := Kd.S_slice HO122.out; subst eo35) | ((with_reducible refine gate_callee (f := 11) rfl ?_); refine goesL_ (some 111) rfl rfl Try.func11 (by kernel_rfl) rfl #[.slice Ao35 t119.length co35, .int .i64 t111, .int .i64 t110, .int .i64 t112] rfl tc1_ ?_; (with_reducible refine (impl_WeightOf.calls kj16 _ _ t119 t111 t110 t112 t123 true _ ?side1 ?side2 A27.out).mono ?_); (case side1 => repeat (first | exact (Kd.S_reads' HO122.out).2.2 | (with_reducible refine Kd.C_alloc ?_ _) | (with_reducible refine Kd.C_drewN ?_ _) | (with_reducible refine Kd.C_drew ?_))); (case side2 => exact (Kd.S_reads' HO122.out).2.1); rintro e w36 ⟨rfl, hb⟩; refine ⟨_, rfl, ?_⟩; have n0_ := Aside0.mk (Kd.S_below tc20_ hb); have n1_ := Aside0.mk (Kd.S_below (by (with_reducible repeat (first | apply Kd.S_alloc | apply Kd.S_drewN | apply Kd.S_drew)); exact HO122.out) hb); have n2_ := Aside0.mk (below_step tc0_ hb); clear HO_12; clear HO122; clear HB; have HO_12 := n0_; have HO122 := n1_; have HB := n2_; clear n0_ n1_ n2_; (try clear hb); (try clear hb2); (try clear hk); (try clear hi)))
             go_ret
             exact ⟨by first | rfl | (simp [errW_none, errW_some] <;> rfl) | (simp [*, errW_none, errW_some] <;> rfl), by repeat (first | (with_reducible first | exact HB.out | apply below_alloc | apply pw_below_drewN | apply below_drew1) | exact HB.out)⟩
           ·replace c29 := Bool.eq_false_iff.mpr c29
            subst c29
            exact absurd ((show (some false : Option Bool) = some r from by rw [if_neg (show ¬ (false = true) by decide)] at H; exact H).trans (congrArg some HR_.out)) (by simp)
          ·replace c28 := Bool.eq_false_iff.mpr c28
           subst c28
           exact absurd ((show (some false : Option Bool) = some r from by rw [if_neg (show ¬ (false = true) by decide)] at H; exact H).trans (congrArg some HR_.out)) (by simp)
         ·replace c25 := Bool.eq_false_iff.mpr c25
          subst c25
          have H1 : (laws_FnFreeSums.j2 kj16 l1 t102 t103 t104 t105 t108) = some r := by rw [if_neg (show ¬ (false = true) by decide)] at H; exact H
          clear H
          have H := H1
          clear H1
          have H' := Aside0.mk H
          clear H
          go_wp2
          go_meet
          case rel => exact ⟨_, H', ⟨by have := HJ7.out; have := HJ16.out; first | omega | exact Nat.le_refl _⟩, ⟨by repeat (first | (with_reducible first | exact HB.out | apply below_alloc | apply pw_below_drewN | apply below_drew1) | exact HB.out)⟩⟩
        case rest => as_aux_lemma =>
         clear HC24
         try clear c1
         try clear c2
         try clear p2
         try clear c3
         try clear c4
         try clear c6
         try clear c7
         try clear c8
         try clear c9
         try clear c10
         try clear c11
         try clear c12
         try clear c12b0
         try clear c12b1
         try clear c12b2
         try clear c13
         try clear c22
         try clear c22b0
         try clear c22b1
         try clear c22b2
         try clear c23
         try clear c25
         try clear c28
         try clear c29
         try clear c30
         try clear c30b0
         try clear c30b1
         try clear p2
         obtain ⟨kq, HA, HJ23, HB⟩ := hcut
         cases kq with
         | zero => exact absurd HA.out (by simp [laws_FnFreeSums.j2])
         | succ kj23 =>
          have H := HA.out
          clear HA
          simp only [laws_FnFreeSums.j2] at H
          replace H := Option.bind_eq_some_iff.mp H
          obtain ⟨⟨t125, t126, t127, t128⟩, A430, H⟩ := H
          replace H : ((impl_WeightSum.f kj23 t125 t126 t127 t128).bind fun bt129 => ((spec_WeightSum.f kj23 t125 t126 t127 t128).bind fun bt131 => (if (bt129.2 != bt131.2) = true then (laws_FnFreeSums.j3 kj23 t102 t103 t104 t105 t108 t125 t126 t127 t128 bt129.1 bt129.2 true) else (laws_FnFreeSums.j3 kj23 t102 t103 t104 t105 t108 t125 t126 t127 t128 bt129.1 bt129.2 (bt129.1 != bt131.1))))) = some r := H
          have A43 := Aside0.mk A430
          clear A430
          replace H := Option.bind_eq_some_iff.mp H
          obtain ⟨⟨t129, t130⟩, A440, H⟩ := H
          replace H : ((spec_WeightSum.f kj23 t125 t126 t127 t128).bind fun bt131 => (if (t130 != bt131.2) = true then (laws_FnFreeSums.j3 kj23 t102 t103 t104 t105 t108 t125 t126 t127 t128 t129 t130 true) else (laws_FnFreeSums.j3 kj23 t102 t103 t104 t105 t108 t125 t126 t127 t128 t129 t130 (t129 != bt131.1)))) = some r := H
          have A44 := Aside0.mk A440
          clear A440
          replace H := Option.bind_eq_some_iff.mp H
          obtain ⟨⟨t131, t132⟩, A450, H⟩ := H
          replace H : (if (t130 != t132) = true then (laws_FnFreeSums.j3 kj23 t102 t103 t104 t105 t108 t125 t126 t127 t128 t129 t130 true) else (laws_FnFreeSums.j3 kj23 t102 t103 t104 t105 t108 t125 t126 t127 t128 t129 t130 (t129 != t131))) = some r := H
          have A45 := Aside0.mk A450
          clear A450
          have HC46 := Aside0.mk H
          clear H
          go_upto_region 21 with (first | ((with_reducible refine gate_callee (f := 14) rfl ?_); refine goesL_ (some 127) rfl rfl Try.func14 (by kernel_rfl) rfl #[.slice A1 l1.length c1] rfl tc1_ ?_; (with_reducible refine (spec_DrawWeightSum.calls _ _ l1 t125 t126 t127 t128 _ ?side1 ?side2 A43.out).mono ?_); (case side1 => repeat (first | exact (Kd.C_below HR1.out HB.out) | (with_reducible refine Kd.C_alloc ?_ _) | (with_reducible refine Kd.C_drewN ?_ _) | (with_reducible refine Kd.C_drew ?_))); (case side2 => exact HC1.out); rintro e w47 ⟨rfl, hb⟩; refine ⟨_, rfl, ?_⟩; have n0_ := Aside0.mk (below_step tc0_ hb); clear HB; have HB := n0_; clear n0_; (try clear hb); (try clear hb2); (try clear hk); (try clear hi)) | ((with_reducible refine gate_callee (f := 15) rfl ?_); refine goesL_ (some 137) rfl rfl Try.func15 (by kernel_rfl) rfl #[.int .i64 t125, .int .i64 t126, .int .i64 t127, .int .i64 t128] rfl tc1_ ?_; (with_reducible refine (impl_WeightSum.calls kj23 t125 t126 t127 t128 t129 t130 _ A44.out).mono ?_); rintro e w48 ⟨rfl, hb⟩; refine ⟨_, rfl, ?_⟩; have n0_ := Aside0.mk (below_step tc0_ hb); clear HB; have HB := n0_; clear n0_; (try clear hb); (try clear hb2); (try clear hk); (try clear hi)) | ((with_reducible refine gate_callee (f := 16) rfl ?_); refine goesL_ (some 145) rfl rfl Try.func16 (by kernel_rfl) rfl #[.int .i64 t125, .int .i64 t126, .int .i64 t127, .int .i64 t128] rfl tc1_ ?_; (with_reducible refine (spec_WeightSum.calls kj23 t125 t126 t127 t128 t131 t132 _ A45.out).mono ?_); rintro e w49 ⟨rfl, hb⟩; refine ⟨_, rfl, ?_⟩; have n0_ := Aside0.mk (below_step tc0_ hb); clear HB; have HB := n0_; clear n0_; (try clear hb); (try clear hb2); (try clear hk); (try clear hi)))
          (try simp only [Act.put, List.setIfInBounds_toArray, List.set_cons_zero, List.set_cons_succ])
          go_cut [155] (fun v155 wc => ∃ (kq : Nat) (x155_45 : Bool), v155 = .bool x155_45 ∧ Aside0 (laws_FnFreeSums.j3 kq t102 t103 t104 t105 t108 t125 t126 t127 t128 t129 t130 x155_45 = some r) ∧ Aside0 (kq ≤ kj23) ∧ Aside0 (Below w.heap.size w wc))
          case first => as_aux_lemma =>
           have H := HC46.out
           clear HC46
           by_cases c50 : (t130 != t132) = true
           ·rw [if_pos c50] at H
            have c50b0 : (t130 != t132) = true := c50
            (try (have c50b1 : decide (t130 = t132) = false := by simpa using c50))
            (try (have c50b2 : (t130 == t132) = false := by simpa using c50))
            (try (have c50b3 : ¬ (t130 = t132) := by simpa using c50))
            clear c50
            (first | rw [c50b0] | (simp only [i64_w, i32_w]; rw [c50b0]) | skip)
            have H' := Aside0.mk H
            clear H
            go_wp2
            go_meet
            case rel => exact ⟨_, (true), tc4_, H', ⟨by have := HJ7.out; have := HJ16.out; have := HJ23.out; first | omega | exact Nat.le_refl _⟩, ⟨by repeat (first | (with_reducible first | exact HB.out | apply below_alloc | apply pw_below_drewN | apply below_drew1) | exact HB.out)⟩⟩
           ·rw [if_neg c50] at H
            have c50b0 : (t130 != t132) = false := by simpa using c50
            (try (have c50b1 : decide (t130 = t132) = true := by simpa using c50))
            (try (have c50b2 : (t130 == t132) = true := by simpa using c50))
            clear c50
            (first | rw [c50b0] | (simp only [i64_w, i32_w]; rw [c50b0]) | skip)
            have H' := Aside0.mk H
            clear H
            go_wp2
            go_meet
            case rel => exact ⟨_, ((t129 != t131)), tc4_, H', ⟨by have := HJ7.out; have := HJ16.out; have := HJ23.out; first | omega | exact Nat.le_refl _⟩, ⟨by repeat (first | (with_reducible first | exact HB.out | apply below_alloc | apply pw_below_drewN | apply below_drew1) | exact HB.out)⟩⟩
          case rest => as_aux_lemma =>
           clear HC46
           try clear c1
           try clear c2
           try clear p2
           try clear c3
           try clear c4
           try clear c5
           try clear c6
           try clear c7
           try clear c8
           try clear c9
           try clear c10
           try clear c11
           try clear c12
           try clear c12b0
           try clear c12b1
           try clear c12b2
           try clear c13
           try clear c14
           try clear c15
           try clear c16
           try clear c22
           try clear c22b0
           try clear c22b1
           try clear c22b2
           try clear c23
           try clear c25
           try clear c28
           try clear c29
           try clear c30
           try clear c30b0
           try clear c30b1
           try clear c50
           try clear c50b0
           try clear c50b1
           try clear c50b2
           try clear p2
           obtain ⟨kq, x155_45, rfl, HA, HJ45, HB⟩ := hcut
           cases kq with
           | zero => exact absurd HA.out (by simp [laws_FnFreeSums.j3])
           | succ kj45 =>
            have H := HA.out
            clear HA
            simp only [laws_FnFreeSums.j3] at H
            by_cases c51 : x155_45 = true
            ·subst c51
             exact absurd ((show (some false : Option Bool) = some r from by rw [if_pos rfl] at H; exact H).trans (congrArg some HR_.out)) (by simp)
            ·replace c51 := Bool.eq_false_iff.mpr c51
             subst c51
             have H1 : (if t130 = true then ((impl_WeightSum.f kj45 t125 t127 t126 t128).bind fun bt133 => ((impl_WeightSum.f kj45 t125 1 1 1).bind fun bt135 => ((impl_CountSigns.f kj45 t125).bind fun bt137 => (if bt133.2 = true then (if bt135.2 = true then (if bt137.2 = true then (if bt133.1 = t129 then (if bt135.1 = bt137.1 then (if t108 = true then ((laws_uPower.f kj45 (wrap64 (t103 + t104)) (wrap64 (Int.tdiv (wrap64 (t102 * (wrap64 (t102 - 1)))) 2))).bind fun t139 => (some (t105 == t139))) else (some true)) else (some false)) else (some false)) else (some false)) else (some false)) else (some false))))) else (if t108 = true then ((laws_uPower.f kj45 (wrap64 (t103 + t104)) (wrap64 (Int.tdiv (wrap64 (t102 * (wrap64 (t102 - 1)))) 2))).bind fun t140 => (some (t105 == t140))) else (some true))) = some r := by rw [if_neg (show ¬ (false = true) by decide)] at H; exact H
             clear H
             have H := H1
             clear H1
             by_cases c52 : t130 = true
             ·subst c52
              have H1 : ((impl_WeightSum.f kj45 t125 t127 t126 t128).bind fun bt133 => ((impl_WeightSum.f kj45 t125 1 1 1).bind fun bt135 => ((impl_CountSigns.f kj45 t125).bind fun bt137 => (if bt133.2 = true then (if bt135.2 = true then (if bt137.2 = true then (if bt133.1 = t129 then (if bt135.1 = bt137.1 then (if t108 = true then ((laws_uPower.f kj45 (wrap64 (t103 + t104)) (wrap64 (Int.tdiv (wrap64 (t102 * (wrap64 (t102 - 1)))) 2))).bind fun t139 => (some (t105 == t139))) else (some true)) else (some false)) else (some false)) else (some false)) else (some false)) else (some false))))) = some r := by rw [if_pos rfl] at H; exact H
              clear H
              have H := H1
              clear H1
              replace H := Option.bind_eq_some_iff.mp H
              obtain ⟨⟨t133, t134⟩, A530, H⟩ := H
              replace H : ((impl_WeightSum.f kj45 t125 1 1 1).bind fun bt135 => ((impl_CountSigns.f kj45 t125).bind fun bt137 => (if t134 = true then (if bt135.2 = true then (if bt137.2 = true then (if t133 = t129 then (if bt135.1 = bt137.1 then (if t108 = true then ((laws_uPower.f kj45 (wrap64 (t103 + t104)) (wrap64 (Int.tdiv (wrap64 (t102 * (wrap64 (t102 - 1)))) 2))).bind fun t139 => (some (t105 == t139))) else (some true)) else (some false)) else (some false)) else (some false)) else (some false)) else (some false)))) = some r := H
              have A53 := Aside0.mk A530
              clear A530
              replace H := Option.bind_eq_some_iff.mp H
              obtain ⟨⟨t135, t136⟩, A540, H⟩ := H
              replace H : ((impl_CountSigns.f kj45 t125).bind fun bt137 => (if t134 = true then (if t136 = true then (if bt137.2 = true then (if t133 = t129 then (if t135 = bt137.1 then (if t108 = true then ((laws_uPower.f kj45 (wrap64 (t103 + t104)) (wrap64 (Int.tdiv (wrap64 (t102 * (wrap64 (t102 - 1)))) 2))).bind fun t139 => (some (t105 == t139))) else (some true)) else (some false)) else (some false)) else (some false)) else (some false)) else (some false))) = some r := H
              have A54 := Aside0.mk A540
              clear A540
              replace H := Option.bind_eq_some_iff.mp H
              obtain ⟨⟨t137, t138⟩, A550, H⟩ := H
              replace H : (if t134 = true then (if t136 = true then (if t138 = true then (if t133 = t129 then (if t135 = t137 then (if t108 = true then ((laws_uPower.f kj45 (wrap64 (t103 + t104)) (wrap64 (Int.tdiv (wrap64 (t102 * (wrap64 (t102 - 1)))) 2))).bind fun t139 => (some (t105 == t139))) else (some true)) else (some false)) else (some false)) else (some false)) else (some false)) else (some false)) = some r := H
              have A55 := Aside0.mk A550
              clear A550
              by_cases c56 : t134 = true
              ·subst c56
               have H1 : (if t136 = true then (if t138 = true then (if t133 = t129 then (if t135 = t137 then (if t108 = true then ((laws_uPower.f kj45 (wrap64 (t103 + t104)) (wrap64 (Int.tdiv (wrap64 (t102 * (wrap64 (t102 - 1)))) 2))).bind fun t139 => (some (t105 == t139))) else (some true)) else (some false)) else (some false)) else (some false)) else (some false)) = some r := by rw [if_pos rfl] at H; exact H
               clear H
               have H := H1
               clear H1
               by_cases c57 : t136 = true
               ·subst c57
                have H1 : (if t138 = true then (if t133 = t129 then (if t135 = t137 then (if t108 = true then ((laws_uPower.f kj45 (wrap64 (t103 + t104)) (wrap64 (Int.tdiv (wrap64 (t102 * (wrap64 (t102 - 1)))) 2))).bind fun t139 => (some (t105 == t139))) else (some true)) else (some false)) else (some false)) else (some false)) = some r := by rw [if_pos rfl] at H; exact H
                clear H
                have H := H1
                clear H1
                by_cases c58 : t138 = true
                ·subst c58
                 have H1 : (if t133 = t129 then (if t135 = t137 then (if t108 = true then ((laws_uPower.f kj45 (wrap64 (t103 + t104)) (wrap64 (Int.tdiv (wrap64 (t102 * (wrap64 (t102 - 1)))) 2))).bind fun t139 => (some (t105 == t139))) else (some true)) else (some false)) else (some false)) = some r := by rw [if_pos rfl] at H; exact H
                 clear H
                 have H := H1
                 clear H1
                 by_cases c59 : t133 = t129
                 ·rw [if_pos c59] at H
                  have c59b0 : (t133 == t129) = true := beq_iff_eq.mpr c59
                  have c59b1 : (t133 != t129) = false := bne_eq_false_iff_eq.mpr c59
                  clear c59
                  by_cases c60 : t135 = t137
                  ·rw [if_pos c60] at H
                   have c60b0 : (t135 == t137) = true := beq_iff_eq.mpr c60
                   have c60b1 : (t135 != t137) = false := bne_eq_false_iff_eq.mpr c60
                   clear c60
                   by_cases c61 : t108 = true
                   ·subst c61
                    have H1 : ((laws_uPower.f kj45 (wrap64 (t103 + t104)) (wrap64 (Int.tdiv (wrap64 (t102 * (wrap64 (t102 - 1)))) 2))).bind fun t139 => (some (t105 == t139))) = some r := by rw [if_pos rfl] at H; exact H
                    clear H
                    have H := H1
                    clear H1
                    replace H := Option.bind_eq_some_iff.mp H
                    obtain ⟨t139, A620, H⟩ := H
                    replace H : (some (t105 == t139)) = some r := H
                    have A62 := Aside0.mk A620
                    clear A620
                    obtain rfl := Option.some.inj H
                    go_wp2_with (first | ((with_reducible refine gate_callee (f := 15) rfl ?_); refine goesL_ (some 162) rfl rfl Try.func15 (by kernel_rfl) rfl #[.int .i64 t125, .int .i64 t127, .int .i64 t126, .int .i64 t128] rfl tc1_ ?_; (with_reducible refine (impl_WeightSum.calls kj45 t125 t127 t126 t128 t133 true _ A53.out).mono ?_); rintro e w63 ⟨rfl, hb⟩; refine ⟨_, rfl, ?_⟩; have n0_ := Aside0.mk (below_step tc0_ hb); clear HB; have HB := n0_; clear n0_; (try clear hb); (try clear hb2); (try clear hk); (try clear hi)) | ((with_reducible refine gate_callee (f := 15) rfl ?_); refine goesL_ (some 167) rfl rfl Try.func15 (by kernel_rfl) rfl #[.int .i64 t125, .int .i64 1, .int .i64 1, .int .i64 1] rfl tc1_ ?_; (with_reducible refine (impl_WeightSum.calls kj45 t125 1 1 1 t135 true _ A54.out).mono ?_); rintro e w64 ⟨rfl, hb⟩; refine ⟨_, rfl, ?_⟩; have n0_ := Aside0.mk (below_step tc0_ hb); clear HB; have HB := n0_; clear n0_; (try clear hb); (try clear hb2); (try clear hk); (try clear hi)) | ((with_reducible refine gate_callee (f := 17) rfl ?_); refine goesL_ (some 172) rfl rfl Try.func17 (by kernel_rfl) rfl #[.int .i64 t125] rfl tc1_ ?_; (with_reducible refine (impl_CountSigns.calls kj45 t125 t137 true _ A55.out).mono ?_); rintro e w' ⟨rfl, ⟨nd, rfl⟩⟩; refine ⟨_, rfl, ?_⟩) | (go_at_call 18; (with_reducible refine (laws_uPower.calls kj45 (wrap64 (t103 + t104)) (wrap64 (Int.tdiv (wrap64 (t102 * (wrap64 (t102 - 1)))) 2)) t139 _ A62.out).mono ?_); rintro e w' ⟨rfl, ⟨nd, rfl⟩⟩))
                    go_ret
                    exact ⟨by first | rfl | (simp [errW_none, errW_some] <;> rfl) | (simp [*, errW_none, errW_some] <;> rfl), by repeat (first | (with_reducible first | exact HB.out | apply below_alloc | apply pw_below_drewN | apply below_drew1) | exact HB.out)⟩
                   ·replace c61 := Bool.eq_false_iff.mpr c61
                    subst c61
                    have H1 : (some true) = some r := by rw [if_neg (show ¬ (false = true) by decide)] at H; exact H
                    clear H
                    have H := H1
                    clear H1
                    obtain rfl := Option.some.inj H
                    go_wp2_with (first | ((with_reducible refine gate_callee (f := 15) rfl ?_); refine goesL_ (some 162) rfl rfl Try.func15 (by kernel_rfl) rfl #[.int .i64 t125, .int .i64 t127, .int .i64 t126, .int .i64 t128] rfl tc1_ ?_; (with_reducible refine (impl_WeightSum.calls kj45 t125 t127 t126 t128 t133 true _ A53.out).mono ?_); rintro e w65 ⟨rfl, hb⟩; refine ⟨_, rfl, ?_⟩; have n0_ := Aside0.mk (below_step tc0_ hb); clear HB; have HB := n0_; clear n0_; (try clear hb); (try clear hb2); (try clear hk); (try clear hi)) | ((with_reducible refine gate_callee (f := 15) rfl ?_); refine goesL_ (some 167) rfl rfl Try.func15 (by kernel_rfl) rfl #[.int .i64 t125, .int .i64 1, .int .i64 1, .int .i64 1] rfl tc1_ ?_; (with_reducible refine (impl_WeightSum.calls kj45 t125 1 1 1 t135 true _ A54.out).mono ?_); rintro e w66 ⟨rfl, hb⟩; refine ⟨_, rfl, ?_⟩; have n0_ := Aside0.mk (below_step tc0_ hb); clear HB; have HB := n0_; clear n0_; (try clear hb); (try clear hb2); (try clear hk); (try clear hi)) | ((with_reducible refine gate_callee (f := 17) rfl ?_); refine goesL_ (some 172) rfl rfl Try.func17 (by kernel_rfl) rfl #[.int .i64 t125] rfl tc1_ ?_; (with_reducible refine (impl_CountSigns.calls kj45 t125 t137 true _ A55.out).mono ?_); rintro e w' ⟨rfl, ⟨nd, rfl⟩⟩; refine ⟨_, rfl, ?_⟩))
                    go_ret
                    exact ⟨by first | rfl | (simp [errW_none, errW_some] <;> rfl) | (simp [*, errW_none, errW_some] <;> rfl), by repeat (first | (with_reducible first | exact HB.out | apply below_alloc | apply pw_below_drewN | apply below_drew1) | exact HB.out)⟩
                  ·rw [if_neg c60] at H
                   have c60b0 : (t135 == t137) = false := beq_eq_false_iff_ne.mpr c60
                   have c60b1 : (t135 != t137) = true := bne_iff_ne.mpr c60
                   obtain rfl := Option.some.inj H
                   go_wp2_with (first | ((with_reducible refine gate_callee (f := 15) rfl ?_); refine goesL_ (some 162) rfl rfl Try.func15 (by kernel_rfl) rfl #[.int .i64 t125, .int .i64 t127, .int .i64 t126, .int .i64 t128] rfl tc1_ ?_; (with_reducible refine (impl_WeightSum.calls kj45 t125 t127 t126 t128 t133 true _ A53.out).mono ?_); rintro e w67 ⟨rfl, hb⟩; refine ⟨_, rfl, ?_⟩; have n0_ := Aside0.mk (below_step tc0_ hb); clear HB; have HB := n0_; clear n0_; (try clear hb); (try clear hb2); (try clear hk); (try clear hi)) | ((with_reducible refine gate_callee (f := 15) rfl ?_); refine goesL_ (some 167) rfl rfl Try.func15 (by kernel_rfl) rfl #[.int .i64 t125, .int .i64 1, .int .i64 1, .int .i64 1] rfl tc1_ ?_; (with_reducible refine (impl_WeightSum.calls kj45 t125 1 1 1 t135 true _ A54.out).mono ?_); rintro e w68 ⟨rfl, hb⟩; refine ⟨_, rfl, ?_⟩; have n0_ := Aside0.mk (below_step tc0_ hb); clear HB; have HB := n0_; clear n0_; (try clear hb); (try clear hb2); (try clear hk); (try clear hi)) | ((with_reducible refine gate_callee (f := 17) rfl ?_); refine goesL_ (some 172) rfl rfl Try.func17 (by kernel_rfl) rfl #[.int .i64 t125] rfl tc1_ ?_; (with_reducible refine (impl_CountSigns.calls kj45 t125 t137 true _ A55.out).mono ?_); rintro e w' ⟨rfl, ⟨nd, rfl⟩⟩; refine ⟨_, rfl, ?_⟩))
                   go_ret
                   exact ⟨by first | rfl | (simp [errW_none, errW_some] <;> rfl) | (simp [*, errW_none, errW_some] <;> rfl), by repeat (first | (with_reducible first | exact HB.out | apply below_alloc | apply pw_below_drewN | apply below_drew1) | exact HB.out)⟩
                 ·rw [if_neg c59] at H
                  have c59b0 : (t133 == t129) = false := beq_eq_false_iff_ne.mpr c59
                  have c59b1 : (t133 != t129) = true := bne_iff_ne.mpr c59
                  obtain rfl := Option.some.inj H
                  go_wp2_with (first | ((with_reducible refine gate_callee (f := 15) rfl ?_); refine goesL_ (some 162) rfl rfl Try.func15 (by kernel_rfl) rfl #[.int .i64 t125, .int .i64 t127, .int .i64 t126, .int .i64 t128] rfl tc1_ ?_; (with_reducible refine (impl_WeightSum.calls kj45 t125 t127 t126 t128 t133 true _ A53.out).mono ?_); rintro e w69 ⟨rfl, hb⟩; refine ⟨_, rfl, ?_⟩; have n0_ := Aside0.mk (below_step tc0_ hb); clear HB; have HB := n0_; clear n0_; (try clear hb); (try clear hb2); (try clear hk); (try clear hi)) | ((with_reducible refine gate_callee (f := 15) rfl ?_); refine goesL_ (some 167) rfl rfl Try.func15 (by kernel_rfl) rfl #[.int .i64 t125, .int .i64 1, .int .i64 1, .int .i64 1] rfl tc1_ ?_; (with_reducible refine (impl_WeightSum.calls kj45 t125 1 1 1 t135 true _ A54.out).mono ?_); rintro e w70 ⟨rfl, hb⟩; refine ⟨_, rfl, ?_⟩; have n0_ := Aside0.mk (below_step tc0_ hb); clear HB; have HB := n0_; clear n0_; (try clear hb); (try clear hb2); (try clear hk); (try clear hi)) | ((with_reducible refine gate_callee (f := 17) rfl ?_); refine goesL_ (some 172) rfl rfl Try.func17 (by kernel_rfl) rfl #[.int .i64 t125] rfl tc1_ ?_; (with_reducible refine (impl_CountSigns.calls kj45 t125 t137 true _ A55.out).mono ?_); rintro e w' ⟨rfl, ⟨nd, rfl⟩⟩; refine ⟨_, rfl, ?_⟩))
                  go_ret
                  exact ⟨by first | rfl | (simp [errW_none, errW_some] <;> rfl) | (simp [*, errW_none, errW_some] <;> rfl), by repeat (first | (with_reducible first | exact HB.out | apply below_alloc | apply pw_below_drewN | apply below_drew1) | exact HB.out)⟩
                ·replace c58 := Bool.eq_false_iff.mpr c58
                 subst c58
                 exact absurd ((show (some false : Option Bool) = some r from by rw [if_neg (show ¬ (false = true) by decide)] at H; exact H).trans (congrArg some HR_.out)) (by simp)
               ·replace c57 := Bool.eq_false_iff.mpr c57
                subst c57
                exact absurd ((show (some false : Option Bool) = some r from by rw [if_neg (show ¬ (false = true) by decide)] at H; exact H).trans (congrArg some HR_.out)) (by simp)
              ·replace c56 := Bool.eq_false_iff.mpr c56
               subst c56
               exact absurd ((show (some false : Option Bool) = some r from by rw [if_neg (show ¬ (false = true) by decide)] at H; exact H).trans (congrArg some HR_.out)) (by simp)
             ·replace c52 := Bool.eq_false_iff.mpr c52
              subst c52
              have H1 : (if t108 = true then ((laws_uPower.f kj45 (wrap64 (t103 + t104)) (wrap64 (Int.tdiv (wrap64 (t102 * (wrap64 (t102 - 1)))) 2))).bind fun t140 => (some (t105 == t140))) else (some true)) = some r := by rw [if_neg (show ¬ (false = true) by decide)] at H; exact H
              clear H
              have H := H1
              clear H1
              by_cases c77 : t108 = true
              ·subst c77
               have H1 : ((laws_uPower.f kj45 (wrap64 (t103 + t104)) (wrap64 (Int.tdiv (wrap64 (t102 * (wrap64 (t102 - 1)))) 2))).bind fun t140 => (some (t105 == t140))) = some r := by rw [if_pos rfl] at H; exact H
               clear H
               have H := H1
               clear H1
               replace H := Option.bind_eq_some_iff.mp H
               obtain ⟨t140, A780, H⟩ := H
               replace H : (some (t105 == t140)) = some r := H
               have A78 := Aside0.mk A780
               clear A780
               obtain rfl := Option.some.inj H
               go_wp2_with (first | (go_at_call 18; (with_reducible refine (laws_uPower.calls kj45 (wrap64 (t103 + t104)) (wrap64 (Int.tdiv (wrap64 (t102 * (wrap64 (t102 - 1)))) 2)) t140 _ A78.out).mono ?_); rintro e w' ⟨rfl, ⟨nd, rfl⟩⟩))
               go_ret
               exact ⟨by first | rfl | (simp [errW_none, errW_some] <;> rfl) | (simp [*, errW_none, errW_some] <;> rfl), by repeat (first | (with_reducible first | exact HB.out | apply below_alloc | apply pw_below_drewN | apply below_drew1) | exact HB.out)⟩
              ·replace c77 := Bool.eq_false_iff.mpr c77
               subst c77
               have H1 : (some true) = some r := by rw [if_neg (show ¬ (false = true) by decide)] at H; exact H
               clear H
               have H := H1
               clear H1
               obtain rfl := Option.some.inj H
               go_wp2
               go_ret
               exact ⟨by first | rfl | (simp [errW_none, errW_some] <;> rfl) | (simp [*, errW_none, errW_some] <;> rfl), by repeat (first | (with_reducible first | exact HB.out | apply below_alloc | apply pw_below_drewN | apply below_drew1) | exact HB.out)⟩

/-- THE ONE PURE STATEMENT of laws_FnFreeSums: yours. -/

def laws_FnFreeSums.Pure : Prop := ∀ (l0 : List Int) (l1 : List Int), l0.length ≤ maxLen → l0.length * 1 ≤ 140737488351232 → (∀ x ∈ l0, (Lit.int .u8 x).wf = true) → l1.length ≤ maxLen → l1.length * 1 ≤ 140737488351232 → (∀ x ∈ l1, (Lit.int .u8 x).wf = true) → ∃ k, laws_FnFreeSums.f k l0 l1 = some true
theorem laws_FnFreeSums.walk (P : laws_FnFreeSums.Pure) (a0 : Option Addr) (len0 cap0 : Nat) (z0 : List Int) (a1 : Option Addr) (len1 cap1 : Nat) (z1 : List Int) (w : World) (w0 : (a0 = none ∧ len0 = 0 ∧ cap0 = 0 ∧ z0 = []) ∨ ∃ x, a0 = some x ∧ len0 ≤ cap0 ∧ cap0 ≤ maxLen ∧ z0.length = cap0 ∧ (∀ i, i < z0.length → w.cell? (x.add i) = some (.int .u8 (z0.getD i 0))) ∧ ∀ n ∈ z0, (Lit.int .u8 n).wf = true) (y0 : len0 * 1 ≤ 140737488351232) (w1 : (a1 = none ∧ len1 = 0 ∧ cap1 = 0 ∧ z1 = []) ∨ ∃ x, a1 = some x ∧ len1 ≤ cap1 ∧ cap1 ≤ maxLen ∧ z1.length = cap1 ∧ (∀ i, i < z1.length → w.cell? (x.add i) = some (.int .u8 (z1.getD i 0))) ∧ ∀ n ∈ z1, (Lit.int .u8 n).wf = true) (y1 : len1 * 1 ≤ 140737488351232) :
  Calls Try.prog 3 #[.slice a0 len0 cap0, .slice a1 len1 cap1] w fun e w' => e = .returned (.bool true) ∧ Below w.heap.size w w' := by
 obtain ⟨l0, rfl, hr0, hm0, hw0, hc0⟩ := ReadsInt.ofRowC w0
 obtain ⟨l1, rfl, hr1, hm1, hw1, hc1⟩ := ReadsInt.ofRowC w1
 obtain ⟨k, h⟩ := P l0 l1 hm0 y0 hw0 hm1 y1 hw1
 refine (laws_FnFreeSums.calls k _ _ l0 _ _ l1 true w rfl (Kd.C_of_reads (d := (0 : Int)) (h1 := fun _ => rfl) hr0) hc0 (Kd.C_of_reads (d := (0 : Int)) (h1 := fun _ => rfl) hr1) hc1 h).mono ?_
 rintro e w' ⟨rfl, hd⟩
 exact ⟨rfl, hd⟩

end Go.Proofs.Ytjibpmlmohjfcaa.X
