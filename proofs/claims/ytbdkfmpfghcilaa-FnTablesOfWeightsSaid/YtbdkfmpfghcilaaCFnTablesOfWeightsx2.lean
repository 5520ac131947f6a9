-- Written by a program of this session (wip/xprint.py) that drives the kit's print; the contracts of what it does not take are this session's own.
import Derived.Test.YtbdkfmpfghcilaaCFnTablesOfWeightsx0
import Derived.Test.YtbdkfmpfghcilaaCFnTablesOfWeightsx1
namespace Go.Proofs.Ytbdkfmpfghcilaa.X
open Go.RowKit Go.Proofs.YtbdkfmpfghcilaaW.PrintWords Go.Proofs.YtbdkfmpfghcilaaW.PrintLast Go.Proofs.YtbdkfmpfghcilaaW.PrintMore
set_option maxHeartbeats 8000000
set_option maxRecDepth 100000
attribute [local go_sem] max2_int min2_int max_two min_two max_three min_three max_four min_four   -- for this text's walks alone
set_option linter.unusedVariables false
set_option linter.unusedSimpArgs false

/-! ### impl_inversions: function 22 -/
mutual
def impl_inversions.l0 : Nat → Tb_ → Int → Tb_ → Int → Int → Option (Int)
 | 0, _, _, _, _, _ => none
 | k + 1, x0, x3, x10, x11, x12 => if x12 < x11 then (if 0 ≤ x12 then (if x12 < (x10.length : Int) then (impl_inversions.l1 k x0 x3 x12 x10 x11 x12 (rd_L3 x10 x12) ((rd_L3 x10 x12).length : Int) 0) else (none)) else (none)) else (some x3)
def impl_inversions.l1 : Nat → Tb_ → Int → Int → Tb_ → Int → Int → List Int → Int → Int → Option (Int)
 | 0, _, _, _, _, _, _, _, _, _ => none
 | k + 1, x0, x3, x4, x10, x11, x12, x17, x18, x19 => if x19 < x18 then (if 0 ≤ x19 then (if x19 < (x17.length : Int) then (if 0 ≤ (wrap64 (x4 + 1)) then (if (wrap64 (x4 + 1)) ≤ (x0.length : Int) then ((some (x0.drop ((wrap64 (x4 + 1)) : Int).toNat : Tb_)).bind fun y103 => (impl_inversions.l2 k x0 x3 x4 x19 (rd x17 x19) x10 x11 x12 x17 x18 x19 y103 (y103.length : Int) 0)) else (none)) else (none)) else (none)) else (none)) else (impl_inversions.l0 k x0 x3 x10 x11 (wrap64 (x12 + 1)))
def impl_inversions.l2 : Nat → Tb_ → Int → Int → Int → Int → Tb_ → Int → Int → List Int → Int → Int → Tb_ → Int → Int → Option (Int)
 | 0, _, _, _, _, _, _, _, _, _, _, _, _, _, _ => none
 | k + 1, x0, x3, x4, x6, x7, x10, x11, x12, x17, x18, x19, x27, x28, x29 => if x29 < x28 then (if 0 ≤ x29 then (if x29 < (x27.length : Int) then (if 0 ≤ x6 then (if x6 ≤ ((rd_L3 x27 x29).length : Int) then ((impl_sum.f k ((rd_L3 x27 x29).take (x6 : Int).toNat)).bind fun t109 => (impl_inversions.l2 k x0 (wrap64 (x3 + (wrap64 (x7 * t109)))) x4 x6 x7 x10 x11 x12 x17 x18 x19 x27 x28 (wrap64 (x29 + 1)))) else (none)) else (none)) else (none)) else (none)) else (impl_inversions.l1 k x0 x3 x4 x10 x11 x12 x17 x18 (wrap64 (x19 + 1)))
end
def impl_inversions.f (k : Nat) (l0 : Tb_) : Option (Int) := impl_inversions.l0 k l0 0 l0 (l0.length : Int) 0
theorem impl_inversions.mono_l : ∀ k, (∀ y0 y1 y2 y3 y4, LeO (impl_inversions.l0 k y0 y1 y2 y3 y4) (impl_inversions.l0 (k + 1) y0 y1 y2 y3 y4)) ∧ (∀ y0 y1 y2 y3 y4 y5 y6 y7 y8, LeO (impl_inversions.l1 k y0 y1 y2 y3 y4 y5 y6 y7 y8) (impl_inversions.l1 (k + 1) y0 y1 y2 y3 y4 y5 y6 y7 y8)) ∧ (∀ y0 y1 y2 y3 y4 y5 y6 y7 y8 y9 y10 y11 y12 y13, LeO (impl_inversions.l2 k y0 y1 y2 y3 y4 y5 y6 y7 y8 y9 y10 y11 y12 y13) (impl_inversions.l2 (k + 1) y0 y1 y2 y3 y4 y5 y6 y7 y8 y9 y10 y11 y12 y13))
 | 0 => ⟨fun _ _ _ _ _ r h => by simp [impl_inversions.l0] at h, fun _ _ _ _ _ _ _ _ _ r h => by simp [impl_inversions.l1] at h, fun _ _ _ _ _ _ _ _ _ _ _ _ _ _ r h => by simp [impl_inversions.l2] at h⟩
 | k + 1 => by
  obtain ⟨ih0, ih1, ih2⟩ := impl_inversions.mono_l k; refine ⟨?_, ?_, ?_⟩
  ·intro y0 y1 y2 y3 y4; unfold impl_inversions.l0
   repeat' first
   | (with_reducible exact ih0 _ _ _ _ _)
   | (with_reducible exact ih1 _ _ _ _ _ _ _ _ _)
   | (with_reducible exact ih2 _ _ _ _ _ _ _ _ _ _ _ _ _ _)
   | (with_reducible exact impl_sum.mono _ _)
   | (with_reducible exact LeO.refl _)
   | (with_reducible exact LeO.none _)
   | (with_reducible refine LeO.ite ?_ ?_)
   | (with_reducible refine LeO.bind ?_ (fun _ => ?_))
   | exact ih0 _ _ _ _ _
   | exact ih1 _ _ _ _ _ _ _ _ _
   | exact ih2 _ _ _ _ _ _ _ _ _ _ _ _ _ _
   | exact impl_sum.mono _ _
   | exact LeO.none _
   | refine LeO.ite ?_ ?_
   | refine LeO.bind ?_ (fun _ => ?_)
  ·intro y0 y1 y2 y3 y4 y5 y6 y7 y8; unfold impl_inversions.l1
   repeat' first
   | (with_reducible exact ih0 _ _ _ _ _)
   | (with_reducible exact ih1 _ _ _ _ _ _ _ _ _)
   | (with_reducible exact ih2 _ _ _ _ _ _ _ _ _ _ _ _ _ _)
   | (with_reducible exact impl_sum.mono _ _)
   | (with_reducible exact LeO.refl _)
   | (with_reducible exact LeO.none _)
   | (with_reducible refine LeO.ite ?_ ?_)
   | (with_reducible refine LeO.bind ?_ (fun _ => ?_))
   | exact ih0 _ _ _ _ _
   | exact ih1 _ _ _ _ _ _ _ _ _
   | exact ih2 _ _ _ _ _ _ _ _ _ _ _ _ _ _
   | exact impl_sum.mono _ _
   | exact LeO.none _
   | refine LeO.ite ?_ ?_
   | refine LeO.bind ?_ (fun _ => ?_)
  ·intro y0 y1 y2 y3 y4 y5 y6 y7 y8 y9 y10 y11 y12 y13; unfold impl_inversions.l2
   repeat' first
   | (with_reducible exact ih0 _ _ _ _ _)
   | (with_reducible exact ih1 _ _ _ _ _ _ _ _ _)
   | (with_reducible exact ih2 _ _ _ _ _ _ _ _ _ _ _ _ _ _)
   | (with_reducible exact impl_sum.mono _ _)
   | (with_reducible exact LeO.refl _)
   | (with_reducible exact LeO.none _)
   | (with_reducible refine LeO.ite ?_ ?_)
   | (with_reducible refine LeO.bind ?_ (fun _ => ?_))
   | exact ih0 _ _ _ _ _
   | exact ih1 _ _ _ _ _ _ _ _ _
   | exact ih2 _ _ _ _ _ _ _ _ _ _ _ _ _ _
   | exact impl_sum.mono _ _
   | exact LeO.none _
   | refine LeO.ite ?_ ?_
   | refine LeO.bind ?_ (fun _ => ?_)
theorem impl_inversions.mono : ∀ a0  k, LeO (impl_inversions.f k a0) (impl_inversions.f (k + 1) a0) := by
 intro a0 k; obtain ⟨ih0, ih1, ih2⟩ := impl_inversions.mono_l k; unfold impl_inversions.f
 repeat' first
   | (with_reducible exact ih0 _ _ _ _ _)
   | (with_reducible exact ih1 _ _ _ _ _ _ _ _ _)
   | (with_reducible exact ih2 _ _ _ _ _ _ _ _ _ _ _ _ _ _)
   | (with_reducible exact impl_sum.mono _ _)
   | (with_reducible exact LeO.refl _)
   | (with_reducible exact LeO.none _)
   | (with_reducible refine LeO.ite ?_ ?_)
   | (with_reducible refine LeO.bind ?_ (fun _ => ?_))
   | exact ih0 _ _ _ _ _
   | exact ih1 _ _ _ _ _ _ _ _ _
   | exact ih2 _ _ _ _ _ _ _ _ _ _ _ _ _ _
   | exact impl_sum.mono _ _
   | exact LeO.none _
   | refine LeO.ite ?_ ?_
   | refine LeO.bind ?_ (fun _ => ?_)
theorem impl_inversions.calls (k : Nat) (A0 : Option Addr) (c0 : Nat) (l0 : Tb_) (r : Int) (w : World) (hr0 : Kd.C (Kd.slice 3 (Kd.int .i64)) w A0 l0.length l0) (hc0 : l0.length ≤ c0) (h : impl_inversions.f k l0 = some r) :
  Calls Try.prog 22 #[.slice A0 l0.length c0] w fun e w' => e = .returned (.int .i64 r) ∧ Drawn0 w w' := by
 have HR0 := am_ hr0; have HC0 := am_ hc0; clear hr0 hc0; (try unfold impl_inversions.f at h); have H := h; clear h; have H' := am_ H; clear H; go_enter Try.func22, Try.ntmps22; go_wp2
 go_loopg [3, 12] k (fun kq v3 v12 w' => ∃ (x3_1 : Int) (x12_1 : Int), v3 = .int .i64 x3_1 ∧ v12 = .int .i64 x12_1 ∧ Aside0 (impl_inversions.l0 kq l0 x3_1 l0 (l0.length : Int) x12_1 = some r) ∧ Aside0 (kq ≤ k) ∧ Drawn0 w w')
 case atStart => exact ⟨(0), (0), tc3_, tc3_, H', ⟨Nat.le_refl _⟩, tc4_⟩
 case round =>
  clear H'; obtain ⟨x3_1, x12_1, rfl, rfl, HA, HK1, ⟨m1, rfl⟩⟩ := hrel
  cases gk with
  | zero => exact absurd HA.out (by simp [impl_inversions.l0])
  | succ k1 =>
   have H := HA.out; clear HA; simp only [impl_inversions.l0] at H
   replace H := sp_ H; obtain ⟨c2b0, H⟩ | ⟨c2b0, H⟩ := H
   ·replace H := ps_ H; obtain ⟨c3b0, H⟩ := H; replace H := ps_ H; obtain ⟨c4b0, H⟩ := H; have H' := am_ H; clear H; have p101 : 0 ≤ (x12_1 : Int) := od_; have q101 : x12_1 < (l0.length : Int) := od_; obtain ⟨ad101, A101_0, c101_0, e101, hx101_0, hl101_0, hi101_0⟩ := at_L3 HR0.out x12_1 p101 q101; cases e101; have HR101_0 := am_ hi101_0; have HC101_0 := am_ hl101_0; clear hi101_0 hl101_0; replace p101 := eq_true p101; replace q101 := eq_true q101; go_wp2
    go_loopg [3, 19] k1 (fun kq v3 v19 w' => ∃ (x3_2 : Int) (x19_2 : Int), v3 = .int .i64 x3_2 ∧ v19 = .int .i64 x19_2 ∧ Aside0 (impl_inversions.l1 kq l0 x3_2 x12_1 l0 (l0.length : Int) x12_1 (rd_L3 l0 x12_1) ((rd_L3 l0 x12_1).length : Int) x19_2 = some r) ∧ Aside0 (kq ≤ k1) ∧ Drawn0 w w')
    case atStart => exact ⟨(x3_1), (0), tc3_, tc3_, H', ⟨Nat.le_refl _⟩, tc4_⟩
    case round =>
     clear H'; (try clear c1); (try clear p1); (try clear q1); (try clear hx1); (try clear c2); (try clear c2b0); (try clear p2); (try clear c3); (try clear c3b0); (try clear c4); (try clear c4b0); (try clear hx101_0); (try clear p101); (try clear q101); obtain ⟨x3_2, x19_2, rfl, rfl, HA, HK2, ⟨m2, rfl⟩⟩ := hrel
     cases gk with
     | zero => exact absurd HA.out (by simp [impl_inversions.l1])
     | succ k2 =>
      have H := HA.out; clear HA; simp only [impl_inversions.l1] at H
      replace H := sp_ H; obtain ⟨c5b0, H⟩ | ⟨c5b0, H⟩ := H
      ·replace H := ps_ H; obtain ⟨c6b0, H⟩ := H; replace H := ps_ H; obtain ⟨c7b0, H⟩ := H; obtain ⟨ji8, hji8⟩ : ∃ j_ : Int, (wrap64 (x12_1 + 1)) = j_ := ⟨_, rfl⟩; replace H : (if 0 ≤ (ji8) then (if (ji8) ≤ (l0.length : Int) then ((some (l0.drop ((ji8) : Int).toNat : Tb_)).bind fun y103 => (impl_inversions.l2 k2 l0 x3_2 x12_1 x19_2 (rd (rd_L3 l0 x12_1) x19_2) l0 (l0.length : Int) x12_1 (rd_L3 l0 x12_1) ((rd_L3 l0 x12_1).length : Int) x19_2 y103 (y103.length : Int) 0)) else (none)) else (none)) = some r := (by first | (rw [hji8] at H; exact H) | (simp only [hji8] at H ⊢; exact H)); have hji8w : (IntKind.i64.wrap (x12_1 + 1)) = ji8 := (i64_w _).trans hji8; replace H := pp_ H; obtain ⟨c9, H⟩ := H; have c9b0 := eq_true c9; have c9b1 : decide (0 ≤ (ji8)) = true := decide_eq_true c9; clear c9; replace H := pp_ H; obtain ⟨c10, H⟩ := H; have c10b0 := eq_true c10; have c10b1 : decide ((ji8) ≤ (l0.length : Int)) = true := decide_eq_true c10; clear c10; obtain ⟨y103, hy103⟩ : ∃ y_ : Tb_, y_ = (l0.drop ((ji8) : Int).toNat) := ⟨_, rfl⟩; replace H : (impl_inversions.l2 k2 l0 x3_2 x12_1 x19_2 (rd (rd_L3 l0 x12_1) x19_2) l0 (l0.length : Int) x12_1 (rd_L3 l0 x12_1) ((rd_L3 l0 x12_1).length : Int) x19_2 y103 (y103.length : Int) 0) = some r := (by first | (rw [hy103]; with_reducible exact H) | (have H2_ := (Option.bind_some _ _).symm.trans H; rw [hy103]; with_reducible exact H2_) | (have H2_ := (Option.bind_some _ _).symm.trans H; with_reducible exact H2_) | with_reducible exact H | (rw [hy103]; exact H) | exact H); have Ny103 := am_ hy103; clear hy103; have H' := am_ H; clear H; have p102 : 0 ≤ (x19_2 : Int) := od_; have q102 : x19_2 < ((rd_L3 l0 x12_1).length : Int) := od_; obtain ⟨ad102, e102, hx102_0⟩ := Kd.at_int HR101_0.out x19_2 p102 q102; cases e102; replace p102 := eq_true p102; replace q102 := eq_true q102; have q11 : ((ji8) : Int) ≤ ((l0.length : Int) : Int) := od_; obtain ⟨i011, hi011, _, hsz11, _⟩ := info_parts info28; have hroom11 : l0.length ≤ c0 := HC0.out; have hC11 : Kd.C (Kd.slice 3 (Kd.int .i64)) _ (some ad101) l0.length l0 := HR0.out; have q011 : (0 : Int) ≤ ((ji8) : Int) := od_; have hcut11 := cut_from (P := Try.prog) 25 28 .i64 Try.underlying25 hi011 1 hsz11 (some ad101) l0.length c0 (ji8) q011 q11; have hr11 := Kd.C_drop (m := ((ji8) : Int).toNat) (c := c0) hC11 (by omega) hroom11; obtain ⟨A11, hA11⟩ : ∃ A1, A1 = (if c0 = ((ji8) : Int).toNat then (some ad101) else ((some ad101) : Option Addr).map (·.add (((ji8) : Int).toNat * 1))) := ⟨_, rfl⟩; obtain ⟨c11, hc11⟩ : ∃ c1, c1 = c0 - ((ji8) : Int).toNat := ⟨_, rfl⟩; have hy11 : y103.length = l0.length - ((ji8) : Int).toNat := (by rw [Ny103.out, List.length_drop] <;> omega); rw [show (l0).drop ((ji8) : Int).toNat = y103 from Ny103.out.symm] at hr11; replace hr11 : Kd.C (Kd.slice 3 (Kd.int .i64)) _ A11 y103.length y103 := (by rw [hA11]; exact hr11); rw [← hy11, ← hA11, ← hc11] at hcut11; have HR106 := am_ hr11; have HC106 := am_ (show y103.length ≤ c11 from (by rw [hy11, hc11]; exact Nat.sub_le_sub_right hroom11 _)); clear hr11 hC11 hroom11 hi011 hsz11 hc11; have KY11 := am_ hy11; have KA11 := am_ hA11; clear hy11 hA11; replace q11 := eq_true q11; go_wp2
       go_loopg [3, 29] k2 (fun kq v3 v29 w' => ∃ (x3_3 : Int) (x29_3 : Int), v3 = .int .i64 x3_3 ∧ v29 = .int .i64 x29_3 ∧ Aside0 (impl_inversions.l2 kq l0 x3_3 x12_1 x19_2 (rd (rd_L3 l0 x12_1) x19_2) l0 (l0.length : Int) x12_1 (rd_L3 l0 x12_1) ((rd_L3 l0 x12_1).length : Int) x19_2 y103 (y103.length : Int) x29_3 = some r) ∧ Aside0 (kq ≤ k2) ∧ Drawn0 w w')
       case atStart => exact ⟨(x3_2), (0), tc3_, tc3_, H', ⟨Nat.le_refl _⟩, tc4_⟩
       case round =>
        clear H'; (try clear c1); (try clear p1); (try clear q1); (try clear hx1); (try clear c2); (try clear c2b0); (try clear p2); (try clear c3); (try clear c3b0); (try clear c4); (try clear c4b0); (try clear c5); (try clear c5b0); (try clear c6); (try clear c6b0); (try clear p6); (try clear c7); (try clear c7b0); (try clear c9); (try clear c9b0); (try clear c9b1); (try clear c10); (try clear c10b0); (try clear c10b1); (try clear p10); (try clear q10); (try clear hx10); (try clear c11); (try clear q11); (try clear hx101_0); (try clear hx102_0); (try clear p1); (try clear p101); (try clear p102); (try clear p2); (try clear q011); (try clear q1); (try clear q101); (try clear q102); (try clear q11); obtain ⟨x3_3, x29_3, rfl, rfl, HA, HK3, ⟨m3, rfl⟩⟩ := hrel
        cases gk with
        | zero => exact absurd HA.out (by simp [impl_inversions.l2])
        | succ k3 =>
         have H := HA.out; clear HA; simp only [impl_inversions.l2] at H
         replace H := sp_ H; obtain ⟨c12b0, H⟩ | ⟨c12b0, H⟩ := H
         ·replace H := ps_ H; obtain ⟨c13b0, H⟩ := H; replace H := ps_ H; obtain ⟨c14b0, H⟩ := H; replace H := pp_ H; obtain ⟨c15, H⟩ := H; have c15b0 := eq_true c15; have c15b1 : decide (0 ≤ x19_2) = true := decide_eq_true c15; clear c15; replace H := pp_ H; obtain ⟨c16, H⟩ := H; have c16b0 := eq_true c16; have c16b1 : decide (x19_2 ≤ ((rd_L3 y103 x29_3).length : Int)) = true := decide_eq_true c16; clear c16; replace H := bd_ H; obtain ⟨t109, A17, H⟩ := H; (try dsimp only at H); have H' := am_ H; clear H; have p107 : 0 ≤ (x29_3 : Int) := od_; have q107 : x29_3 < (y103.length : Int) := od_; obtain ⟨ad107, A107_0, c107_0, e107, hx107_0, hl107_0, hi107_0⟩ := at_L3 HR106.out x29_3 p107 q107; cases e107; have HR107_0 := am_ hi107_0; have HC107_0 := am_ hl107_0; clear hi107_0 hl107_0; replace p107 := eq_true p107; replace q107 := eq_true q107; obtain ⟨i018, hi018, _, hsz18, _⟩ := info_parts info3; obtain ⟨hcut18, hA18, hC18⟩ := print_take_of (P := Try.prog) (Value.int .i64) 0 28 3 .i64 Try.underlying28 hi018 hsz18 A107_0 c107_0 (rd_L3 y103 x29_3) x19_2 (od_) (od_) HC107_0.out; have HR108 := am_ (Kd.C_of_reads (h1 := fun _ => rfl) (hA18 _ (Kd.reads_of_C HR107_0.out))); have HC108 := am_ hC18; clear hA18 hC18 hi018 hsz18
          go_wp2_with (first | ((with_reducible refine gate_callee (f := 37) rfl ?_); refine goesL_ (some 38) rfl rfl Try.func37 (by kernel_rfl) rfl #[.slice A107_0 ((rd_L3 y103 x29_3).take (x19_2 : Int).toNat).length c107_0] rfl (by (try simp only [List.map_toArray, List.map_cons, List.map_nil]); first | done | (rw [show ((rd_L3 y103 x29_3).take (x19_2 : Int).toNat).length = x19_2.toNat from (by rw [List.length_take]; have h_ : (x19_2 : Int) ≤ ((rd_L3 y103 x29_3).length : Int) := od_; omega)] <;> rfl) | rfl | (simp only [List.length_drop, List.length_take]; rfl)) ?_; (with_reducible refine (impl_sum.calls k3 _ _ ((rd_L3 y103 x29_3).take (x19_2 : Int).toNat) t109 _ ?side1 ?side2 A17.out).mono ?_); (case side1 => repeat (first | exact HR108.out | (with_reducible refine Kd.C_alloc ?_ _) | (with_reducible refine Kd.C_drewN ?_ _) | (with_reducible refine Kd.C_drew ?_))); (case side2 => exact HC108.out); rintro e w' ⟨rfl, ⟨nd, rfl⟩⟩; refine ⟨_, rfl, ?_⟩))
          go_roundg k3
          case measure => have := HK1.out; have := HK2.out; have := HK3.out; omega
          case rel => exact ⟨(wrap64 (x3_3 + (wrap64 ((rd (rd_L3 l0 x12_1) x19_2) * t109)))), (wrap64 (x29_3 + 1)), tc3_, tc3_, H', ⟨(by have := HK1.out; have := HK2.out; have := HK3.out; omega)⟩, tc4_⟩
         ·have H' := am_ H; clear H; go_wp2
          go_roundg k3
          case measure => have := HK1.out; have := HK2.out; have := HK3.out; omega
          case rel => exact ⟨(x3_3), (wrap64 (x19_2 + 1)), tc3_, tc3_, H', ⟨(by have := HK1.out; have := HK2.out; have := HK3.out; omega)⟩, tc4_⟩
      ·have H' := am_ H; clear H; go_wp2
       go_roundg k2
       case measure => have := HK1.out; have := HK2.out; omega
       case rel => exact ⟨(x3_2), (wrap64 (x12_1 + 1)), tc3_, tc3_, H', ⟨tc38_⟩, tc4_⟩
   ·obtain rfl := Option.some.inj H; go_wp2
    go_ret
    exact ⟨tc3_, tc4_⟩

/-! ### impl_JointTable_2: function 21 (by hand) -/
def impl_JointTable_2.cnt (out : Tb_) (i j : Int) : Option Tb_ := if 0 ≤ i then (if i < (out.length : Int) then (if 0 ≤ j then (if j < ((rd_L3 out i).length : Int) then some (out.set i.toNat ((rd_L3 out i).set j.toNat (wrap64 (rd (rd_L3 out i) j + 1)))) else none) else none) else none) else none
def impl_JointTable_2.step (k : Nat) (out : Tb_) (m : Tb_) : Option (Tb_ × Bool) :=
  (impl_inversions.f k m).bind fun i => (impl_minusOnes.f k m).bind fun j => (impl_JointTable_2.cnt out i j).bind fun y => some (y, true)
theorem impl_JointTable_2.calls (k : Nat) (A0 : Option Addr) (c0 : Nat) (l0 : Tb_) (B1 : Nat) (u : Value) (out out' : Tb_) (r : Bool) (base : Nat) (okS : Nat → Prop) (w : World) (hbase : base ≤ w.heap.size)
    (hr0 : Kd.C (Kd.slice 3 (Kd.int .i64)) w A0 l0.length l0) (hc0 : l0.length ≤ c0) (hb1 : w.heap[B1]? = some (.cells #[u] 25 (0, 0)))
    (ho : Kd.S (Kd.slice 3 (Kd.int .i64)) 28 w base okS u out) (h : impl_JointTable_2.step k out l0 = some (out', r)) :
    Calls Try.prog 21 #[.slice A0 l0.length c0, .pointer (some ⟨B1, 0, none⟩)] w fun e w' => e = .returned (.bool r) ∧ w'.heap[B1]? = some (.cells #[u] 25 (0, 0)) ∧ Kd.S (Kd.slice 3 (Kd.int .i64)) 28 w' base okS u out' ∧ Kp w w' okS := by
  obtain ⟨i, hi, h⟩ := Option.bind_eq_some_iff.mp h
  obtain ⟨j, hj, h⟩ := Option.bind_eq_some_iff.mp h
  obtain ⟨y, hy, h⟩ := Option.bind_eq_some_iff.mp h
  obtain ⟨rfl, rfl⟩ := Prod.mk.inj (Option.some.inj h)
  have p0 : 0 ≤ i := Decidable.byContradiction fun c => by unfold impl_JointTable_2.cnt at hy; rw [if_neg c] at hy; cases hy
  have p1 : i < (out.length : Int) := Decidable.byContradiction fun c => by unfold impl_JointTable_2.cnt at hy; rw [if_pos p0, if_neg c] at hy; cases hy
  have p2 : 0 ≤ j := Decidable.byContradiction fun c => by unfold impl_JointTable_2.cnt at hy; rw [if_pos p0, if_pos p1, if_neg c] at hy; cases hy
  have p3 : j < ((rd_L3 out i).length : Int) := Decidable.byContradiction fun c => by unfold impl_JointTable_2.cnt at hy; rw [if_pos p0, if_pos p1, if_pos p2, if_neg c] at hy; cases hy
  unfold impl_JointTable_2.cnt at hy
  rw [if_pos p0, if_pos p1, if_pos p2, if_pos p3] at hy
  obtain rfl := Option.some.inj hy
  have HR := am_ hr0
  have HC := am_ hc0
  have H1 := am_ hb1
  have HI := am_ hi
  have HJ := am_ hj
  have HBS := am_ hbase
  obtain ⟨g6, cap6, e6_, _⟩ := Kd.S_form ho (by omega)
  subst e6_
  have HO := am_ ho
  clear hr0 hc0 hb1 hi hj hbase h hy ho
  obtain ⟨no, hno⟩ : ∃ no, out.length = no := ⟨_, rfl⟩
  have HNO := am_ hno
  rw [hno] at HO p1 H1 ⊢
  clear hno
  go_enter Try.func21, Try.ntmps21
  go_wp2_with fail
  have HOW := am_ (Kd.S_drew HO.out)
  have HBW := am_ (below_drew1 (Below.refl w.heap.size w))
  have HRW := am_ (below_drew1 (Below.refl w.heap.size w))
  obtain ⟨Aw, cw, hx, hall⟩ := S_cell2k HOW.out i p0 p1
  obtain ⟨aw, eaw, hy, _, _, _, _⟩ := hall j p2 p3
  subst eaw
  rw [show out.getD i.toNat [] = rd_L3 out i from rfl] at hx hy
  rw [Addr.add_lit, Nat.zero_add] at hx
  clear hall
  have hcB := (blk_cell (blk_drew H1.out) 0).trans rfl
  have q0 := eq_true p0
  have q1 := eq_true p1
  have q2 := eq_true p2
  have q3 := eq_true p3
  refine start_ (n := 12) (S := fun w' => w'.cell? ⟨B1, 0, none⟩ = some (.slice (some ⟨g6, 0, none⟩) no cap6) ∧ w'.cell? ⟨g6, i.toNat, none⟩ = some (.slice (some aw) (rd_L3 out i).length cw) ∧ w'.cell? (aw.add j.toNat) = some (.int .i64 (rd (rd_L3 out i) j))) (ds := [11]) #[F_, F_, F_, F_, F_, F_, F_, F_, F_, F_, F_, F_] (by kernel_rfl) rfl rfl ⟨hcB, hx, hy⟩ (fun hHeld => ?_)
  generalize hW_ : World.drew _ = W at HOW HBW HRW hx hy hcB hHeld ⊢
  clear hW_
  refine pure_ (i := 1) (N := some 5) #[F_, T_, F_, F_, F_, F_, F_, F_, F_, F_, F_, F_] rfl rfl ak_ hq_ yi_ nm_ ?_
  refine pure_ (i := 5) (N := some 9) #[F_, T_, F_, F_, F_, T_, F_, F_, F_, F_, F_, F_] rfl rfl ak_ hq_ yi_ nm_ ?_
  refine take_ (i := 0) (N := some 4) #[T_, T_, F_, F_, F_, T_, F_, F_, F_, F_, F_, F_] rfl rfl ak_ hq_ yj3_ hHeld nm_ ?_
  refine one_ (i := 2) (N := some 6) #[T_, T_, T_, F_, F_, T_, F_, F_, F_, F_, F_, F_] rfl rfl (by kernel_rfl) (by decide) (fun K hK => ?_)
  refine goes_ Try.func22 (by kernel_rfl) rfl #[.slice A0 l0.length c0] (by rfl) rfl rfl tc30_ ?_
  refine (impl_inversions.calls k A0 c0 l0 i W (Kd.C_below HR.out HBW.out) HC.out HI.out).mono ?_
  rintro e w7 ⟨rfl, hd_⟩
  refine ⟨_, rfl, ?_⟩
  have HB_w7 := am_ (below_of_drawn hd_)
  clear hd_
  refine hK.out _ _ ⟨cell_of_below HB_w7.out hcB, cell_of_below HB_w7.out hx, cell_of_below HB_w7.out hy⟩ (fun hHeld => ?_)
  clear hK K
  refine norm_ (a' := ?_) ?_ ?_
  rotate_left
  · show Act.put _ (some 6) _ = _
    simp only [Act.put, List.setIfInBounds_toArray, List.set_cons_zero, List.set_cons_succ, i64_w, i32_w]
    rfl
  refine pure_ (i := 3) (N := some 7) #[T_, T_, T_, T_, F_, T_, F_, F_, F_, F_, F_, F_] rfl rfl ak_ hq_ yi_ nm_ ?_
  refine take_ (i := 4) (N := some 8) #[T_, T_, T_, T_, T_, T_, F_, F_, F_, F_, F_, F_] rfl rfl ak_ hq_ yj3_ hHeld nm_ ?_
  refine one_ (i := 6) (N := some 10) #[T_, T_, T_, T_, T_, T_, T_, F_, F_, F_, F_, F_] rfl rfl (by kernel_rfl) (by decide) (fun K hK => ?_)
  refine goes_ Try.func23 (by kernel_rfl) rfl #[.slice A0 l0.length c0] (by rfl) rfl rfl tc30_ ?_
  refine (impl_minusOnes.calls k A0 c0 l0 j w7 (Kd.C_below (Kd.C_below HR.out HBW.out) HB_w7.out) HC.out HJ.out).mono ?_
  rintro e w8 ⟨rfl, hd_⟩
  refine ⟨_, rfl, ?_⟩
  have HB_w8 := am_ (below_of_drawn hd_)
  clear hd_
  refine hK.out _ _ ⟨cell_of_below HB_w8.out (cell_of_below HB_w7.out hcB), cell_of_below HB_w8.out (cell_of_below HB_w7.out hx), cell_of_below HB_w8.out (cell_of_below HB_w7.out hy)⟩ (fun hHeld => ?_)
  clear hK K
  refine norm_ (a' := ?_) ?_ ?_
  rotate_left
  · show Act.put _ (some 10) _ = _
    simp only [Act.put, List.setIfInBounds_toArray, List.set_cons_zero, List.set_cons_succ, i64_w, i32_w]
    rfl
  refine pure_ (i := 7) (N := some 11) #[T_, T_, T_, T_, T_, T_, T_, T_, F_, F_, F_, F_] rfl rfl ak_ hq_ yi_ nm_ ?_
  refine take_ (i := 8) (N := some 12) #[T_, T_, T_, T_, T_, T_, T_, T_, T_, F_, F_, F_] rfl rfl ak_ hq_ yj3_ hHeld nm_ ?_
  refine pure_ (i := 9) (N := some 13) #[T_, T_, T_, T_, T_, T_, T_, T_, T_, T_, F_, F_] rfl rfl ak_ hq_ yi_ nm_ ?_
  refine pure_ (i := 10) (N := some 14) #[T_, T_, T_, T_, T_, T_, T_, T_, T_, T_, T_, F_] rfl rfl ak_ hq_ yi_ nm_ ?_
  refine last_ (i := 11) (N := none) #[T_, T_, T_, T_, T_, T_, T_, T_, T_, T_, T_, T_] rfl rfl (by kernel_rfl) (by decide) (fun K hK => ?_)
  have hx8 := (cell_of_below HB_w8.out (cell_of_below HB_w7.out hx))
  have HO8 := am_ (Kd.S_below (Kd.S_below HOW.out HB_w7.out) HB_w8.out)
  obtain ⟨Aw8, cw8, hx9, hall8⟩ := S_cell2k HO8.out i p0 p1
  rw [Addr.add_lit, Nat.zero_add] at hx9
  obtain ⟨ea8, _⟩ := Value.slice.inj (Option.some.inj (hx9.symm.trans hx8))
  subst ea8
  obtain ⟨aw9, eaw9, hy9, hfz9, hgw9, hok9, hback9⟩ := hall8 j p2 p3
  obtain rfl := Option.some.inj eaw9
  clear eaw9 hall8
  obtain ⟨ce9, he9⟩ := S_cell2t HO8.out i p0 p1 (by rw [Addr.add_lit, Nat.zero_add]; exact hx8) j p2 p3
  have HNE := am_ (show ∀ {t_ : Value}, w8.heap[B1]? = some (.cells #[t_] 25 (0, 0)) → B1 ≠ (aw.add j.toNat).block from fun h_ => blk_ne h_ he9 (by decide))
  clear he9
  have HBK := am_ (hback9 (wrap64 (rd (rd_L3 out i) j + 1)))
  have HOK := am_ hok9
  have HGW := am_ hgw9
  clear hback9 hok9 hgw9 hx9
  refine skip_ (w1 := ?_) (by rfl) rfl ?_ ?_
  rotate_left
  · go_simp
    rfl
  refine hK.out _ _ ?_
  clear hK K
  refine done_ (by kernel_rfl) ?_
  have HT8 := am_ (blk_below (blk_below (blk_below H1.out HBW.out) HB_w7.out) HB_w8.out)
  have HB8 := am_ (below_step (below_step HBW.out HB_w7.out) HB_w8.out)
  go_wp2
  go_ret
  exact ⟨rfl, blk_far HT8.out (HNE.out HT8.out) _, HBK.out, (Kp.of_below HB8.out okS).setCell (.inl HOK.out) _⟩

/-! ### impl_JointTable: function 6 (by hand) -/
def impl_JointTable.f (k : Nat) (a0 : Int) : Option (Tb_ × Bool) := (impl_MinusTable.f k a0).bind fun m => if m.2 = true then ((impl_table.f k (wrap64 ((wrap64 (Int.tdiv (wrap64 (a0 * (wrap64 (a0 - 1)))) 2)) + 1)) (m.1.length : Int) (fun x0_ x1_ => impl_JointTable_1.f x0_ x1_)).bind fun o => (impl_eachSigns.f k a0 (impl_JointTable_2.step k) o).bind fun r => some (r, true)) else some ([], false)
theorem impl_JointTable_2.mono_s (k : Nat) (s : Tb_) (m : Tb_) : LeO (impl_JointTable_2.step k s m) (impl_JointTable_2.step (k + 1) s m) :=
  LeO.bind (impl_inversions.mono _ _) (fun _ => LeO.bind (impl_minusOnes.mono _ _) (fun _ => LeO.refl _))
def impl_JointTable.Inv (w : World) (B1 : Nat) (u : Value) (out : Tb_) (W : World) (S : Nat → Prop) : Prop :=
  ∃ (okS : Nat → Prop), Below w.heap.size w W ∧ W.heap[B1]? = some (.cells #[u] 25 (0, 0)) ∧ Kd.S (Kd.slice 3 (Kd.int .i64)) 28 W w.heap.size okS u out ∧ (∀ k, okS k → w.heap.size ≤ k ∧ k < W.heap.size) ∧ S = fun k => k < w.heap.size ∨ k = B1 ∨ okS k
theorem impl_JointTable.fns (k : Nat) {w : World} {B1 : Nat} {u : Value} :
    FnS (Kd.slice 28 (Kd.slice 3 (Kd.int .i64))) Value.bool Try.prog 21 #[.pointer (some ⟨B1, 0, none⟩)] (impl_JointTable_2.step k) (impl_JointTable.Inv w B1 u) where
  eg := enters_of Try.func21 (by kernel_rfl) rfl
  bd := by
    rintro s W S ⟨okS, hb, b1, ho, hk, rfl⟩ k hk1
    rcases hk1 with hk1 | rfl | hk1
    · exact Nat.lt_of_lt_of_le hk1 hb.size
    · exact blk_lt b1
    · exact (hk k hk1).2
  st := by
    rintro s W S W' ⟨okS, hb, b1, ho, hk, rfl⟩ h0 hs
    exact ⟨okS, ⟨h0.os.trans hb.os, h0.tape.trans hb.tape, h0.output.trans hb.output, Nat.le_trans hb.size h0.size, fun k hk => (hs k (.inl hk)).trans (hb.block k hk)⟩, (hs _ (.inr (.inl rfl))).trans b1, Kd.S_move ho (fun k hk => hs k (.inr (.inr hk))), fun k h => ⟨(hk k h).1, Nat.lt_of_lt_of_le (hk k h).2 h0.size⟩, rfl⟩
  cl := by
    rintro s W S ⟨okS, hb, b1, ho, hk, rfl⟩ x v hv s' r hp
    obtain ⟨A0, c0, e0, hc0, hr0⟩ := hv
    obtain rfl : v = .slice A0 x.length c0 := by simpa using e0
    refine (impl_JointTable_2.calls k A0 c0 x B1 u s s' r w.heap.size okS W hb.size hr0 hc0 b1 ho hp).mono ?_
    rintro e W' ⟨rfl, q1, q2, q3⟩
    refine ⟨rfl, fun k => k < w.heap.size ∨ k = B1 ∨ okS k, ⟨okS, ?_, q1, q2, fun k h => ⟨(hk k h).1, Nat.lt_of_lt_of_le (hk k h).2 q3.sz⟩, rfl⟩, q3.mono (fun k h => .inr (.inr h)), fun k h => .inl h⟩
    exact hb.trans (q3.to_below hb.size (fun k h => (hk k h).1))
theorem impl_JointTable.calls (k : Nat) (a0 : Int) (r1 : Tb_) (r2 : Bool) (w : World) (h : impl_JointTable.f k a0 = some (r1, r2)) :
    Calls Try.prog 6 #[.int .i64 a0] w fun e w' => ∃ v0_ : Value, e = .returned (.tuple #[v0_, .bool r2]) ∧ Kd.S (Kd.slice 3 (Kd.int .i64)) 28 w' w.heap.size (fun _ => True) v0_ r1 ∧ Below w.heap.size w w' := by
  obtain ⟨⟨m, t⟩, hm, h⟩ := Option.bind_eq_some_iff.mp h
  have HM := am_ hm
  clear hm
  cases t with
  | false =>
    rw [if_neg (by simp)] at h
    obtain ⟨rfl, rfl⟩ := Prod.mk.inj (Option.some.inj h)
    clear h
    go_enter Try.func6, Try.ntmps6
    go_wp2_with (first | (go_at_call 8; (refine (impl_MinusTable.calls k a0 m false _ HM.out).mono ?_); rintro e w5 ⟨v5, rfl, ho, hb⟩; have HB5 := am_ hb; clear hb))
    go_ret2
    exact ⟨_, rfl, Kd.S_nil _ _ _ _ _, HB5.out⟩
  | true =>
    rw [if_pos rfl] at h
    obtain ⟨o, ho, h⟩ := Option.bind_eq_some_iff.mp h
    obtain ⟨r, hr, h⟩ := Option.bind_eq_some_iff.mp h
    obtain ⟨rfl, rfl⟩ := Prod.mk.inj (Option.some.inj h)
    have HO := am_ ho
    have HR := am_ hr
    clear h ho hr
    dsimp only at HO
    go_enter Try.func6, Try.ntmps6
    go_wp2_with (first | (go_at_call 8; (refine (impl_MinusTable.calls k a0 m true _ HM.out).mono ?_); rintro e w5 ⟨v5, rfl, ho, hb⟩; have HB5 := am_ hb; obtain ⟨A5, c5, e5⟩ := Kd.R_slice ho; subst e5; clear hb ho) | (go_at_call 18; (refine (impl_table.calls k _ _ _ _ (fun x0_ x1_ => impl_JointTable_1.f x0_ x1_) o _ ?fn HO.out).mono ?_); (case fn => refine ⟨enters_of Try.func19 (by kernel_rfl) rfl, fun W_ hW_ x0_ v0_ hK0_ x1_ v1_ hK1_ r_ hr_ => ?_⟩; cases hK0_; cases hK1_; refine (impl_JointTable_1.calls x0_ x1_ r_ W_ hr_).mono ?_; exact fun _ _ h_ => ⟨h_.1, h_.2.below⟩); rintro e w6 ⟨v6, rfl, ho6, hb6⟩; have HB6 := am_ (below_step HB5.out hb6); have HO6 := am_ (Kd.S_mono (Kd.S_bound (Kd.S_lower ho6 (below_size HB5.out))) (ok' := fun k_ => w.heap.size ≤ k_ ∧ k_ < w6.heap.size) (fun k_ hk => ⟨hk.2.1, hk.2.2.1⟩)); clear ho6 hb6; obtain ⟨A6, c6, e6⟩ := Kd.S_slice HO6.out; subst e6) | (go_at_call 20; (refine (impl_eachSigns.calls k a0 _ _ _ _ (impl_JointTable.fns k (w := w) (B1 := w6.heap.size) (u := .slice A6 o.length c6)) o r _ _ ⟨fun k_ => w.heap.size ≤ k_ ∧ k_ < w6.heap.size, below_alloc HB6.out _, blk_new _ _, Kd.S_alloc HO6.out _, fun k_ hk => ⟨hk.1, by have := hk.2; simp; omega⟩, rfl⟩ HR.out).mono ?_); rintro e w7 ⟨rfl, S', ⟨okS, h1, h2, h3, h4, h5⟩, _, _⟩; have HB7 := am_ h1; have HO7 := am_ (Kd.S_mono h3 (ok' := fun _ => True) (fun _ _ => trivial)); have hc1 : w7.cell? ⟨w6.heap.size, 0, none⟩ = some (.slice A6 o.length c6) := (blk_cell h2 0).trans rfl; clear h1 h2 h3 h4 h5))
    go_ret2
    exact ⟨_, rfl, HO7.out, HB7.out⟩

/-! ### spec_l1In: function 39 -/
def spec_l1In.f (a0 : Int) (a1 : Int) (a2 : Int) : Option (Bool) := if a0 ≥ a1 then (some (decide (a0 ≤ a2))) else (some false)
theorem spec_l1In.calls (a0 : Int) (a1 : Int) (a2 : Int) (r : Bool) (w : World) (h : spec_l1In.f a0 a1 a2 = some r) :
  Calls Try.prog 39 #[.int .i64 a0, .int .i64 a1, .int .i64 a2] w fun e w' => e = .returned (.bool r) ∧ Drawn0 w w' := by
 (try unfold spec_l1In.f at h); have H := h; clear h
 replace H := pn_ H; obtain ⟨c4, H⟩ | ⟨c4, H⟩ := H
 ·have c4b0 : decide (a1 ≤ a0) = true := decide_eq_true c4; clear c4; obtain rfl := Option.some.inj H; go_enter Try.func39, Try.ntmps39; go_wp2
  go_ret
  exact ⟨tc3_, tc4_⟩
 ·have c4b0 : decide (a1 ≤ a0) = false := decide_eq_false c4; clear c4; obtain rfl := Option.some.inj H; go_enter Try.func39, Try.ntmps39; go_wp2
  go_ret
  exact ⟨tc3_, tc4_⟩

/-! ### spec_weSide: function 24 -/
def spec_weSide.f (a0 : Int) : Option (Bool) := (spec_l1In.f a0 1 4).bind fun t101 => (some t101)
theorem spec_weSide.calls (a0 : Int) (r : Bool) (w : World) (h : spec_weSide.f a0 = some r) :
  Calls Try.prog 24 #[.int .i64 a0] w fun e w' => e = .returned (.bool r) ∧ Drawn0 w w' := by
 (try unfold spec_weSide.f at h); have H := h; clear h; replace H := bd_ H; obtain ⟨t101, A2, H⟩ := H; (try dsimp only at H); obtain rfl := Option.some.inj H; go_enter Try.func24, Try.ntmps24
 go_wp2_with (first | (refine gc_ (some 4) Try.func39 #[.int .i64 a0, .int .i64 1, .int .i64 4] ?_; (with_reducible refine (spec_l1In.calls a0 1 4 t101 _ A2.out).mono ?_); rintro e w' ⟨rfl, ⟨nd, rfl⟩⟩; refine ⟨_, rfl, ?_⟩))
 go_ret
 exact ⟨tc3_, tc4_⟩

/-! ### spec_l1Own: function 43 -/
def spec_l1Own.f (l0 : List Int) : Option (List Int) := (some (([] : List Int) : List Int)).bind fun y101 => (if y101.length + l0.length < 17592186044416 then (some (y101 ++ l0)) else (none))
theorem spec_l1Own.calls (A0 : Option Addr) (c0 : Nat) (l0 : List Int) (r : List Int) (w : World) (hr0 : Kd.C (Kd.int .i64) w A0 l0.length l0) (hc0 : l0.length ≤ c0) (h : spec_l1Own.f l0 = some r) :
  Calls Try.prog 43 #[.slice A0 l0.length c0] w fun e w' => ∃ v0_ : Value, e = .returned (v0_) ∧ Kd.R (Kd.int .i64) 3 w' w.heap.size (fun _ => True) v0_ r ∧ Below w.heap.size w w' := by
 have HR0 := am_ hr0; have HC0 := am_ hc0; clear hr0 hc0; have HB := am_ (Below.refl w.heap.size w); (try unfold spec_l1Own.f at h); have H := h; clear h; obtain ⟨y101, hy101⟩ : ∃ y_ : List Int, y_ = (([] : List Int)) := ⟨_, rfl⟩; replace H : (if y101.length + l0.length < 17592186044416 then (some (y101 ++ l0)) else (none)) = some r := tc15_; have Ny101 := am_ hy101; clear hy101; replace H := pp_ H; obtain ⟨c2, H⟩ := H; have LMc2 := am_ c2; clear c2; obtain ⟨y104, hy104⟩ : ∃ y_ : List Int, y_ = (y101 ++ l0) := ⟨_, rfl⟩; replace H : (some y104) = some r := tc19_; have Ny104 := am_ hy104; clear hy104; obtain rfl := Option.some.inj H; go_enter Try.func43, Try.ntmps43
 go_wp2_with (first | ((with_reducible refine gate_dst (N := 3) rfl ?_); refine Kd.R_lit (Kd.int .i64) _ 3 ?hg (N := 3) ?hd (xs := ([] : List Int)) (inner := []) (ok := fun _ => True) (okp := fun _ => True) ?hr ?hp (fun _ hk => hk) trivial (Below.refl _ _) (Nat.le_refl _) (by simp) ?_; (case hd => rfl); (case hg => rfl); (case hr => exact tc42_); (case hp => exact (Reps.none _ _)); intro v102 w3 ho4 hb hg_ hnew_; clear hg_ hnew_; (first | rw [← Ny101.out] at ho4 | (simp only [Int.reduceToNat] at ho4; rw [← Ny101.out] at ho4)); have HO103 := am_ (Kd.R_lower ho4 (below_size tc0_)); replace HB := am_ (below_step tc0_ hb); clear hb ho4) | ((with_reducible refine gate_builtin (b := .append) (xs := #[.tmp 3, .tmp 4]) rfl ?_); at_builtin; refine Kd.R_append_rows (Kd.int .i64) (w0 := w) w.heap.size rfl (.tmp 3) (.tmp 4) 28 3 (.int .i64 0) 8 rfl Try.underlying28 info3 rfl (by decide) (by omega) v102 y101 l0 _ _ _ (fun _ => True) (fun _ => False) rfl rfl ?aO ?aR (fun _ _ h => h) (fun _ h => h.elim) ?aF ?aB ?aS ?aL ?_; (case aR => exact tc34_); (case aB => exact tc13_); (case aF => exact (fun _ _ => trivial)); (case aO => exact tc31_); (case aS => exact tc14_); (case aL => have := LMc2.out; omega); intro v105 w5 ho hb hg hat; rw [← Ny104.out] at ho; replace HB := am_ (hb); have HO106 := am_ (ho); clear HO103; clear ho hb hg hat))
 go_ret
 exact ⟨_, tc6_, tc58_, tc0_⟩

/-! ### spec_l1All: function 51 -/
def spec_l1All.l0 : Nat → Int → Int → List Int → Int → Int → Option (Bool)
 | 0, _, _, _, _, _ => none
 | k + 1, x1, x2, x9, x10, x11 => if x11 < x10 then (if 0 ≤ x11 then (if x11 < (x9.length : Int) then ((spec_l1In.f (rd x9 x11) x1 x2).bind fun t102 => (if t102 = true then (spec_l1All.l0 k x1 x2 x9 x10 (wrap64 (x11 + 1))) else (some false))) else (none)) else (none)) else (some true)
def spec_l1All.f (k : Nat) (l0 : List Int) (a1 : Int) (a2 : Int) : Option (Bool) := spec_l1All.l0 k a1 a2 l0 (l0.length : Int) 0
theorem spec_l1All.calls (k : Nat) (A0 : Option Addr) (c0 : Nat) (l0 : List Int) (a1 : Int) (a2 : Int) (r : Bool) (w : World) (hr0 : Kd.C (Kd.int .i64) w A0 l0.length l0) (hc0 : l0.length ≤ c0) (h : spec_l1All.f k l0 a1 a2 = some r) :
  Calls Try.prog 51 #[.slice A0 l0.length c0, .int .i64 a1, .int .i64 a2] w fun e w' => e = .returned (.bool r) ∧ Drawn0 w w' := by
 have HR0 := am_ hr0; have HC0 := am_ hc0; clear hr0 hc0; (try unfold spec_l1All.f at h); have H := h; clear h; have H' := am_ H; clear H; go_enter Try.func51, Try.ntmps51; go_wp2
 go_loopg [11] k (fun kq v11 w' => ∃ (x11_1 : Int), v11 = .int .i64 x11_1 ∧ Aside0 (spec_l1All.l0 kq a1 a2 l0 (l0.length : Int) x11_1 = some r) ∧ Aside0 (kq ≤ k) ∧ Drawn0 w w')
 case atStart => exact ⟨(0), tc3_, H', ⟨Nat.le_refl _⟩, tc4_⟩
 case round =>
  clear H'; (try clear p2); obtain ⟨x11_1, rfl, HA, HK1, ⟨m1, rfl⟩⟩ := hrel
  cases gk with
  | zero => exact absurd HA.out (by simp [spec_l1All.l0])
  | succ k1 =>
   have H := HA.out; clear HA; simp only [spec_l1All.l0] at H
   replace H := sp_ H; obtain ⟨c4b0, H⟩ | ⟨c4b0, H⟩ := H
   ·replace H := ps_ H; obtain ⟨c5b0, H⟩ := H; replace H := ps_ H; obtain ⟨c6b0, H⟩ := H; replace H := bd_ H; obtain ⟨t102, A7, H⟩ := H; (try dsimp only at H)
    by_cases c8 : t102 = true
    ·subst c8; have H1 : (spec_l1All.l0 k1 a1 a2 l0 (l0.length : Int) (wrap64 (x11_1 + 1))) = some r := tc33_; clear H; have H := H1; clear H1; have H' := am_ H; clear H; have p101 : 0 ≤ (x11_1 : Int) := od_; have q101 : x11_1 < (l0.length : Int) := od_; obtain ⟨ad101, e101, hx101_0⟩ := Kd.at_int HR0.out x11_1 p101 q101; cases e101; replace p101 := eq_true p101; replace q101 := eq_true q101
     go_wp2_with (first | (refine gc_ (some 18) Try.func39 #[.int .i64 (rd l0 x11_1), .int .i64 a1, .int .i64 a2] ?_; (with_reducible refine (spec_l1In.calls (rd l0 x11_1) a1 a2 true _ A7.out).mono ?_); rintro e w' ⟨rfl, ⟨nd, rfl⟩⟩; refine ⟨_, rfl, ?_⟩))
     go_roundg k1
     case measure => have := HK1.out; omega
     case rel => exact ⟨(wrap64 (x11_1 + 1)), tc3_, H', ⟨tc56_⟩, tc4_⟩
    ·replace c8 := Bool.eq_false_iff.mpr c8; subst c8; have H1 : (some false) = some r := tc16_; clear H; have H := H1; clear H1; obtain rfl := Option.some.inj H; have p101 : 0 ≤ (x11_1 : Int) := od_; have q101 : x11_1 < (l0.length : Int) := od_; obtain ⟨ad101, e101, hx101_0⟩ := Kd.at_int HR0.out x11_1 p101 q101; cases e101; replace p101 := eq_true p101; replace q101 := eq_true q101
     go_wp2_with (first | (refine gc_ (some 18) Try.func39 #[.int .i64 (rd l0 x11_1), .int .i64 a1, .int .i64 a2] ?_; (with_reducible refine (spec_l1In.calls (rd l0 x11_1) a1 a2 false _ A7.out).mono ?_); rintro e w' ⟨rfl, ⟨nd, rfl⟩⟩; refine ⟨_, rfl, ?_⟩))
     go_ret
     exact ⟨tc3_, tc4_⟩
   ·obtain rfl := Option.some.inj H; go_wp2
    go_ret
    exact ⟨tc3_, tc4_⟩

/-! ### spec_weRows: function 52 -/
mutual
def spec_weRows.l0 : Nat → List Int → List Int → Int → Tb_ → Int → Option (Tb_)
 | 0, _, _, _, _, _ => none
 | k + 1, x0, x1, x2, x7, x8 => if x8 ≤ 1 then ((spec_l1In.f (wrap64 (x2 + x8)) 0 1).bind fun t104 => (if t104 = true then (if 0 ≤ (x1.length : Int) then (if (x1.length : Int) < (x0.length : Int) then ((spec_l1In.f (wrap64 ((rd x0 (x1.length : Int)) + x8)) 0 1).bind fun t106 => (spec_weRows.j1 k x0 x1 x2 x7 x8 t106)) else (none)) else (none)) else (spec_weRows.j1 k x0 x1 x2 x7 x8 false))) else (some x7)
def spec_weRows.j1 : Nat → List Int → List Int → Int → Tb_ → Int → Bool → Option (Tb_)
 | 0, _, _, _, _, _, _ => none
 | k + 1, x0, x1, x2, x7, x8, x35 => if x35 = true then ((spec_l1Own.f x1).bind fun t107 => (if t107.length < 17592186044416 then ((spec_weRows.f k x0 (t107 ++ [x8]) (wrap64 (x2 + x8))).bind fun t113 => (if x7.length + t113.length < 5864062014805 then (spec_weRows.l0 k x0 x1 x2 (x7 ++ t113) (wrap64 (x8 + 1))) else (none))) else (none))) else (spec_weRows.l0 k x0 x1 x2 x7 (wrap64 (x8 + 1)))
def spec_weRows.f : Nat → List Int → List Int → Int → Option (Tb_)
 | 0, _, _, _ => none
 | k + 1, l0, l1, a2 => if (l1.length : Int) = (l0.length : Int) then (if a2 = 1 then (some (([l1] : Tb_))) else (some ([] : Tb_))) else (spec_weRows.l0 k l0 l1 a2 ([] : Tb_) (-1))
end
theorem spec_weRows.calls (k : Nat) : ∀ (A0 : Option Addr) (c0 : Nat) (l0 : List Int) (P1_ : Nat → Prop) (A1 : Option Addr) (c1 : Nat) (l1 : List Int) (a2 : Int) (r : Tb_) (w : World) (hr0 : Kd.C (Kd.int .i64) w A0 l0.length l0) (hc0 : l0.length ≤ c0) (hs1 : Kd.V (Kd.int .i64) 3 w w.heap.size (fun k_ => P1_ k_) (.slice A1 l1.length c1) l1) (h : spec_weRows.f k l0 l1 a2 = some r),
  Calls Try.prog 52 #[.slice A0 l0.length c0, .slice A1 l1.length c1, .int .i64 a2] w fun e w' => ∃ v0_ : Value, e = .returned (v0_) ∧ Kd.N (Kd.slice 3 (Kd.int .i64)) 28 w' w.heap.size (fun k_ => (P1_ k_ ∨ w.heap.size ≤ k_)) v0_ r ∧ Below w.heap.size w w' := by
 induction k using Nat.strongRecOn with
 | _ k ih =>
 intro A0 c0 l0 P1_ A1 c1 l1 a2 r w hr0 hc0 hs1 h
 cases k with
 | zero => exact absurd h (by simp [spec_weRows.f])
 | succ k =>
 simp only [spec_weRows.f] at h; have HR0 := am_ hr0; have HC0 := am_ hc0; clear hr0 hc0; have HO1 := am_ (show Kd.V (Kd.int .i64) 3 w w.heap.size (fun k_ => (P1_ k_ ∨ w.heap.size ≤ k_)) (.slice A1 l1.length c1) l1 from Kd.V_mono hs1 (fun k_ hk => .inl hk)); have HB := am_ (Below.refl w.heap.size w); (try unfold spec_weRows.f at h); have H := h; clear h
 replace H := pn_ H; obtain ⟨c4, H⟩ | ⟨c4, H⟩ := H
 ·have c4b0 : ((l1.length : Int) == (l0.length : Int)) = true := beq_iff_eq.mpr c4; have c4b1 : ((l1.length : Int) != (l0.length : Int)) = false := bne_eq_false_iff_eq.mpr c4; have c4b2 : (l1.length == l0.length) = true := (by first | simpa using c4 | (simp at c4 ⊢; omega)); clear c4
  replace H := pn_ H; obtain ⟨c5, H⟩ | ⟨c5, H⟩ := H
  ·have c5b0 : (a2 == 1) = true := beq_iff_eq.mpr c5; have c5b1 : (a2 != 1) = false := bne_eq_false_iff_eq.mpr c5; clear c5; obtain ⟨y101, hy101⟩ : ∃ y_ : Tb_, y_ = (([l1] : Tb_)) := ⟨_, rfl⟩; replace H : (some y101) = some r := tc15_; have Ny101 := am_ hy101; clear hy101; obtain rfl := Option.some.inj H; go_enter Try.func52, Try.ntmps52
   go_wp2_with (first | ((with_reducible refine gate_dst (N := 17) rfl ?_); (try (refine gate_guard (by rfl) ?_; dsimp only)); refine Kd.N_lit (Kd.slice 3 (Kd.int .i64)) _ 28 ?hg (N' := 17) ?hd (xs := ([l1] : Tb_)) (inner := [.slice A1 l1.length c1]) (ok := (fun k_ => (P1_ k_ ∨ w.heap.size ≤ k_))) (okp := (fun k_ => (P1_ k_ ∨ w.heap.size ≤ k_))) ?hr ?hp (fun _ hk => hk) ((show ∀ k_, w.heap.size ≤ k_ → (fun k_ => (P1_ k_ ∨ w.heap.size ≤ k_)) k_ from fun k_ hk => (.inr (Nat.le_trans (below_size tc0_) hk))) _ (Nat.le_refl _)) (Below.refl _ _) (Nat.le_refl _) (by simp) ?_; (case hd => rfl); (case hg => rfl); (case hr => exact tc42_); (case hp => exact (Reps.one (show Kd.FK (Kd.slice 3 (Kd.int .i64)) _ _ l1 [.slice A1 l1.length c1] from (Kd.FK_slice_mk (Kd.V_reads' (Kd.V_mono (ok' := (fun k_ => (P1_ k_ ∨ w.heap.size ≤ k_))) (HO1.out) (fun k_ hk => hk))).2.1 (Kd.V_F (Kd.V_mono (ok' := (fun k_ => (P1_ k_ ∨ w.heap.size ≤ k_))) (HO1.out) (fun k_ hk => hk))))) (Reps.none _ _))); intro v102 w6 ho7 hb hg_ hnew_; clear hg_ hnew_; (first | rw [← Ny101.out] at ho7 | (simp only [Int.reduceToNat] at ho7; rw [← Ny101.out] at ho7)); have n0_ := am_ (Kd.V_elder' (by (with_reducible repeat (first | apply Kd.V_alloc | apply Kd.V_drewN | apply Kd.V_drew)); exact HO1.out) (Kd.N_base ho7) hb); have n1_ := am_ (Kd.N_lower ho7 (below_size tc0_)); have n2_ := am_ (below_step tc0_ hb); clear HO1 HB; have HO1 := n0_; have HO103 := n1_; have HB := n2_; clear n0_ n1_ n2_; clear hb ho7))
   go_ret
   exact ⟨_, tc6_, (by (with_reducible repeat (first | apply Kd.N_alloc | apply Kd.N_drewN | apply Kd.N_drew)); exact HO103.out), tc0_⟩
  ·have c5b0 : (a2 == 1) = false := beq_eq_false_iff_ne.mpr c5; have c5b1 : (a2 != 1) = true := bne_iff_ne.mpr c5; obtain rfl := Option.some.inj H; go_enter Try.func52, Try.ntmps52; go_wp2
   go_ret
   exact ⟨_, tc6_, tc52_, tc0_⟩
 ·have c4b0 : ((l1.length : Int) == (l0.length : Int)) = false := beq_eq_false_iff_ne.mpr c4; have c4b1 : ((l1.length : Int) != (l0.length : Int)) = true := bne_iff_ne.mpr c4; have c4b2 : (l1.length == l0.length) = false := (by first | simpa using c4 | (simp at c4 ⊢; omega)); have H' := am_ H; clear H; go_enter Try.func52, Try.ntmps52; go_wp2
  go_loopg [7, 8] k (fun kq v7 v8 w' => ∃ (x7_1 : Tb_) (x8_1 : Int), v8 = .int .i64 x8_1 ∧ Aside0 (spec_weRows.l0 kq l0 l1 a2 x7_1 x8_1 = some r) ∧ Aside0 (kq ≤ k) ∧ Aside0 (Kd.V (Kd.int .i64) 3 w' w.heap.size (fun k_ => (P1_ k_ ∨ w.heap.size ≤ k_) ∧ some k_ ≠ (v7 : Value).ownBlock) (.slice A1 l1.length c1) l1) ∧ Aside0 (Kd.N (Kd.slice 3 (Kd.int .i64)) 28 w' w.heap.size (fun k_ => (P1_ k_ ∨ w.heap.size ≤ k_)) v7 x7_1) ∧ Aside0 (Below w.heap.size w w'))
  case atStart => exact ⟨(([] : Tb_)), ((-1)), tc3_, H', ⟨Nat.le_refl _⟩, ⟨(by (with_reducible repeat (first | apply Kd.V_alloc | apply Kd.V_drewN | apply Kd.V_drew)); exact Kd.V_mono HO1.out (fun _ hk => ⟨hk, (by simp [Value.ownBlock])⟩))⟩, ⟨tc52_⟩, ⟨tc0_⟩⟩
  case round =>
   clear H'; (try clear c1); (try clear p2); (try clear c4); (try clear c4b0); (try clear c4b1); (try clear c4b2); (try clear c5); (try clear c5b0); (try clear c5b1); obtain ⟨x7_1, x8_1, rfl, HA, HK1, HO_1, HO_7, HB⟩ := hrel
   cases gk with
   | zero => exact absurd HA.out (by simp [spec_weRows.l0])
   | succ k1 =>
    have H := HA.out; clear HA; simp only [spec_weRows.l0] at H
    replace H := sp_ H; obtain ⟨c8b0, H⟩ | ⟨c8b0, H⟩ := H
    ·have HC9 := am_ H; clear H
     go_upto_region 9 with (fail)
     go_cut [35] (fun v35 wc => ∃ (kq : Nat) (x35_8 : Bool), v35 = .bool x35_8 ∧ Aside0 (spec_weRows.j1 kq l0 l1 a2 x7_1 x8_1 x35_8 = some r) ∧ Aside0 (kq ≤ k1) ∧ Aside0 (Kd.V (Kd.int .i64) 3 wc w.heap.size (fun k_ => (P1_ k_ ∨ w.heap.size ≤ k_) ∧ some k_ ≠ (u7 : Value).ownBlock) (.slice A1 l1.length c1) l1) ∧ Aside0 (Kd.N (Kd.slice 3 (Kd.int .i64)) 28 wc w.heap.size (fun k_ => (P1_ k_ ∨ w.heap.size ≤ k_)) u7 x7_1) ∧ Aside0 (Below w.heap.size w wc))
     case first =>
      have H := HC9.out; clear HC9; replace H := bd_ H; obtain ⟨t104, A10, H⟩ := H; (try dsimp only at H)
      by_cases c11 : t104 = true
      ·subst c11; have H1 : (if 0 ≤ (l1.length : Int) then (if (l1.length : Int) < (l0.length : Int) then ((spec_l1In.f (wrap64 ((rd l0 (l1.length : Int)) + x8_1)) 0 1).bind fun t106 => (spec_weRows.j1 k1 l0 l1 a2 x7_1 x8_1 t106)) else (none)) else (none)) = some r := tc33_; clear H; have H := H1; clear H1; replace H := pp_ H; obtain ⟨c12, H⟩ := H; have c12b0 : decide (0 ≤ (l1.length : Int)) = true := decide_eq_true c12; have c12b1 : decide (0 ≤ l1.length) = true := decide_eq_true (by omega); clear c12; (first | rw [c12b0] | (simp only [i64_w, i32_w]; rw [c12b0]) | skip); replace H := pp_ H; obtain ⟨c13, H⟩ := H; have c13b0 : decide ((l1.length : Int) < (l0.length : Int)) = true := decide_eq_true c13; have c13b1 : decide (l1.length < l0.length) = true := decide_eq_true (Int.ofNat_lt.mp c13); clear c13; replace H := bd_ H; obtain ⟨t106, A14, H⟩ := H; (try dsimp only at H); have H' := am_ H; clear H
       go_wp2_with (first | (refine gc_ (some 25) Try.func39 #[.int .i64 (wrap64 (a2 + x8_1)), .int .i64 0, .int .i64 1] ?_; (with_reducible refine (spec_l1In.calls (wrap64 (a2 + x8_1)) 0 1 true _ A10.out).mono ?_); rintro e w' ⟨rfl, ⟨nd, rfl⟩⟩; refine ⟨_, rfl, ?_⟩; have p105 : 0 ≤ ((l1.length : Int) : Int) := od_; have q105 : (l1.length : Int) < (l0.length : Int) := od_; obtain ⟨ad105, e105, hx105_0⟩ := Kd.at_int HR0.out (l1.length : Int) p105 q105; cases e105; replace hx105_0 := (HB.out.cell (World.block_lt_of_cell? w _ hx105_0)).trans hx105_0; (try simp only [Go.IntWalk.toNatUp] at hx105_0); replace p105 := eq_true p105; replace q105 := eq_true q105) | (go_at_call 39; (with_reducible refine (spec_l1In.calls (wrap64 ((rd l0 (l1.length : Int)) + x8_1)) 0 1 t106 _ A14.out).mono ?_); rintro e w' ⟨rfl, ⟨nd, rfl⟩⟩))
       go_meet
       case rel => exact ⟨_, (t106), tc3_, H', ⟨(by have := HK1.out; first | omega | exact Nat.le_refl _)⟩, ⟨tc36_⟩, ⟨tc23_⟩, ⟨tc0_⟩⟩
      ·replace c11 := Bool.eq_false_iff.mpr c11; subst c11; have H1 : (spec_weRows.j1 k1 l0 l1 a2 x7_1 x8_1 false) = some r := tc16_; clear H; have H := H1; clear H1; have H' := am_ H; clear H
       go_wp2_with (first | (refine gc_ (some 25) Try.func39 #[.int .i64 (wrap64 (a2 + x8_1)), .int .i64 0, .int .i64 1] ?_; (with_reducible refine (spec_l1In.calls (wrap64 (a2 + x8_1)) 0 1 false _ A10.out).mono ?_); rintro e w' ⟨rfl, ⟨nd, rfl⟩⟩; refine ⟨_, rfl, ?_⟩))
       go_meet
       case rel => exact ⟨_, (false), tc3_, H', ⟨(by have := HK1.out; first | omega | exact Nat.le_refl _)⟩, ⟨tc36_⟩, ⟨tc23_⟩, ⟨tc0_⟩⟩
     case rest =>
      clear HC9; (try clear c1); (try clear p1); (try clear q1); (try clear hx1); (try clear p2); (try clear c3); (try clear c4); (try clear c4b0); (try clear c4b1); (try clear c4b2); (try clear c5); (try clear c5b0); (try clear c5b1); (try clear p6); (try clear c8); (try clear c8b0); (try clear p10); (try clear q10); (try clear hx10); (try clear c11); (try clear c12); (try clear c12b0); (try clear c12b1); (try clear c13); (try clear c13b0); (try clear c13b1); (try clear hx105_0); (try clear p105); (try clear p2); (try clear q105); obtain ⟨kq, x35_8, rfl, HA, HJ8, HO_1, HO_7, HB⟩ := hcut
      cases kq with
      | zero => exact absurd HA.out (by simp [spec_weRows.j1])
      | succ kj8 =>
       have H := HA.out; clear HA; simp only [spec_weRows.j1] at H
       by_cases c15 : x35_8 = true
       ·subst c15; have H1 : ((spec_l1Own.f l1).bind fun t107 => (if t107.length < 17592186044416 then ((spec_weRows.f kj8 l0 (t107 ++ [x8_1]) (wrap64 (a2 + x8_1))).bind fun t113 => (if x7_1.length + t113.length < 5864062014805 then (spec_weRows.l0 kj8 l0 l1 a2 (x7_1 ++ t113) (wrap64 (x8_1 + 1))) else (none))) else (none))) = some r := tc33_; clear H; have H := H1; clear H1; replace H := bd_ H; obtain ⟨t107, A16, H⟩ := H; (try dsimp only at H); replace H := pp_ H; obtain ⟨c17, H⟩ := H; have LMc17 := am_ c17; clear c17; obtain ⟨y110, hy110⟩ : ∃ y_ : List Int, y_ = (t107 ++ [x8_1]) := ⟨_, rfl⟩; replace H : ((spec_weRows.f kj8 l0 y110 (wrap64 (a2 + x8_1))).bind fun t113 => (if x7_1.length + t113.length < 5864062014805 then (spec_weRows.l0 kj8 l0 l1 a2 (x7_1 ++ t113) (wrap64 (x8_1 + 1))) else (none))) = some r := tc41_; have Ny110 := am_ hy110; clear hy110; replace H := bd_ H; obtain ⟨t113, A18, H⟩ := H; (try dsimp only at H); replace H := pp_ H; obtain ⟨c19, H⟩ := H; have LMc19 := am_ c19; clear c19; obtain ⟨y116, hy116⟩ : ∃ y_ : Tb_, y_ = (x7_1 ++ t113) := ⟨_, rfl⟩; replace H : (spec_weRows.l0 kj8 l0 l1 a2 y116 (wrap64 (x8_1 + 1))) = some r := (by first | (rw [hy116]; with_reducible exact H) | (have H2_ := (Option.bind_some _ _).symm.trans H; rw [hy116]; with_reducible exact H2_) | (have H2_ := (Option.bind_some _ _).symm.trans H; with_reducible exact H2_) | with_reducible exact H | (rw [hy116]; exact H) | exact H); have Ny116 := am_ hy116; clear hy116; have H' := am_ H; clear H
        go_wp2_with (first | (refine gc_ (some 39) Try.func43 #[.slice A1 l1.length c1] ?_; (with_reducible refine (spec_l1Own.calls _ _ l1 t107 _ ?side1 ?side2 A16.out).mono ?_); (case side1 => repeat (first | exact (Kd.V_reads' HO_1.out).2.2 | (with_reducible refine Kd.C_alloc ?_ _) | (with_reducible refine Kd.C_drewN ?_ _) | (with_reducible refine Kd.C_drew ?_))); (case side2 => exact (Kd.V_reads' HO_1.out).2.1); rintro e w20 ⟨v108, rfl, ho0, hb⟩; refine ⟨_, rfl, ?_⟩; replace HO_1 := am_ (Kd.V_elder' tc36_ (Kd.R_base ho0) hb); replace HO_7 := am_ (Kd.N_elder' tc23_ (Kd.R_base ho0) hb); have HO109 := am_ (Kd.R_lower (Kd.R_newM (M := fun k_ => (w.heap.size ≤ k_)) ho0 (below_size tc0_) (fun k_ h_ => h_)) (below_size tc0_)); replace HB := am_ (below_step tc0_ hb); (try clear hb ho0)) | ((with_reducible refine gate_builtin (b := .append) (xs := #[.tmp 39, .tmp 41]) rfl ?_); (try (refine gate_guard (by rfl) ?_; dsimp only)); at_builtin; refine Kd.R_append (Kd.int .i64) (w0 := w) w.heap.size rfl (.tmp 39) (.tmp 41) 28 3 (.int .i64 0) 8 rfl Try.underlying28 info3 rfl (by decide) (by omega) v108 t107 x8_1 [.int .i64 x8_1] (fun k_ => (w.heap.size ≤ k_)) (fun _ => False) rfl rfl ?aP (fun _ hk => hk.elim) ?aF ?aO ?aB ?aS ?aL ?_; (case aP => exact rfl); (case aB => exact tc13_); (case aF => exact (fun k_ hk => (Nat.le_trans (below_size tc0_) hk))); (case aO => exact (by (with_reducible repeat (first | apply Kd.R_alloc | apply Kd.R_drewN | apply Kd.R_drew)); exact Kd.R_mono HO109.out (fun _ hk => hk.1))); (case aS => exact tc14_); (case aL => have := LMc17.out; omega); intro v111 w21 ho hb hg hat; rw [← Ny110.out] at ho; replace HO_1 := am_ (Kd.V_afterv (ok := (fun k_ => (P1_ k_ ∨ w.heap.size ≤ k_) ∧ some k_ ≠ (u7 : Value).ownBlock)) tc36_ hg hat); replace HO_7 := am_ (Kd.N_afterv (ok := (fun k_ => (P1_ k_ ∨ w.heap.size ≤ k_))) tc23_ hg hat); replace HB := am_ (hb); have HO112 := am_ (ho); clear HO109; clear ho hb hg hat; obtain ⟨Ao22, co22, eo22⟩ := Kd.R_slice HO112.out; subst eo22) | (refine gc_ (some 46) Try.func52 #[.slice A0 l0.length c0, .slice Ao22 y110.length co22, .int .i64 (wrap64 (a2 + x8_1))] ?_; (with_reducible refine (ih kj8 (by have := HK1.out; have := HJ8.out; omega) _ _ l0 (fun k_ => some k_ = (.slice Ao22 y110.length co22 : Value).ownBlock) _ _ y110 (wrap64 (a2 + x8_1)) t113 _ ?side1 ?side2 ?side3 A18.out).mono ?_); (case side1 => exact tc34_); (case side2 => exact HC0.out); (case side3 => exact Kd.R_V (Kd.R_tight rfl (Kd.R_apart' (HO112.out) (Kd.N_typed HO_7.out) (by decide)))); rintro e w23 ⟨v114, rfl, ho0, hb⟩; refine ⟨_, rfl, ?_⟩; have n0_ := am_ (Kd.V_elder' tc36_ (Kd.N_base ho0) hb); have n1_ := am_ (Kd.N_elder' tc23_ (Kd.N_base ho0) hb); have n2_ := am_ (Kd.R_below (by (with_reducible repeat (first | apply Kd.R_alloc | apply Kd.R_drewN | apply Kd.R_drew)); exact HO112.out) hb); have n3_ := am_ (Kd.N_lower (Kd.N_mono (ok' := fun k_ => (P1_ k_ ∨ w.heap.size ≤ k_) ∧ some k_ ≠ (u7 : Value).ownBlock) ho0 (fun k_ hk_ => ⟨Or.elim hk_ (fun hs_ => (.inr (((Kd.R_apart' (HO112.out) (Kd.N_typed HO_7.out) (by decide)).1 k_ hs_.symm).1))) (fun hn_ => (.inr (Nat.le_trans (below_size tc0_) hn_))), Or.elim hk_ (fun hs_ => ((Kd.R_apart' (HO112.out) (Kd.N_typed HO_7.out) (by decide)).1 k_ hs_.symm).2) (fun hn_ => (Kd.fresh' (Kd.N_lt tc23_) k_ hn_))⟩)) (below_size tc0_)); have n4_ := am_ (below_step tc0_ hb); clear HO_1 HO_7; clear HO112 HB; have HO_1 := n0_; have HO_7 := n1_; have HO112 := n2_; have HO115 := n3_; have HB := n4_; clear n0_ n1_ n2_ n3_ n4_; (try clear hb ho0); obtain ⟨Ao25, co25, eo25⟩ := Kd.N_slice HO115.out; subst eo25) | ((with_reducible refine gate_builtin (b := .append) (xs := #[.tmp 36, .tmp 46]) rfl ?_); (try (refine gate_guard (by rfl) ?_; dsimp only)); at_builtin; refine Kd.N_append_rows (Kd.slice 3 (Kd.int .i64)) (w0 := w) w.heap.size rfl (.tmp 36) (.tmp 46) 25 28 (.slice none 0 0) 24 rfl Try.underlying25 info28 rfl (by decide) (by omega) u7 x7_1 t113 _ _ _ (fun k_ => (P1_ k_ ∨ w.heap.size ≤ k_)) (fun k_ => ((fun k_ => (P1_ k_ ∨ w.heap.size ≤ k_))) k_ ∧ some k_ ≠ (u7 : Value).ownBlock) rfl rfl ?aO ?aR (fun _ hk => hk) ?aF ?aB ?aS ?aL ?_; (case aR => exact (by skip; exact Kd.N_F (Kd.N_mono (ok' := (fun k_ => ((fun k_ => (P1_ k_ ∨ w.heap.size ≤ k_))) k_ ∧ some k_ ≠ (u7 : Value).ownBlock)) (HO115.out) (fun k_ hk => ⟨hk.1, hk.2⟩)))); (case aB => exact tc13_); (case aF => exact (fun k_ hk => (.inr (Nat.le_trans (below_size tc0_) hk)))); (case aO => exact (by (with_reducible repeat (first | apply Kd.N_alloc | apply Kd.N_drewN | apply Kd.N_drew)); exact Kd.N_mono HO_7.out (fun _ hk => hk.1.1))); (case aS => exact tc14_); (case aL => have := LMc19.out; omega); intro v117 w24 ho hb hg hat; rw [← Ny116.out] at ho; have n0_ := am_ (Kd.V_afterv (ok := (fun k_ => (P1_ k_ ∨ w.heap.size ≤ k_) ∧ some k_ ≠ (.slice Ao22 y110.length co22 : Value).ownBlock ∧ some k_ ≠ (.slice Ao25 t113.length co25 : Value).ownBlock)) (by (with_reducible repeat (first | apply Kd.V_alloc | apply Kd.V_drewN | apply Kd.V_drew)); exact Kd.V_mono HO_1.out (fun _ hk => ⟨⟨hk.1.1.1, ⟨hk.1.2, hk.2⟩⟩, hk.1.1.2⟩)) hg hat); have n1_ := am_ (Kd.R_over' (by (with_reducible repeat (first | apply Kd.R_alloc | apply Kd.R_drewN | apply Kd.R_drew)); exact HO112.out) (Kd.N_typed tc23_) (by decide) hg); have n2_ := am_ (Kd.N_afterv (ok := (fun k_ => (P1_ k_ ∨ w.heap.size ≤ k_))) (by (with_reducible repeat (first | apply Kd.N_alloc | apply Kd.N_drewN | apply Kd.N_drew)); exact HO115.out) hg hat); have n3_ := am_ (hb); have n4_ := am_ (ho); clear HO_1 HO112; clear HO115 HB HO_7; have HO_1 := n0_; have HO112 := n1_; have HO115 := n2_; have HB := n3_; have HO118 := n4_; clear n0_ n1_ n2_ n3_ n4_; clear ho hb hg hat))
        go_roundg kj8
        case measure => have := HK1.out; have := HJ8.out; omega
        case rel => exact ⟨(y116), (wrap64 (x8_1 + 1)), tc3_, H', ⟨(by have := HK1.out; have := HJ8.out; omega)⟩, ⟨(by (with_reducible repeat (first | apply Kd.V_alloc | apply Kd.V_drewN | apply Kd.V_drew)); exact Kd.V_mono HO_1.out (fun _ hk => ⟨hk.1.1, hk.2⟩))⟩, ⟨(by (with_reducible repeat (first | apply Kd.N_alloc | apply Kd.N_drewN | apply Kd.N_drew)); exact HO118.out)⟩, ⟨tc0_⟩⟩
       ·replace c15 := Bool.eq_false_iff.mpr c15; subst c15; have H1 : (spec_weRows.l0 kj8 l0 l1 a2 x7_1 (wrap64 (x8_1 + 1))) = some r := tc16_; clear H; have H := H1; clear H1; have H' := am_ H; clear H; go_wp2
        go_roundg kj8
        case measure => have := HK1.out; have := HJ8.out; omega
        case rel => exact ⟨(x7_1), (wrap64 (x8_1 + 1)), tc3_, H', ⟨(by have := HK1.out; have := HJ8.out; omega)⟩, ⟨tc36_⟩, ⟨tc23_⟩, ⟨tc0_⟩⟩
    ·obtain rfl := Option.some.inj H; go_wp2
     go_ret
     exact ⟨_, tc6_, tc23_, tc0_⟩

/-! ### spec_weGoOn: function 40 (by hand) -/
mutual
def spec_weGoOn.l0 : Nat → Tb_ → List Int → Tb_ → List Tb_ → Int → Option (List Tb_)
  | 0, _, _, _, _, _ => none
  | k + 1, l0, l1, rs, out, i => if i < (rs.length : Int) then (if 0 ≤ i then ((spec_l1Own.f l1).bind fun nx => (if rowOk nx (rs.getD i.toNat []) = true then (if l0.length < 1000000 then
      ((spec_weGoOn.f k (l0 ++ [rs.getD i.toNat []]) (List.zipWith (· + ·) nx (rs.getD i.toNat []))).bind fun a => (if out.length + a.length < 5864062014805 then spec_weGoOn.l0 k l0 l1 rs (out ++ a) (i + 1) else none)) else none) else none)) else none) else some out
def spec_weGoOn.f : Nat → Tb_ → List Int → Option (List Tb_)
  | 0, _, _ => none
  | k + 1, l0, l1 => if (l0.length : Int) = (l1.length : Int) then ((spec_l1All.f k l1 1 1).bind fun t => if t = true then some [l0] else some []) else ((spec_weRows.f k l1 [] 0).bind fun rs => spec_weGoOn.l0 k l0 l1 rs [] 0)
end
theorem spec_weGoOn.calls (k : Nat) : ∀ (A0 : Option Addr) (c0 : Nat) (l0 : Tb_) (P0_ : Nat → Prop) (A1 : Option Addr) (c1 : Nat) (l1 : List Int) (r : List Tb_) (w : World)
    (hs0 : Kd.V (Kd.slice 3 (Kd.int .i64)) 28 w w.heap.size (fun k_ => P0_ k_) (.slice A0 l0.length c0) l0) (hr1 : Kd.C (Kd.int .i64) w A1 l1.length l1) (hc1 : l1.length ≤ c1) (h : spec_weGoOn.f k l0 l1 = some r),
    Calls Try.prog 40 #[.slice A0 l0.length c0, .slice A1 l1.length c1] w fun e w' => ∃ v0_ : Value, e = .returned v0_ ∧ Kd.N (Kd.slice 28 (Kd.slice 3 (Kd.int .i64))) 25 w' w.heap.size (fun k_ => (P0_ k_ ∨ w.heap.size ≤ k_)) v0_ r ∧ Below w.heap.size w w' := by
  induction k using Nat.strongRecOn with
  | _ k ih =>
  intro A0 c0 l0 P0_ A1 c1 l1 r w hs0 hr1 hc1 h
  cases k with
  | zero => exact absurd h (by simp [spec_weGoOn.f])
  | succ k =>
  simp only [spec_weGoOn.f] at h
  have hz0 : l0.length ≤ 9223372036854775807 := (Kd.V_reads' hs0).2.2.2.1
  have hz1 : l1.length ≤ 9223372036854775807 := hr1.2.1
  have HV := am_ (Kd.V_bound hs0)
  have HR := am_ hr1
  have HC := am_ hc1
  clear hs0 hr1 hc1
  by_cases c1 : (l0.length : Int) = (l1.length : Int)
  · rw [if_pos c1] at h
    have c1b : ((l0.length : Int) == (l1.length : Int)) = true := beq_iff_eq.mpr c1
    have c1c : (l0.length == l1.length) = true := by have := c1; simp only [beq_iff_eq]; omega
    clear c1
    obtain ⟨t, ht, h⟩ := Option.bind_eq_some_iff.mp h
    have HT := am_ ht
    clear ht
    cases t with
    | true =>
      rw [if_pos rfl] at h
      obtain rfl := Option.some.inj h
      clear h
      go_enter Try.func40, Try.ntmps40
      go_wp2_with (first | (go_at_call 51; (refine (spec_l1All.calls k _ _ l1 1 1 true _ HR.out HC.out HT.out).mono ?_); rintro e w' ⟨rfl, ⟨nd, rfl⟩⟩) | ((with_reducible refine gate_dst (N := 20) rfl ?_); refine Kd.N_lit (Kd.slice 28 (Kd.slice 3 (Kd.int .i64))) _ 25 ?hg (N' := 20) ?hd (xs := ([l0] : List Tb_)) (inner := [.slice A0 l0.length c0]) (ok := (fun k_ => (P0_ k_ ∨ w.heap.size ≤ k_))) (okp := (fun k_ => P0_ k_ ∧ k_ < w.heap.size)) ?hr ?hp (fun _ hk => .inl hk.1) (.inr (Nat.le_refl _)) (Below.refl _ _) (Nat.le_refl _) (by simp) ?_; (case hd => rfl); (case hg => rfl); (case hr => exact tc42_); (case hp => exact (Reps.one (show Kd.FK (Kd.slice 28 (Kd.slice 3 (Kd.int .i64))) _ _ l0 [.slice A0 l0.length c0] from (Kd.FK_slice_mk (Kd.V_reads' HV.out).2.1 (Kd.V_F (Kd.V_drewN HV.out nd)))) (Reps.none _ _))); intro v102 w6 ho7 hb hg_ hnew_; have HO := am_ ho7; have HB := am_ hb; clear hg_ hnew_ ho7 hb))
      go_ret
      exact ⟨_, rfl, Kd.N_lower HO.out (Nat.le_refl _), below_step (pw_below_drewN (Below.refl _ _) _) HB.out⟩
    | false =>
      rw [if_neg (by simp)] at h
      obtain rfl := Option.some.inj h
      clear h
      go_enter Try.func40, Try.ntmps40
      go_wp2_with (go_at_call 51; (refine (spec_l1All.calls k _ _ l1 1 1 false _ HR.out HC.out HT.out).mono ?_); rintro e w' ⟨rfl, ⟨nd, rfl⟩⟩)
      go_ret
      exact ⟨_, rfl, Kd.N_nil _ _ _ _ _, pw_below_drewN (Below.refl _ _) _⟩
  · rw [if_neg c1] at h
    have c1b : ((l0.length : Int) == (l1.length : Int)) = false := beq_eq_false_iff_ne.mpr c1
    have c1c : (l0.length == l1.length) = false := by have := c1; simp only [beq_eq_false_iff_ne]; omega
    clear c1
    obtain ⟨rs, hrs, h⟩ := Option.bind_eq_some_iff.mp h
    have HRS := am_ hrs
    have HL := am_ h
    clear hrs h
    go_enter Try.func40, Try.ntmps40
    go_wp2_with (go_at_call 52; (refine (spec_weRows.calls k _ _ l1 (fun _ => False) none 0 [] 0 rs _ HR.out HC.out (Kd.V_nil _ _ _ _ _) HRS.out).mono ?_); rintro e w1 ⟨v22, rfl, ho, hb⟩; have HO := am_ (Kd.N_V (base' := 0) (Kd.N_mono (ok' := fun k_ => w.heap.size ≤ k_) ho (fun k hk => hk.elim (fun h => h.elim) (fun h => h)))); have HB := am_ hb; clear ho hb; obtain ⟨A22, c22, e22⟩ := Kd.V_slice HO.out; subst e22)
    clear HRS
    go_loopg [5, 24] k (fun kq v5 v24 w' => ∃ (out : List Tb_) (i : Int), v24 = .int .i64 i ∧ Aside0 (spec_weGoOn.l0 kq l0 l1 rs out i = some r) ∧ Aside0 (kq ≤ k) ∧ Aside0 (Kd.V (Kd.slice 3 (Kd.int .i64)) 28 w' 0 (fun k_ => w.heap.size ≤ k_ ∧ some k_ ≠ (v5 : Value).ownBlock) (.slice A22 rs.length c22) rs) ∧ Aside0 (Kd.N (Kd.slice 28 (Kd.slice 3 (Kd.int .i64))) 25 w' w.heap.size (fun k_ => (P0_ k_ ∨ w.heap.size ≤ k_)) v5 out) ∧ Aside0 (Below w.heap.size w w'))
    case atStart => exact ⟨[], 0, rfl, HL, ⟨Nat.le_refl _⟩, ⟨Kd.V_apart_nil HO.out⟩, ⟨Kd.N_nil _ _ _ _ _⟩, HB⟩
    case round =>
      clear HL HO HB
      obtain ⟨wo, rfl⟩ : ∃ w_ : World, w_ = wr := ⟨_, rfl⟩
      obtain ⟨out, i, rfl, HL, HK, HO, HN, HB⟩ := hrel
      cases gk with
      | zero => exact absurd HL.out (by simp [spec_weGoOn.l0])
      | succ k1 =>
        have H := HL.out
        clear HL
        simp only [spec_weGoOn.l0] at H
        have hz4 : rs.length ≤ 9223372036854775807 := (Kd.V_reads' HO.out).2.2.2.1
        by_cases c3 : i < (rs.length : Int)
        · rw [if_pos c3] at H
          by_cases c4 : 0 ≤ i
          case neg => rw [if_neg c4] at H; exact absurd H (by simp)
          rw [if_pos c4] at H
          obtain ⟨nx, hnx, H⟩ := Option.bind_eq_some_iff.mp H
          obtain ⟨ad, Aw, cw, eA, hxw, hVw⟩ := V_row (b' := 0) HO.out i c4 c3
          obtain ⟨row, hrow⟩ : ∃ row : List Int, rs.getD i.toNat [] = row := ⟨_, rfl⟩
          rw [hrow] at H hxw hVw
          clear hrow
          subst eA
          have HVw := am_ (Kd.V_bound hVw)
          have hz3 : row.length ≤ 9223372036854775807 := (Kd.V_reads' hVw).2.2.2.1
          have HNX := am_ hnx
          clear hVw hnx
          have hd3 : decide (i < (rs.length : Int)) = true := decide_eq_true c3
          have hd4 : decide (0 ≤ i) = true := decide_eq_true c4
          by_cases c5 : rowOk nx row = true
          case neg => rw [if_neg c5] at H; exact absurd H (by simp)
          rw [if_pos c5] at H
          by_cases c6 : l0.length < 1000000
          case neg => rw [if_neg c6] at H; exact absurd H (by simp)
          rw [if_pos c6] at H
          obtain ⟨a, ha, H⟩ := Option.bind_eq_some_iff.mp H
          by_cases c7 : out.length + a.length < 5864062014805
          case neg => rw [if_neg c7] at H; exact absurd H (by simp)
          rw [if_pos c7] at H
          have HL4 := am_ H
          obtain ⟨nx2, he2⟩ : ∃ x : List Int, List.zipWith (· + ·) nx row = x := ⟨_, rfl⟩
          rw [he2] at ha
          obtain ⟨l2, hl2⟩ : ∃ x : Tb_, l0 ++ [row] = x := ⟨_, rfl⟩
          rw [hl2] at ha
          have HL2 := am_ hl2
          clear hl2
          have HZ := am_ (rowOk_len c5)
          rw [he2] at HZ
          have HE2 := am_ he2
          have HA := am_ ha
          have H5 := am_ c5
          have H6 := am_ c6
          have H7 := am_ c7
          clear he2 ha c5 c6 c7 H
          go_wp2_with (go_at_call 43; (refine (spec_l1Own.calls _ _ l1 nx _ (Kd.C_below HR.out HB.out) HC.out HNX.out).mono ?_); rintro e w2 ⟨v8, rfl, ho, hb⟩; have HX := am_ ho; have HB2 := am_ hb; clear ho hb)
          go_loopg [32] row.length (fun gj v32 w' => ∃ j : Nat, v32 = .int .i64 (j : Int) ∧ Aside0 (j + gj = row.length) ∧ Aside0 (Kd.R (Kd.int .i64) 3 w' wo.heap.size (fun _ => True) v8 (rowMid nx2 nx j)) ∧ Aside0 (Below wo.heap.size wo w'))
          case atStart => exact ⟨0, rfl, ⟨by omega⟩, ⟨by rw [rowMid_zero]; exact HX.out⟩, HB2⟩
          case round =>
            clear HX HB2
            obtain ⟨w3, rfl⟩ : ∃ w_ : World, w_ = wr := ⟨_, rfl⟩
            obtain ⟨j, rfl, HJ, HX, HB3⟩ := hrel
            have HLb := am_ (rowMid_len (a := nx2) (b := nx) (HZ.out.2.trans HZ.out.1.symm) j)
            by_cases hj : j < row.length
            · obtain ⟨g1, rfl⟩ : ∃ g1, gk = g1 + 1 := ⟨gk - 1, by have := HJ.out; omega⟩
              obtain ⟨adw, eAw, hcw⟩ := Kd.at_int (Kd.V_reads' (Kd.V_below HVw.out HB3.out)).2.2 (j : Int) (by omega) (by omega)
              subst eAw
              obtain ⟨o1, o2, o3, o4, o5⟩ := rowOk_at H5.out j hj
              obtain ⟨g, cap, e8, hg1, hg2, _⟩ := Kd.R_form HX.out (by have := HLb.out; have := HZ.out; omega)
              rw [HLb.out, HZ.out.1] at e8
              subst e8
              have HG := am_ hg1
              clear hg1 hg2
              obtain ⟨q1, hfs⟩ := Kd.R_celln (enc := Value.int .i64) (d := (0 : Int)) HX.out (j : Int) (by omega) (by omega)
              have hcs : w3.cell? ⟨g, j, none⟩ = some (.int .i64 (nx.getD j 0)) := by
                have e_ := rowMid_at (a := nx2) (b := nx) (HZ.out.2.trans HZ.out.1.symm) j (by have := HZ.out; omega)
                rw [← e_]
                simpa [rdOf] using q1
              clear q1
              rw [show rd row (j : Int) = row.getD j 0 from rfl] at hcw
              rw [Int.toNat_natCast] at hcw hfs
              have HST := am_ (Kd.R_putn (enc := Value.int .i64) (h1 := fun _ => rfl) HX.out (j : Int) (nx2.getD j 0))
              have HMS := am_ (rowMid_set (a := nx2) (b := nx) (HZ.out.2.trans HZ.out.1.symm) j (by have := HZ.out; omega))
              have HVE := am_ (show nx2.getD j 0 = nx.getD j 0 + row.getD j 0 by rw [← HE2.out] at *; omega)
              have hd1 : decide ((j : Int) < (row.length : Int)) = true := decide_eq_true (by omega)
              have hd2 : decide (j < row.length) = true := decide_eq_true hj
              clear o5
              generalize nx.getD j 0 = x at *
              generalize row.getD j 0 = y at *
              go_wp2
              go_roundg g1
              case measure => omega
              case rel =>
                refine ⟨j + 1, by go_num, ⟨by have := HJ.out; omega⟩, ⟨?_⟩, ⟨below_set HB3.out HG.out⟩⟩
                have := HST.out
                rw [Int.toNat_natCast, HMS.out] at this
                rwa [HVE.out] at this
            · have ej : j = row.length := by have := HJ.out; omega
              subst ej
              have hd1 : decide ((row.length : Int) < (row.length : Int)) = false := decide_eq_false (by omega)
              have hd2 : decide (row.length < row.length) = false := decide_eq_false (by omega)
              have HX2 := am_ HX.out
              rw [rowMid_all (HZ.out.2.trans HZ.out.1.symm) HZ.out.1.symm] at HX2
              clear HX HJ HLb hj
              have HBW := am_ (below_step HB.out HB3.out)
              have HSZ := am_ (And.intro (below_size HB.out) (below_size HB3.out))
              obtain ⟨A8, c8, e8⟩ := Kd.R_slice HX2.out
              subst e8
              go_wp2_with (first
                | ((with_reducible refine gate_builtin (b := .append) (xs := #[.tmp 46, .tmp 47]) rfl ?_); at_builtin; refine Kd.N_append_rows (Kd.slice 3 (Kd.int .i64)) (w0 := w3) w3.heap.size rfl (.tmp 46) (.tmp 47) 25 28 (.slice none 0 0) 24 rfl Try.underlying25 info28 rfl (by decide) (by omega) (.slice (some ⟨w3.heap.size, 0, none⟩) 0 0) [] l0 A0 l0.length c0 (fun k_ => (P0_ k_ ∨ w.heap.size ≤ k_) ∧ some k_ ≠ (u5 : Value).ownBlock) (fun k_ => P0_ k_ ∧ k_ < w.heap.size) rfl rfl (Kd.R_N (R_empty (blk_new _ _) (Nat.le_refl _) ⟨.inr (by have := HSZ.out; omega), fun e => by have := Kd.N_lt HN.out _ e.symm; have := HSZ.out; omega⟩)) (Kd.V_F (Kd.V_alloc (Kd.V_below HV.out HBW.out) _)) (fun k_ hk => ⟨⟨.inl hk.1, fun e => by have := Kd.N_base HN.out _ e.symm; omega⟩, fun e => by (have e2 : k_ = w3.heap.size := by simpa [Value.ownBlock] using e); have := HSZ.out; omega⟩) (fun k_ hk => ⟨.inr (by have := HSZ.out; simp at hk; omega), fun e => by have := Kd.N_lt HN.out _ e.symm; have := HSZ.out; simp at hk; omega⟩) (below_alloc (Below.refl _ _) _) (by simp) (by have := H6.out; simp; omega) ?_; intro v48 w4 ho4 hb4 hg4 hat4; have HN48 := am_ ho4; have HB4 := am_ hb4; clear ho4 hb4 hg4 hat4)
                | ((with_reducible refine gate_builtin (b := .append) (xs := #[.tmp 48, .tmp 50]) rfl ?_); at_builtin; refine Kd.N_append (Kd.slice 3 (Kd.int .i64)) (w0 := w3) w3.heap.size rfl (.tmp 48) (.tmp 50) 25 28 (.slice none 0 0) 24 rfl Try.underlying25 info28 rfl (by decide) (by omega) v48 ([] ++ l0) row [.slice Aw row.length cw] (fun k_ => (P0_ k_ ∨ w.heap.size ≤ k_) ∧ some k_ ≠ (u5 : Value).ownBlock) (fun k_ => (w.heap.size ≤ k_ ∧ some k_ ≠ (u5 : Value).ownBlock) ∧ k_ < wo.heap.size) rfl rfl (Kd.FK_slice_mk (Kd.V_reads' HVw.out).2.1 (Kd.V_F (Kd.V_below HVw.out (below_step HB3.out HB4.out)))) (fun k_ hk => ⟨⟨.inr hk.1.1, hk.1.2⟩, fun e => by have := Kd.N_base HN48.out _ e.symm; have := HSZ.out; omega⟩) (fun k_ hk => ⟨.inr (by have := HSZ.out; have := below_size HB4.out; omega), fun e => by have := Kd.N_lt HN.out _ e.symm; have := HSZ.out; have := below_size HB4.out; omega⟩) HN48.out HB4.out (below_size HB4.out) (by have := H6.out; simp; omega) ?_; intro v51 w5 ho5 hb5 hg5 hat5; rw [List.nil_append, HL2.out] at ho5; have HN51 := am_ ho5; have HB5 := am_ hb5; clear ho5 hb5 hg5 hat5; obtain ⟨A51, c51, e51⟩ := Kd.N_slice HN51.out; subst e51)
                | (go_at_call 40; (with_reducible refine (ih k1 (by have := HK.out; omega) A51 c51 l2 (fun k_ => (P0_ k_ ∨ w.heap.size ≤ k_) ∧ some k_ ≠ (u5 : Value).ownBlock) A8 c8 nx2 a w5 (Kd.N_V HN51.out) (Kd.R_reads' (Kd.R_below HX2.out HB5.out)).2.2 (Kd.R_reads' HX2.out).2.1 HA.out).mono ?_); rintro e w6 ⟨v53, rfl, ho6, hb6⟩; have HN53 := am_ ho6; have HB6 := am_ hb6; clear ho6 hb6; obtain ⟨A53, c53, e53⟩ := Kd.N_slice HN53.out; subst e53)
                | ((with_reducible refine gate_builtin (b := .append) (xs := #[.tmp 45, .tmp 53]) rfl ?_); at_builtin; refine Kd.N_append_rows (Kd.slice 28 (Kd.slice 3 (Kd.int .i64))) (w0 := w) w.heap.size rfl (.tmp 45) (.tmp 53) 42 25 (.slice none 0 0) 24 rfl Try.underlying42 info25 rfl (by decide) (by omega) u5 out a A53 a.length c53 (fun k_ => P0_ k_ ∨ w.heap.size ≤ k_) (fun k_ => ((P0_ k_ ∨ w.heap.size ≤ k_) ∧ some k_ ≠ (u5 : Value).ownBlock) ∨ w5.heap.size ≤ k_) rfl rfl (Kd.N_below HN.out (below_step HB3.out (below_step HB5.out HB6.out))) (Kd.N_F HN53.out) (fun k_ hk => hk.elim (fun h => h) (fun h => ⟨.inr (by have := HSZ.out; have := below_size HB5.out; omega), fun e => by have := Kd.N_lt HN.out _ e.symm; have := HSZ.out; have := below_size HB5.out; omega⟩)) (fun k_ hk => .inr (by have := HSZ.out; have := below_size HB5.out; have := below_size HB6.out; omega)) (below_step HBW.out (below_step HB5.out HB6.out)) (by have := HSZ.out; have := below_size HB5.out; have := below_size HB6.out; omega) (by have := H7.out; omega) ?_; intro v54 w7 ho7 hb7 hg7 hat7; have HN7 := am_ ho7; have HB7 := am_ hb7; have HO7 := am_ (Kd.V_afterv (ok := fun k_ => w.heap.size ≤ k_) (Kd.V_below HO.out (below_step HB3.out (below_step HB5.out HB6.out))) hg7 hat7); clear ho7 hb7 hg7 hat7))
              go_roundg k1
              case measure => have := HK.out; omega
              case rel => exact ⟨out ++ a, i + 1, by go_num, HL4, ⟨by have := HK.out; omega⟩, HO7, HN7, HB7⟩
        · rw [if_neg c3] at H
          have hd3 : decide (i < (rs.length : Int)) = false := decide_eq_false c3
          obtain rfl := Option.some.inj H
          clear H
          go_wp2
          go_ret
          exact ⟨_, rfl, HN.out, HB.out⟩

/-! ### spec_weAll: function 25 (by hand) -/
def spec_weAll.f (k : Nat) (a0 : Int) : Option (List Tb_) := if 0 ≤ a0 then (if a0 ≤ 1000 then spec_weGoOn.f k [] (List.replicate a0.toNat 0) else none) else none
theorem spec_weAll.calls (k : Nat) (a0 : Int) (r : List Tb_) (w : World) (h : spec_weAll.f k a0 = some r) :
    Calls Try.prog 25 #[.int .i64 a0] w fun e w' => ∃ v0_ : Value, e = .returned v0_ ∧ Kd.N (Kd.slice 28 (Kd.slice 3 (Kd.int .i64))) 25 w' w.heap.size (fun k_ => (w.heap.size ≤ k_)) v0_ r ∧ Below w.heap.size w w' := by
  unfold spec_weAll.f at h
  by_cases c1 : 0 ≤ a0
  · rw [if_pos c1] at h
    by_cases c2 : a0 ≤ 1000
    · rw [if_pos c2] at h
      obtain ⟨z, hz⟩ : ∃ x : List Int, List.replicate a0.toNat 0 = x := ⟨_, rfl⟩
      rw [hz] at h
      have HO := am_ h
      have EZ := am_ hz
      clear h hz
      go_enter Try.func25, Try.ntmps25
      go_wp2_with (first
        | ((with_reducible refine gate_dst (N := 4) rfl ?_); refine Kd.R_make (Kd.int .i64) (w0 := w) w.heap.size 3 rfl (N := 4) rfl 28 (.tmp 3) (.tmp 3) rfl a0 rfl rfl Try.underlying28 (.int .i64 0) 8 info3 rfl (by decide) (by decide) 0 (ok := fun _ => True) (okp := fun _ => True) rfl (fun _ h => h) trivial c1 (by omega) (Below.refl _ _) (Nat.le_refl _) ?_; intro v4 w1 ho hb hg hat; rw [EZ.out] at ho; have HR := am_ ho; have HB := am_ hb; clear ho hb hg hat; obtain ⟨A4, c4, e4⟩ := Kd.R_slice HR.out; subst e4)
        | (go_at_call 40; (refine (spec_weGoOn.calls k none 0 [] (fun _ => False) A4 c4 z r w1 (Kd.V_nil _ _ _ _ _) (Kd.R_reads' HR.out).2.2 (Kd.R_reads' HR.out).2.1 HO.out).mono ?_); rintro e w2 ⟨v5, rfl, ho, hb⟩; have HN := am_ ho; have HB2 := am_ hb; clear ho hb))
      go_ret
      exact ⟨_, rfl, Kd.N_lower (Kd.N_mono HN.out (fun k hk => hk.elim (fun h => h.elim) (fun h => Nat.le_trans (below_size HB.out) h))) (below_size HB.out), below_step HB.out HB2.out⟩
    · rw [if_neg c2] at h
      exact absurd h (by simp)
  · rw [if_neg c1] at h
    exact absurd h (by simp)

/-! ### spec_sgMinus: function 27 -/
mutual
def spec_sgMinus.l0 : Nat → Int → Tb_ → Int → Int → Option (Int)
 | 0, _, _, _, _ => none
 | k + 1, x3, x8, x9, x10 => if x10 < x9 then (if 0 ≤ x10 then (if x10 < (x8.length : Int) then (spec_sgMinus.l1 k x3 x8 x9 x10 (rd_L3 x8 x10) ((rd_L3 x8 x10).length : Int) 0) else (none)) else (none)) else (some x3)
def spec_sgMinus.l1 : Nat → Int → Tb_ → Int → Int → List Int → Int → Int → Option (Int)
 | 0, _, _, _, _, _, _, _ => none
 | k + 1, x3, x8, x9, x10, x14, x15, x16 => if x16 < x15 then (if 0 ≤ x16 then (if x16 < (x14.length : Int) then (if (rd x14 x16) < 0 then (spec_sgMinus.l1 k (wrap64 (x3 + 1)) x8 x9 x10 x14 x15 (wrap64 (x16 + 1))) else (spec_sgMinus.l1 k x3 x8 x9 x10 x14 x15 (wrap64 (x16 + 1)))) else (none)) else (none)) else (spec_sgMinus.l0 k x3 x8 x9 (wrap64 (x10 + 1)))
end
def spec_sgMinus.f (k : Nat) (l0 : Tb_) : Option (Int) := spec_sgMinus.l0 k 0 l0 (l0.length : Int) 0
theorem spec_sgMinus.mono_l : ∀ k, (∀ y0 y1 y2 y3, LeO (spec_sgMinus.l0 k y0 y1 y2 y3) (spec_sgMinus.l0 (k + 1) y0 y1 y2 y3)) ∧ (∀ y0 y1 y2 y3 y4 y5 y6, LeO (spec_sgMinus.l1 k y0 y1 y2 y3 y4 y5 y6) (spec_sgMinus.l1 (k + 1) y0 y1 y2 y3 y4 y5 y6))
 | 0 => ⟨fun _ _ _ _ r h => by simp [spec_sgMinus.l0] at h, fun _ _ _ _ _ _ _ r h => by simp [spec_sgMinus.l1] at h⟩
 | k + 1 => by
  obtain ⟨ih0, ih1⟩ := spec_sgMinus.mono_l k; refine ⟨?_, ?_⟩
  ·intro y0 y1 y2 y3; unfold spec_sgMinus.l0
   repeat' first
   | (with_reducible exact ih0 _ _ _ _)
   | (with_reducible exact ih1 _ _ _ _ _ _ _)
   | (with_reducible exact LeO.refl _)
   | (with_reducible exact LeO.none _)
   | (with_reducible refine LeO.ite ?_ ?_)
   | (with_reducible refine LeO.bind ?_ (fun _ => ?_))
   | exact ih0 _ _ _ _
   | exact ih1 _ _ _ _ _ _ _
   | exact LeO.none _
   | refine LeO.ite ?_ ?_
   | refine LeO.bind ?_ (fun _ => ?_)
  ·intro y0 y1 y2 y3 y4 y5 y6; unfold spec_sgMinus.l1
   repeat' first
   | (with_reducible exact ih0 _ _ _ _)
   | (with_reducible exact ih1 _ _ _ _ _ _ _)
   | (with_reducible exact LeO.refl _)
   | (with_reducible exact LeO.none _)
   | (with_reducible refine LeO.ite ?_ ?_)
   | (with_reducible refine LeO.bind ?_ (fun _ => ?_))
   | exact ih0 _ _ _ _
   | exact ih1 _ _ _ _ _ _ _
   | exact LeO.none _
   | refine LeO.ite ?_ ?_
   | refine LeO.bind ?_ (fun _ => ?_)
theorem spec_sgMinus.mono : ∀ a0  k, LeO (spec_sgMinus.f k a0) (spec_sgMinus.f (k + 1) a0) := by
 intro a0 k; obtain ⟨ih0, ih1⟩ := spec_sgMinus.mono_l k; unfold spec_sgMinus.f
 repeat' first
   | (with_reducible exact ih0 _ _ _ _)
   | (with_reducible exact ih1 _ _ _ _ _ _ _)
   | (with_reducible exact LeO.refl _)
   | (with_reducible exact LeO.none _)
   | (with_reducible refine LeO.ite ?_ ?_)
   | (with_reducible refine LeO.bind ?_ (fun _ => ?_))
   | exact ih0 _ _ _ _
   | exact ih1 _ _ _ _ _ _ _
   | exact LeO.none _
   | refine LeO.ite ?_ ?_
   | refine LeO.bind ?_ (fun _ => ?_)
theorem spec_sgMinus.calls (k : Nat) (A0 : Option Addr) (c0 : Nat) (l0 : Tb_) (r : Int) (w : World) (hr0 : Kd.C (Kd.slice 3 (Kd.int .i64)) w A0 l0.length l0) (hc0 : l0.length ≤ c0) (h : spec_sgMinus.f k l0 = some r) :
  Calls Try.prog 27 #[.slice A0 l0.length c0] w fun e w' => e = .returned (.int .i64 r) ∧ Drawn0 w w' := by
 have HR0 := am_ hr0; have HC0 := am_ hc0; clear hr0 hc0; (try unfold spec_sgMinus.f at h); have H := h; clear h; have H' := am_ H; clear H; go_enter Try.func27, Try.ntmps27; go_wp2
 go_loopg [3, 10] k (fun kq v3 v10 w' => ∃ (x3_1 : Int) (x10_1 : Int), v3 = .int .i64 x3_1 ∧ v10 = .int .i64 x10_1 ∧ Aside0 (spec_sgMinus.l0 kq x3_1 l0 (l0.length : Int) x10_1 = some r) ∧ Aside0 (kq ≤ k) ∧ Drawn0 w w')
 case atStart => exact ⟨(0), (0), tc3_, tc3_, H', ⟨Nat.le_refl _⟩, tc4_⟩
 case round =>
  clear H'; obtain ⟨x3_1, x10_1, rfl, rfl, HA, HK1, ⟨m1, rfl⟩⟩ := hrel
  cases gk with
  | zero => exact absurd HA.out (by simp [spec_sgMinus.l0])
  | succ k1 =>
   have H := HA.out; clear HA; simp only [spec_sgMinus.l0] at H
   replace H := sp_ H; obtain ⟨c2b0, H⟩ | ⟨c2b0, H⟩ := H
   ·replace H := ps_ H; obtain ⟨c3b0, H⟩ := H; replace H := ps_ H; obtain ⟨c4b0, H⟩ := H; have H' := am_ H; clear H; have p101 : 0 ≤ (x10_1 : Int) := od_; have q101 : x10_1 < (l0.length : Int) := od_; obtain ⟨ad101, A101_0, c101_0, e101, hx101_0, hl101_0, hi101_0⟩ := at_L3 HR0.out x10_1 p101 q101; cases e101; have HR101_0 := am_ hi101_0; have HC101_0 := am_ hl101_0; clear hi101_0 hl101_0; replace p101 := eq_true p101; replace q101 := eq_true q101; go_wp2
    go_loopg [3, 16] k1 (fun kq v3 v16 w' => ∃ (x3_2 : Int) (x16_2 : Int), v3 = .int .i64 x3_2 ∧ v16 = .int .i64 x16_2 ∧ Aside0 (spec_sgMinus.l1 kq x3_2 l0 (l0.length : Int) x10_1 (rd_L3 l0 x10_1) ((rd_L3 l0 x10_1).length : Int) x16_2 = some r) ∧ Aside0 (kq ≤ k1) ∧ Drawn0 w w')
    case atStart => exact ⟨(x3_1), (0), tc3_, tc3_, H', ⟨Nat.le_refl _⟩, tc4_⟩
    case round =>
     clear H'; (try clear c1); (try clear p1); (try clear q1); (try clear hx1); (try clear c2); (try clear c2b0); (try clear p2); (try clear c3); (try clear c3b0); (try clear c4); (try clear c4b0); (try clear hx101_0); (try clear p101); (try clear q101); obtain ⟨x3_2, x16_2, rfl, rfl, HA, HK2, ⟨m2, rfl⟩⟩ := hrel
     cases gk with
     | zero => exact absurd HA.out (by simp [spec_sgMinus.l1])
     | succ k2 =>
      have H := HA.out; clear HA; simp only [spec_sgMinus.l1] at H
      replace H := sp_ H; obtain ⟨c5b0, H⟩ | ⟨c5b0, H⟩ := H
      ·replace H := ps_ H; obtain ⟨c6b0, H⟩ := H; replace H := ps_ H; obtain ⟨c7b0, H⟩ := H
       replace H := sp_ H; obtain ⟨c8b0, H⟩ | ⟨c8b0, H⟩ := H
       ·have H' := am_ H; clear H; have p102 : 0 ≤ (x16_2 : Int) := od_; have q102 : x16_2 < ((rd_L3 l0 x10_1).length : Int) := od_; obtain ⟨ad102, e102, hx102_0⟩ := Kd.at_int HR101_0.out x16_2 p102 q102; cases e102; replace p102 := eq_true p102; replace q102 := eq_true q102; go_wp2
        go_roundg k2
        case measure => have := HK1.out; have := HK2.out; omega
        case rel => exact ⟨(wrap64 (x3_2 + 1)), (wrap64 (x16_2 + 1)), tc3_, tc3_, H', ⟨tc38_⟩, tc4_⟩
       ·have H' := am_ H; clear H; have p102 : 0 ≤ (x16_2 : Int) := od_; have q102 : x16_2 < ((rd_L3 l0 x10_1).length : Int) := od_; obtain ⟨ad102, e102, hx102_0⟩ := Kd.at_int HR101_0.out x16_2 p102 q102; cases e102; replace p102 := eq_true p102; replace q102 := eq_true q102; go_wp2
        go_roundg k2
        case measure => have := HK1.out; have := HK2.out; omega
        case rel => exact ⟨(x3_2), (wrap64 (x16_2 + 1)), tc3_, tc3_, H', ⟨tc38_⟩, tc4_⟩
      ·have H' := am_ H; clear H; go_wp2
       go_roundg k2
       case measure => have := HK1.out; have := HK2.out; omega
       case rel => exact ⟨(x3_2), (wrap64 (x10_1 + 1)), tc3_, tc3_, H', ⟨tc38_⟩, tc4_⟩
   ·obtain rfl := Option.some.inj H; go_wp2
    go_ret
    exact ⟨tc3_, tc4_⟩

/-! ### spec_weAdd: function 30 -/
def spec_weAdd.l0 : Nat → Int → List Int → Option (List Int)
 | 0, _, _ => none
 | k + 1, x1, x5 => if (x5.length : Int) ≤ x1 then (if x5.length < 17592186044416 then (spec_weAdd.l0 k x1 (x5 ++ [0])) else (none)) else (if 0 ≤ x1 then (if x1 < (x5.length : Int) then (some (x5.set (x1 : Int).toNat (wrap64 ((rd x5 x1) + 1)))) else (none)) else (none))
def spec_weAdd.f (k : Nat) (l0 : List Int) (a1 : Int) : Option (List Int) := (spec_l1Own.f l0).bind fun t101 => (spec_weAdd.l0 k a1 t101)
theorem spec_weAdd.calls (k : Nat) (A0 : Option Addr) (c0 : Nat) (l0 : List Int) (a1 : Int) (r : List Int) (w : World) (hr0 : Kd.C (Kd.int .i64) w A0 l0.length l0) (hc0 : l0.length ≤ c0) (h : spec_weAdd.f k l0 a1 = some r) :
  Calls Try.prog 30 #[.slice A0 l0.length c0, .int .i64 a1] w fun e w' => ∃ v0_ : Value, e = .returned (v0_) ∧ Kd.R (Kd.int .i64) 3 w' w.heap.size (fun _ => True) v0_ r ∧ Below w.heap.size w w' := by
 have HR0 := am_ hr0; have HC0 := am_ hc0; clear hr0 hc0; have HB := am_ (Below.refl w.heap.size w); (try unfold spec_weAdd.f at h); have H := h; clear h; replace H := bd_ H; obtain ⟨t101, A3, H⟩ := H; (try dsimp only at H); have H' := am_ H; clear H; go_enter Try.func30, Try.ntmps30
 go_wp2_with (first | (refine gc_ (some 7) Try.func43 #[.slice A0 l0.length c0] ?_; (with_reducible refine (spec_l1Own.calls _ _ l0 t101 _ ?side1 ?side2 A3.out).mono ?_); (case side1 => exact tc9_); (case side2 => exact HC0.out); rintro e w4 ⟨v102, rfl, ho0, hb⟩; refine ⟨_, rfl, ?_⟩; have HO103 := am_ (Kd.R_lower ho0 (below_size tc0_)); replace HB := am_ (below_step tc0_ hb); (try clear hb ho0)))
 go_loopg [5] k (fun kq v5 w' => ∃ (x5_1 : List Int), Aside0 (spec_weAdd.l0 kq a1 x5_1 = some r) ∧ Aside0 (kq ≤ k) ∧ Aside0 (Kd.R (Kd.int .i64) 3 w' w.heap.size (fun _ => True) v5 x5_1) ∧ Aside0 (Below w.heap.size w w'))
 case atStart => exact ⟨(t101), H', ⟨Nat.le_refl _⟩, ⟨tc31_⟩, ⟨tc0_⟩⟩
 case round =>
  clear H'; (try clear p2); (try clear c3); (try clear c4); obtain ⟨x5_1, HA, HK1, HO_5, HB⟩ := hrel
  cases gk with
  | zero => exact absurd HA.out (by simp [spec_weAdd.l0])
  | succ k1 =>
   have H := HA.out; clear HA; simp only [spec_weAdd.l0] at H
   replace H := sp_ H; obtain ⟨c5b0, H⟩ | ⟨c5b0, H⟩ := H
   ·replace H := pp_ H; obtain ⟨c6, H⟩ := H; have LMc6 := am_ c6; clear c6; obtain ⟨y104, hy104⟩ : ∃ y_ : List Int, y_ = (x5_1 ++ [0]) := ⟨_, rfl⟩; replace H : (spec_weAdd.l0 k1 a1 y104) = some r := tc19_; have Ny104 := am_ hy104; clear hy104; have H' := am_ H; clear H; obtain ⟨Ao7, co7, eo7⟩ := Kd.R_slice HO_5.out; subst eo7
    go_wp2_with (first | ((with_reducible refine gate_builtin (b := .append) (xs := #[.tmp 12, .tmp 13]) rfl ?_); at_builtin; refine Kd.R_append (Kd.int .i64) (w0 := w) w.heap.size rfl (.tmp 12) (.tmp 13) 28 3 (.int .i64 0) 8 rfl Try.underlying28 info3 rfl (by decide) (by omega) (.slice Ao7 x5_1.length co7) x5_1 0 [.int .i64 0] (fun _ => True) (fun _ => False) rfl rfl ?aP (fun _ hk => hk.elim) ?aF ?aO ?aB ?aS ?aL ?_; (case aP => exact rfl); (case aB => exact tc13_); (case aF => exact (fun _ _ => trivial)); (case aO => exact (by (with_reducible repeat (first | apply Kd.R_alloc | apply Kd.R_drewN | apply Kd.R_drew)); exact HO_5.out)); (case aS => exact tc14_); (case aL => have := LMc6.out; omega); intro v105 w8 ho hb hg hat; rw [← Ny104.out] at ho; replace HB := am_ (hb); have HO106 := am_ (ho); clear HO_5; clear ho hb hg hat))
    go_roundg k1
    case measure => have := HK1.out; omega
    case rel => exact ⟨(y104), H', ⟨tc56_⟩, ⟨tc58_⟩, ⟨tc0_⟩⟩
   ·replace H := ps_ H; obtain ⟨c9b0, H⟩ := H; replace H := ps_ H; obtain ⟨c10b0, H⟩ := H; obtain ⟨y108, hy108⟩ : ∃ y_ : List Int, y_ = (x5_1.set (a1 : Int).toNat (wrap64 ((rd x5_1 a1) + 1))) := ⟨_, rfl⟩; replace H : (some y108) = some r := (by first | (rw [hy108]; with_reducible exact H) | (have H2_ := (Option.bind_some _ _).symm.trans H; rw [hy108]; with_reducible exact H2_) | (have H2_ := (Option.bind_some _ _).symm.trans H; with_reducible exact H2_) | with_reducible exact H | (rw [hy108]; exact H) | exact H); have Ny108 := am_ hy108; clear hy108; obtain rfl := Option.some.inj H; obtain ⟨Ao12, co12, eo12⟩ := Kd.R_slice HO_5.out; subst eo12; have p107 : 0 ≤ (a1 : Int) := od_; have q107 : a1 < (x5_1.length : Int) := od_; obtain ⟨ad107, e107, hx107_0⟩ := Kd.at_int (Kd.R_reads' HO_5.out).2.2 a1 p107 q107; cases e107; replace p107 := eq_true p107; replace q107 := eq_true q107; have p11 : 0 ≤ (a1 : Int) := od_; have q11 : (a1 : Int) < ((x5_1.length : Int) : Int) := od_; obtain ⟨go11, co11, eo11, gb11, gl11, cl11, HG11⟩ := Kd.R_form HO_5.out (by omega); (first | cases eo11 | (injection eo11 with ea_ en_ ec_; (first | subst ea_ | (injection ea_ with ea_; subst ea_)); subst ec_; clear en_)); have GB11 := am_ gb11; have GG11 := am_ HG11; clear gb11 gl11 HG11; (first | simp only [add_plain] at hx107_0 | skip); obtain ⟨hx11_0, hf11_0⟩ := Kd.R_celln 0 HO_5.out (a1 : Int) p11 q11; replace p11 := eq_true p11; replace q11 := eq_true q11; have HP13 := Kd.R_putg HO_5.out (a1 : Int) (wrap64 ((rd x5_1 a1) + 1))
    go_wp2_with (first | ((with_reducible refine gate_store (t := 3) (p := 20) rfl ?_); refine store_event (t := 3) (p := 20) (v := ?vo_w14) (w1 := (wr.setCell ⟨go11, (a1 : Int).toNat, none⟩ (.int .i64 (wrap64 ((rd x5_1 a1) + 1))))) ?hg ?ho ?hn ?hr ?_; (case ho => rfl); (case hg => rfl); (case hn => rfl); (case hr => exact tc42_); intro w14 hw; have hg : wr.grownBy w14 (some go11) := (by rw [hw]; exact HP13.2); have hp_ : Kd.R (Kd.int .i64) 3 w14 w.heap.size (fun _ => True) (.slice (some ⟨go11, 0, none⟩) x5_1.length co12) y108 := (by rw [hw, Ny108.out]; exact HP13.1); clear HP13; replace HO_5 := am_ (hp_); replace HB := am_ ((by rw [hw]; exact below_set (HB.out) GB11.out : Below w.heap.size w w14)); clear hg hw hp_))
    go_ret
    exact ⟨_, tc6_, (by (with_reducible repeat (first | apply Kd.R_alloc | apply Kd.R_drewN | apply Kd.R_drew)); exact HO_5.out), tc0_⟩

/-! ### spec_MinusTable: function 9 -/
def spec_MinusTable.l0 : Nat → List Int → List Tb_ → Int → Int → Option (List Int × Bool)
 | 0, _, _, _, _ => none
 | k + 1, x4, x11, x12, x13 => if x13 < x12 then (if 0 ≤ x13 then (if x13 < (x11.length : Int) then ((spec_sgMinus.f k (rd_L4 x11 x13)).bind fun t106 => ((spec_weAdd.f k x4 t106).bind fun t107 => (spec_MinusTable.l0 k t107 x11 x12 (wrap64 (x13 + 1))))) else (none)) else (none)) else (some (x4, true))
def spec_MinusTable.f (k : Nat) (a0 : Int) : Option (List Int × Bool) := (spec_weSide.f a0).bind fun t101 => (if t101 = true then ((spec_weAll.f k a0).bind fun t102 => (spec_MinusTable.l0 k ([] : List Int) t102 (t102.length : Int) 0)) else (some (([] : List Int), false)))
theorem spec_MinusTable.calls (k : Nat) (a0 : Int) (r1 : List Int) (r2 : Bool) (w : World) (h : spec_MinusTable.f k a0 = some (r1, r2)) :
  Calls Try.prog 9 #[.int .i64 a0] w fun e w' => ∃ v0_ : Value, e = .returned (.tuple #[v0_, .bool r2]) ∧ Kd.R (Kd.int .i64) 3 w' w.heap.size (fun _ => True) v0_ r1 ∧ Below w.heap.size w w' := by
 have HB := am_ (Below.refl w.heap.size w); (try unfold spec_MinusTable.f at h); have H := h; clear h; replace H := bd_ H; obtain ⟨t101, A2, H⟩ := H; (try dsimp only at H)
 by_cases c3 : t101 = true
 ·subst c3; have H1 : ((spec_weAll.f k a0).bind fun t102 => (spec_MinusTable.l0 k ([] : List Int) t102 (t102.length : Int) 0)) = some (r1, r2) := tc33_; clear H; have H := H1; clear H1; replace H := bd_ H; obtain ⟨t102, A4, H⟩ := H; (try dsimp only at H); have H' := am_ H; clear H; go_enter Try.func9, Try.ntmps9
  go_wp2_with (first | (refine gc_ (some 8) Try.func24 #[.int .i64 a0] ?_; (with_reducible refine (spec_weSide.calls a0 true _ A2.out).mono ?_); rintro e w' ⟨rfl, ⟨nd, rfl⟩⟩; refine ⟨_, rfl, ?_⟩) | (refine gc_ (some 11) Try.func25 #[.int .i64 a0] ?_; (with_reducible refine (spec_weAll.calls k a0 t102 _ A4.out).mono ?_); rintro e w5 ⟨v103, rfl, ho0, hb⟩; refine ⟨_, rfl, ?_⟩; have HO104 := am_ (Kd.N_lower (Kd.N_mono (ok' := fun k_ => True) ho0 (fun k_ hk_ => trivial)) (below_size tc0_)); replace HB := am_ (below_step tc0_ hb); (try clear hb ho0); obtain ⟨Ao6, co6, eo6⟩ := Kd.N_slice HO104.out; subst eo6))
  go_loopg [4, 13] k (fun kq v4 v13 w' => ∃ (x4_1 : List Int) (x13_1 : Int), v13 = .int .i64 x13_1 ∧ Aside0 (spec_MinusTable.l0 kq x4_1 t102 (t102.length : Int) x13_1 = some (r1, r2)) ∧ Aside0 (kq ≤ k) ∧ Aside0 (Kd.R (Kd.int .i64) 3 w' w.heap.size (fun _ => True) v4 x4_1) ∧ Aside0 (Kd.N (Kd.slice 28 (Kd.slice 3 (Kd.int .i64))) 25 w' w.heap.size (fun k_ => some k_ ≠ (v4 : Value).ownBlock) (.slice Ao6 t102.length co6) t102) ∧ Aside0 (Below w.heap.size w w'))
  case atStart => exact ⟨(([] : List Int)), (0), tc3_, H', ⟨Nat.le_refl _⟩, ⟨tc21_⟩, ⟨tc63_⟩, ⟨tc0_⟩⟩
  case round =>
   clear H'; (try clear c2); (try clear p2); (try clear c3); obtain ⟨x4_1, x13_1, rfl, HA, HK1, HO_4, HO_11, HB⟩ := hrel
   cases gk with
   | zero => exact absurd HA.out (by simp [spec_MinusTable.l0])
   | succ k1 =>
    have H := HA.out; clear HA; simp only [spec_MinusTable.l0] at H
    replace H := sp_ H; obtain ⟨c7b0, H⟩ | ⟨c7b0, H⟩ := H
    ·replace H := ps_ H; obtain ⟨c8b0, H⟩ := H; replace H := ps_ H; obtain ⟨c9b0, H⟩ := H; replace H := bd_ H; obtain ⟨t106, A10, H⟩ := H; (try dsimp only at H); replace H := bd_ H; obtain ⟨t107, A11, H⟩ := H; (try dsimp only at H); have H' := am_ H; clear H; have p105 : 0 ≤ (x13_1 : Int) := od_; have q105 : x13_1 < (t102.length : Int) := od_; obtain ⟨ad105, A105_0, c105_0, e105, hx105_0, hl105_0, hi105_0⟩ := at_L4 (Kd.N_reads' HO_11.out).2.2 x13_1 p105 q105; cases e105; obtain ⟨ce105, hce105, hMe105, hcc105⟩ := Kd.N_get HO_11.out [] x13_1 p105 tc64_; obtain ⟨ua105_0, uc105_0, rfl, ul105_0, ge105_0⟩ := Kd.FK_slice_open hMe105; have hv105_0 := hcc105 0 _ rfl; rw [Nat.add_zero, show ((Kd.slice 28 (Kd.slice 3 (Kd.int .i64)))).sz = 1 from rfl, Nat.mul_one] at hv105_0; replace hv105_0 := Option.some.inj (hv105_0.symm.trans hx105_0)
     injection hv105_0 with hva_ hvn_ hvc_
     rw [hva_] at ge105_0; rw [hvc_] at ul105_0; have HL105_0 := am_ (show Kd.V (Kd.slice 3 (Kd.int .i64)) 28 _ w.heap.size _ _ (rd_L4 t102 x13_1) from Kd.V_mk ul105_0 ge105_0); clear hva_ hvn_ hvc_ ge105_0 ul105_0; clear hcc105 hce105; have HR105_0 := am_ hi105_0; have HC105_0 := am_ hl105_0; clear hi105_0 hl105_0; replace p105 := eq_true p105; replace q105 := eq_true q105
     go_wp2_with (first | (refine gc_ (some 19) Try.func27 #[.slice A105_0 (rd_L4 t102 x13_1).length c105_0] ?_; (with_reducible refine (spec_sgMinus.calls k1 _ _ (rd_L4 t102 x13_1) t106 _ ?side1 ?side2 A10.out).mono ?_); (case side1 => repeat (first | exact tc22_ | (with_reducible refine Kd.C_alloc ?_ _) | (with_reducible refine Kd.C_drewN ?_ _) | (with_reducible refine Kd.C_drew ?_))); (case side2 => exact HC105_0.out); rintro e w' ⟨rfl, ⟨nd, rfl⟩⟩; refine ⟨_, rfl, ?_⟩; obtain ⟨Ao12, co12, eo12⟩ := Kd.R_slice HO_4.out; subst eo12) | (refine gc_ (some 20) Try.func30 #[.slice Ao12 x4_1.length co12, .int .i64 t106] ?_; (with_reducible refine (spec_weAdd.calls k1 _ _ x4_1 t106 t107 _ ?side1 ?side2 A11.out).mono ?_); (case side1 => repeat (first | exact (Kd.R_reads' HO_4.out).2.2 | (with_reducible refine Kd.C_alloc ?_ _) | (with_reducible refine Kd.C_drewN ?_ _) | (with_reducible refine Kd.C_drew ?_))); (case side2 => exact (Kd.R_reads' HO_4.out).2.1); rintro e w13 ⟨v108, rfl, ho0, hb⟩; refine ⟨_, rfl, ?_⟩; replace HO_11 := am_ (Kd.N_elder' tc59_ (Kd.R_base ho0) hb); replace HL105_0 := am_ (Kd.V_elder' tc57_ (Kd.R_base ho0) hb); have HO109 := am_ (Kd.R_lower (Kd.R_new' ho0 (Kd.R_lt tc12_)) (below_size tc0_)); replace HO_4 := am_ (Kd.R_elder' tc12_ (Kd.R_base ho0) hb); replace HR105_0 := am_ (Kd.C_below tc22_ hb); replace HB := am_ (below_step tc0_ hb); (try clear hb ho0)))
     go_roundg k1
     case measure => have := HK1.out; omega
     case rel => exact ⟨(t107), (wrap64 (x13_1 + 1)), tc3_, H', ⟨tc56_⟩, ⟨tc65_⟩, ⟨tc66_⟩, ⟨tc0_⟩⟩
    ·simp only [Option.some.injEq, Prod.mk.injEq] at H; obtain ⟨rfl, rfl⟩ := H; go_wp2
     go_ret2
     exact ⟨_, tc6_, tc12_, tc0_⟩
 ·replace c3 := Bool.eq_false_iff.mpr c3; subst c3; have H1 : (some (([] : List Int), false)) = some (r1, r2) := tc16_; clear H; have H := H1; clear H1; simp only [Option.some.injEq, Prod.mk.injEq] at H; obtain ⟨rfl, rfl⟩ := H; go_enter Try.func9, Try.ntmps9
  go_wp2_with (first | (refine gc_ (some 8) Try.func24 #[.int .i64 a0] ?_; (with_reducible refine (spec_weSide.calls a0 false _ A2.out).mono ?_); rintro e w' ⟨rfl, ⟨nd, rfl⟩⟩; refine ⟨_, rfl, ?_⟩))
  go_ret2
  exact ⟨_, tc6_, tc21_, tc0_⟩

/-! ### spec_weKinds: function 53 -/
mutual
def spec_weKinds.l0 : Nat → Tb_ → List Int → Tb_ → Int → Int → Option (Tb_)
 | 0, _, _, _, _, _ => none
 | k + 1, x3, x4, x14, x15, x16 => if x16 < x15 then (if 0 ≤ x16 then (if x16 < (x14.length : Int) then (spec_weKinds.l1 k x3 x4 ([] : List Int) 0 x14 x15 x16 (rd_L3 x14 x16) ((rd_L3 x14 x16).length : Int) 0) else (none)) else (none)) else (some x3)
def spec_weKinds.l1 : Nat → Tb_ → List Int → List Int → Int → Tb_ → Int → Int → List Int → Int → Int → Option (Tb_)
 | 0, _, _, _, _, _, _, _, _, _, _ => none
 | k + 1, x3, x4, x7, x8, x14, x15, x16, x20, x21, x22 => if x22 < x21 then (if 0 ≤ x22 then (if x22 < (x20.length : Int) then (if (rd x20 x22) = 1 then (if x7.length < 17592186044416 then (if x22 < (x4.length : Int) then (spec_weKinds.l1 k x3 (x4.set (x22 : Int).toNat (wrap64 ((rd x4 x22) + (rd x20 x22)))) (x7 ++ [4]) (wrap64 (x8 + (rd x20 x22))) x14 x15 x16 x20 x21 (wrap64 (x22 + 1))) else (none)) else (none)) else (if (rd x20 x22) = (-1) then (if x7.length < 17592186044416 then (if x22 < (x4.length : Int) then (spec_weKinds.l1 k x3 (x4.set (x22 : Int).toNat (wrap64 ((rd x4 x22) + (rd x20 x22)))) (x7 ++ [5]) (wrap64 (x8 + (rd x20 x22))) x14 x15 x16 x20 x21 (wrap64 (x22 + 1))) else (none)) else (none)) else (if x22 < (x4.length : Int) then (if x7.length < 17592186044416 then (spec_weKinds.l1 k x3 (x4.set (x22 : Int).toNat (wrap64 ((rd x4 x22) + (rd x20 x22)))) (x7 ++ [wrap64 ((wrap64 (2 * x8)) + (rd x4 x22))]) (wrap64 (x8 + (rd x20 x22))) x14 x15 x16 x20 x21 (wrap64 (x22 + 1))) else (none)) else (none)))) else (none)) else (none)) else (if x3.length < 5864062014805 then (spec_weKinds.l0 k (x3 ++ [x7]) x4 x14 x15 (wrap64 (x16 + 1))) else (none))
end
def spec_weKinds.f (k : Nat) (l0 : Tb_) : Option (Tb_) := if 0 ≤ (l0.length : Int) then (if ((l0.length : Int) : Int).toNat ≤ 35184372088832 then (spec_weKinds.l0 k ([] : Tb_) (List.replicate ((l0.length : Int) : Int).toNat 0) l0 (l0.length : Int) 0) else (none)) else (none)
theorem spec_weKinds.mono_l : ∀ k, (∀ y0 y1 y2 y3 y4, LeO (spec_weKinds.l0 k y0 y1 y2 y3 y4) (spec_weKinds.l0 (k + 1) y0 y1 y2 y3 y4)) ∧ (∀ y0 y1 y2 y3 y4 y5 y6 y7 y8 y9, LeO (spec_weKinds.l1 k y0 y1 y2 y3 y4 y5 y6 y7 y8 y9) (spec_weKinds.l1 (k + 1) y0 y1 y2 y3 y4 y5 y6 y7 y8 y9))
 | 0 => ⟨fun _ _ _ _ _ r h => by simp [spec_weKinds.l0] at h, fun _ _ _ _ _ _ _ _ _ _ r h => by simp [spec_weKinds.l1] at h⟩
 | k + 1 => by
  obtain ⟨ih0, ih1⟩ := spec_weKinds.mono_l k; refine ⟨?_, ?_⟩
  ·intro y0 y1 y2 y3 y4; unfold spec_weKinds.l0
   repeat' first
   | (with_reducible exact ih0 _ _ _ _ _)
   | (with_reducible exact ih1 _ _ _ _ _ _ _ _ _ _)
   | (with_reducible exact LeO.refl _)
   | (with_reducible exact LeO.none _)
   | (with_reducible refine LeO.ite ?_ ?_)
   | (with_reducible refine LeO.bind ?_ (fun _ => ?_))
   | exact ih0 _ _ _ _ _
   | exact ih1 _ _ _ _ _ _ _ _ _ _
   | exact LeO.none _
   | refine LeO.ite ?_ ?_
   | refine LeO.bind ?_ (fun _ => ?_)
  ·intro y0 y1 y2 y3 y4 y5 y6 y7 y8 y9; unfold spec_weKinds.l1
   repeat' first
   | (with_reducible exact ih0 _ _ _ _ _)
   | (with_reducible exact ih1 _ _ _ _ _ _ _ _ _ _)
   | (with_reducible exact LeO.refl _)
   | (with_reducible exact LeO.none _)
   | (with_reducible refine LeO.ite ?_ ?_)
   | (with_reducible refine LeO.bind ?_ (fun _ => ?_))
   | exact ih0 _ _ _ _ _
   | exact ih1 _ _ _ _ _ _ _ _ _ _
   | exact LeO.none _
   | refine LeO.ite ?_ ?_
   | refine LeO.bind ?_ (fun _ => ?_)
theorem spec_weKinds.mono : ∀ a0  k, LeO (spec_weKinds.f k a0) (spec_weKinds.f (k + 1) a0) := by
 intro a0 k; obtain ⟨ih0, ih1⟩ := spec_weKinds.mono_l k; unfold spec_weKinds.f
 repeat' first
   | (with_reducible exact ih0 _ _ _ _ _)
   | (with_reducible exact ih1 _ _ _ _ _ _ _ _ _ _)
   | (with_reducible exact LeO.refl _)
   | (with_reducible exact LeO.none _)
   | (with_reducible refine LeO.ite ?_ ?_)
   | (with_reducible refine LeO.bind ?_ (fun _ => ?_))
   | exact ih0 _ _ _ _ _
   | exact ih1 _ _ _ _ _ _ _ _ _ _
   | exact LeO.none _
   | refine LeO.ite ?_ ?_
   | refine LeO.bind ?_ (fun _ => ?_)
theorem spec_weKinds.calls (k : Nat) (A0 : Option Addr) (c0 : Nat) (l0 : Tb_) (r : Tb_) (w : World) (hr0 : Kd.C (Kd.slice 3 (Kd.int .i64)) w A0 l0.length l0) (hc0 : l0.length ≤ c0) (h : spec_weKinds.f k l0 = some r) :
  Calls Try.prog 53 #[.slice A0 l0.length c0] w fun e w' => ∃ v0_ : Value, e = .returned (v0_) ∧ Kd.S (Kd.slice 3 (Kd.int .i64)) 28 w' w.heap.size (fun _ => True) v0_ r ∧ Below w.heap.size w w' := by
 have HR0 := am_ hr0; have HC0 := am_ hc0; clear hr0 hc0; have HB := am_ (Below.refl w.heap.size w); (try unfold spec_weKinds.f at h); have H := h; clear h; replace H := pp_ H; obtain ⟨c2, H⟩ := H; have c2b0 := eq_true c2; have c2b1 : decide (0 ≤ (l0.length : Int)) = true := decide_eq_true c2; clear c2; replace H := pp_ H; obtain ⟨c3, H⟩ := H; have c3b0 := eq_true c3; have c3b1 : decide (((l0.length : Int) : Int).toNat ≤ 35184372088832) = true := decide_eq_true c3; clear c3; obtain ⟨y101, hy101⟩ : ∃ y_ : List Int, y_ = (List.replicate ((l0.length : Int) : Int).toNat 0) := ⟨_, rfl⟩; replace H : (spec_weKinds.l0 k ([] : Tb_) y101 l0 (l0.length : Int) 0) = some r := tc15_; have Ny101 := am_ hy101; clear hy101; have H' := am_ H; clear H; go_enter Try.func53, Try.ntmps53
 go_wp2_with (first | ((with_reducible refine gate_dst (N := 13) rfl ?_); refine Kd.R_make (Kd.int .i64) _ 3 rfl (N := 13) rfl 28 _ _ rfl (l0.length : Int) rfl rfl Try.underlying28 (.int .i64 0) 8 info3 rfl (by decide) (by omega) 0 (ok := fun _ => True) (okp := fun _ => True) rfl (fun _ hk => hk) trivial (od_) (Nat.le_trans (Nat.mul_le_mul_right _ (od_ : (l0.length : Int).toNat ≤ 35184372088832)) (by omega)) (Below.refl _ _) (Nat.le_refl _) ?_; intro v102 w4 ho5 hb hg_ hnew_; clear hg_ hnew_; (first | rw [← Ny101.out] at ho5 | (simp only [Int.reduceToNat] at ho5; rw [← Ny101.out] at ho5)); have HO103 := am_ (Kd.R_lower ho5 (below_size tc0_)); replace HB := am_ (below_step tc0_ hb); clear hb ho5))
 go_loopg [3, 16] k (fun kq v3 v16 w' => ∃ (x3_1 : Tb_) (x4_1 : List Int) (x16_1 : Int), v16 = .int .i64 x16_1 ∧ Aside0 (spec_weKinds.l0 kq x3_1 x4_1 l0 (l0.length : Int) x16_1 = some r) ∧ Aside0 (kq ≤ k) ∧ Aside0 (Kd.S (Kd.slice 3 (Kd.int .i64)) 28 w' w.heap.size (fun k_ => some k_ ≠ (v102 : Value).ownBlock) v3 x3_1) ∧ Aside0 (Kd.R (Kd.int .i64) 3 w' w.heap.size (fun _ => True) v102 x4_1) ∧ Aside0 (Below w.heap.size w w'))
 case atStart => exact ⟨(([] : Tb_)), (y101), (0), tc3_, H', ⟨Nat.le_refl _⟩, ⟨tc52_⟩, ⟨tc31_⟩, ⟨tc0_⟩⟩
 case round =>
  clear H'; (try clear c2); (try clear c2b0); (try clear c2b1); (try clear p2); (try clear c3); (try clear c3b0); (try clear c3b1); (try clear c5); obtain ⟨x3_1, x4_1, x16_1, rfl, HA, HK1, HO_3, HO_4, HB⟩ := hrel
  cases gk with
  | zero => exact absurd HA.out (by simp [spec_weKinds.l0])
  | succ k1 =>
   have H := HA.out; clear HA; simp only [spec_weKinds.l0] at H
   replace H := sp_ H; obtain ⟨c6b0, H⟩ | ⟨c6b0, H⟩ := H
   ·replace H := ps_ H; obtain ⟨c7b0, H⟩ := H; replace H := ps_ H; obtain ⟨c8b0, H⟩ := H; have H' := am_ H; clear H; have p104 : 0 ≤ (x16_1 : Int) := od_; have q104 : x16_1 < (l0.length : Int) := od_; obtain ⟨ad104, A104_0, c104_0, e104, hx104_0, hl104_0, hi104_0⟩ := at_L3 HR0.out x16_1 p104 q104; cases e104; replace hx104_0 := (HB.out.cell (World.block_lt_of_cell? w _ hx104_0)).trans hx104_0; have HR104_0 := am_ hi104_0; have HC104_0 := am_ hl104_0; clear hi104_0 hl104_0; replace p104 := eq_true p104; replace q104 := eq_true q104; go_wp2
    go_loopg [7, 8, 22] k1 (fun kq v7 v8 v22 w' => ∃ (x4_2 : List Int) (x7_2 : List Int) (x8_2 : Int) (x22_2 : Int), v8 = .int .i64 x8_2 ∧ v22 = .int .i64 x22_2 ∧ Aside0 (spec_weKinds.l1 kq x3_1 x4_2 x7_2 x8_2 l0 (l0.length : Int) x16_1 (rd_L3 l0 x16_1) ((rd_L3 l0 x16_1).length : Int) x22_2 = some r) ∧ Aside0 (kq ≤ k1) ∧ Aside0 (Kd.S (Kd.slice 3 (Kd.int .i64)) 28 w' w.heap.size (fun k_ => some k_ ≠ (v102 : Value).ownBlock ∧ some k_ ≠ (v7 : Value).ownBlock) u3 x3_1) ∧ Aside0 (Kd.R (Kd.int .i64) 3 w' w.heap.size (fun k_ => some k_ ≠ (v7 : Value).ownBlock) v102 x4_2) ∧ Aside0 (Kd.R (Kd.int .i64) 3 w' w.heap.size (fun k_ => some k_ ≠ (v102 : Value).ownBlock) v7 x7_2) ∧ Aside0 (Below w.heap.size w w'))
    case atStart => exact ⟨(x4_1), (([] : List Int)), (0), (0), tc3_, tc3_, H', ⟨Nat.le_refl _⟩, ⟨(by (with_reducible repeat (first | apply Kd.S_alloc | apply Kd.S_drewN | apply Kd.S_drew)); exact Kd.S_mono HO_3.out (fun _ hk => ⟨hk, (by simp [Value.ownBlock])⟩))⟩, ⟨(by (with_reducible repeat (first | apply Kd.R_alloc | apply Kd.R_drewN | apply Kd.R_drew)); exact Kd.R_mono HO_4.out (fun _ hk => (by simp [Value.ownBlock])))⟩, ⟨tc21_⟩, ⟨tc0_⟩⟩
    case round =>
     clear H'; (try clear c1); (try clear p1); (try clear q1); (try clear hx1); (try clear c2); (try clear c2b0); (try clear c2b1); (try clear p2); (try clear c3); (try clear c3b0); (try clear c3b1); (try clear c5); (try clear c6); (try clear c6b0); (try clear c7); (try clear c7b0); (try clear c8); (try clear c8b0); (try clear hx104_0); (try clear p104); (try clear p2); (try clear q104); obtain ⟨x4_2, x7_2, x8_2, x22_2, rfl, rfl, HA, HK2, HO_3, HO_4, HO_7, HB⟩ := hrel
     cases gk with
     | zero => exact absurd HA.out (by simp [spec_weKinds.l1])
     | succ k2 =>
      have H := HA.out; clear HA; simp only [spec_weKinds.l1] at H
      replace H := sp_ H; obtain ⟨c9b0, H⟩ | ⟨c9b0, H⟩ := H
      ·replace H := ps_ H; obtain ⟨c10b0, H⟩ := H; replace H := ps_ H; obtain ⟨c11b0, H⟩ := H
       replace H := pn_ H; obtain ⟨c12, H⟩ | ⟨c12, H⟩ := H
       ·have c12b0 : ((rd (rd_L3 l0 x16_1) x22_2) == 1) = true := beq_iff_eq.mpr c12; have c12b1 : ((rd (rd_L3 l0 x16_1) x22_2) != 1) = false := bne_eq_false_iff_eq.mpr c12; clear c12; replace H := pp_ H; obtain ⟨c13, H⟩ := H; have LMc13 := am_ c13; clear c13; obtain ⟨y109, hy109⟩ : ∃ y_ : List Int, y_ = (x7_2 ++ [4]) := ⟨_, rfl⟩; replace H : (if x22_2 < (x4_2.length : Int) then (spec_weKinds.l1 k2 x3_1 (x4_2.set (x22_2 : Int).toNat (wrap64 ((rd x4_2 x22_2) + (rd (rd_L3 l0 x16_1) x22_2)))) y109 (wrap64 (x8_2 + (rd (rd_L3 l0 x16_1) x22_2))) l0 (l0.length : Int) x16_1 (rd_L3 l0 x16_1) ((rd_L3 l0 x16_1).length : Int) (wrap64 (x22_2 + 1))) else (none)) = some r := (by first | (rw [hy109]; with_reducible exact H) | (have H2_ := (Option.bind_some _ _).symm.trans H; rw [hy109]; with_reducible exact H2_) | (have H2_ := (Option.bind_some _ _).symm.trans H; with_reducible exact H2_) | with_reducible exact H | (rw [hy109]; exact H) | exact H); have Ny109 := am_ hy109; clear hy109; replace H := ps_ H; obtain ⟨c14b0, H⟩ := H; obtain ⟨y113, hy113⟩ : ∃ y_ : List Int, y_ = (x4_2.set (x22_2 : Int).toNat (wrap64 ((rd x4_2 x22_2) + (rd (rd_L3 l0 x16_1) x22_2)))) := ⟨_, rfl⟩; replace H : (spec_weKinds.l1 k2 x3_1 y113 y109 (wrap64 (x8_2 + (rd (rd_L3 l0 x16_1) x22_2))) l0 (l0.length : Int) x16_1 (rd_L3 l0 x16_1) ((rd_L3 l0 x16_1).length : Int) (wrap64 (x22_2 + 1))) = some r := tc40_; have Ny113 := am_ hy113; clear hy113; have H' := am_ H; clear H; have p108 : 0 ≤ (x22_2 : Int) := od_; have q108 : x22_2 < ((rd_L3 l0 x16_1).length : Int) := od_; obtain ⟨ad108, e108, hx108_0⟩ := Kd.at_int HR104_0.out x22_2 p108 q108; cases e108; replace hx108_0 := (HB.out.cell (World.block_lt_of_cell? w _ hx108_0)).trans hx108_0; replace p108 := eq_true p108; replace q108 := eq_true q108
        go_wp2_with (first | ((with_reducible refine gate_builtin (b := .append) (xs := #[.tmp 40, .tmp 41]) rfl ?_); at_builtin; refine Kd.R_append (Kd.int .i64) (w0 := w) w.heap.size rfl (.tmp 40) (.tmp 41) 28 3 (.int .i64 0) 8 rfl Try.underlying28 info3 rfl (by decide) (by omega) u7 x7_2 4 [.int .i64 4] (fun k_ => some k_ ≠ (v102 : Value).ownBlock) (fun _ => False) rfl rfl ?aP (fun _ hk => hk.elim) ?aF ?aO ?aB ?aS ?aL ?_; (case aP => exact rfl); (case aB => exact tc13_); (case aF => exact tc37_); (case aO => exact tc55_); (case aS => exact tc14_); (case aL => have := LMc13.out; omega); intro v110 w16 ho hb hg hat; rw [← Ny109.out] at ho; replace HO_3 := am_ (Kd.S_after (ok := (fun k_ => some k_ ≠ (v102 : Value).ownBlock)) tc53_ hg hat); replace HO_4 := am_ (Kd.R_after (ok := (fun _ => True)) tc51_ hg hat); replace HB := am_ (hb); have HO111 := am_ (ho); clear HO_7; clear ho hb hg hat; obtain ⟨Ao17, co17, eo17⟩ := Kd.R_slice HO_4.out; subst eo17; have p112 : 0 ≤ (x22_2 : Int) := od_; have q112 : x22_2 < (x4_2.length : Int) := od_; obtain ⟨ad112, e112, hx112_0⟩ := Kd.at_int (Kd.R_reads' HO_4.out).2.2 x22_2 p112 q112; cases e112; replace p112 := eq_true p112; replace q112 := eq_true q112; have p15 : 0 ≤ (x22_2 : Int) := od_; have q15 : (x22_2 : Int) < ((x4_2.length : Int) : Int) := od_; obtain ⟨go15, co15, eo15, gb15, gl15, cl15, HG15⟩ := Kd.R_form HO_4.out (by omega); (first | cases eo15 | (injection eo15 with ea_ en_ ec_; (first | subst ea_ | (injection ea_ with ea_; subst ea_)); subst ec_; clear en_)); have GB15 := am_ gb15; have GG15 := am_ HG15; clear gb15 gl15 HG15; (first | simp only [add_plain] at hx112_0 | skip); obtain ⟨hx15_0, hf15_0⟩ := Kd.R_celln 0 HO_4.out (x22_2 : Int) p15 q15; replace p15 := eq_true p15; replace q15 := eq_true q15; have n_ := am_ (Kd.R_mono (ok' := (fun k_ => some k_ ≠ (v110 : Value).ownBlock)) HO_4.out (fun k_ hk => hk.2)); clear HO_4; have HO_4 := n_; clear n_; obtain ⟨hy18_, hz18_⟩ := Kd.R_celln 0 HO_4.out (x22_2 : Int) (od_) (od_); have HP18 := Kd.R_putg HO_4.out (x22_2 : Int) (wrap64 ((rd x4_2 x22_2) + (rd (rd_L3 l0 x16_1) x22_2)))) | ((with_reducible refine gate_store (t := 3) (p := 57) rfl ?_); refine store_event (t := 3) (p := 57) (v := ?vo_w19) (w1 := (w16.setCell ⟨go15, (x22_2 : Int).toNat, none⟩ (.int .i64 (wrap64 ((rd x4_2 x22_2) + (rd (rd_L3 l0 x16_1) x22_2)))))) ?hg ?ho ?hn ?hr ?_; (case ho => rfl); (case hg => rfl); (case hn => rfl); (case hr => exact tc42_); intro w19 hw; have hg : w16.grownBy w19 (some go15) := (by rw [hw]; exact HP18.2); have hp_ : Kd.R (Kd.int .i64) 3 w19 w.heap.size (fun k_ => some k_ ≠ (v110 : Value).ownBlock) (.slice (some ⟨go15, 0, none⟩) x4_2.length co17) y113 := (by rw [hw, Ny113.out]; exact HP18.1); clear HP18; have n0_ := am_ (Kd.S_after (v := (.slice (some ⟨go15, 0, none⟩) x4_2.length co17)) (v1 := (.slice (some ⟨go15, 0, none⟩) x4_2.length co17)) (ok := (fun k_ => some k_ ≠ (v110 : Value).ownBlock)) tc28_ hg (.inl rfl)); have n1_ := am_ (hp_); have n2_ := am_ (Kd.R_after (v := (.slice (some ⟨go15, 0, none⟩) x4_2.length co17)) (v1 := (.slice (some ⟨go15, 0, none⟩) x4_2.length co17)) (ok := (fun _ => True)) (by (with_reducible repeat (first | apply Kd.R_alloc | apply Kd.R_drewN | apply Kd.R_drew)); exact Kd.R_mono HO111.out (fun _ hk => ⟨trivial, hk⟩)) hg (.inl rfl)); have n3_ := am_ ((by rw [hw]; exact below_set (HB.out) GB15.out : Below w.heap.size w w19)); clear HO_3 HO_4; clear HO111 HB; have HO_3 := n0_; have HO_4 := n1_; have HO111 := n2_; have HB := n3_; clear n0_ n1_ n2_ n3_; clear hg hw hp_))
        go_roundg k2
        case measure => have := HK1.out; have := HK2.out; omega
        case rel => exact ⟨(y113), (y109), (wrap64 (x8_2 + (rd (rd_L3 l0 x16_1) x22_2))), (wrap64 (x22_2 + 1)), tc3_, tc3_, H', ⟨tc38_⟩, ⟨tc28_⟩, ⟨tc12_⟩, ⟨(by (with_reducible repeat (first | apply Kd.R_alloc | apply Kd.R_drewN | apply Kd.R_drew)); exact Kd.R_mono HO111.out (fun _ hk => hk.2))⟩, ⟨tc0_⟩⟩
       ·have c12b0 : ((rd (rd_L3 l0 x16_1) x22_2) == 1) = false := beq_eq_false_iff_ne.mpr c12; have c12b1 : ((rd (rd_L3 l0 x16_1) x22_2) != 1) = true := bne_iff_ne.mpr c12
        replace H := pn_ H; obtain ⟨c20, H⟩ | ⟨c20, H⟩ := H
        ·have c20b0 : ((rd (rd_L3 l0 x16_1) x22_2) == (-1)) = true := beq_iff_eq.mpr c20; have c20b1 : ((rd (rd_L3 l0 x16_1) x22_2) != (-1)) = false := bne_eq_false_iff_eq.mpr c20; clear c20; replace H := pp_ H; obtain ⟨c21, H⟩ := H; have LMc21 := am_ c21; clear c21; obtain ⟨y114, hy114⟩ : ∃ y_ : List Int, y_ = (x7_2 ++ [5]) := ⟨_, rfl⟩; replace H : (if x22_2 < (x4_2.length : Int) then (spec_weKinds.l1 k2 x3_1 (x4_2.set (x22_2 : Int).toNat (wrap64 ((rd x4_2 x22_2) + (rd (rd_L3 l0 x16_1) x22_2)))) y114 (wrap64 (x8_2 + (rd (rd_L3 l0 x16_1) x22_2))) l0 (l0.length : Int) x16_1 (rd_L3 l0 x16_1) ((rd_L3 l0 x16_1).length : Int) (wrap64 (x22_2 + 1))) else (none)) = some r := (by first | (rw [hy114]; with_reducible exact H) | (have H2_ := (Option.bind_some _ _).symm.trans H; rw [hy114]; with_reducible exact H2_) | (have H2_ := (Option.bind_some _ _).symm.trans H; with_reducible exact H2_) | with_reducible exact H | (rw [hy114]; exact H) | exact H); have Ny114 := am_ hy114; clear hy114; replace H := ps_ H; obtain ⟨c22b0, H⟩ := H; obtain ⟨y118, hy118⟩ : ∃ y_ : List Int, y_ = (x4_2.set (x22_2 : Int).toNat (wrap64 ((rd x4_2 x22_2) + (rd (rd_L3 l0 x16_1) x22_2)))) := ⟨_, rfl⟩; replace H : (spec_weKinds.l1 k2 x3_1 y118 y114 (wrap64 (x8_2 + (rd (rd_L3 l0 x16_1) x22_2))) l0 (l0.length : Int) x16_1 (rd_L3 l0 x16_1) ((rd_L3 l0 x16_1).length : Int) (wrap64 (x22_2 + 1))) = some r := (by first | (rw [hy118]; with_reducible exact H) | (have H2_ := (Option.bind_some _ _).symm.trans H; rw [hy118]; with_reducible exact H2_) | (have H2_ := (Option.bind_some _ _).symm.trans H; with_reducible exact H2_) | with_reducible exact H | (rw [hy118]; exact H) | exact H); have Ny118 := am_ hy118; clear hy118; have H' := am_ H; clear H; have p108 : 0 ≤ (x22_2 : Int) := od_; have q108 : x22_2 < ((rd_L3 l0 x16_1).length : Int) := od_; obtain ⟨ad108, e108, hx108_0⟩ := Kd.at_int HR104_0.out x22_2 p108 q108; cases e108; replace hx108_0 := (HB.out.cell (World.block_lt_of_cell? w _ hx108_0)).trans hx108_0; replace p108 := eq_true p108; replace q108 := eq_true q108
         go_wp2_with (first | ((with_reducible refine gate_builtin (b := .append) (xs := #[.tmp 45, .tmp 46]) rfl ?_); at_builtin; refine Kd.R_append (Kd.int .i64) (w0 := w) w.heap.size rfl (.tmp 45) (.tmp 46) 28 3 (.int .i64 0) 8 rfl Try.underlying28 info3 rfl (by decide) (by omega) u7 x7_2 5 [.int .i64 5] (fun k_ => some k_ ≠ (v102 : Value).ownBlock) (fun _ => False) rfl rfl ?aP (fun _ hk => hk.elim) ?aF ?aO ?aB ?aS ?aL ?_; (case aP => exact rfl); (case aB => exact tc13_); (case aF => exact tc37_); (case aO => exact tc55_); (case aS => exact tc14_); (case aL => have := LMc21.out; omega); intro v115 w24 ho hb hg hat; rw [← Ny114.out] at ho; replace HO_3 := am_ (Kd.S_after (ok := (fun k_ => some k_ ≠ (v102 : Value).ownBlock)) tc53_ hg hat); replace HO_4 := am_ (Kd.R_after (ok := (fun _ => True)) tc51_ hg hat); replace HB := am_ (hb); have HO116 := am_ (ho); clear HO_7; clear ho hb hg hat; obtain ⟨Ao25, co25, eo25⟩ := Kd.R_slice HO_4.out; subst eo25; have p117 : 0 ≤ (x22_2 : Int) := od_; have q117 : x22_2 < (x4_2.length : Int) := od_; obtain ⟨ad117, e117, hx117_0⟩ := Kd.at_int (Kd.R_reads' HO_4.out).2.2 x22_2 p117 q117; cases e117; replace p117 := eq_true p117; replace q117 := eq_true q117; have p23 : 0 ≤ (x22_2 : Int) := od_; have q23 : (x22_2 : Int) < ((x4_2.length : Int) : Int) := od_; obtain ⟨go23, co23, eo23, gb23, gl23, cl23, HG23⟩ := Kd.R_form HO_4.out (by omega); (first | cases eo23 | (injection eo23 with ea_ en_ ec_; (first | subst ea_ | (injection ea_ with ea_; subst ea_)); subst ec_; clear en_)); have GB23 := am_ gb23; have GG23 := am_ HG23; clear gb23 gl23 HG23; (first | simp only [add_plain] at hx117_0 | skip); obtain ⟨hx23_0, hf23_0⟩ := Kd.R_celln 0 HO_4.out (x22_2 : Int) p23 q23; replace p23 := eq_true p23; replace q23 := eq_true q23; have n_ := am_ (Kd.R_mono (ok' := (fun k_ => some k_ ≠ (v115 : Value).ownBlock)) HO_4.out (fun k_ hk => hk.2)); clear HO_4; have HO_4 := n_; clear n_; obtain ⟨hy26_, hz26_⟩ := Kd.R_celln 0 HO_4.out (x22_2 : Int) (od_) (od_); have HP26 := Kd.R_putg HO_4.out (x22_2 : Int) (wrap64 ((rd x4_2 x22_2) + (rd (rd_L3 l0 x16_1) x22_2)))) | ((with_reducible refine gate_store (t := 3) (p := 57) rfl ?_); refine store_event (t := 3) (p := 57) (v := ?vo_w27) (w1 := (w24.setCell ⟨go23, (x22_2 : Int).toNat, none⟩ (.int .i64 (wrap64 ((rd x4_2 x22_2) + (rd (rd_L3 l0 x16_1) x22_2)))))) ?hg ?ho ?hn ?hr ?_; (case ho => rfl); (case hg => rfl); (case hn => rfl); (case hr => exact tc42_); intro w27 hw; have hg : w24.grownBy w27 (some go23) := (by rw [hw]; exact HP26.2); have hp_ : Kd.R (Kd.int .i64) 3 w27 w.heap.size (fun k_ => some k_ ≠ (v115 : Value).ownBlock) (.slice (some ⟨go23, 0, none⟩) x4_2.length co25) y118 := (by rw [hw, Ny118.out]; exact HP26.1); clear HP26; have n0_ := am_ (Kd.S_after (v := (.slice (some ⟨go23, 0, none⟩) x4_2.length co25)) (v1 := (.slice (some ⟨go23, 0, none⟩) x4_2.length co25)) (ok := (fun k_ => some k_ ≠ (v115 : Value).ownBlock)) tc28_ hg (.inl rfl)); have n1_ := am_ (hp_); have n2_ := am_ (Kd.R_after (v := (.slice (some ⟨go23, 0, none⟩) x4_2.length co25)) (v1 := (.slice (some ⟨go23, 0, none⟩) x4_2.length co25)) (ok := (fun _ => True)) (by (with_reducible repeat (first | apply Kd.R_alloc | apply Kd.R_drewN | apply Kd.R_drew)); exact Kd.R_mono HO116.out (fun _ hk => ⟨trivial, hk⟩)) hg (.inl rfl)); have n3_ := am_ ((by rw [hw]; exact below_set (HB.out) GB23.out : Below w.heap.size w w27)); clear HO_3 HO_4; clear HO116 HB; have HO_3 := n0_; have HO_4 := n1_; have HO116 := n2_; have HB := n3_; clear n0_ n1_ n2_ n3_; clear hg hw hp_))
         go_roundg k2
         case measure => have := HK1.out; have := HK2.out; omega
         case rel => exact ⟨(y118), (y114), (wrap64 (x8_2 + (rd (rd_L3 l0 x16_1) x22_2))), (wrap64 (x22_2 + 1)), tc3_, tc3_, H', ⟨tc38_⟩, ⟨tc28_⟩, ⟨tc12_⟩, ⟨(by (with_reducible repeat (first | apply Kd.R_alloc | apply Kd.R_drewN | apply Kd.R_drew)); exact Kd.R_mono HO116.out (fun _ hk => hk.2))⟩, ⟨tc0_⟩⟩
        ·have c20b0 : ((rd (rd_L3 l0 x16_1) x22_2) == (-1)) = false := beq_eq_false_iff_ne.mpr c20; have c20b1 : ((rd (rd_L3 l0 x16_1) x22_2) != (-1)) = true := bne_iff_ne.mpr c20; replace H := ps_ H; obtain ⟨c28b0, H⟩ := H; replace H := pp_ H; obtain ⟨c29, H⟩ := H; have LMc29 := am_ c29; clear c29; obtain ⟨y120, hy120⟩ : ∃ y_ : List Int, y_ = (x7_2 ++ [wrap64 ((wrap64 (2 * x8_2)) + (rd x4_2 x22_2))]) := ⟨_, rfl⟩; replace H : (spec_weKinds.l1 k2 x3_1 (x4_2.set (x22_2 : Int).toNat (wrap64 ((rd x4_2 x22_2) + (rd (rd_L3 l0 x16_1) x22_2)))) y120 (wrap64 (x8_2 + (rd (rd_L3 l0 x16_1) x22_2))) l0 (l0.length : Int) x16_1 (rd_L3 l0 x16_1) ((rd_L3 l0 x16_1).length : Int) (wrap64 (x22_2 + 1))) = some r := (by first | (rw [hy120]; with_reducible exact H) | (have H2_ := (Option.bind_some _ _).symm.trans H; rw [hy120]; with_reducible exact H2_) | (have H2_ := (Option.bind_some _ _).symm.trans H; with_reducible exact H2_) | with_reducible exact H | (rw [hy120]; exact H) | exact H); have Ny120 := am_ hy120; clear hy120; obtain ⟨y124, hy124⟩ : ∃ y_ : List Int, y_ = (x4_2.set (x22_2 : Int).toNat (wrap64 ((rd x4_2 x22_2) + (rd (rd_L3 l0 x16_1) x22_2)))) := ⟨_, rfl⟩; replace H : (spec_weKinds.l1 k2 x3_1 y124 y120 (wrap64 (x8_2 + (rd (rd_L3 l0 x16_1) x22_2))) l0 (l0.length : Int) x16_1 (rd_L3 l0 x16_1) ((rd_L3 l0 x16_1).length : Int) (wrap64 (x22_2 + 1))) = some r := (by first | (rw [hy124]; with_reducible exact H) | (have H2_ := (Option.bind_some _ _).symm.trans H; rw [hy124]; with_reducible exact H2_) | (have H2_ := (Option.bind_some _ _).symm.trans H; with_reducible exact H2_) | with_reducible exact H | (rw [hy124]; exact H) | exact H); have Ny124 := am_ hy124; clear hy124; have H' := am_ H; clear H; have p108 : 0 ≤ (x22_2 : Int) := od_; have q108 : x22_2 < ((rd_L3 l0 x16_1).length : Int) := od_; obtain ⟨ad108, e108, hx108_0⟩ := Kd.at_int HR104_0.out x22_2 p108 q108; cases e108; replace hx108_0 := (HB.out.cell (World.block_lt_of_cell? w _ hx108_0)).trans hx108_0; replace p108 := eq_true p108; replace q108 := eq_true q108; obtain ⟨Ao31, co31, eo31⟩ := Kd.R_slice HO_4.out; subst eo31; have p119 : 0 ≤ (x22_2 : Int) := od_; have q119 : x22_2 < (x4_2.length : Int) := od_; obtain ⟨ad119, e119, hx119_0⟩ := Kd.at_int (Kd.R_reads' HO_4.out).2.2 x22_2 p119 q119; cases e119; replace p119 := eq_true p119; replace q119 := eq_true q119
         go_wp2_with (first | ((with_reducible refine gate_builtin (b := .append) (xs := #[.tmp 28, .tmp 36]) rfl ?_); at_builtin; refine Kd.R_append (Kd.int .i64) (w0 := w) w.heap.size rfl (.tmp 28) (.tmp 36) 28 3 (.int .i64 0) 8 rfl Try.underlying28 info3 rfl (by decide) (by omega) u7 x7_2 (wrap64 ((wrap64 (2 * x8_2)) + (rd x4_2 x22_2))) [.int .i64 (wrap64 ((wrap64 (2 * x8_2)) + (rd x4_2 x22_2)))] (fun k_ => some k_ ≠ (.slice (some ad119) x4_2.length co31 : Value).ownBlock) (fun _ => False) rfl rfl ?aP (fun _ hk => hk.elim) ?aF ?aO ?aB ?aS ?aL ?_; (case aP => exact rfl); (case aB => exact tc13_); (case aF => exact tc37_); (case aO => exact tc55_); (case aS => exact tc14_); (case aL => have := LMc29.out; omega); intro v121 w32 ho hb hg hat; rw [← Ny120.out] at ho; replace HO_3 := am_ (Kd.S_after (ok := (fun k_ => some k_ ≠ (.slice (some ad119) x4_2.length co31 : Value).ownBlock)) tc53_ hg hat); replace HO_4 := am_ (Kd.R_after (ok := (fun _ => True)) tc51_ hg hat); replace HB := am_ (hb); have HO122 := am_ (ho); clear HO_7; clear ho hb hg hat; have p123 : 0 ≤ (x22_2 : Int) := od_; have q123 : x22_2 < (x4_2.length : Int) := od_; obtain ⟨ad123, e123, hx123_0⟩ := Kd.at_int (Kd.R_reads' HO_4.out).2.2 x22_2 p123 q123; obtain rfl : ad119 = ad123 := (by injection e123); replace p123 := eq_true p123; replace q123 := eq_true q123; have p30 : 0 ≤ (x22_2 : Int) := od_; have q30 : (x22_2 : Int) < ((x4_2.length : Int) : Int) := od_; obtain ⟨go30, co30, eo30, gb30, gl30, cl30, HG30⟩ := Kd.R_form HO_4.out (by omega); (first | cases eo30 | (injection eo30 with ea_ en_ ec_; (first | subst ea_ | (injection ea_ with ea_; subst ea_)); subst ec_; clear en_)); have GB30 := am_ gb30; have GG30 := am_ HG30; clear gb30 gl30 HG30; (first | simp only [add_plain] at hx119_0 | skip); (first | simp only [add_plain] at hx123_0 | skip); obtain ⟨hx30_0, hf30_0⟩ := Kd.R_celln 0 HO_4.out (x22_2 : Int) p30 q30; replace p30 := eq_true p30; replace q30 := eq_true q30; have n_ := am_ (Kd.R_mono (ok' := (fun k_ => some k_ ≠ (v121 : Value).ownBlock)) HO_4.out (fun k_ hk => hk.2)); clear HO_4; have HO_4 := n_; clear n_; obtain ⟨hy33_, hz33_⟩ := Kd.R_celln 0 HO_4.out (x22_2 : Int) (od_) (od_); have HP33 := Kd.R_putg HO_4.out (x22_2 : Int) (wrap64 ((rd x4_2 x22_2) + (rd (rd_L3 l0 x16_1) x22_2)))) | ((with_reducible refine gate_store (t := 3) (p := 57) rfl ?_); refine store_event (t := 3) (p := 57) (v := ?vo_w34) (w1 := (w32.setCell ⟨go30, (x22_2 : Int).toNat, none⟩ (.int .i64 (wrap64 ((rd x4_2 x22_2) + (rd (rd_L3 l0 x16_1) x22_2)))))) ?hg ?ho ?hn ?hr ?_; (case ho => rfl); (case hg => rfl); (case hn => rfl); (case hr => exact tc42_); intro w34 hw; have hg : w32.grownBy w34 (some go30) := (by rw [hw]; exact HP33.2); have hp_ : Kd.R (Kd.int .i64) 3 w34 w.heap.size (fun k_ => some k_ ≠ (v121 : Value).ownBlock) (.slice (some ⟨go30, 0, none⟩) x4_2.length co31) y124 := (by rw [hw, Ny124.out]; exact HP33.1); clear HP33; have n0_ := am_ (Kd.S_after (v := (.slice (some ⟨go30, 0, none⟩) x4_2.length co31)) (v1 := (.slice (some ⟨go30, 0, none⟩) x4_2.length co31)) (ok := (fun k_ => some k_ ≠ (v121 : Value).ownBlock)) tc28_ hg (.inl rfl)); have n1_ := am_ (hp_); have n2_ := am_ (Kd.R_after (v := (.slice (some ⟨go30, 0, none⟩) x4_2.length co31)) (v1 := (.slice (some ⟨go30, 0, none⟩) x4_2.length co31)) (ok := (fun _ => True)) (by (with_reducible repeat (first | apply Kd.R_alloc | apply Kd.R_drewN | apply Kd.R_drew)); exact Kd.R_mono HO122.out (fun _ hk => ⟨trivial, hk⟩)) hg (.inl rfl)); have n3_ := am_ ((by rw [hw]; exact below_set (HB.out) GB30.out : Below w.heap.size w w34)); clear HO_3 HO_4; clear HO122 HB; have HO_3 := n0_; have HO_4 := n1_; have HO122 := n2_; have HB := n3_; clear n0_ n1_ n2_ n3_; clear hg hw hp_))
         go_roundg k2
         case measure => have := HK1.out; have := HK2.out; omega
         case rel => exact ⟨(y124), (y120), (wrap64 (x8_2 + (rd (rd_L3 l0 x16_1) x22_2))), (wrap64 (x22_2 + 1)), tc3_, tc3_, H', ⟨tc38_⟩, ⟨tc28_⟩, ⟨tc12_⟩, ⟨(by (with_reducible repeat (first | apply Kd.R_alloc | apply Kd.R_drewN | apply Kd.R_drew)); exact Kd.R_mono HO122.out (fun _ hk => hk.2))⟩, ⟨tc0_⟩⟩
      ·replace H := pp_ H; obtain ⟨c35, H⟩ := H; have LMc35 := am_ c35; clear c35; obtain ⟨y105, hy105⟩ : ∃ y_ : Tb_, y_ = (x3_1 ++ [x7_2]) := ⟨_, rfl⟩; replace H : (spec_weKinds.l0 k2 y105 x4_2 l0 (l0.length : Int) (wrap64 (x16_1 + 1))) = some r := (by first | (rw [hy105]; with_reducible exact H) | (have H2_ := (Option.bind_some _ _).symm.trans H; rw [hy105]; with_reducible exact H2_) | (have H2_ := (Option.bind_some _ _).symm.trans H; with_reducible exact H2_) | with_reducible exact H | (rw [hy105]; exact H) | exact H); have Ny105 := am_ hy105; clear hy105; have H' := am_ H; clear H; obtain ⟨Ao37, co37, eo37⟩ := Kd.R_slice HO_7.out; subst eo37
       go_wp2_with (first | ((with_reducible refine gate_builtin (b := .append) (xs := #[.tmp 59, .tmp 61]) rfl ?_); at_builtin; refine Kd.S_append (Kd.slice 3 (Kd.int .i64)) (w0 := w) w.heap.size rfl (.tmp 59) (.tmp 61) 25 28 (.slice none 0 0) 24 rfl Try.underlying25 info28 rfl (by decide) (by omega) u3 x3_1 x7_2 [.slice Ao37 x7_2.length co37] (fun k_ => some k_ ≠ (v102 : Value).ownBlock) (fun k_ => some k_ = (.slice Ao37 x7_2.length co37 : Value).ownBlock) rfl rfl ?aP (fun k_ hk_ => ((Kd.R_mono (ok' := fun k_ => ((fun k_ => some k_ ≠ (v102 : Value).ownBlock)) k_ ∧ some k_ ≠ (u3 : Value).ownBlock) (Kd.R_apart' (HO_7.out) (Kd.S_typed HO_3.out) (by decide)) (fun k_ hk => ⟨hk.1, hk.2⟩))).1 k_ hk_.symm) ?aF ?aO ?aB ?aS ?aL ?_; (case aP => exact Kd.M_row (Kd.R_mono (Kd.R_tight rfl (Kd.R_mono (ok' := fun k_ => ((fun k_ => some k_ ≠ (v102 : Value).ownBlock)) k_ ∧ some k_ ≠ (u3 : Value).ownBlock) (Kd.R_apart' (HO_7.out) (Kd.S_typed HO_3.out) (by decide)) (fun k_ hk => ⟨hk.1, hk.2⟩))) (fun _ h_ => h_))); (case aB => exact tc13_); (case aF => exact tc37_); (case aO => exact (by (with_reducible repeat (first | apply Kd.S_alloc | apply Kd.S_drewN | apply Kd.S_drew)); exact Kd.S_mono HO_3.out (fun k_ hk => ⟨hk.1, fun e_ => hk.2 e_⟩))); (case aS => exact tc14_); (case aL => have := LMc35.out; omega); intro v106 w36 ho hb hg hat; rw [← Ny105.out] at ho; replace HO_4 := am_ (Kd.R_over' tc12_ (Kd.S_typed tc53_) (by decide) hg); replace HB := am_ (hb); have HO107 := am_ (ho); clear HO_3 HO_7; clear ho hb hg hat))
       go_roundg k2
       case measure => have := HK1.out; have := HK2.out; omega
       case rel => exact ⟨(y105), (x4_2), (wrap64 (x16_1 + 1)), tc3_, H', ⟨tc38_⟩, ⟨(by (with_reducible repeat (first | apply Kd.S_alloc | apply Kd.S_drewN | apply Kd.S_drew)); exact HO107.out)⟩, ⟨(by (with_reducible repeat (first | apply Kd.R_alloc | apply Kd.R_drewN | apply Kd.R_drew)); exact Kd.R_mono HO_4.out (fun _ hk => trivial))⟩, ⟨tc0_⟩⟩
   ·obtain rfl := Option.some.inj H; go_wp2
    go_ret
    exact ⟨_, tc6_, (by (with_reducible repeat (first | apply Kd.S_alloc | apply Kd.S_drewN | apply Kd.S_drew)); exact Kd.S_mono HO_3.out (fun _ hk => trivial)), tc0_⟩

/-! ### spec_weCounts: function 41 -/
mutual
def spec_weCounts.l0 : Nat → List Int → Tb_ → Int → Int → Option (List Int)
 | 0, _, _, _, _ => none
 | k + 1, x3, x10, x11, x12 => if x12 < x11 then (if 0 ≤ x12 then (if x12 < (x10.length : Int) then (spec_weCounts.l1 k x3 x10 x11 x12 (rd_L3 x10 x12) ((rd_L3 x10 x12).length : Int) 0) else (none)) else (none)) else (some x3)
def spec_weCounts.l1 : Nat → List Int → Tb_ → Int → Int → List Int → Int → Int → Option (List Int)
 | 0, _, _, _, _, _, _, _ => none
 | k + 1, x3, x10, x11, x12, x16, x17, x18 => if x18 < x17 then (if 0 ≤ x18 then (if x18 < (x16.length : Int) then (if 0 ≤ (rd x16 x18) then (if (rd x16 x18) < (x3.length : Int) then (spec_weCounts.l1 k (x3.set ((rd x16 x18) : Int).toNat (wrap64 ((rd x3 (rd x16 x18)) + 1))) x10 x11 x12 x16 x17 (wrap64 (x18 + 1))) else (none)) else (none)) else (none)) else (none)) else (spec_weCounts.l0 k x3 x10 x11 (wrap64 (x12 + 1)))
end
def spec_weCounts.f (k : Nat) (l0 : Tb_) : Option (List Int) := if 6 ≤ 35184372088832 then ((spec_weKinds.f k l0).bind fun t104 => (spec_weCounts.l0 k (List.replicate 6 0) t104 (t104.length : Int) 0)) else (none)
theorem spec_weCounts.mono_l : ∀ k, (∀ y0 y1 y2 y3, LeO (spec_weCounts.l0 k y0 y1 y2 y3) (spec_weCounts.l0 (k + 1) y0 y1 y2 y3)) ∧ (∀ y0 y1 y2 y3 y4 y5 y6, LeO (spec_weCounts.l1 k y0 y1 y2 y3 y4 y5 y6) (spec_weCounts.l1 (k + 1) y0 y1 y2 y3 y4 y5 y6))
 | 0 => ⟨fun _ _ _ _ r h => by simp [spec_weCounts.l0] at h, fun _ _ _ _ _ _ _ r h => by simp [spec_weCounts.l1] at h⟩
 | k + 1 => by
  obtain ⟨ih0, ih1⟩ := spec_weCounts.mono_l k; refine ⟨?_, ?_⟩
  ·intro y0 y1 y2 y3; unfold spec_weCounts.l0
   repeat' first
   | (with_reducible exact ih0 _ _ _ _)
   | (with_reducible exact ih1 _ _ _ _ _ _ _)
   | (with_reducible exact spec_weKinds.mono _ _)
   | (with_reducible exact LeO.refl _)
   | (with_reducible exact LeO.none _)
   | (with_reducible refine LeO.ite ?_ ?_)
   | (with_reducible refine LeO.bind ?_ (fun _ => ?_))
   | exact ih0 _ _ _ _
   | exact ih1 _ _ _ _ _ _ _
   | exact spec_weKinds.mono _ _
   | exact LeO.none _
   | refine LeO.ite ?_ ?_
   | refine LeO.bind ?_ (fun _ => ?_)
  ·intro y0 y1 y2 y3 y4 y5 y6; unfold spec_weCounts.l1
   repeat' first
   | (with_reducible exact ih0 _ _ _ _)
   | (with_reducible exact ih1 _ _ _ _ _ _ _)
   | (with_reducible exact spec_weKinds.mono _ _)
   | (with_reducible exact LeO.refl _)
   | (with_reducible exact LeO.none _)
   | (with_reducible refine LeO.ite ?_ ?_)
   | (with_reducible refine LeO.bind ?_ (fun _ => ?_))
   | exact ih0 _ _ _ _
   | exact ih1 _ _ _ _ _ _ _
   | exact spec_weKinds.mono _ _
   | exact LeO.none _
   | refine LeO.ite ?_ ?_
   | refine LeO.bind ?_ (fun _ => ?_)
theorem spec_weCounts.mono : ∀ a0  k, LeO (spec_weCounts.f k a0) (spec_weCounts.f (k + 1) a0) := by
 intro a0 k; obtain ⟨ih0, ih1⟩ := spec_weCounts.mono_l k; unfold spec_weCounts.f
 repeat' first
   | (with_reducible exact ih0 _ _ _ _)
   | (with_reducible exact ih1 _ _ _ _ _ _ _)
   | (with_reducible exact spec_weKinds.mono _ _)
   | (with_reducible exact LeO.refl _)
   | (with_reducible exact LeO.none _)
   | (with_reducible refine LeO.ite ?_ ?_)
   | (with_reducible refine LeO.bind ?_ (fun _ => ?_))
   | exact ih0 _ _ _ _
   | exact ih1 _ _ _ _ _ _ _
   | exact spec_weKinds.mono _ _
   | exact LeO.none _
   | refine LeO.ite ?_ ?_
   | refine LeO.bind ?_ (fun _ => ?_)
theorem spec_weCounts.calls (k : Nat) (A0 : Option Addr) (c0 : Nat) (l0 : Tb_) (r : List Int) (w : World) (hr0 : Kd.C (Kd.slice 3 (Kd.int .i64)) w A0 l0.length l0) (hc0 : l0.length ≤ c0) (h : spec_weCounts.f k l0 = some r) :
  Calls Try.prog 41 #[.slice A0 l0.length c0] w fun e w' => ∃ v0_ : Value, e = .returned (v0_) ∧ Kd.R (Kd.int .i64) 3 w' w.heap.size (fun _ => True) v0_ r ∧ Below w.heap.size w w' := by
 have HR0 := am_ hr0; have HC0 := am_ hc0; clear hr0 hc0; have HB := am_ (Below.refl w.heap.size w); (try unfold spec_weCounts.f at h); have H := h; clear h; replace H := pp_ H; obtain ⟨c2, H⟩ := H; have c2b0 := eq_true c2; have c2b1 : decide (6 ≤ 35184372088832) = true := decide_eq_true c2; clear c2; obtain ⟨y101, hy101⟩ : ∃ y_ : List Int, y_ = (List.replicate 6 0) := ⟨_, rfl⟩; replace H : ((spec_weKinds.f k l0).bind fun t104 => (spec_weCounts.l0 k y101 t104 (t104.length : Int) 0)) = some r := tc15_; have Ny101 := am_ hy101; clear hy101; replace H := bd_ H; obtain ⟨t104, A3, H⟩ := H; (try dsimp only at H); have H' := am_ H; clear H; go_enter Try.func41, Try.ntmps41
 go_wp2_with (first | ((with_reducible refine gate_dst (N := 8) rfl ?_); refine Kd.R_make (Kd.int .i64) _ 3 rfl (N := 8) rfl 28 _ _ rfl 6 rfl rfl Try.underlying28 (.int .i64 0) 8 info3 rfl (by decide) (by omega) 0 (ok := fun _ => True) (okp := fun _ => True) rfl (fun _ hk => hk) trivial (by omega) (by omega) (Below.refl _ _) (Nat.le_refl _) ?_; intro v102 w4 ho5 hb hg_ hnew_; clear hg_ hnew_; (first | rw [← Ny101.out] at ho5 | (simp only [Int.reduceToNat] at ho5; rw [← Ny101.out] at ho5)); have HO103 := am_ (Kd.R_lower ho5 (below_size tc0_)); replace HB := am_ (below_step tc0_ hb); clear hb ho5) | (refine gc_ (some 10) Try.func53 #[.slice A0 l0.length c0] ?_; (with_reducible refine (spec_weKinds.calls k _ _ l0 t104 _ ?side1 ?side2 A3.out).mono ?_); (case side1 => exact tc34_); (case side2 => exact HC0.out); rintro e w6 ⟨v105, rfl, ho0, hb⟩; refine ⟨_, rfl, ?_⟩; have HO106 := am_ (Kd.S_lower (Kd.S_new' ho0 (Kd.R_lt tc31_)) (below_size tc0_)); replace HO103 := am_ (Kd.R_below tc31_ hb); replace HB := am_ (below_step tc0_ hb); (try clear hb ho0); obtain ⟨Ao7, co7, eo7⟩ := Kd.S_slice HO106.out; subst eo7))
 go_loopg [12] k (fun kq v12 w' => ∃ (x3_1 : List Int) (x12_1 : Int), v12 = .int .i64 x12_1 ∧ Aside0 (spec_weCounts.l0 kq x3_1 t104 (t104.length : Int) x12_1 = some r) ∧ Aside0 (kq ≤ k) ∧ Aside0 (Kd.R (Kd.int .i64) 3 w' w.heap.size (fun _ => True) v102 x3_1) ∧ Aside0 (Kd.S (Kd.slice 3 (Kd.int .i64)) 28 w' w.heap.size (fun k_ => some k_ ≠ (v102 : Value).ownBlock) (.slice Ao7 t104.length co7) t104) ∧ Aside0 (Below w.heap.size w w'))
 case atStart => exact ⟨(y101), (0), tc3_, H', ⟨Nat.le_refl _⟩, ⟨tc31_⟩, ⟨(by (with_reducible repeat (first | apply Kd.S_alloc | apply Kd.S_drewN | apply Kd.S_drew)); exact Kd.S_mono HO106.out (fun _ hk => hk.2))⟩, ⟨tc0_⟩⟩
 case round =>
  clear H'; (try clear c2); (try clear c2b0); (try clear c2b1); (try clear p2); (try clear c4); (try clear c5); obtain ⟨x3_1, x12_1, rfl, HA, HK1, HO_3, HO_10, HB⟩ := hrel
  cases gk with
  | zero => exact absurd HA.out (by simp [spec_weCounts.l0])
  | succ k1 =>
   have H := HA.out; clear HA; simp only [spec_weCounts.l0] at H
   replace H := sp_ H; obtain ⟨c8b0, H⟩ | ⟨c8b0, H⟩ := H
   ·replace H := ps_ H; obtain ⟨c9b0, H⟩ := H; replace H := ps_ H; obtain ⟨c10b0, H⟩ := H; have H' := am_ H; clear H; have p107 : 0 ≤ (x12_1 : Int) := od_; have q107 : x12_1 < (t104.length : Int) := od_; obtain ⟨ad107, A107_0, c107_0, e107, hx107_0, hl107_0, hi107_0⟩ := at_L3 (Kd.S_reads' HO_10.out).2.2 x12_1 p107 q107; cases e107; obtain ⟨ce107, hce107, hMe107, hcc107⟩ := Kd.S_get HO_10.out [] x12_1 p107 (by first | exact q107 | exact od_ | (have e_ := (Kd.S_reads' HO_10.out).1; omega)); obtain ⟨ve107_0, rfl, ge107_0⟩ := hMe107; have hv107_0 := hcc107 0 _ rfl; rw [Nat.add_zero, show ((Kd.slice 3 (Kd.int .i64))).sz = 1 from rfl, Nat.mul_one] at hv107_0; replace hv107_0 := Option.some.inj (hv107_0.symm.trans hx107_0); rw [hv107_0] at ge107_0; have HL107_0 := am_ (show Kd.R (Kd.int .i64) 3 _ _ _ _ (rd_L3 t104 x12_1) from ge107_0); clear hv107_0 ge107_0; clear hcc107 hce107; have HR107_0 := am_ hi107_0; have HC107_0 := am_ hl107_0; clear hi107_0 hl107_0; replace p107 := eq_true p107; replace q107 := eq_true q107; go_wp2
    go_loopg [18] k1 (fun kq v18 w' => ∃ (x3_2 : List Int) (x18_2 : Int), v18 = .int .i64 x18_2 ∧ Aside0 (spec_weCounts.l1 kq x3_2 t104 (t104.length : Int) x12_1 (rd_L3 t104 x12_1) ((rd_L3 t104 x12_1).length : Int) x18_2 = some r) ∧ Aside0 (kq ≤ k1) ∧ Aside0 (Kd.R (Kd.int .i64) 3 w' w.heap.size (fun _ => True) v102 x3_2) ∧ Aside0 (Kd.S (Kd.slice 3 (Kd.int .i64)) 28 w' w.heap.size (fun k_ => some k_ ≠ (v102 : Value).ownBlock) (.slice (some ad107) t104.length co7) t104) ∧ Aside0 (Kd.R (Kd.int .i64) 3 w' w.heap.size (fun k_ => some k_ ≠ (v102 : Value).ownBlock) (.slice A107_0 (rd_L3 t104 x12_1).length c107_0) (rd_L3 t104 x12_1)) ∧ Aside0 (Below w.heap.size w w'))
    case atStart => exact ⟨(x3_1), (0), tc3_, H', ⟨Nat.le_refl _⟩, ⟨tc54_⟩, ⟨(by (with_reducible repeat (first | apply Kd.S_alloc | apply Kd.S_drewN | apply Kd.S_drew)); exact HO_10.out)⟩, ⟨(by (with_reducible repeat (first | apply Kd.R_alloc | apply Kd.R_drewN | apply Kd.R_drew)); exact Kd.R_mono HL107_0.out (fun _ hk => by first | exact hk | exact hk.1 | exact hk.2))⟩, ⟨tc0_⟩⟩
    case round =>
     clear H'; (try clear c1); (try clear p1); (try clear q1); (try clear hx1); (try clear c2); (try clear c2b0); (try clear c2b1); (try clear p2); (try clear c4); (try clear c5); (try clear c8); (try clear c8b0); (try clear c9); (try clear c9b0); (try clear c10); (try clear c10b0); (try clear p10); (try clear q10); (try clear hx10); (try clear hx107_0); (try clear p107); (try clear p2); (try clear q107); obtain ⟨x3_2, x18_2, rfl, HA, HK2, HO_3, HO_10, HS_, HB⟩ := hrel
     cases gk with
     | zero => exact absurd HA.out (by simp [spec_weCounts.l1])
     | succ k2 =>
      have H := HA.out; clear HA; simp only [spec_weCounts.l1] at H
      replace H := sp_ H; obtain ⟨c11b0, H⟩ | ⟨c11b0, H⟩ := H
      ·replace H := ps_ H; obtain ⟨c12b0, H⟩ := H; replace H := ps_ H; obtain ⟨c13b0, H⟩ := H; replace H := ps_ H; obtain ⟨c14b0, H⟩ := H; replace H := ps_ H; obtain ⟨c15b0, H⟩ := H; obtain ⟨y110, hy110⟩ : ∃ y_ : List Int, y_ = (x3_2.set ((rd (rd_L3 t104 x12_1) x18_2) : Int).toNat (wrap64 ((rd x3_2 (rd (rd_L3 t104 x12_1) x18_2)) + 1))) := ⟨_, rfl⟩; replace H : (spec_weCounts.l1 k2 y110 t104 (t104.length : Int) x12_1 (rd_L3 t104 x12_1) ((rd_L3 t104 x12_1).length : Int) (wrap64 (x18_2 + 1))) = some r := tc41_; have Ny110 := am_ hy110; clear hy110; have H' := am_ H; clear H; have p108 : 0 ≤ (x18_2 : Int) := od_; have q108 : x18_2 < ((rd_L3 t104 x12_1).length : Int) := od_; obtain ⟨ad108, e108, hx108_0⟩ := Kd.at_int (Kd.R_reads' HS_.out).2.2 x18_2 p108 q108; cases e108; replace p108 := eq_true p108; replace q108 := eq_true q108; obtain ⟨Ao17, co17, eo17⟩ := Kd.R_slice HO_3.out; subst eo17; have p109 : 0 ≤ ((rd (rd_L3 t104 x12_1) x18_2) : Int) := od_; have q109 : (rd (rd_L3 t104 x12_1) x18_2) < (x3_2.length : Int) := od_; obtain ⟨ad109, e109, hx109_0⟩ := Kd.at_int (Kd.R_reads' HO_3.out).2.2 (rd (rd_L3 t104 x12_1) x18_2) p109 q109; cases e109; replace p109 := eq_true p109; replace q109 := eq_true q109; have p16 : 0 ≤ ((rd (rd_L3 t104 x12_1) x18_2) : Int) := od_; have q16 : ((rd (rd_L3 t104 x12_1) x18_2) : Int) < ((x3_2.length : Int) : Int) := od_; obtain ⟨go16, co16, eo16, gb16, gl16, cl16, HG16⟩ := Kd.R_form HO_3.out (by omega); (first | cases eo16 | (injection eo16 with ea_ en_ ec_; (first | subst ea_ | (injection ea_ with ea_; subst ea_)); subst ec_; clear en_)); have GB16 := am_ gb16; have GG16 := am_ HG16; clear gb16 gl16 HG16; (first | simp only [add_plain] at hx109_0 | skip); obtain ⟨hx16_0, hf16_0⟩ := Kd.R_celln 0 HO_3.out ((rd (rd_L3 t104 x12_1) x18_2) : Int) p16 q16; replace p16 := eq_true p16; replace q16 := eq_true q16; have HP18 := Kd.R_putg HO_3.out ((rd (rd_L3 t104 x12_1) x18_2) : Int) (wrap64 ((rd x3_2 (rd (rd_L3 t104 x12_1) x18_2)) + 1))
       go_wp2_with (first | ((with_reducible refine gate_store (t := 3) (p := 27) rfl ?_); refine store_event (t := 3) (p := 27) (v := ?vo_w19) (w1 := (wr.setCell ⟨go16, ((rd (rd_L3 t104 x12_1) x18_2) : Int).toNat, none⟩ (.int .i64 (wrap64 ((rd x3_2 (rd (rd_L3 t104 x12_1) x18_2)) + 1))))) ?hg ?ho ?hn ?hr ?_; (case ho => rfl); (case hg => rfl); (case hn => rfl); (case hr => exact tc42_); intro w19 hw; have hg : wr.grownBy w19 (some go16) := (by rw [hw]; exact HP18.2); have hp_ : Kd.R (Kd.int .i64) 3 w19 w.heap.size (fun _ => True) (.slice (some ⟨go16, 0, none⟩) x3_2.length co17) y110 := (by rw [hw, Ny110.out]; exact HP18.1); clear HP18; have n0_ := am_ (hp_); have n1_ := am_ (Kd.S_after (v := (.slice (some ⟨go16, 0, none⟩) x3_2.length co17)) (v1 := (.slice (some ⟨go16, 0, none⟩) x3_2.length co17)) (ok := (fun _ => True)) (by (with_reducible repeat (first | apply Kd.S_alloc | apply Kd.S_drewN | apply Kd.S_drew)); exact Kd.S_mono HO_10.out (fun _ hk => ⟨trivial, hk⟩)) hg (.inl rfl)); have ms_ := am_ (Kd.R_after (v := (.slice (some ⟨go16, 0, none⟩) x3_2.length co17)) (v1 := (.slice (some ⟨go16, 0, none⟩) x3_2.length co17)) (ok := (fun _ => True)) (by (with_reducible repeat (first | apply Kd.R_alloc | apply Kd.R_drewN | apply Kd.R_drew)); exact Kd.R_mono HS_.out (fun _ hk => ⟨trivial, hk⟩)) hg (.inl rfl)); clear HS_; have HS_ := ms_; clear ms_; have n2_ := am_ ((by rw [hw]; exact below_set (HB.out) GB16.out : Below w.heap.size w w19)); clear HO_3 HO_10 HB; have HO_3 := n0_; have HO_10 := n1_; have HB := n2_; clear n0_ n1_ n2_; clear hg hw hp_))
       go_roundg k2
       case measure => have := HK1.out; have := HK2.out; omega
       case rel => exact ⟨(y110), (wrap64 (x18_2 + 1)), tc3_, H', ⟨tc38_⟩, ⟨tc54_⟩, ⟨(by (with_reducible repeat (first | apply Kd.S_alloc | apply Kd.S_drewN | apply Kd.S_drew)); exact Kd.S_mono HO_10.out (fun _ hk => hk.2))⟩, ⟨(by (with_reducible repeat (first | apply Kd.R_alloc | apply Kd.R_drewN | apply Kd.R_drew)); exact Kd.R_mono HS_.out (fun _ hk => hk.2))⟩, ⟨tc0_⟩⟩
      ·have H' := am_ H; clear H; go_wp2
       go_roundg k2
       case measure => have := HK1.out; have := HK2.out; omega
       case rel => exact ⟨(x3_2), (wrap64 (x12_1 + 1)), tc3_, H', ⟨tc38_⟩, ⟨tc54_⟩, ⟨(by (with_reducible repeat (first | apply Kd.S_alloc | apply Kd.S_drewN | apply Kd.S_drew)); exact HO_10.out)⟩, ⟨tc0_⟩⟩
   ·obtain rfl := Option.some.inj H; go_wp2
    go_ret
    exact ⟨_, tc6_, tc54_, tc0_⟩

/-! ### spec_weInversions: function 26 -/
def spec_weInversions.f (k : Nat) (l0 : Tb_) : Option (Int) := (spec_weCounts.f k l0).bind fun t101 => (if 0 < (t101.length : Int) then (if 5 < (t101.length : Int) then (some (wrap64 ((rd t101 0) + (rd t101 5)))) else (none)) else (none))
theorem spec_weInversions.mono : ∀ a0  k, LeO (spec_weInversions.f k a0) (spec_weInversions.f (k + 1) a0) := by
 intro a0 k; unfold spec_weInversions.f
 repeat' first
   | (with_reducible exact spec_weCounts.mono _ _)
   | (with_reducible exact LeO.refl _)
   | (with_reducible exact LeO.none _)
   | (with_reducible refine LeO.ite ?_ ?_)
   | (with_reducible refine LeO.bind ?_ (fun _ => ?_))
   | exact spec_weCounts.mono _ _
   | exact LeO.none _
   | refine LeO.ite ?_ ?_
   | refine LeO.bind ?_ (fun _ => ?_)
theorem spec_weInversions.calls (k : Nat) (A0 : Option Addr) (c0 : Nat) (l0 : Tb_) (r : Int) (w : World) (hr0 : Kd.C (Kd.slice 3 (Kd.int .i64)) w A0 l0.length l0) (hc0 : l0.length ≤ c0) (h : spec_weInversions.f k l0 = some r) :
  Calls Try.prog 26 #[.slice A0 l0.length c0] w fun e w' => e = .returned (.int .i64 r) ∧ Below w.heap.size w w' := by
 have HR0 := am_ hr0; have HC0 := am_ hc0; clear hr0 hc0; have HB := am_ (Below.refl w.heap.size w); (try unfold spec_weInversions.f at h); have H := h; clear h; replace H := bd_ H; obtain ⟨t101, A2, H⟩ := H; (try dsimp only at H); replace H := pp_ H; obtain ⟨c3, H⟩ := H; have c3b0 : decide (0 < (t101.length : Int)) = true := decide_eq_true c3; have c3b1 : decide (0 < t101.length) = true := decide_eq_true (by omega); clear c3; replace H := pp_ H; obtain ⟨c4, H⟩ := H; have c4b0 : decide (5 < (t101.length : Int)) = true := decide_eq_true c4; have c4b1 : decide (5 < t101.length) = true := decide_eq_true (by omega); clear c4; obtain rfl := Option.some.inj H; go_enter Try.func26, Try.ntmps26
 go_wp2_with (first | (go_at_call 41; (with_reducible refine (spec_weCounts.calls k _ _ l0 t101 _ ?side1 ?side2 A2.out).mono ?_); (case side1 => exact tc9_); (case side2 => exact HC0.out); rintro e w5 ⟨v102, rfl, ho0, hb⟩; have HO103 := am_ (Kd.R_lower ho0 (below_size tc0_)); replace HB := am_ (below_step tc0_ hb); (try clear hb ho0); obtain ⟨Ao6, co6, eo6⟩ := Kd.R_slice HO103.out; subst eo6; have p104 : 0 ≤ (0 : Int) := (by omega); have q104 : 0 < (t101.length : Int) := od_; obtain ⟨ad104, e104, hx104_0⟩ := Kd.at_int (Kd.R_reads' HO103.out).2.2 0 p104 q104; cases e104; have qi104 : (0 < t101.length) = True := eq_true (by omega); (try rw [show ((0 : Int)).toNat = 0 from rfl] at hx104_0); (try rw [Addr.add_zero'] at hx104_0); replace p104 := eq_true p104; replace q104 := eq_true q104; have p105 : 0 ≤ (5 : Int) := (by omega); have q105 : 5 < (t101.length : Int) := od_; obtain ⟨ad105, e105, hx105_0⟩ := Kd.at_int (Kd.R_reads' HO103.out).2.2 5 p105 q105; obtain rfl : ad104 = ad105 := (by injection e105); (try simp only [show (5 : Int).toNat = 5 from rfl, Nat.reduceMul, Nat.reduceEqDiff, Go.Addr.add, ↓reduceIte] at hx105_0); have qi105 : (5 < t101.length) = True := eq_true (by omega); (try rw [show ((5 : Int)).toNat = 5 from rfl] at hx105_0); replace p105 := eq_true p105; replace q105 := eq_true q105))
 repeat (go_quiet (first | (go_at_call 41; (with_reducible refine (spec_weCounts.calls k _ _ l0 t101 _ ?side1 ?side2 A2.out).mono ?_); (case side1 => exact tc9_); (case side2 => exact HC0.out); rintro e w5 ⟨v102, rfl, ho0, hb⟩; have HO103 := am_ (Kd.R_lower ho0 (below_size tc0_)); replace HB := am_ (below_step tc0_ hb); (try clear hb ho0); obtain ⟨Ao6, co6, eo6⟩ := Kd.R_slice HO103.out; subst eo6; have p104 : 0 ≤ (0 : Int) := (by omega); have q104 : 0 < (t101.length : Int) := od_; obtain ⟨ad104, e104, hx104_0⟩ := Kd.at_int (Kd.R_reads' HO103.out).2.2 0 p104 q104; cases e104; have qi104 : (0 < t101.length) = True := eq_true (by omega); (try rw [show ((0 : Int)).toNat = 0 from rfl] at hx104_0); (try rw [Addr.add_zero'] at hx104_0); replace p104 := eq_true p104; replace q104 := eq_true q104; have p105 : 0 ≤ (5 : Int) := (by omega); have q105 : 5 < (t101.length : Int) := od_; obtain ⟨ad105, e105, hx105_0⟩ := Kd.at_int (Kd.R_reads' HO103.out).2.2 5 p105 q105; obtain rfl : ad104 = ad105 := (by injection e105); (try simp only [show (5 : Int).toNat = 5 from rfl, Nat.reduceMul, Nat.reduceEqDiff, Go.Addr.add, ↓reduceIte] at hx105_0); have qi105 : (5 < t101.length) = True := eq_true (by omega); (try rw [show ((5 : Int)).toNat = 5 from rfl] at hx105_0); replace p105 := eq_true p105; replace q105 := eq_true q105)); try go_wp2_with (first | (go_at_call 41; (with_reducible refine (spec_weCounts.calls k _ _ l0 t101 _ ?side1 ?side2 A2.out).mono ?_); (case side1 => exact tc9_); (case side2 => exact HC0.out); rintro e w5 ⟨v102, rfl, ho0, hb⟩; have HO103 := am_ (Kd.R_lower ho0 (below_size tc0_)); replace HB := am_ (below_step tc0_ hb); (try clear hb hb2 hk hi ho0); obtain ⟨Ao6, co6, eo6⟩ := Kd.R_slice HO103.out; subst eo6; have p104 : 0 ≤ (0 : Int) := (by omega); have q104 : 0 < (t101.length : Int) := od_; obtain ⟨ad104, e104, hx104_0⟩ := Kd.at_int (Kd.R_reads' HO103.out).2.2 0 p104 q104; cases e104; have qi104 : (0 < t101.length) = True := eq_true (by omega); (try rw [show ((0 : Int)).toNat = 0 from rfl] at hx104_0); (try rw [Addr.add_zero'] at hx104_0); replace p104 := eq_true p104; replace q104 := eq_true q104; have p105 : 0 ≤ (5 : Int) := (by omega); have q105 : 5 < (t101.length : Int) := od_; obtain ⟨ad105, e105, hx105_0⟩ := Kd.at_int (Kd.R_reads' HO103.out).2.2 5 p105 q105; obtain rfl : ad104 = ad105 := (by injection e105); (try simp only [show (5 : Int).toNat = 5 from rfl, Nat.reduceMul, Nat.reduceEqDiff, Go.Addr.add, ↓reduceIte] at hx105_0); have qi105 : (5 < t101.length) = True := eq_true (by omega); (try rw [show ((5 : Int)).toNat = 5 from rfl] at hx105_0); replace p105 := eq_true p105; replace q105 := eq_true q105)))
 go_ret
 exact ⟨tc6_, tc0_⟩

/-! ### spec_JointTable: function 7 (by hand) -/
def spec_JointTable.cnt (out : Tb_) (i j : Int) : Option Tb_ := if 0 ≤ i then (if i < (out.length : Int) then (if 0 ≤ j then (if j < ((rd_L3 out i).length : Int) then some (out.set i.toNat ((rd_L3 out i).set j.toNat (wrap64 (rd (rd_L3 out i) j + 1)))) else none) else none) else none) else none
def spec_JointTable.l0 : Nat → Int → Int → Tb_ → Int → Option Tb_
  | 0, _, _, _, _ => none
  | k + 1, a0, n, o, p => if p ≤ wrap64 (Int.tdiv (wrap64 (a0 * wrap64 (a0 - 1))) 2) then (if 0 ≤ n then (if n.toNat ≤ 35184372088832 then (if o.length < 5864062014805 then spec_JointTable.l0 k a0 n (o ++ [List.replicate n.toNat 0]) (wrap64 (p + 1)) else none) else none) else none) else some o
def spec_JointTable.l1 : Nat → List Tb_ → Tb_ → Int → Option Tb_
  | 0, _, _, _ => none
  | k + 1, al, o, i => if i < (al.length : Int) then (if 0 ≤ i then ((spec_weInversions.f k (rd_L4 al i)).bind fun x => (spec_sgMinus.f k (rd_L4 al i)).bind fun y => (spec_JointTable.cnt o x y).bind fun o' => spec_JointTable.l1 k al o' (wrap64 (i + 1))) else none) else some o
def spec_JointTable.f (k : Nat) (a0 : Int) : Option (Tb_ × Bool) := (spec_weSide.f a0).bind fun t => if t = true then ((spec_MinusTable.f k a0).bind fun m => (spec_JointTable.l0 k a0 (m.1.length : Int) [] 0).bind fun o => (spec_weAll.f k a0).bind fun al => (spec_JointTable.l1 k al o 0).bind fun r => some (r, true)) else some ([], false)
theorem spec_JointTable.mono0 : ∀ k a n o p, LeO (spec_JointTable.l0 k a n o p) (spec_JointTable.l0 (k + 1) a n o p)
  | 0, _, _, _, _ => LeO.none _
  | k + 1, a, n, o, p => by
    unfold spec_JointTable.l0
    exact LeO.ite (LeO.ite (LeO.ite (LeO.ite (spec_JointTable.mono0 k _ _ _ _) (LeO.none _)) (LeO.none _)) (LeO.none _)) (LeO.refl _)
theorem spec_JointTable.mono1 : ∀ k al o i, LeO (spec_JointTable.l1 k al o i) (spec_JointTable.l1 (k + 1) al o i)
  | 0, _, _, _ => LeO.none _
  | k + 1, al, o, i => by
    unfold spec_JointTable.l1
    exact LeO.ite (LeO.ite (LeO.bind (spec_weInversions.mono _ _) (fun _ => LeO.bind (spec_sgMinus.mono _ _) (fun _ => LeO.bind (LeO.refl _) (fun _ => spec_JointTable.mono1 k _ _ _)))) (LeO.none _)) (LeO.refl _)
theorem spec_JointTable.calls (k : Nat) (a0 : Int) (r1 : Tb_) (r2 : Bool) (w : World) (h : spec_JointTable.f k a0 = some (r1, r2)) :
    Calls Try.prog 7 #[.int .i64 a0] w fun e w' => ∃ v0_ : Value, e = .returned (.tuple #[v0_, .bool r2]) ∧ Kd.S (Kd.slice 3 (Kd.int .i64)) 28 w' w.heap.size (fun _ => True) v0_ r1 ∧ Below w.heap.size w w' := by
  obtain ⟨t, ht, h⟩ := Option.bind_eq_some_iff.mp h
  have HT := am_ ht
  clear ht
  cases t with
  | false =>
    rw [if_neg (by simp)] at h
    obtain ⟨rfl, rfl⟩ := Prod.mk.inj (Option.some.inj h)
    clear h
    go_enter Try.func7, Try.ntmps7
    go_wp2_with (first | (go_at_call 24; (refine (spec_weSide.calls a0 false _ HT.out).mono ?_); rintro e w5 ⟨rfl, hd⟩; have HB5 := am_ (below_of_drawn hd); clear hd))
    go_ret2
    exact ⟨_, rfl, Kd.S_nil _ _ _ _ _, HB5.out⟩
  | true =>
    rw [if_pos rfl] at h
    obtain ⟨⟨m, t2⟩, hm, h⟩ := Option.bind_eq_some_iff.mp h
    obtain ⟨o1, ho1, h⟩ := Option.bind_eq_some_iff.mp h
    obtain ⟨al, hal, h⟩ := Option.bind_eq_some_iff.mp h
    obtain ⟨r, hr, h⟩ := Option.bind_eq_some_iff.mp h
    obtain ⟨rfl, rfl⟩ := Prod.mk.inj (Option.some.inj h)
    have HM := am_ hm
    have HL0 := am_ ho1
    have HAL := am_ hal
    have HL1 := am_ hr
    clear h hm ho1 hal hr
    dsimp only at HL0
    go_enter Try.func7, Try.ntmps7
    go_wp2_with (first | (go_at_call 24; (refine (spec_weSide.calls a0 true _ HT.out).mono ?_); rintro e w4 ⟨rfl, hd⟩; have HB4 := am_ (below_of_drawn hd); clear hd) | (go_at_call 9; (refine (spec_MinusTable.calls k a0 m t2 _ HM.out).mono ?_); rintro e w5 ⟨v5, rfl, ho, hb⟩; have HB5 := am_ (below_step HB4.out hb); obtain ⟨A5, c5, e5⟩ := Kd.R_slice ho; subst e5; clear hb ho))
    go_loopg [6, 7] k (fun kq v6 v7 w' => ∃ (o : Tb_) (p : Int), v7 = .int .i64 p ∧ Aside0 (spec_JointTable.l0 kq a0 (m.length : Int) o p = some o1) ∧ Aside0 (kq ≤ k) ∧ Aside0 (Kd.S (Kd.slice 3 (Kd.int .i64)) 28 w' w.heap.size (fun _ => True) v6 o) ∧ Aside0 (Below w.heap.size w w'))
    case atStart => exact ⟨[], 0, rfl, HL0, ⟨Nat.le_refl _⟩, ⟨Kd.S_nil _ _ _ _ _⟩, HB5⟩
    case round =>
      clear HL0 HB5 HB4 HM HT
      obtain ⟨o, p, rfl, HE, HK1, HO, HB⟩ := hrel
      cases gk with
      | zero => exact absurd HE.out (by simp [spec_JointTable.l0])
      | succ k1 =>
        have H := HE.out
        clear HE
        simp only [spec_JointTable.l0] at H
        by_cases c1 : p ≤ wrap64 (Int.tdiv (wrap64 (a0 * wrap64 (a0 - 1))) 2)
        · rw [if_pos c1] at H
          have c1b := decide_eq_true c1
          by_cases c2 : 0 ≤ (m.length : Int)
          case neg => rw [if_neg c2] at H; exact absurd H (by simp)
          rw [if_pos c2] at H
          have c2p := eq_true c2
          have c2b := decide_eq_true c2
          by_cases c3 : (m.length : Int).toNat ≤ 35184372088832
          case neg => rw [if_neg c3] at H; exact absurd H (by simp)
          rw [if_pos c3] at H
          have C3 := am_ c3
          have C2 := am_ c2
          by_cases c4 : o.length < 5864062014805
          case neg => rw [if_neg c4] at H; exact absurd H (by simp)
          rw [if_pos c4] at H
          have C4 := am_ c4
          obtain ⟨Y, hY⟩ : ∃ Y : List Int, Y = List.replicate (m.length : Int).toNat 0 := ⟨_, rfl⟩
          rw [← hY] at H
          have NY := am_ hY
          have H' := am_ H
          clear H c1 c2 c3 c4 hY
          obtain ⟨Ao, co, eo⟩ := Kd.S_slice HO.out
          subst eo
          go_wp2_with (first | ((with_reducible refine gate_dst (N := 30) rfl ?_); refine Kd.R_make (Kd.int .i64) _ 3 rfl (N := 30) rfl 28 _ _ rfl (m.length : Int) rfl rfl Try.underlying28 (.int .i64 0) 8 info3 rfl (by decide) (by omega) 0 (ok := fun _ => True) (okp := fun _ => True) rfl (fun _ hk => hk) trivial C2.out (Nat.le_trans (Nat.mul_le_mul_right _ C3.out) (by omega)) (Below.refl _ _) (Nat.le_refl _) ?_; intro v30 w6 ho7 hb hg_ hnew_; clear hg_ hnew_; rw [← NY.out] at ho7; have HO3 := am_ (Kd.S_elder' HO.out (Kd.R_base ho7) hb); have HO4 := am_ (Kd.R_lower ho7 (below_size HB.out)); have HB6 := am_ (below_step HB.out hb); clear ho7 hb; obtain ⟨A9, c9, e9⟩ := Kd.R_slice HO4.out; subst e9) | ((with_reducible refine gate_builtin (b := .append) (xs := #[.tmp 27, .tmp 31]) rfl ?_); at_builtin; refine Kd.S_append (Kd.slice 3 (Kd.int .i64)) (w0 := w) w.heap.size rfl (.tmp 27) (.tmp 31) 25 28 (.slice none 0 0) 24 rfl Try.underlying25 info28 rfl (by decide) (by omega) (.slice Ao o.length co) o Y [.slice A9 Y.length c9] (fun _ => True) (fun k_ => some k_ = (.slice A9 Y.length c9 : Value).ownBlock) rfl rfl ?aP (fun k_ hk_ => ((Kd.R_mono (ok' := fun k_ => True ∧ some k_ ≠ (.slice Ao o.length co : Value).ownBlock) (Kd.R_apart' (HO4.out) (Kd.S_typed HO3.out) (by decide)) (fun k_ hk => ⟨trivial, hk.2⟩))).1 k_ hk_.symm) (fun _ _ => trivial) ?aO HB6.out (below_size HB6.out) (by have := C4.out; omega) ?_; (case aP => exact Kd.M_row (Kd.R_mono (Kd.R_tight rfl (Kd.R_mono (ok' := fun k_ => True ∧ some k_ ≠ (.slice Ao o.length co : Value).ownBlock) (Kd.R_apart' (HO4.out) (Kd.S_typed HO3.out) (by decide)) (fun k_ hk => ⟨trivial, hk.2⟩))) (fun _ h_ => h_))); (case aO => exact Kd.S_mono HO3.out (fun k_ hk => ⟨trivial, fun e_ => hk.2 e_⟩)); intro v32 w8 ho hb hg hat; have HO8 := am_ ho; have HB8 := am_ hb; clear ho hb hg hat))
          go_roundg k1
          case measure => have := HK1.out; omega
          case rel => exact ⟨o ++ [Y], wrap64 (p + 1), rfl, H', ⟨by have := HK1.out; omega⟩, HO8, HB8⟩
        · rw [if_neg c1] at H
          have c1b := decide_eq_false c1
          obtain rfl := Option.some.inj H
          clear H c1
          obtain ⟨A6, c6, e6⟩ := Kd.S_slice HO.out
          subst e6
          obtain ⟨no, hno⟩ : ∃ no, o.length = no := ⟨_, rfl⟩
          have HNO := am_ hno
          rw [hno] at HO ⊢
          clear hno
          go_wp2_with (first | (go_at_call 25; (refine (spec_weAll.calls k a0 al _ HAL.out).mono ?_); rintro e w10 ⟨v10, rfl, hn10, hb10⟩; obtain ⟨A10, c10, e10⟩ := Kd.N_slice hn10; subst e10; have HN10 := am_ (ObN.new_ hn10 HB.out); have HO10 := am_ (Kd.S_below (Kd.S_mono (Kd.S_bound HO.out) (ok' := fun k_ => w.heap.size ≤ k_ ∧ k_ < wr.heap.size) (fun k_ hk => ⟨hk.2.1, hk.2.2.1⟩)) hb10); have HB10 := am_ (And.intro (below_step HB.out hb10) (And.intro (below_size HB.out) (below_size hb10))); clear hn10 hb10))
          obtain ⟨N, eN⟩ : ∃ N, wr.heap.size = N := ⟨_, rfl⟩
          obtain ⟨M, eM⟩ : ∃ M, w10.heap.size = M := ⟨_, rfl⟩
          have HM10 := am_ (Nat.le_of_eq eM.symm)
          rw [eN] at HN10 HO10 HB10
          rw [eM] at HN10
          clear eN eM
          go_loopg [36] k (fun kq v36 w' => ∃ (i : Int) (o : Tb_), v36 = .int .i64 i ∧ Aside0 (spec_JointTable.l1 kq al o i = some r) ∧ Aside0 (kq ≤ k) ∧ Aside0 (Kd.S (Kd.slice 3 (Kd.int .i64)) 28 w' w.heap.size (fun k_ => w.heap.size ≤ k_ ∧ k_ < N) (.slice A6 no c6) o) ∧ Aside0 (ObN (Kd.slice 28 (Kd.slice 3 (Kd.int .i64))) 25 w w' N M (.slice A10 al.length c10) al) ∧ Aside0 (Below w.heap.size w w' ∧ w.heap.size ≤ N ∧ N ≤ w'.heap.size))
          case atStart => exact ⟨0, o, rfl, HL1, ⟨Nat.le_refl _⟩, HO10, HN10, HB10⟩
          case round =>
            clear HL1 HO HB HO10 HN10 HB10 HM10 HNO HAL
            obtain ⟨i, o, rfl, HE, HK2, HO, HN, HB⟩ := hrel
            have HNO := am_ (Kd.S_reads' HO.out).1
            cases gk with
            | zero => exact absurd HE.out (by simp [spec_JointTable.l1])
            | succ k1 =>
              have H := HE.out
              clear HE
              simp only [spec_JointTable.l1] at H
              by_cases c7 : i < (al.length : Int)
              · rw [if_pos c7] at H
                have c7b := decide_eq_true c7
                have c7p := eq_true c7
                by_cases c8 : 0 ≤ i
                case neg => rw [if_neg c8] at H; exact absurd H (by simp)
                rw [if_pos c8] at H
                have c8b := decide_eq_true c8
                have c8p := eq_true c8
                obtain ⟨x, hx_, H⟩ := Option.bind_eq_some_iff.mp H
                obtain ⟨y, hy_, H⟩ := Option.bind_eq_some_iff.mp H
                obtain ⟨o', ho', H⟩ := Option.bind_eq_some_iff.mp H
                have HI := am_ hx_
                have HJ := am_ hy_
                have H' := am_ H
                clear H hx_ hy_
                have p0 : 0 ≤ x := Decidable.byContradiction fun c => by unfold spec_JointTable.cnt at ho'; rw [if_neg c] at ho'; cases ho'
                have p1 : x < (o.length : Int) := Decidable.byContradiction fun c => by unfold spec_JointTable.cnt at ho'; rw [if_pos p0, if_neg c] at ho'; cases ho'
                have p2 : 0 ≤ y := Decidable.byContradiction fun c => by unfold spec_JointTable.cnt at ho'; rw [if_pos p0, if_pos p1, if_neg c] at ho'; cases ho'
                have p3 : y < ((rd_L3 o x).length : Int) := Decidable.byContradiction fun c => by unfold spec_JointTable.cnt at ho'; rw [if_pos p0, if_pos p1, if_pos p2, if_neg c] at ho'; cases ho'
                unfold spec_JointTable.cnt at ho'
                rw [if_pos p0, if_pos p1, if_pos p2, if_pos p3] at ho'
                obtain rfl := Option.some.inj ho'
                clear ho'
                rw [← HNO.out] at p1
                obtain ⟨g6, cap6, e6_, _⟩ := Kd.S_form HO.out (by have := HNO.out; omega)
                injection e6_ with e6a e6b e6c
                subst e6a
                clear e6b e6c
                obtain ⟨adL, AL, cL, eL, hxL, hlL, hiL⟩ := at_L4 (Kd.N_reads' HN.out.2).2.2 i c8 c7
                cases eL
                have HCL := am_ hlL
                have HRL0 := am_ hiL
                clear hlL hiL c7 c8
                go_wp2_with fail
                have HOW := am_ (Kd.S_drew HO.out)
                have HBW := am_ (below_drew1 HB.out.1)
                have HNW := am_ (HN.out.later (below_drew1 (Below.refl _ _)))
                have HRL := am_ (Kd.C_drew HRL0.out)
                obtain ⟨Aw, cw, hx, hall⟩ := S_cell2k HOW.out x p0 p1
                obtain ⟨aw, eaw, hy, _, _, _, _⟩ := hall y p2 p3
                subst eaw
                rw [show o.getD x.toNat [] = rd_L3 o x from rfl] at hx hy
                rw [Addr.add_lit, Nat.zero_add] at hx
                clear hall HRL0
                have q0 := eq_true p0
                have q1 := eq_true p1
                have q2 := eq_true p2
                have q3 := eq_true p3
                refine start_ (n := 12) (S := fun w' => w'.cell? ⟨g6, x.toNat, none⟩ = some (.slice (some aw) (rd_L3 o x).length cw) ∧ w'.cell? (aw.add y.toNat) = some (.int .i64 (rd (rd_L3 o x) y))) (ds := [11]) #[F_, F_, F_, F_, F_, F_, F_, F_, F_, F_, F_, F_] (by kernel_rfl) rfl rfl ⟨hx, hy⟩ (fun hHeld => ?_)
                have HWS : Aside0 (wr.heap.size ≤ (World.drew wr).heap.size) := ⟨Nat.le_refl _⟩
                generalize hW_ : World.drew _ = W at HOW HBW HNW HRL hx hy hHeld HWS ⊢
                clear hW_
                refine pure_ (i := 0) (N := some 40) #[T_, F_, F_, F_, F_, F_, F_, F_, F_, F_, F_, F_] rfl rfl ak_ hq_ yi_ nm_ ?_
                refine pure_ (i := 1) (N := some 41) #[T_, T_, F_, F_, F_, F_, F_, F_, F_, F_, F_, F_] rfl rfl ak_ hq_ yi_ nm_ ?_
                refine pure_ (i := 5) (N := some 45) #[T_, T_, F_, F_, F_, T_, F_, F_, F_, F_, F_, F_] rfl rfl ak_ hq_ yi_ nm_ ?_
                refine one_ (i := 2) (N := some 42) #[T_, T_, T_, F_, F_, T_, F_, F_, F_, F_, F_, F_] rfl rfl (by kernel_rfl) (by decide) (fun K hK => ?_)
                refine goes_ Try.func26 (by kernel_rfl) rfl #[.slice AL (rd_L4 al i).length cL] (by rfl) rfl rfl tc30_ ?_
                refine (spec_weInversions.calls k1 AL cL (rd_L4 al i) x W HRL.out HCL.out HI.out).mono ?_
                rintro e w7 ⟨rfl, hd_⟩
                refine ⟨_, rfl, ?_⟩
                have HB_w7 := am_ (hd_)
                clear hd_
                refine hK.out _ _ ⟨cell_of_below HB_w7.out hx, cell_of_below HB_w7.out hy⟩ (fun hHeld => ?_)
                clear hK K
                refine norm_ (a' := ?_) ?_ ?_
                rotate_left
                · show Act.put _ (some 42) _ = _
                  simp only [Act.put, List.setIfInBounds_toArray, List.set_cons_zero, List.set_cons_succ, i64_w, i32_w]
                  rfl
                refine pure_ (i := 3) (N := some 43) #[T_, T_, T_, T_, F_, T_, F_, F_, F_, F_, F_, F_] rfl rfl ak_ hq_ yi_ nm_ ?_
                refine take_ (i := 4) (N := some 44) #[T_, T_, T_, T_, T_, T_, F_, F_, F_, F_, F_, F_] rfl rfl ak_ hq_ yj2_ hHeld nm_ ?_
                refine one_ (i := 6) (N := some 46) #[T_, T_, T_, T_, T_, T_, T_, F_, F_, F_, F_, F_] rfl rfl (by kernel_rfl) (by decide) (fun K hK => ?_)
                refine goes_ Try.func27 (by kernel_rfl) rfl #[.slice AL (rd_L4 al i).length cL] (by rfl) rfl rfl tc30_ ?_
                refine (spec_sgMinus.calls k1 AL cL (rd_L4 al i) y w7 (Kd.C_below HRL.out HB_w7.out) HCL.out HJ.out).mono ?_
                rintro e w8 ⟨rfl, hd_⟩
                refine ⟨_, rfl, ?_⟩
                have HB_w8 := am_ (below_of_drawn hd_)
                clear hd_
                refine hK.out _ _ ⟨cell_of_below HB_w8.out (cell_of_below HB_w7.out hx), cell_of_below HB_w8.out (cell_of_below HB_w7.out hy)⟩ (fun hHeld => ?_)
                clear hK K
                refine norm_ (a' := ?_) ?_ ?_
                rotate_left
                · show Act.put _ (some 46) _ = _
                  simp only [Act.put, List.setIfInBounds_toArray, List.set_cons_zero, List.set_cons_succ, i64_w, i32_w]
                  rfl
                refine pure_ (i := 7) (N := some 47) #[T_, T_, T_, T_, T_, T_, T_, T_, F_, F_, F_, F_] rfl rfl ak_ hq_ yi_ nm_ ?_
                refine take_ (i := 8) (N := some 48) #[T_, T_, T_, T_, T_, T_, T_, T_, T_, F_, F_, F_] rfl rfl ak_ hq_ yj2_ hHeld nm_ ?_
                refine pure_ (i := 9) (N := some 49) #[T_, T_, T_, T_, T_, T_, T_, T_, T_, T_, F_, F_] rfl rfl ak_ hq_ yi_ nm_ ?_
                refine pure_ (i := 10) (N := some 50) #[T_, T_, T_, T_, T_, T_, T_, T_, T_, T_, T_, F_] rfl rfl ak_ hq_ yi_ nm_ ?_
                refine last_ (i := 11) (N := none) #[T_, T_, T_, T_, T_, T_, T_, T_, T_, T_, T_, T_] rfl rfl (by kernel_rfl) (by decide) (fun K hK => ?_)
                have hx8 := (cell_of_below HB_w8.out (cell_of_below HB_w7.out hx))
                have HO8 := am_ (Kd.S_below (Kd.S_below HOW.out HB_w7.out) HB_w8.out)
                obtain ⟨Aw8, cw8, hx9, hall8⟩ := S_cell2k HO8.out x p0 p1
                rw [Addr.add_lit, Nat.zero_add] at hx9
                obtain ⟨ea8, _⟩ := Value.slice.inj (Option.some.inj (hx9.symm.trans hx8))
                subst ea8
                obtain ⟨aw9, eaw9, hy9, hfz9, hgw9, hok9, hback9⟩ := hall8 y p2 p3
                obtain rfl := Option.some.inj eaw9
                clear eaw9 hall8
                have HBK := am_ (hback9 (wrap64 (rd (rd_L3 o x) y + 1)))
                have HOK := am_ hok9
                have HGW := am_ hgw9
                clear hback9 hok9 hgw9 hx9
                refine skip_ (w1 := ?_) (by rfl) rfl ?_ ?_
                rotate_left
                · go_simp
                  rfl
                refine hK.out _ _ ?_
                clear hK K
                refine done_ (by kernel_rfl) ?_
                have HB8 := am_ (below_step (below_step HBW.out HB_w7.out) HB_w8.out)
                have HNN := am_ (Nat.le_trans HB.out.2.2 (Nat.le_trans (show wr.heap.size ≤ W.heap.size from HWS.out) (Nat.le_trans (below_size HB_w7.out) (below_size HB_w8.out))))
                have HN8 := am_ (((HNW.out.later HB_w7.out).later HB_w8.out).kept_ (lo' := 0) (hi' := N) ((Kept.refl w8 _).setCell (p := aw.add y.toNat) (.inl ⟨Nat.zero_le _, HOK.out.2⟩) (.int .i64 (wrap64 (rd (rd_L3 o x) y + 1)))) (.inr (Nat.le_refl _)))
                go_wp2
                go_roundg k1
                case measure => have := HK2.out; omega
                case rel =>
                  refine ⟨wrap64 (i + 1), _, rfl, H', ⟨by have := HK2.out; omega⟩, HBK, HN8, ⟨HB8.out.setCell HGW.out _, HB.out.2.1, ?_⟩⟩
                  exact Nat.le_trans HNN.out ((Below.refl 0 w8).setCell (Nat.zero_le _) _).size
              · rw [if_neg c7] at H
                have c7b := decide_eq_false c7
                obtain rfl := Option.some.inj H
                clear H c7
                go_wp2
                go_ret2
                exact ⟨_, rfl, Kd.S_mono HO.out (fun _ _ => trivial), HB.out.1⟩

/-! ### impl_InversionTable: function 10 -/
def impl_InversionTable.f (k : Nat) (a0 : Int) : Option (List Int × Bool) := (impl_isWeighted.f a0).bind fun t101 => (if t101 = true then ((impl_tally.f k a0 (wrap64 ((wrap64 (Int.tdiv (wrap64 (a0 * (wrap64 (a0 - 1)))) 2)) + 1)) (fun x0_ => impl_inversions.f k x0_)).bind fun t102 => (some (t102, true))) else (some (([] : List Int), false)))
theorem impl_InversionTable.calls (k : Nat) (a0 : Int) (r1 : List Int) (r2 : Bool) (w : World) (h : impl_InversionTable.f k a0 = some (r1, r2)) :
  Calls Try.prog 10 #[.int .i64 a0] w fun e w' => ∃ v0_ : Value, e = .returned (.tuple #[v0_, .bool r2]) ∧ Kd.R (Kd.int .i64) 3 w' w.heap.size (fun _ => True) v0_ r1 ∧ Below w.heap.size w w' := by
 have HB := am_ (Below.refl w.heap.size w); (try unfold impl_InversionTable.f at h); have H := h; clear h; replace H := bd_ H; obtain ⟨t101, A2, H⟩ := H; (try dsimp only at H)
 by_cases c3 : t101 = true
 ·subst c3; have H1 : ((impl_tally.f k a0 (wrap64 ((wrap64 (Int.tdiv (wrap64 (a0 * (wrap64 (a0 - 1)))) 2)) + 1)) (fun x0_ => impl_inversions.f k x0_)).bind fun t102 => (some (t102, true))) = some (r1, r2) := tc33_; clear H; have H := H1; clear H1; replace H := bd_ H; obtain ⟨t102, A4, H⟩ := H; (try dsimp only at H); simp only [Option.some.injEq, Prod.mk.injEq] at H; obtain ⟨rfl, rfl⟩ := H; go_enter Try.func10, Try.ntmps10
  go_wp2_with (first | (refine gc_ (some 5) Try.func28 #[.int .i64 a0] ?_; (with_reducible refine (impl_isWeighted.calls a0 true _ A2.out).mono ?_); rintro e w' ⟨rfl, ⟨nd, rfl⟩⟩; refine ⟨_, rfl, ?_⟩) | (refine gc_ (some 14) Try.func29 #[.int .i64 a0, .int .i64 (wrap64 ((wrap64 (Int.tdiv (wrap64 (a0 * (wrap64 (a0 - 1)))) 2)) + 1)), .func (.func 22) #[] #[]] ?_; (with_reducible refine (impl_tally.calls k a0 (wrap64 ((wrap64 (Int.tdiv (wrap64 (a0 * (wrap64 (a0 - 1)))) 2)) + 1)) _ _ (fun x0_ => impl_inversions.f k x0_) t102 _ ?side1 A4.out).mono ?_); (case side1 => refine ⟨enters_of Try.func22 (by kernel_rfl) rfl, fun W_ hW_ x0_ v0_ hK0_ r_ hr_ => ?_⟩; obtain ⟨A0_, c0_, e0_, hl0_, hC0_⟩ := hK0_; cases e0_; refine (impl_inversions.calls k A0_ c0_ x0_ r_ W_ hC0_ hl0_ hr_).mono ?_; exact fun _ _ h_ => ⟨h_.1, h_.2.below⟩); rintro e w5 ⟨v103, rfl, ho0, hb⟩; refine ⟨_, rfl, ?_⟩; have HO104 := am_ (Kd.R_lower ho0 (below_size tc0_)); replace HB := am_ (below_step tc0_ hb); (try clear hb ho0)))
  go_ret2
  exact ⟨_, tc6_, (by (with_reducible repeat (first | apply Kd.R_alloc | apply Kd.R_drewN | apply Kd.R_drew)); exact HO104.out), tc0_⟩
 ·replace c3 := Bool.eq_false_iff.mpr c3; subst c3; have H1 : (some (([] : List Int), false)) = some (r1, r2) := tc16_; clear H; have H := H1; clear H1; simp only [Option.some.injEq, Prod.mk.injEq] at H; obtain ⟨rfl, rfl⟩ := H; go_enter Try.func10, Try.ntmps10
  go_wp2_with (first | (refine gc_ (some 5) Try.func28 #[.int .i64 a0] ?_; (with_reducible refine (impl_isWeighted.calls a0 false _ A2.out).mono ?_); rintro e w' ⟨rfl, ⟨nd, rfl⟩⟩; refine ⟨_, rfl, ?_⟩))
  go_ret2
  exact ⟨_, tc6_, tc21_, tc0_⟩

/-! ### spec_InversionTable: function 11 -/
def spec_InversionTable.l0 : Nat → List Int → List Tb_ → Int → Int → Option (List Int × Bool)
 | 0, _, _, _, _ => none
 | k + 1, x4, x11, x12, x13 => if x13 < x12 then (if 0 ≤ x13 then (if x13 < (x11.length : Int) then ((spec_weInversions.f k (rd_L4 x11 x13)).bind fun t106 => ((spec_weAdd.f k x4 t106).bind fun t107 => (spec_InversionTable.l0 k t107 x11 x12 (wrap64 (x13 + 1))))) else (none)) else (none)) else (some (x4, true))
def spec_InversionTable.f (k : Nat) (a0 : Int) : Option (List Int × Bool) := (spec_weSide.f a0).bind fun t101 => (if t101 = true then ((spec_weAll.f k a0).bind fun t102 => (spec_InversionTable.l0 k ([] : List Int) t102 (t102.length : Int) 0)) else (some (([] : List Int), false)))
theorem spec_InversionTable.calls (k : Nat) (a0 : Int) (r1 : List Int) (r2 : Bool) (w : World) (h : spec_InversionTable.f k a0 = some (r1, r2)) :
  Calls Try.prog 11 #[.int .i64 a0] w fun e w' => ∃ v0_ : Value, e = .returned (.tuple #[v0_, .bool r2]) ∧ Kd.R (Kd.int .i64) 3 w' w.heap.size (fun _ => True) v0_ r1 ∧ Below w.heap.size w w' := by
 have HB := am_ (Below.refl w.heap.size w); (try unfold spec_InversionTable.f at h); have H := h; clear h; replace H := bd_ H; obtain ⟨t101, A2, H⟩ := H; (try dsimp only at H)
 by_cases c3 : t101 = true
 ·subst c3; have H1 : ((spec_weAll.f k a0).bind fun t102 => (spec_InversionTable.l0 k ([] : List Int) t102 (t102.length : Int) 0)) = some (r1, r2) := tc33_; clear H; have H := H1; clear H1; replace H := bd_ H; obtain ⟨t102, A4, H⟩ := H; (try dsimp only at H); have H' := am_ H; clear H; go_enter Try.func11, Try.ntmps11
  go_wp2_with (first | (refine gc_ (some 8) Try.func24 #[.int .i64 a0] ?_; (with_reducible refine (spec_weSide.calls a0 true _ A2.out).mono ?_); rintro e w' ⟨rfl, ⟨nd, rfl⟩⟩; refine ⟨_, rfl, ?_⟩) | (refine gc_ (some 11) Try.func25 #[.int .i64 a0] ?_; (with_reducible refine (spec_weAll.calls k a0 t102 _ A4.out).mono ?_); rintro e w5 ⟨v103, rfl, ho0, hb⟩; refine ⟨_, rfl, ?_⟩; have HO104 := am_ (Kd.N_lower (Kd.N_mono (ok' := fun k_ => True) ho0 (fun k_ hk_ => trivial)) (below_size tc0_)); replace HB := am_ (below_step tc0_ hb); (try clear hb ho0); obtain ⟨Ao6, co6, eo6⟩ := Kd.N_slice HO104.out; subst eo6))
  go_loopg [4, 13] k (fun kq v4 v13 w' => ∃ (x4_1 : List Int) (x13_1 : Int), v13 = .int .i64 x13_1 ∧ Aside0 (spec_InversionTable.l0 kq x4_1 t102 (t102.length : Int) x13_1 = some (r1, r2)) ∧ Aside0 (kq ≤ k) ∧ Aside0 (Kd.R (Kd.int .i64) 3 w' w.heap.size (fun _ => True) v4 x4_1) ∧ Aside0 (Kd.N (Kd.slice 28 (Kd.slice 3 (Kd.int .i64))) 25 w' w.heap.size (fun k_ => some k_ ≠ (v4 : Value).ownBlock) (.slice Ao6 t102.length co6) t102) ∧ Aside0 (Below w.heap.size w w'))
  case atStart => exact ⟨(([] : List Int)), (0), tc3_, H', ⟨Nat.le_refl _⟩, ⟨tc21_⟩, ⟨tc63_⟩, ⟨tc0_⟩⟩
  case round =>
   clear H'; (try clear c1); (try clear c2); (try clear p2); (try clear c3); obtain ⟨x4_1, x13_1, rfl, HA, HK1, HO_4, HO_11, HB⟩ := hrel
   cases gk with
   | zero => exact absurd HA.out (by simp [spec_InversionTable.l0])
   | succ k1 =>
    have H := HA.out; clear HA; simp only [spec_InversionTable.l0] at H
    replace H := sp_ H; obtain ⟨c7b0, H⟩ | ⟨c7b0, H⟩ := H
    ·replace H := ps_ H; obtain ⟨c8b0, H⟩ := H; replace H := ps_ H; obtain ⟨c9b0, H⟩ := H; replace H := bd_ H; obtain ⟨t106, A10, H⟩ := H; (try dsimp only at H); replace H := bd_ H; obtain ⟨t107, A11, H⟩ := H; (try dsimp only at H); have H' := am_ H; clear H; have p105 : 0 ≤ (x13_1 : Int) := od_; have q105 : x13_1 < (t102.length : Int) := od_; obtain ⟨ad105, A105_0, c105_0, e105, hx105_0, hl105_0, hi105_0⟩ := at_L4 (Kd.N_reads' HO_11.out).2.2 x13_1 p105 q105; cases e105; obtain ⟨ce105, hce105, hMe105, hcc105⟩ := Kd.N_get HO_11.out [] x13_1 p105 tc64_; obtain ⟨ua105_0, uc105_0, rfl, ul105_0, ge105_0⟩ := Kd.FK_slice_open hMe105; have hv105_0 := hcc105 0 _ rfl; rw [Nat.add_zero, show ((Kd.slice 28 (Kd.slice 3 (Kd.int .i64)))).sz = 1 from rfl, Nat.mul_one] at hv105_0; replace hv105_0 := Option.some.inj (hv105_0.symm.trans hx105_0)
     injection hv105_0 with hva_ hvn_ hvc_
     rw [hva_] at ge105_0; rw [hvc_] at ul105_0; have HL105_0 := am_ (show Kd.V (Kd.slice 3 (Kd.int .i64)) 28 _ w.heap.size _ _ (rd_L4 t102 x13_1) from Kd.V_mk ul105_0 ge105_0); clear hva_ hvn_ hvc_ ge105_0 ul105_0; clear hcc105 hce105; have HR105_0 := am_ hi105_0; have HC105_0 := am_ hl105_0; clear hi105_0 hl105_0; replace p105 := eq_true p105; replace q105 := eq_true q105
     go_wp2_with (first | (refine gc_ (some 19) Try.func26 #[.slice A105_0 (rd_L4 t102 x13_1).length c105_0] ?_; (with_reducible refine (spec_weInversions.calls k1 _ _ (rd_L4 t102 x13_1) t106 _ ?side1 ?side2 A10.out).mono ?_); (case side1 => repeat (first | exact tc22_ | (with_reducible refine Kd.C_alloc ?_ _) | (with_reducible refine Kd.C_drewN ?_ _) | (with_reducible refine Kd.C_drew ?_))); (case side2 => exact HC105_0.out); rintro e w12 ⟨rfl, hb⟩; refine ⟨_, rfl, ?_⟩; replace HO_4 := am_ (Kd.R_below tc12_ hb); replace HO_11 := am_ (Kd.N_below tc59_ hb); replace HL105_0 := am_ (Kd.V_below tc57_ hb); replace HR105_0 := am_ (Kd.C_below tc22_ hb); replace HB := am_ (below_step tc0_ hb); (try clear hb); obtain ⟨Ao13, co13, eo13⟩ := Kd.R_slice HO_4.out; subst eo13) | (refine gc_ (some 20) Try.func30 #[.slice Ao13 x4_1.length co13, .int .i64 t106] ?_; (with_reducible refine (spec_weAdd.calls k1 _ _ x4_1 t106 t107 _ ?side1 ?side2 A11.out).mono ?_); (case side1 => repeat (first | exact (Kd.R_reads' HO_4.out).2.2 | (with_reducible refine Kd.C_alloc ?_ _) | (with_reducible refine Kd.C_drewN ?_ _) | (with_reducible refine Kd.C_drew ?_))); (case side2 => exact (Kd.R_reads' HO_4.out).2.1); rintro e w14 ⟨v108, rfl, ho0, hb⟩; refine ⟨_, rfl, ?_⟩; replace HO_11 := am_ (Kd.N_elder' tc59_ (Kd.R_base ho0) hb); replace HL105_0 := am_ (Kd.V_elder' tc57_ (Kd.R_base ho0) hb); have HO109 := am_ (Kd.R_lower (Kd.R_new' ho0 (Kd.R_lt tc12_)) (below_size tc0_)); replace HO_4 := am_ (Kd.R_elder' tc12_ (Kd.R_base ho0) hb); replace HR105_0 := am_ (Kd.C_below tc22_ hb); replace HB := am_ (below_step tc0_ hb); (try clear hb ho0)))
     go_roundg k1
     case measure => have := HK1.out; omega
     case rel => exact ⟨(t107), (wrap64 (x13_1 + 1)), tc3_, H', ⟨tc56_⟩, ⟨tc65_⟩, ⟨tc66_⟩, ⟨tc0_⟩⟩
    ·simp only [Option.some.injEq, Prod.mk.injEq] at H; obtain ⟨rfl, rfl⟩ := H; go_wp2
     go_ret2
     exact ⟨_, tc6_, tc12_, tc0_⟩
 ·replace c3 := Bool.eq_false_iff.mpr c3; subst c3; have H1 : (some (([] : List Int), false)) = some (r1, r2) := tc16_; clear H; have H := H1; clear H1; simp only [Option.some.injEq, Prod.mk.injEq] at H; obtain ⟨rfl, rfl⟩ := H; go_enter Try.func11, Try.ntmps11
  go_wp2_with (first | (refine gc_ (some 8) Try.func24 #[.int .i64 a0] ?_; (with_reducible refine (spec_weSide.calls a0 false _ A2.out).mono ?_); rintro e w' ⟨rfl, ⟨nd, rfl⟩⟩; refine ⟨_, rfl, ?_⟩))
  go_ret2
  exact ⟨_, tc6_, tc21_, tc0_⟩

/-! ### impl_product: function 44 -/
def impl_product.l0 : Nat → Int → Int → Int → Option (Int)
 | 0, _, _, _ => none
 | k + 1, x1, x5, x6 => if x6 ≤ x1 then (impl_product.l0 k x1 (wrap64 (x5 * x6)) (wrap64 (x6 + 1))) else (some x5)
def impl_product.f (k : Nat) (a0 : Int) (a1 : Int) : Option (Int) := impl_product.l0 k a1 1 a0
theorem impl_product.calls (k : Nat) (a0 : Int) (a1 : Int) (r : Int) (w : World) (h : impl_product.f k a0 a1 = some r) :
  Calls Try.prog 44 #[.int .i64 a0, .int .i64 a1] w fun e w' => e = .returned (.int .i64 r) ∧ Drawn0 w w' := by
 (try unfold impl_product.f at h); have H := h; clear h; have H' := am_ H; clear H; go_enter Try.func44, Try.ntmps44; go_wp2
 go_loopg [5, 6] k (fun kq v5 v6 w' => ∃ (x5_1 : Int) (x6_1 : Int), v5 = .int .i64 x5_1 ∧ v6 = .int .i64 x6_1 ∧ Aside0 (impl_product.l0 kq a1 x5_1 x6_1 = some r) ∧ Aside0 (kq ≤ k) ∧ Drawn0 w w')
 case atStart => exact ⟨(1), (a0), tc3_, tc3_, H', ⟨Nat.le_refl _⟩, tc4_⟩
 case round =>
  clear H'; (try clear p2); obtain ⟨x5_1, x6_1, rfl, rfl, HA, HK1, ⟨m1, rfl⟩⟩ := hrel
  cases gk with
  | zero => exact absurd HA.out (by simp [impl_product.l0])
  | succ k1 =>
   have H := HA.out; clear HA; simp only [impl_product.l0] at H
   replace H := sp_ H; obtain ⟨c3b0, H⟩ | ⟨c3b0, H⟩ := H
   ·have H' := am_ H; clear H; go_wp2
    go_roundg k1
    case measure => have := HK1.out; omega
    case rel => exact ⟨(wrap64 (x5_1 * x6_1)), (wrap64 (x6_1 + 1)), tc3_, tc3_, H', ⟨tc56_⟩, tc4_⟩
   ·obtain rfl := Option.some.inj H; go_wp2
    go_ret
    exact ⟨tc3_, tc4_⟩

end Go.Proofs.Ytbdkfmpfghcilaa.X
