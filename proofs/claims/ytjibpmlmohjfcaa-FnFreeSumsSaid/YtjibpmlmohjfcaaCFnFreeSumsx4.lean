-- Written by a program of this session (wip/xprint.py) that drives the kit's print; the contracts of what it does not take are this session's own.
import Derived.Test.YtjibpmlmohjfcaaCFnFreeSumsx0
import Derived.Test.YtjibpmlmohjfcaaCFnFreeSumsx1
import Derived.Test.YtjibpmlmohjfcaaCFnFreeSumsx2
import Derived.Test.YtjibpmlmohjfcaaCFnFreeSumsx3
namespace Go.Proofs.Ytjibpmlmohjfcaa.X
open Go.RowKit Go.Proofs.YtjibpmlmohjfcaaW.PrintWords Go.Proofs.YtjibpmlmohjfcaaW.PrintLast Go.Proofs.YtjibpmlmohjfcaaW.PrintMore
attribute [local go_sem] max2_int min2_int max_two min_two max_three min_three max_four min_four   -- for this text's walks alone
set_option linter.unusedVariables false
set_option linter.unusedSimpArgs false

/-! ### impl_kindCounts: function 112 -/
mutual
def impl_kindCounts.l0 : Nat → List Int → List (List Int) → Int → Int → Option (List Int)
 | 0, _, _, _, _ => none
 | k + 1, x3, x10, x11, x12 => if x12 < x11 then (if 0 ≤ x12 then (if x12 < (x10.length : Int) then (impl_kindCounts.l1 k x3 x10 x11 x12 (rd_L3 x10 x12) ((rd_L3 x10 x12).length : Int) 0) else (none)) else (none)) else (some x3)
def impl_kindCounts.l1 : Nat → List Int → List (List Int) → Int → Int → List Int → Int → Int → Option (List Int)
 | 0, _, _, _, _, _, _, _ => none
 | k + 1, x3, x10, x11, x12, x16, x17, x18 => if x18 < x17 then (if 0 ≤ x18 then (if x18 < (x16.length : Int) then (if 0 ≤ (rd x16 x18) then (if (rd x16 x18) < (x3.length : Int) then (impl_kindCounts.l1 k (x3.set ((rd x16 x18) : Int).toNat (wrap64 ((rd x3 (rd x16 x18)) + 1))) x10 x11 x12 x16 x17 (wrap64 (x18 + 1))) else (none)) else (none)) else (none)) else (none)) else (impl_kindCounts.l0 k x3 x10 x11 (wrap64 (x12 + 1)))
end
def impl_kindCounts.f (k : Nat) (l0 : List (List Int)) : Option (List Int) := if 6 ≤ 35184372088832 then ((impl_kinds.f k l0).bind fun t104 => (impl_kindCounts.l0 k (List.replicate 6 0) t104 (t104.length : Int) 0)) else (none)
theorem impl_kindCounts.mono_l : ∀ k, (∀ y0 y1 y2 y3, LeO (impl_kindCounts.l0 k y0 y1 y2 y3) (impl_kindCounts.l0 (k + 1) y0 y1 y2 y3)) ∧ (∀ y0 y1 y2 y3 y4 y5 y6, LeO (impl_kindCounts.l1 k y0 y1 y2 y3 y4 y5 y6) (impl_kindCounts.l1 (k + 1) y0 y1 y2 y3 y4 y5 y6))
 | 0 => ⟨fun _ _ _ _ r h => by simp [impl_kindCounts.l0] at h, fun _ _ _ _ _ _ _ r h => by simp [impl_kindCounts.l1] at h⟩
 | k + 1 => by
  obtain ⟨ih0, ih1⟩ := impl_kindCounts.mono_l k
  refine ⟨?_, ?_⟩
  ·intro y0 y1 y2 y3
   unfold impl_kindCounts.l0
   repeat' first
   | (with_reducible exact ih0 _ _ _ _)
   | (with_reducible exact ih1 _ _ _ _ _ _ _)
   | (with_reducible exact impl_kinds.mono _ _)
   | (with_reducible exact LeO.refl _)
   | (with_reducible exact LeO.none _)
   | (with_reducible refine LeO.ite ?_ ?_)
   | (with_reducible refine LeO.bind ?_ (fun _ => ?_))
   | exact ih0 _ _ _ _
   | exact ih1 _ _ _ _ _ _ _
   | exact impl_kinds.mono _ _
   | exact LeO.none _
   | refine LeO.ite ?_ ?_
   | refine LeO.bind ?_ (fun _ => ?_)
  ·intro y0 y1 y2 y3 y4 y5 y6
   unfold impl_kindCounts.l1
   repeat' first
   | (with_reducible exact ih0 _ _ _ _)
   | (with_reducible exact ih1 _ _ _ _ _ _ _)
   | (with_reducible exact impl_kinds.mono _ _)
   | (with_reducible exact LeO.refl _)
   | (with_reducible exact LeO.none _)
   | (with_reducible refine LeO.ite ?_ ?_)
   | (with_reducible refine LeO.bind ?_ (fun _ => ?_))
   | exact ih0 _ _ _ _
   | exact ih1 _ _ _ _ _ _ _
   | exact impl_kinds.mono _ _
   | exact LeO.none _
   | refine LeO.ite ?_ ?_
   | refine LeO.bind ?_ (fun _ => ?_)
theorem impl_kindCounts.mono : ∀ a0  k, LeO (impl_kindCounts.f k a0) (impl_kindCounts.f (k + 1) a0) := by
 intro a0 k
 obtain ⟨ih0, ih1⟩ := impl_kindCounts.mono_l k
 unfold impl_kindCounts.f
 repeat' first
   | (with_reducible exact ih0 _ _ _ _)
   | (with_reducible exact ih1 _ _ _ _ _ _ _)
   | (with_reducible exact impl_kinds.mono _ _)
   | (with_reducible exact LeO.refl _)
   | (with_reducible exact LeO.none _)
   | (with_reducible refine LeO.ite ?_ ?_)
   | (with_reducible refine LeO.bind ?_ (fun _ => ?_))
   | exact ih0 _ _ _ _
   | exact ih1 _ _ _ _ _ _ _
   | exact impl_kinds.mono _ _
   | exact LeO.none _
   | refine LeO.ite ?_ ?_
   | refine LeO.bind ?_ (fun _ => ?_)
set_option maxHeartbeats 8000000 in
set_option maxRecDepth 100000 in
theorem impl_kindCounts.calls (k : Nat) (A0 : Option Addr) (c0 : Nat) (l0 : List (List Int)) (r : List Int) (w : World) (hr0 : Kd.C (Kd.slice 3 (Kd.int .i64)) w A0 l0.length l0) (hc0 : l0.length ≤ c0) (h : impl_kindCounts.f k l0 = some r) :
  Calls Try.prog 112 #[.slice A0 l0.length c0] w fun e w' => ∃ v0_ : Value, e = .returned (v0_) ∧ Kd.R (Kd.int .i64) 3 w' w.heap.size (fun _ => True) v0_ r ∧ Below w.heap.size w w' := by
 have HR0 := Aside0.mk hr0
 have HC0 := Aside0.mk hc0
 clear hr0 hc0
 have HB := Aside0.mk (Below.refl w.heap.size w)
 have H : (if 6 ≤ 35184372088832 then ((impl_kinds.f k l0).bind fun t104 => (impl_kindCounts.l0 k (List.replicate 6 0) t104 (t104.length : Int) 0)) else (none)) = some r := h
 clear h
 by_cases c2 : 6 ≤ 35184372088832
 ·rw [if_pos c2] at H
  have c2b0 := eq_true c2
  have c2b1 : decide (6 ≤ 35184372088832) = true := decide_eq_true c2
  clear c2
  obtain ⟨y101, hy101⟩ : ∃ y_ : List Int, y_ = (List.replicate 6 0) := ⟨_, rfl⟩
  replace H : ((impl_kinds.f k l0).bind fun t104 => (impl_kindCounts.l0 k y101 t104 (t104.length : Int) 0)) = some r := by first | (rw [hy101]; with_reducible exact H) | (have H2_ := (Option.bind_some _ _).symm.trans H; rw [hy101]; with_reducible exact H2_) | (have H2_ := (Option.bind_some _ _).symm.trans H; with_reducible exact H2_) | with_reducible exact H | (rw [hy101]; exact H) | exact H
  have Ny101 := Aside0.mk hy101
  clear hy101
  replace H := Option.bind_eq_some_iff.mp H
  obtain ⟨t104, A30, H⟩ := H
  replace H : (impl_kindCounts.l0 k y101 t104 (t104.length : Int) 0) = some r := H
  have A3 := Aside0.mk A30
  clear A30
  have H' := Aside0.mk H
  clear H
  go_enter Try.func112, Try.ntmps112
  go_wp2_with (first | ((with_reducible refine gate_dst (N := 8) rfl ?_); refine Kd.R_make (Kd.int .i64) _ 3 rfl (N := 8) rfl 40 _ _ rfl 6 rfl rfl Try.underlying40 (.int .i64 0) 8 info3 rfl (by decide) (by omega) 0 (ok := fun _ => True) (okp := fun _ => True) rfl (fun _ hk => hk) trivial (by omega) (by omega) (Below.refl _ _) (Nat.le_refl _) ?_; intro v102 w4 ho5 hb hg_ hnew_; clear hg_ hnew_; (first | rw [← Ny101.out] at ho5 | (simp only [Int.reduceToNat] at ho5; rw [← Ny101.out] at ho5)); have n0_ := Aside0.mk (Kd.R_lower ho5 (below_size tc0_)); have n1_ := Aside0.mk (below_step tc0_ hb); clear HB; have HO103 := n0_; have HB := n1_; clear n0_ n1_; clear hb ho5) | ((with_reducible refine gate_callee (f := 141) rfl ?_); refine goesL_ (some 10) rfl rfl Try.func141 (by kernel_rfl) rfl #[.slice A0 l0.length c0] rfl tc1_ ?_; (with_reducible refine (impl_kinds.calls k _ _ l0 t104 _ ?side1 ?side2 A3.out).mono ?_); (case side1 => repeat (first | exact (Kd.C_below HR0.out HB.out) | (with_reducible refine Kd.C_alloc ?_ _) | (with_reducible refine Kd.C_drewN ?_ _) | (with_reducible refine Kd.C_drew ?_))); (case side2 => exact HC0.out); rintro e w6 ⟨v105, rfl, ho0, hb⟩; refine ⟨_, rfl, ?_⟩; have n0_ := Aside0.mk (Kd.R_below tc19_ hb); have n1_ := Aside0.mk (Kd.S_lower (Kd.S_new' ho0 (Kd.R_lt tc19_)) (below_size tc0_)); have n2_ := Aside0.mk (below_step tc0_ hb); clear HO103; clear HB; have HO103 := n0_; have HO106 := n1_; have HB := n2_; clear n0_ n1_ n2_; (try clear hb); (try clear hb2); (try clear hk); (try clear hi); (try clear ho0); obtain ⟨Ao7, co7, eo7⟩ := Kd.S_slice HO106.out; subst eo7))
  go_loopg [12] k (fun kq v12 w' => ∃ (x3_1 : List Int) (x12_1 : Int), v12 = .int .i64 x12_1 ∧ Aside0 (impl_kindCounts.l0 kq x3_1 t104 (t104.length : Int) x12_1 = some r) ∧ Aside0 (kq ≤ k) ∧ Aside0 (Kd.R (Kd.int .i64) 3 w' w.heap.size (fun _ => True) v102 x3_1) ∧ Aside0 (Kd.S (Kd.slice 3 (Kd.int .i64)) 40 w' w.heap.size (fun k_ => some k_ ≠ (v102 : Value).ownBlock) (.slice Ao7 t104.length co7) t104) ∧ Aside0 (Below w.heap.size w w'))
  case atStart => exact ⟨(y101), (0), tc4_, H', ⟨Nat.le_refl _⟩, ⟨by (with_reducible repeat (first | apply Kd.R_alloc | apply Kd.R_drewN | apply Kd.R_drew)); exact HO103.out⟩, ⟨by (with_reducible repeat (first | apply Kd.S_alloc | apply Kd.S_drewN | apply Kd.S_drew)); exact Kd.S_mono HO106.out (fun _ hk => hk.2)⟩, ⟨by repeat (first | (with_reducible first | exact HB.out | apply below_alloc | apply pw_below_drewN | apply below_drew1) | exact HB.out)⟩⟩
  case round =>
   clear H'
   try clear c1
   try clear c2
   try clear c2b0
   try clear c2b1
   try clear p2
   obtain ⟨x3_1, x12_1, rfl, HA, HK1, HO_3, HO_10, HB⟩ := hrel
   cases gk with
   | zero => exact absurd HA.out (by simp [impl_kindCounts.l0])
   | succ k1 =>
    have H := HA.out
    clear HA
    simp only [impl_kindCounts.l0] at H
    by_cases c8 : x12_1 < (t104.length : Int)
    ·rw [if_pos c8] at H
     have c8b0 : decide (x12_1 < (t104.length : Int)) = true := decide_eq_true c8
     clear c8
     by_cases c9 : 0 ≤ x12_1
     ·rw [if_pos c9] at H
      have c9b0 : decide (0 ≤ x12_1) = true := decide_eq_true c9
      clear c9
      by_cases c10 : x12_1 < (t104.length : Int)
      ·rw [if_pos c10] at H
       have c10b0 : decide (x12_1 < (t104.length : Int)) = true := decide_eq_true c10
       clear c10
       have H' := Aside0.mk H
       clear H
       have p107 : 0 ≤ (x12_1 : Int) := of_decide_eq_true tc2_
       have q107 : x12_1 < (t104.length : Int) := of_decide_eq_true tc2_
       obtain ⟨ad107, A107_0, c107_0, e107, hx107_0, hl107_0, hi107_0⟩ := at_L3 (Kd.S_reads' HO_10.out).2.2 x12_1 p107 q107
       cases e107
       obtain ⟨ce107, hce107, hMe107, hcc107⟩ := Kd.S_get HO_10.out [] x12_1 p107 (by first | exact q107 | exact of_decide_eq_true tc2_ | (have e_ := (Kd.S_reads' HO_10.out).1; omega))
       obtain ⟨ve107_0, rfl, ge107_0⟩ := hMe107
       have hv107_0 := hcc107 0 _ rfl
       rw [Nat.add_zero, show ((Kd.slice 3 (Kd.int .i64))).sz = 1 from rfl, Nat.mul_one] at hv107_0
       replace hv107_0 := Option.some.inj (hv107_0.symm.trans hx107_0)
       rw [hv107_0] at ge107_0
       have HL107_0 := Aside0.mk (show Kd.R (Kd.int .i64) 3 _ _ _ _ (rd_L3 t104 x12_1) from ge107_0)
       clear hv107_0 ge107_0
       clear hcc107 hce107
       have HR107_0 := Aside0.mk hi107_0
       have HC107_0 := Aside0.mk hl107_0
       clear hi107_0 hl107_0
       replace p107 := eq_true p107
       replace q107 := eq_true q107
       go_wp2
       go_loopg [18] k1 (fun kq v18 w' => ∃ (x3_2 : List Int) (x18_2 : Int), v18 = .int .i64 x18_2 ∧ Aside0 (impl_kindCounts.l1 kq x3_2 t104 (t104.length : Int) x12_1 (rd_L3 t104 x12_1) ((rd_L3 t104 x12_1).length : Int) x18_2 = some r) ∧ Aside0 (kq ≤ k1) ∧ Aside0 (Kd.R (Kd.int .i64) 3 w' w.heap.size (fun _ => True) v102 x3_2) ∧ Aside0 (Kd.S (Kd.slice 3 (Kd.int .i64)) 40 w' w.heap.size (fun k_ => some k_ ≠ (v102 : Value).ownBlock) (.slice (some ad107) t104.length co7) t104) ∧ Aside0 (Kd.R (Kd.int .i64) 3 w' w.heap.size (fun k_ => some k_ ≠ (v102 : Value).ownBlock) (.slice A107_0 (rd_L3 t104 x12_1).length c107_0) (rd_L3 t104 x12_1)) ∧ Aside0 (Below w.heap.size w w'))
       case atStart => exact ⟨(x3_1), (0), tc4_, H', ⟨Nat.le_refl _⟩, ⟨by (with_reducible repeat (first | apply Kd.R_alloc | apply Kd.R_drewN | apply Kd.R_drew)); exact HO_3.out⟩, ⟨by (with_reducible repeat (first | apply Kd.S_alloc | apply Kd.S_drewN | apply Kd.S_drew)); exact HO_10.out⟩, ⟨by (with_reducible repeat (first | apply Kd.R_alloc | apply Kd.R_drewN | apply Kd.R_drew)); exact Kd.R_mono HL107_0.out (fun _ hk => by first | exact hk | exact hk.1 | exact hk.2)⟩, ⟨by repeat (first | (with_reducible first | exact HB.out | apply below_alloc | apply pw_below_drewN | apply below_drew1) | exact HB.out)⟩⟩
       case round =>
        clear H'
        try clear c1
        try clear p1
        try clear q1
        try clear hx1
        try clear c2
        try clear c2b0
        try clear c2b1
        try clear p2
        try clear c8
        try clear c8b0
        try clear c9
        try clear c9b0
        try clear c10
        try clear c10b0
        try clear p10
        try clear q10
        try clear hx10
        try clear hx107_0
        try clear p107
        try clear p2
        try clear q107
        obtain ⟨x3_2, x18_2, rfl, HA, HK2, HO_3, HO_10, HS_, HB⟩ := hrel
        cases gk with
        | zero => exact absurd HA.out (by simp [impl_kindCounts.l1])
        | succ k2 =>
         have H := HA.out
         clear HA
         simp only [impl_kindCounts.l1] at H
         by_cases c11 : x18_2 < ((rd_L3 t104 x12_1).length : Int)
         ·rw [if_pos c11] at H
          have c11b0 : decide (x18_2 < ((rd_L3 t104 x12_1).length : Int)) = true := decide_eq_true c11
          clear c11
          by_cases c12 : 0 ≤ x18_2
          ·rw [if_pos c12] at H
           have c12b0 : decide (0 ≤ x18_2) = true := decide_eq_true c12
           clear c12
           by_cases c13 : x18_2 < ((rd_L3 t104 x12_1).length : Int)
           ·rw [if_pos c13] at H
            have c13b0 : decide (x18_2 < ((rd_L3 t104 x12_1).length : Int)) = true := decide_eq_true c13
            clear c13
            by_cases c14 : 0 ≤ (rd (rd_L3 t104 x12_1) x18_2)
            ·rw [if_pos c14] at H
             have c14b0 : decide (0 ≤ (rd (rd_L3 t104 x12_1) x18_2)) = true := decide_eq_true c14
             clear c14
             by_cases c15 : (rd (rd_L3 t104 x12_1) x18_2) < (x3_2.length : Int)
             ·rw [if_pos c15] at H
              have c15b0 : decide ((rd (rd_L3 t104 x12_1) x18_2) < (x3_2.length : Int)) = true := decide_eq_true c15
              clear c15
              obtain ⟨y110, hy110⟩ : ∃ y_ : List Int, y_ = (x3_2.set ((rd (rd_L3 t104 x12_1) x18_2) : Int).toNat (wrap64 ((rd x3_2 (rd (rd_L3 t104 x12_1) x18_2)) + 1))) := ⟨_, rfl⟩
              replace H : (impl_kindCounts.l1 k2 y110 t104 (t104.length : Int) x12_1 (rd_L3 t104 x12_1) ((rd_L3 t104 x12_1).length : Int) (wrap64 (x18_2 + 1))) = some r := by first | (rw [hy110]; with_reducible exact H) | (have H2_ := (Option.bind_some _ _).symm.trans H; rw [hy110]; with_reducible exact H2_) | (have H2_ := (Option.bind_some _ _).symm.trans H; with_reducible exact H2_) | with_reducible exact H | (rw [hy110]; exact H) | exact H
              have Ny110 := Aside0.mk hy110
              clear hy110
              have H' := Aside0.mk H
              clear H
              have p108 : 0 ≤ (x18_2 : Int) := of_decide_eq_true tc2_
              have q108 : x18_2 < ((rd_L3 t104 x12_1).length : Int) := of_decide_eq_true tc2_
              obtain ⟨ad108, e108, hx108_0⟩ := Kd.at_int (Kd.R_reads' HS_.out).2.2 x18_2 p108 q108
              cases e108
              replace p108 := eq_true p108
              replace q108 := eq_true q108
              obtain ⟨Ao17, co17, eo17⟩ := Kd.R_slice HO_3.out
              subst eo17
              have p109 : 0 ≤ ((rd (rd_L3 t104 x12_1) x18_2) : Int) := of_decide_eq_true tc2_
              have q109 : (rd (rd_L3 t104 x12_1) x18_2) < (x3_2.length : Int) := of_decide_eq_true tc2_
              obtain ⟨ad109, e109, hx109_0⟩ := Kd.at_int (Kd.R_reads' HO_3.out).2.2 (rd (rd_L3 t104 x12_1) x18_2) p109 q109
              cases e109
              replace p109 := eq_true p109
              replace q109 := eq_true q109
              have p16 : 0 ≤ ((rd (rd_L3 t104 x12_1) x18_2) : Int) := of_decide_eq_true tc2_
              have q16 : ((rd (rd_L3 t104 x12_1) x18_2) : Int) < ((x3_2.length : Int) : Int) := of_decide_eq_true tc2_
              obtain ⟨go16, co16, eo16, gb16, gl16, cl16, HG16⟩ := Kd.R_form HO_3.out (by omega)
              (first | cases eo16 | (injection eo16 with ea_ en_ ec_; (first | subst ea_ | (injection ea_ with ea_; subst ea_)); subst ec_; clear en_))
              have GB16 := Aside0.mk gb16
              have GG16 := Aside0.mk HG16
              clear gb16 gl16 HG16
              (first | simp only [add_plain] at hx109_0 | skip)
              obtain ⟨hx16_0, hf16_0⟩ := Kd.R_celln 0 HO_3.out ((rd (rd_L3 t104 x12_1) x18_2) : Int) p16 q16
              replace p16 := eq_true p16
              replace q16 := eq_true q16
              have HP18 := Kd.R_putg HO_3.out ((rd (rd_L3 t104 x12_1) x18_2) : Int) (wrap64 ((rd x3_2 (rd (rd_L3 t104 x12_1) x18_2)) + 1))
              go_wp2_with (first | ((with_reducible refine gate_store (t := 3) (p := 27) rfl ?_); refine store_event (t := 3) (p := 27) (v := ?vo_w19) (w1 := (wr.setCell ⟨go16, ((rd (rd_L3 t104 x12_1) x18_2) : Int).toNat, none⟩ (.int .i64 (wrap64 ((rd x3_2 (rd (rd_L3 t104 x12_1) x18_2)) + 1))))) ?hg ?ho ?hn ?hr ?_; (case ho => rfl); (case hg => rfl); (case hn => rfl); (case hr => first | (go_simp; done) | (go_simp; rfl)); intro w19 hw; have hg : wr.grownBy w19 (some go16) := (by rw [hw]; exact HP18.2); have hp_ : Kd.R (Kd.int .i64) 3 w19 w.heap.size (fun _ => True) (.slice (some ⟨go16, 0, none⟩) x3_2.length co17) y110 := (by rw [hw, Ny110.out]; exact HP18.1); clear HP18; have n0_ := Aside0.mk (hp_); have n1_ := Aside0.mk (Kd.S_after (v := (.slice (some ⟨go16, 0, none⟩) x3_2.length co17)) (v1 := (.slice (some ⟨go16, 0, none⟩) x3_2.length co17)) (ok := (fun _ => True)) (by (with_reducible repeat (first | apply Kd.S_alloc | apply Kd.S_drewN | apply Kd.S_drew)); exact Kd.S_mono HO_10.out (fun _ hk => ⟨trivial, hk⟩)) hg (.inl rfl)); have ms_ := Aside0.mk (Kd.R_after (v := (.slice (some ⟨go16, 0, none⟩) x3_2.length co17)) (v1 := (.slice (some ⟨go16, 0, none⟩) x3_2.length co17)) (ok := (fun _ => True)) (by (with_reducible repeat (first | apply Kd.R_alloc | apply Kd.R_drewN | apply Kd.R_drew)); exact Kd.R_mono HS_.out (fun _ hk => ⟨trivial, hk⟩)) hg (.inl rfl)); clear HS_; have HS_ := ms_; clear ms_; have n2_ := Aside0.mk ((by rw [hw]; exact below_set (HB.out) GB16.out : Below w.heap.size w w19)); clear HO_3; clear HO_10; clear HB; have HO_3 := n0_; have HO_10 := n1_; have HB := n2_; clear n0_ n1_ n2_; clear hg hw hp_))
              go_roundg k2
              case measure => have := HK1.out; have := HK2.out; omega
              case rel => exact ⟨(y110), (wrap64 (x18_2 + 1)), tc4_, H', ⟨by have := HK1.out; have := HK2.out; omega⟩, ⟨by (with_reducible repeat (first | apply Kd.R_alloc | apply Kd.R_drewN | apply Kd.R_drew)); exact HO_3.out⟩, ⟨by (with_reducible repeat (first | apply Kd.S_alloc | apply Kd.S_drewN | apply Kd.S_drew)); exact Kd.S_mono HO_10.out (fun _ hk => hk.2)⟩, ⟨by (with_reducible repeat (first | apply Kd.R_alloc | apply Kd.R_drewN | apply Kd.R_drew)); exact Kd.R_mono HS_.out (fun _ hk => hk.2)⟩, ⟨by repeat (first | (with_reducible first | exact HB.out | apply below_alloc | apply pw_below_drewN | apply below_drew1) | exact HB.out)⟩⟩
             ·rw [if_neg c15] at H
              exact absurd H (by simp)
            ·rw [if_neg c14] at H
             exact absurd H (by simp)
           ·rw [if_neg c13] at H
            exact absurd H (by simp)
          ·rw [if_neg c12] at H
           exact absurd H (by simp)
         ·rw [if_neg c11] at H
          have c11b0 : decide (x18_2 < ((rd_L3 t104 x12_1).length : Int)) = false := decide_eq_false c11
          clear c11
          have H' := Aside0.mk H
          clear H
          go_wp2
          go_roundg k2
          case measure => have := HK1.out; have := HK2.out; omega
          case rel => exact ⟨(x3_2), (wrap64 (x12_1 + 1)), tc4_, H', ⟨by have := HK1.out; have := HK2.out; omega⟩, ⟨by (with_reducible repeat (first | apply Kd.R_alloc | apply Kd.R_drewN | apply Kd.R_drew)); exact HO_3.out⟩, ⟨by (with_reducible repeat (first | apply Kd.S_alloc | apply Kd.S_drewN | apply Kd.S_drew)); exact HO_10.out⟩, ⟨by repeat (first | (with_reducible first | exact HB.out | apply below_alloc | apply pw_below_drewN | apply below_drew1) | exact HB.out)⟩⟩
      ·rw [if_neg c10] at H
       exact absurd H (by simp)
     ·rw [if_neg c9] at H
      exact absurd H (by simp)
    ·rw [if_neg c8] at H
     have c8b0 : decide (x12_1 < (t104.length : Int)) = false := decide_eq_false c8
     clear c8
     obtain rfl := Option.some.inj H
     go_wp2
     go_ret
     exact ⟨_, by first | rfl | (simp [errW_none, errW_some] <;> rfl) | (simp [*, errW_none, errW_some] <;> rfl), by (with_reducible repeat (first | apply Kd.R_alloc | apply Kd.R_drewN | apply Kd.R_drew)); exact HO_3.out, by repeat (first | (with_reducible first | exact HB.out | apply below_alloc | apply pw_below_drewN | apply below_drew1) | exact HB.out)⟩
 ·rw [if_neg c2] at H
  exact absurd H (by simp)

/-! ### impl_weight: function 62 -/
def impl_weight.f (k : Nat) (l0 : List (List Int)) (a1 : Int) (a2 : Int) (a3 : Int) : Option (Int) := (impl_kindCounts.f k l0).bind fun t101 => (if 0 < (t101.length : Int) then (if 3 < (t101.length : Int) then ((impl_power.f k a1 (wrap64 ((rd t101 0) + (rd t101 3)))).bind fun t106 => (if 1 < (t101.length : Int) then (if 2 < (t101.length : Int) then ((impl_power.f k a2 (wrap64 ((rd t101 1) + (rd t101 2)))).bind fun t109 => (if 5 < (t101.length : Int) then ((impl_power.f k a3 (rd t101 5)).bind fun t111 => (some (wrap64 ((wrap64 (t106 * t109)) * t111)))) else (none))) else (none)) else (none))) else (none)) else (none))
theorem impl_weight.mono : ∀ a0 a1 a2 a3  k, LeO (impl_weight.f k a0 a1 a2 a3) (impl_weight.f (k + 1) a0 a1 a2 a3) := by
 intro a0 a1 a2 a3 k
 unfold impl_weight.f
 repeat' first
   | (with_reducible exact impl_kindCounts.mono _ _)
   | (with_reducible exact impl_power.mono _ _ _)
   | (with_reducible exact LeO.refl _)
   | (with_reducible exact LeO.none _)
   | (with_reducible refine LeO.ite ?_ ?_)
   | (with_reducible refine LeO.bind ?_ (fun _ => ?_))
   | exact impl_kindCounts.mono _ _
   | exact impl_power.mono _ _ _
   | exact LeO.none _
   | refine LeO.ite ?_ ?_
   | refine LeO.bind ?_ (fun _ => ?_)
set_option maxHeartbeats 8000000 in
set_option maxRecDepth 100000 in
theorem impl_weight.calls (k : Nat) (A0 : Option Addr) (c0 : Nat) (l0 : List (List Int)) (a1 : Int) (a2 : Int) (a3 : Int) (r : Int) (w : World) (hr0 : Kd.C (Kd.slice 3 (Kd.int .i64)) w A0 l0.length l0) (hc0 : l0.length ≤ c0) (h : impl_weight.f k l0 a1 a2 a3 = some r) :
  Calls Try.prog 62 #[.slice A0 l0.length c0, .int .i64 a1, .int .i64 a2, .int .i64 a3] w fun e w' => e = .returned (.int .i64 r) ∧ Below w.heap.size w w' := by
 have HR0 := Aside0.mk hr0
 have HC0 := Aside0.mk hc0
 clear hr0 hc0
 have HB := Aside0.mk (Below.refl w.heap.size w)
 have H : ((impl_kindCounts.f k l0).bind fun t101 => (if 0 < (t101.length : Int) then (if 3 < (t101.length : Int) then ((impl_power.f k a1 (wrap64 ((rd t101 0) + (rd t101 3)))).bind fun t106 => (if 1 < (t101.length : Int) then (if 2 < (t101.length : Int) then ((impl_power.f k a2 (wrap64 ((rd t101 1) + (rd t101 2)))).bind fun t109 => (if 5 < (t101.length : Int) then ((impl_power.f k a3 (rd t101 5)).bind fun t111 => (some (wrap64 ((wrap64 (t106 * t109)) * t111)))) else (none))) else (none)) else (none))) else (none)) else (none))) = some r := h
 clear h
 replace H := Option.bind_eq_some_iff.mp H
 obtain ⟨t101, A50, H⟩ := H
 replace H : (if 0 < (t101.length : Int) then (if 3 < (t101.length : Int) then ((impl_power.f k a1 (wrap64 ((rd t101 0) + (rd t101 3)))).bind fun t106 => (if 1 < (t101.length : Int) then (if 2 < (t101.length : Int) then ((impl_power.f k a2 (wrap64 ((rd t101 1) + (rd t101 2)))).bind fun t109 => (if 5 < (t101.length : Int) then ((impl_power.f k a3 (rd t101 5)).bind fun t111 => (some (wrap64 ((wrap64 (t106 * t109)) * t111)))) else (none))) else (none)) else (none))) else (none)) else (none)) = some r := H
 have A5 := Aside0.mk A50
 clear A50
 by_cases c6 : 0 < (t101.length : Int)
 ·rw [if_pos c6] at H
  have c6b0 : decide (0 < (t101.length : Int)) = true := decide_eq_true c6
  have c6b1 : decide (0 < t101.length) = true := decide_eq_true (by omega)
  clear c6
  by_cases c7 : 3 < (t101.length : Int)
  ·rw [if_pos c7] at H
   have c7b0 : decide (3 < (t101.length : Int)) = true := decide_eq_true c7
   have c7b1 : decide (3 < t101.length) = true := decide_eq_true (by omega)
   clear c7
   replace H := Option.bind_eq_some_iff.mp H
   obtain ⟨t106, A80, H⟩ := H
   replace H : (if 1 < (t101.length : Int) then (if 2 < (t101.length : Int) then ((impl_power.f k a2 (wrap64 ((rd t101 1) + (rd t101 2)))).bind fun t109 => (if 5 < (t101.length : Int) then ((impl_power.f k a3 (rd t101 5)).bind fun t111 => (some (wrap64 ((wrap64 (t106 * t109)) * t111)))) else (none))) else (none)) else (none)) = some r := H
   have A8 := Aside0.mk A80
   clear A80
   by_cases c9 : 1 < (t101.length : Int)
   ·rw [if_pos c9] at H
    have c9b0 : decide (1 < (t101.length : Int)) = true := decide_eq_true c9
    have c9b1 : decide (1 < t101.length) = true := decide_eq_true (by omega)
    clear c9
    by_cases c10 : 2 < (t101.length : Int)
    ·rw [if_pos c10] at H
     have c10b0 : decide (2 < (t101.length : Int)) = true := decide_eq_true c10
     have c10b1 : decide (2 < t101.length) = true := decide_eq_true (by omega)
     clear c10
     replace H := Option.bind_eq_some_iff.mp H
     obtain ⟨t109, A110, H⟩ := H
     replace H : (if 5 < (t101.length : Int) then ((impl_power.f k a3 (rd t101 5)).bind fun t111 => (some (wrap64 ((wrap64 (t106 * t109)) * t111)))) else (none)) = some r := H
     have A11 := Aside0.mk A110
     clear A110
     by_cases c12 : 5 < (t101.length : Int)
     ·rw [if_pos c12] at H
      have c12b0 : decide (5 < (t101.length : Int)) = true := decide_eq_true c12
      have c12b1 : decide (5 < t101.length) = true := decide_eq_true (by omega)
      clear c12
      replace H := Option.bind_eq_some_iff.mp H
      obtain ⟨t111, A130, H⟩ := H
      replace H : (some (wrap64 ((wrap64 (t106 * t109)) * t111))) = some r := H
      have A13 := Aside0.mk A130
      clear A130
      obtain rfl := Option.some.inj H
      go_enter Try.func62, Try.ntmps62
      go_wp2_with (first | (go_at_call 112; (with_reducible refine (impl_kindCounts.calls k _ _ l0 t101 _ ?side1 ?side2 A5.out).mono ?_); (case side1 => repeat (first | exact HR0.out | (with_reducible refine Kd.C_alloc ?_ _) | (with_reducible refine Kd.C_drewN ?_ _) | (with_reducible refine Kd.C_drew ?_))); (case side2 => exact HC0.out); rintro e w14 ⟨v102, rfl, ho0, hb⟩; have n0_ := Aside0.mk (Kd.R_lower ho0 (below_size tc0_)); have n1_ := Aside0.mk (below_step tc0_ hb); clear HB; have HO103 := n0_; have HB := n1_; clear n0_ n1_; (try clear hb); (try clear hb2); (try clear hk); (try clear hi); (try clear ho0); obtain ⟨Ao15, co15, eo15⟩ := Kd.R_slice HO103.out; subst eo15; have p104 : 0 ≤ (0 : Int) := (by omega); have q104 : 0 < (t101.length : Int) := of_decide_eq_true tc2_; obtain ⟨ad104, e104, hx104_0⟩ := Kd.at_int (Kd.R_reads' HO103.out).2.2 0 p104 q104; cases e104; have qi104 : (0 < t101.length) = True := eq_true (by omega); (try rw [show ((0 : Int)).toNat = 0 from rfl] at hx104_0); (try rw [Addr.add_zero'] at hx104_0); replace p104 := eq_true p104; replace q104 := eq_true q104; have p105 : 0 ≤ (3 : Int) := (by omega); have q105 : 3 < (t101.length : Int) := of_decide_eq_true tc2_; obtain ⟨ad105, e105, hx105_0⟩ := Kd.at_int (Kd.R_reads' HO103.out).2.2 3 p105 q105; obtain rfl : ad104 = ad105 := (by injection e105); (try simp only [show (3 : Int).toNat = 3 from rfl, Nat.reduceMul, Nat.reduceEqDiff, Go.Addr.add, ↓reduceIte] at hx105_0); have qi105 : (3 < t101.length) = True := eq_true (by omega); (try rw [show ((3 : Int)).toNat = 3 from rfl] at hx105_0); replace p105 := eq_true p105; replace q105 := eq_true q105; have p107 : 0 ≤ (1 : Int) := (by omega); have q107 : 1 < (t101.length : Int) := of_decide_eq_true tc2_; obtain ⟨ad107, e107, hx107_0⟩ := Kd.at_int (Kd.R_reads' HO103.out).2.2 1 p107 q107; obtain rfl : ad104 = ad107 := (by injection e107); (try simp only [show (1 : Int).toNat = 1 from rfl, Nat.reduceMul, Nat.reduceEqDiff, Go.Addr.add, ↓reduceIte] at hx107_0); have qi107 : (1 < t101.length) = True := eq_true (by omega); (try rw [show ((1 : Int)).toNat = 1 from rfl] at hx107_0); replace p107 := eq_true p107; replace q107 := eq_true q107; have p108 : 0 ≤ (2 : Int) := (by omega); have q108 : 2 < (t101.length : Int) := of_decide_eq_true tc2_; obtain ⟨ad108, e108, hx108_0⟩ := Kd.at_int (Kd.R_reads' HO103.out).2.2 2 p108 q108; obtain rfl : ad104 = ad108 := (by injection e108); (try simp only [show (2 : Int).toNat = 2 from rfl, Nat.reduceMul, Nat.reduceEqDiff, Go.Addr.add, ↓reduceIte] at hx108_0); have qi108 : (2 < t101.length) = True := eq_true (by omega); (try rw [show ((2 : Int)).toNat = 2 from rfl] at hx108_0); replace p108 := eq_true p108; replace q108 := eq_true q108; have p110 : 0 ≤ (5 : Int) := (by omega); have q110 : 5 < (t101.length : Int) := of_decide_eq_true tc2_; obtain ⟨ad110, e110, hx110_0⟩ := Kd.at_int (Kd.R_reads' HO103.out).2.2 5 p110 q110; obtain rfl : ad104 = ad110 := (by injection e110); (try simp only [show (5 : Int).toNat = 5 from rfl, Nat.reduceMul, Nat.reduceEqDiff, Go.Addr.add, ↓reduceIte] at hx110_0); have qi110 : (5 < t101.length) = True := eq_true (by omega); (try rw [show ((5 : Int)).toNat = 5 from rfl] at hx110_0); replace p110 := eq_true p110; replace q110 := eq_true q110) | (go_at_call 54; (with_reducible refine (impl_power.calls k a1 (wrap64 ((rd t101 0) + (rd t101 3))) t106 _ A8.out).mono ?_); rintro e w' ⟨rfl, ⟨nd, rfl⟩⟩; (try first | exact ⟨rfl, _, World.drewN_drewN _ _ _⟩ | exact ⟨rfl, _, Eq.trans (World.drewN_drewN _ _ _) (congrArg (World.drewN _) (Nat.add_assoc _ _ _))⟩)) | (go_at_call 54; (with_reducible refine (impl_power.calls k a2 (wrap64 ((rd t101 1) + (rd t101 2))) t109 _ A11.out).mono ?_); rintro e w' ⟨rfl, ⟨nd, rfl⟩⟩; (try first | exact ⟨rfl, _, World.drewN_drewN _ _ _⟩ | exact ⟨rfl, _, Eq.trans (World.drewN_drewN _ _ _) (congrArg (World.drewN _) (Nat.add_assoc _ _ _))⟩)) | (go_at_call 54; (with_reducible refine (impl_power.calls k a3 (rd t101 5) t111 _ A13.out).mono ?_); rintro e w' ⟨rfl, ⟨nd, rfl⟩⟩; (try first | exact ⟨rfl, _, World.drewN_drewN _ _ _⟩ | exact ⟨rfl, _, Eq.trans (World.drewN_drewN _ _ _) (congrArg (World.drewN _) (Nat.add_assoc _ _ _))⟩)))
      repeat (go_quiet (first | (go_at_call 112; (with_reducible refine (impl_kindCounts.calls k _ _ l0 t101 _ ?side1 ?side2 A5.out).mono ?_); (case side1 => repeat (first | exact HR0.out | (with_reducible refine Kd.C_alloc ?_ _) | (with_reducible refine Kd.C_drewN ?_ _) | (with_reducible refine Kd.C_drew ?_))); (case side2 => exact HC0.out); rintro e w14 ⟨v102, rfl, ho0, hb⟩; have n0_ := Aside0.mk (Kd.R_lower ho0 (below_size tc0_)); have n1_ := Aside0.mk (below_step tc0_ hb); clear HB; have HO103 := n0_; have HB := n1_; clear n0_ n1_; (try clear hb); (try clear hb2); (try clear hk); (try clear hi); (try clear ho0); obtain ⟨Ao15, co15, eo15⟩ := Kd.R_slice HO103.out; subst eo15; have p104 : 0 ≤ (0 : Int) := (by omega); have q104 : 0 < (t101.length : Int) := of_decide_eq_true tc2_; obtain ⟨ad104, e104, hx104_0⟩ := Kd.at_int (Kd.R_reads' HO103.out).2.2 0 p104 q104; cases e104; have qi104 : (0 < t101.length) = True := eq_true (by omega); (try rw [show ((0 : Int)).toNat = 0 from rfl] at hx104_0); (try rw [Addr.add_zero'] at hx104_0); replace p104 := eq_true p104; replace q104 := eq_true q104; have p105 : 0 ≤ (3 : Int) := (by omega); have q105 : 3 < (t101.length : Int) := of_decide_eq_true tc2_; obtain ⟨ad105, e105, hx105_0⟩ := Kd.at_int (Kd.R_reads' HO103.out).2.2 3 p105 q105; obtain rfl : ad104 = ad105 := (by injection e105); (try simp only [show (3 : Int).toNat = 3 from rfl, Nat.reduceMul, Nat.reduceEqDiff, Go.Addr.add, ↓reduceIte] at hx105_0); have qi105 : (3 < t101.length) = True := eq_true (by omega); (try rw [show ((3 : Int)).toNat = 3 from rfl] at hx105_0); replace p105 := eq_true p105; replace q105 := eq_true q105; have p107 : 0 ≤ (1 : Int) := (by omega); have q107 : 1 < (t101.length : Int) := of_decide_eq_true tc2_; obtain ⟨ad107, e107, hx107_0⟩ := Kd.at_int (Kd.R_reads' HO103.out).2.2 1 p107 q107; obtain rfl : ad104 = ad107 := (by injection e107); (try simp only [show (1 : Int).toNat = 1 from rfl, Nat.reduceMul, Nat.reduceEqDiff, Go.Addr.add, ↓reduceIte] at hx107_0); have qi107 : (1 < t101.length) = True := eq_true (by omega); (try rw [show ((1 : Int)).toNat = 1 from rfl] at hx107_0); replace p107 := eq_true p107; replace q107 := eq_true q107; have p108 : 0 ≤ (2 : Int) := (by omega); have q108 : 2 < (t101.length : Int) := of_decide_eq_true tc2_; obtain ⟨ad108, e108, hx108_0⟩ := Kd.at_int (Kd.R_reads' HO103.out).2.2 2 p108 q108; obtain rfl : ad104 = ad108 := (by injection e108); (try simp only [show (2 : Int).toNat = 2 from rfl, Nat.reduceMul, Nat.reduceEqDiff, Go.Addr.add, ↓reduceIte] at hx108_0); have qi108 : (2 < t101.length) = True := eq_true (by omega); (try rw [show ((2 : Int)).toNat = 2 from rfl] at hx108_0); replace p108 := eq_true p108; replace q108 := eq_true q108; have p110 : 0 ≤ (5 : Int) := (by omega); have q110 : 5 < (t101.length : Int) := of_decide_eq_true tc2_; obtain ⟨ad110, e110, hx110_0⟩ := Kd.at_int (Kd.R_reads' HO103.out).2.2 5 p110 q110; obtain rfl : ad104 = ad110 := (by injection e110); (try simp only [show (5 : Int).toNat = 5 from rfl, Nat.reduceMul, Nat.reduceEqDiff, Go.Addr.add, ↓reduceIte] at hx110_0); have qi110 : (5 < t101.length) = True := eq_true (by omega); (try rw [show ((5 : Int)).toNat = 5 from rfl] at hx110_0); replace p110 := eq_true p110; replace q110 := eq_true q110; have p107 : 0 ≤ (1 : Int) := (by omega); have q107 : 1 < (t101.length : Int) := of_decide_eq_true tc2_; obtain ⟨ad107, e107, hx107_0⟩ := Kd.at_int (Kd.R_reads' HO103.out).2.2 1 p107 q107; obtain rfl : ad104 = ad107 := (by injection e107); (try simp only [show (1 : Int).toNat = 1 from rfl, Nat.reduceMul, Nat.reduceEqDiff, Go.Addr.add, ↓reduceIte] at hx107_0); have qi107 : (1 < t101.length) = True := eq_true (by omega); (try rw [show ((1 : Int)).toNat = 1 from rfl] at hx107_0); replace p107 := eq_true p107; replace q107 := eq_true q107; have p108 : 0 ≤ (2 : Int) := (by omega); have q108 : 2 < (t101.length : Int) := of_decide_eq_true tc2_; obtain ⟨ad108, e108, hx108_0⟩ := Kd.at_int (Kd.R_reads' HO103.out).2.2 2 p108 q108; obtain rfl : ad104 = ad108 := (by injection e108); (try simp only [show (2 : Int).toNat = 2 from rfl, Nat.reduceMul, Nat.reduceEqDiff, Go.Addr.add, ↓reduceIte] at hx108_0); have qi108 : (2 < t101.length) = True := eq_true (by omega); (try rw [show ((2 : Int)).toNat = 2 from rfl] at hx108_0); replace p108 := eq_true p108; replace q108 := eq_true q108; have p110 : 0 ≤ (5 : Int) := (by omega); have q110 : 5 < (t101.length : Int) := of_decide_eq_true tc2_; obtain ⟨ad110, e110, hx110_0⟩ := Kd.at_int (Kd.R_reads' HO103.out).2.2 5 p110 q110; obtain rfl : ad104 = ad110 := (by injection e110); (try simp only [show (5 : Int).toNat = 5 from rfl, Nat.reduceMul, Nat.reduceEqDiff, Go.Addr.add, ↓reduceIte] at hx110_0); have qi110 : (5 < t101.length) = True := eq_true (by omega); (try rw [show ((5 : Int)).toNat = 5 from rfl] at hx110_0); replace p110 := eq_true p110; replace q110 := eq_true q110) | (go_at_call 54; (with_reducible refine (impl_power.calls k a1 (wrap64 ((rd t101 0) + (rd t101 3))) t106 _ A8.out).mono ?_); rintro e w' ⟨rfl, ⟨nd, rfl⟩⟩; (try first | exact ⟨rfl, _, World.drewN_drewN _ _ _⟩ | exact ⟨rfl, _, Eq.trans (World.drewN_drewN _ _ _) (congrArg (World.drewN _) (Nat.add_assoc _ _ _))⟩)) | (go_at_call 54; (with_reducible refine (impl_power.calls k a2 (wrap64 ((rd t101 1) + (rd t101 2))) t109 _ A11.out).mono ?_); rintro e w' ⟨rfl, ⟨nd, rfl⟩⟩; (try first | exact ⟨rfl, _, World.drewN_drewN _ _ _⟩ | exact ⟨rfl, _, Eq.trans (World.drewN_drewN _ _ _) (congrArg (World.drewN _) (Nat.add_assoc _ _ _))⟩)) | (go_at_call 54; (with_reducible refine (impl_power.calls k a3 (rd t101 5) t111 _ A13.out).mono ?_); rintro e w' ⟨rfl, ⟨nd, rfl⟩⟩; (try first | exact ⟨rfl, _, World.drewN_drewN _ _ _⟩ | exact ⟨rfl, _, Eq.trans (World.drewN_drewN _ _ _) (congrArg (World.drewN _) (Nat.add_assoc _ _ _))⟩))); try go_wp2_with (first | (go_at_call 112; (with_reducible refine (impl_kindCounts.calls k _ _ l0 t101 _ ?side1 ?side2 A5.out).mono ?_); (case side1 => repeat (first | exact HR0.out | (with_reducible refine Kd.C_alloc ?_ _) | (with_reducible refine Kd.C_drewN ?_ _) | (with_reducible refine Kd.C_drew ?_))); (case side2 => exact HC0.out); rintro e w14 ⟨v102, rfl, ho0, hb⟩; have n0_ := Aside0.mk (Kd.R_lower ho0 (below_size tc0_)); have n1_ := Aside0.mk (below_step tc0_ hb); clear HB; have HO103 := n0_; have HB := n1_; clear n0_ n1_; (try clear hb); (try clear hb2); (try clear hk); (try clear hi); (try clear ho0); obtain ⟨Ao15, co15, eo15⟩ := Kd.R_slice HO103.out; subst eo15; have p104 : 0 ≤ (0 : Int) := (by omega); have q104 : 0 < (t101.length : Int) := of_decide_eq_true tc2_; obtain ⟨ad104, e104, hx104_0⟩ := Kd.at_int (Kd.R_reads' HO103.out).2.2 0 p104 q104; cases e104; have qi104 : (0 < t101.length) = True := eq_true (by omega); (try rw [show ((0 : Int)).toNat = 0 from rfl] at hx104_0); (try rw [Addr.add_zero'] at hx104_0); replace p104 := eq_true p104; replace q104 := eq_true q104; have p105 : 0 ≤ (3 : Int) := (by omega); have q105 : 3 < (t101.length : Int) := of_decide_eq_true tc2_; obtain ⟨ad105, e105, hx105_0⟩ := Kd.at_int (Kd.R_reads' HO103.out).2.2 3 p105 q105; obtain rfl : ad104 = ad105 := (by injection e105); (try simp only [show (3 : Int).toNat = 3 from rfl, Nat.reduceMul, Nat.reduceEqDiff, Go.Addr.add, ↓reduceIte] at hx105_0); have qi105 : (3 < t101.length) = True := eq_true (by omega); (try rw [show ((3 : Int)).toNat = 3 from rfl] at hx105_0); replace p105 := eq_true p105; replace q105 := eq_true q105) | (go_at_call 54; (with_reducible refine (impl_power.calls k a1 (wrap64 ((rd t101 0) + (rd t101 3))) t106 _ A8.out).mono ?_); rintro e w' ⟨rfl, ⟨nd, rfl⟩⟩; (try first | exact ⟨rfl, _, World.drewN_drewN _ _ _⟩ | exact ⟨rfl, _, Eq.trans (World.drewN_drewN _ _ _) (congrArg (World.drewN _) (Nat.add_assoc _ _ _))⟩)) | (go_at_call 54; (with_reducible refine (impl_power.calls k a2 (wrap64 ((rd t101 1) + (rd t101 2))) t109 _ A11.out).mono ?_); rintro e w' ⟨rfl, ⟨nd, rfl⟩⟩; (try first | exact ⟨rfl, _, World.drewN_drewN _ _ _⟩ | exact ⟨rfl, _, Eq.trans (World.drewN_drewN _ _ _) (congrArg (World.drewN _) (Nat.add_assoc _ _ _))⟩)) | (go_at_call 54; (with_reducible refine (impl_power.calls k a3 (rd t101 5) t111 _ A13.out).mono ?_); rintro e w' ⟨rfl, ⟨nd, rfl⟩⟩; (try first | exact ⟨rfl, _, World.drewN_drewN _ _ _⟩ | exact ⟨rfl, _, Eq.trans (World.drewN_drewN _ _ _) (congrArg (World.drewN _) (Nat.add_assoc _ _ _))⟩))))
      go_ret
      exact ⟨by first | rfl | (simp [errW_none, errW_some] <;> rfl) | (simp [*, errW_none, errW_some] <;> rfl), by repeat (first | (with_reducible first | exact HB.out | apply below_alloc | apply pw_below_drewN | apply below_drew1) | exact HB.out)⟩
     ·rw [if_neg c12] at H
      exact absurd H (by simp)
    ·rw [if_neg c10] at H
     exact absurd H (by simp)
   ·rw [if_neg c9] at H
    exact absurd H (by simp)
  ·rw [if_neg c7] at H
   exact absurd H (by simp)
 ·rw [if_neg c6] at H
  exact absurd H (by simp)

/-! ### impl_WeightOf: function 11 -/
def impl_WeightOf.f (k : Nat) (l0 : List (List Int)) (a1 : Int) (a2 : Int) (a3 : Int) : Option (Int × Bool) := (impl_IsSignMatrix.f k l0).bind fun t101 => (if t101 = true then (if (l0.length : Int) > 4 then (some (0, false)) else ((impl_areBases.f k (([a1, a2, a3] : List Int))).bind fun t105 => (if t105 = true then ((impl_weight.f k l0 a1 a2 a3).bind fun t106 => (some (t106, true))) else (some (0, false))))) else (some (0, false)))
theorem impl_WeightOf.mono : ∀ a0 a1 a2 a3  k, LeO (impl_WeightOf.f k a0 a1 a2 a3) (impl_WeightOf.f (k + 1) a0 a1 a2 a3) := by
 intro a0 a1 a2 a3 k
 unfold impl_WeightOf.f
 repeat' first
   | (with_reducible exact impl_IsSignMatrix.mono _ _)
   | (with_reducible exact impl_areBases.mono _ _)
   | (with_reducible exact impl_weight.mono _ _ _ _ _)
   | (with_reducible exact LeO.refl _)
   | (with_reducible exact LeO.none _)
   | (with_reducible refine LeO.ite ?_ ?_)
   | (with_reducible refine LeO.bind ?_ (fun _ => ?_))
   | exact impl_IsSignMatrix.mono _ _
   | exact impl_areBases.mono _ _
   | exact impl_weight.mono _ _ _ _ _
   | exact LeO.none _
   | refine LeO.ite ?_ ?_
   | refine LeO.bind ?_ (fun _ => ?_)
set_option maxHeartbeats 8000000 in
set_option maxRecDepth 100000 in
theorem impl_WeightOf.calls (k : Nat) (A0 : Option Addr) (c0 : Nat) (l0 : List (List Int)) (a1 : Int) (a2 : Int) (a3 : Int) (r1 : Int) (r2 : Bool) (w : World) (hr0 : Kd.C (Kd.slice 3 (Kd.int .i64)) w A0 l0.length l0) (hc0 : l0.length ≤ c0) (h : impl_WeightOf.f k l0 a1 a2 a3 = some (r1, r2)) :
  Calls Try.prog 11 #[.slice A0 l0.length c0, .int .i64 a1, .int .i64 a2, .int .i64 a3] w fun e w' => e = .returned (.tuple #[.int .i64 r1, .bool r2]) ∧ Below w.heap.size w w' := by
 have HR0 := Aside0.mk hr0
 have HC0 := Aside0.mk hc0
 clear hr0 hc0
 have HB := Aside0.mk (Below.refl w.heap.size w)
 have H : ((impl_IsSignMatrix.f k l0).bind fun t101 => (if t101 = true then (if (l0.length : Int) > 4 then (some (0, false)) else ((impl_areBases.f k (([a1, a2, a3] : List Int))).bind fun t105 => (if t105 = true then ((impl_weight.f k l0 a1 a2 a3).bind fun t106 => (some (t106, true))) else (some (0, false))))) else (some (0, false)))) = some (r1, r2) := h
 clear h
 replace H := Option.bind_eq_some_iff.mp H
 obtain ⟨t101, A50, H⟩ := H
 replace H : (if t101 = true then (if (l0.length : Int) > 4 then (some (0, false)) else ((impl_areBases.f k (([a1, a2, a3] : List Int))).bind fun t105 => (if t105 = true then ((impl_weight.f k l0 a1 a2 a3).bind fun t106 => (some (t106, true))) else (some (0, false))))) else (some (0, false))) = some (r1, r2) := H
 have A5 := Aside0.mk A50
 clear A50
 by_cases c6 : t101 = true
 ·subst c6
  have H1 : (if (l0.length : Int) > 4 then (some (0, false)) else ((impl_areBases.f k (([a1, a2, a3] : List Int))).bind fun t105 => (if t105 = true then ((impl_weight.f k l0 a1 a2 a3).bind fun t106 => (some (t106, true))) else (some (0, false))))) = some (r1, r2) := by rw [if_pos rfl] at H; exact H
  clear H
  have H := H1
  clear H1
  by_cases c7 : (l0.length : Int) > 4
  ·rw [if_pos c7] at H
   have c7b0 : decide (4 < (l0.length : Int)) = true := decide_eq_true c7
   have c7b1 : decide (4 < l0.length) = true := decide_eq_true (by omega)
   clear c7
   simp only [Option.some.injEq, Prod.mk.injEq] at H
   obtain ⟨rfl, rfl⟩ := H
   go_enter Try.func11, Try.ntmps11
   go_wp2_with (first | ((with_reducible refine gate_callee (f := 61) rfl ?_); refine goesL_ (some 11) rfl rfl Try.func61 (by kernel_rfl) rfl #[.slice A0 l0.length c0] rfl tc1_ ?_; (with_reducible refine (impl_IsSignMatrix.calls k _ _ l0 true _ ?side1 ?side2 A5.out).mono ?_); (case side1 => repeat (first | exact HR0.out | (with_reducible refine Kd.C_alloc ?_ _) | (with_reducible refine Kd.C_drewN ?_ _) | (with_reducible refine Kd.C_drew ?_))); (case side2 => exact HC0.out); rintro e w8 ⟨rfl, hb⟩; refine ⟨_, rfl, ?_⟩; have n0_ := Aside0.mk (below_step tc0_ hb); clear HB; have HB := n0_; clear n0_; (try clear hb); (try clear hb2); (try clear hk); (try clear hi)))
   go_ret2
   exact ⟨by first | rfl | (simp [errW_none, errW_some] <;> rfl) | (simp [*, errW_none, errW_some] <;> rfl), by repeat (first | (with_reducible first | exact HB.out | apply below_alloc | apply pw_below_drewN | apply below_drew1) | exact HB.out)⟩
  ·rw [if_neg c7] at H
   have c7b0 : decide (4 < (l0.length : Int)) = false := decide_eq_false c7
   have c7b1 : decide (4 < l0.length) = false := decide_eq_false (by omega)
   clear c7
   obtain ⟨y102, hy102⟩ : ∃ y_ : List Int, y_ = (([a1, a2, a3] : List Int)) := ⟨_, rfl⟩
   replace H : ((impl_areBases.f k y102).bind fun t105 => (if t105 = true then ((impl_weight.f k l0 a1 a2 a3).bind fun t106 => (some (t106, true))) else (some (0, false)))) = some (r1, r2) := by first | (rw [hy102]; with_reducible exact H) | (have H2_ := (Option.bind_some _ _).symm.trans H; rw [hy102]; with_reducible exact H2_) | (have H2_ := (Option.bind_some _ _).symm.trans H; with_reducible exact H2_) | with_reducible exact H | (rw [hy102]; exact H) | exact H
   have Ny102 := Aside0.mk hy102
   clear hy102
   replace H := Option.bind_eq_some_iff.mp H
   obtain ⟨t105, A90, H⟩ := H
   replace H : (if t105 = true then ((impl_weight.f k l0 a1 a2 a3).bind fun t106 => (some (t106, true))) else (some (0, false))) = some (r1, r2) := H
   have A9 := Aside0.mk A90
   clear A90
   by_cases c10 : t105 = true
   ·subst c10
    have H1 : ((impl_weight.f k l0 a1 a2 a3).bind fun t106 => (some (t106, true))) = some (r1, r2) := by rw [if_pos rfl] at H; exact H
    clear H
    have H := H1
    clear H1
    replace H := Option.bind_eq_some_iff.mp H
    obtain ⟨t106, A110, H⟩ := H
    replace H : (some (t106, true)) = some (r1, r2) := H
    have A11 := Aside0.mk A110
    clear A110
    simp only [Option.some.injEq, Prod.mk.injEq] at H
    obtain ⟨rfl, rfl⟩ := H
    go_enter Try.func11, Try.ntmps11
    go_wp2_with (first | ((with_reducible refine gate_callee (f := 61) rfl ?_); refine goesL_ (some 11) rfl rfl Try.func61 (by kernel_rfl) rfl #[.slice A0 l0.length c0] rfl tc1_ ?_; (with_reducible refine (impl_IsSignMatrix.calls k _ _ l0 true _ ?side1 ?side2 A5.out).mono ?_); (case side1 => repeat (first | exact HR0.out | (with_reducible refine Kd.C_alloc ?_ _) | (with_reducible refine Kd.C_drewN ?_ _) | (with_reducible refine Kd.C_drew ?_))); (case side2 => exact HC0.out); rintro e w12 ⟨rfl, hb⟩; refine ⟨_, rfl, ?_⟩; have n0_ := Aside0.mk (below_step tc0_ hb); clear HB; have HB := n0_; clear n0_; (try clear hb); (try clear hb2); (try clear hk); (try clear hi)) | ((with_reducible refine gate_dst (N := 22) rfl ?_); (try (refine gate_guard (by rfl) ?_; dsimp only)); refine Kd.R_lit (Kd.int .i64) _ 3 ?hg (N := 22) ?hd (xs := ([a1, a2, a3] : List Int)) (inner := [.int .i64 a1, .int .i64 a2, .int .i64 a3]) (ok := fun _ => True) (okp := fun _ => True) ?hr ?hp (fun _ hk => hk) trivial (Below.refl _ _) (Nat.le_refl _) (by simp) ?_; (case hd => rfl); (case hg => rfl); (case hr => first | (go_simp; done) | (go_simp; rfl)); (case hp => exact (Reps.one (show Kd.M (Kd.int .i64) _ _ _ a1 [.int .i64 a1] from rfl) (Reps.one (show Kd.M (Kd.int .i64) _ _ _ a2 [.int .i64 a2] from rfl) (Reps.one (show Kd.M (Kd.int .i64) _ _ _ a3 [.int .i64 a3] from rfl) (Reps.none _ _))))); intro v103 w13 ho14 hb hg_ hnew_; clear hg_ hnew_; (first | rw [← Ny102.out] at ho14 | (simp only [Int.reduceToNat] at ho14; rw [← Ny102.out] at ho14)); have n0_ := Aside0.mk (Kd.R_lower ho14 (below_size tc0_)); have n1_ := Aside0.mk (below_step tc0_ hb); clear HB; have HO104 := n0_; have HB := n1_; clear n0_ n1_; clear hb ho14; obtain ⟨Ao15, co15, eo15⟩ := Kd.R_slice HO104.out; subst eo15) | (go_at_call 53; (with_reducible refine (impl_areBases.calls k _ _ y102 true _ ?side1 ?side2 A9.out).mono ?_); (case side1 => repeat (first | exact (Kd.R_reads' HO104.out).2.2 | (with_reducible refine Kd.C_alloc ?_ _) | (with_reducible refine Kd.C_drewN ?_ _) | (with_reducible refine Kd.C_drew ?_))); (case side2 => exact (Kd.R_reads' HO104.out).2.1); rintro e w16 ⟨rfl, hb⟩; have n0_ := Aside0.mk (Kd.R_below tc18_ hb); have n1_ := Aside0.mk (below_step tc0_ hb); clear HO104; clear HB; have HO104 := n0_; have HB := n1_; clear n0_ n1_; (try clear hb); (try clear hb2); (try clear hk); (try clear hi)) | ((with_reducible refine gate_callee (f := 62) rfl ?_); refine goesL_ (some 30) rfl rfl Try.func62 (by kernel_rfl) rfl #[.slice A0 l0.length c0, .int .i64 a1, .int .i64 a2, .int .i64 a3] rfl tc1_ ?_; (with_reducible refine (impl_weight.calls k _ _ l0 a1 a2 a3 t106 _ ?side1 ?side2 A11.out).mono ?_); (case side1 => repeat (first | exact (Kd.C_below HR0.out HB.out) | (with_reducible refine Kd.C_alloc ?_ _) | (with_reducible refine Kd.C_drewN ?_ _) | (with_reducible refine Kd.C_drew ?_))); (case side2 => exact HC0.out); rintro e w17 ⟨rfl, hb⟩; refine ⟨_, rfl, ?_⟩; have n0_ := Aside0.mk (Kd.R_below tc18_ hb); have n1_ := Aside0.mk (below_step tc0_ hb); clear HO104; clear HB; have HO104 := n0_; have HB := n1_; clear n0_ n1_; (try clear hb); (try clear hb2); (try clear hk); (try clear hi)))
    go_ret2
    exact ⟨by first | rfl | (simp [errW_none, errW_some] <;> rfl) | (simp [*, errW_none, errW_some] <;> rfl), by repeat (first | (with_reducible first | exact HB.out | apply below_alloc | apply pw_below_drewN | apply below_drew1) | exact HB.out)⟩
   ·replace c10 := Bool.eq_false_iff.mpr c10
    subst c10
    have H1 : (some (0, false)) = some (r1, r2) := by rw [if_neg (show ¬ (false = true) by decide)] at H; exact H
    clear H
    have H := H1
    clear H1
    simp only [Option.some.injEq, Prod.mk.injEq] at H
    obtain ⟨rfl, rfl⟩ := H
    go_enter Try.func11, Try.ntmps11
    go_wp2_with (first | ((with_reducible refine gate_callee (f := 61) rfl ?_); refine goesL_ (some 11) rfl rfl Try.func61 (by kernel_rfl) rfl #[.slice A0 l0.length c0] rfl tc1_ ?_; (with_reducible refine (impl_IsSignMatrix.calls k _ _ l0 true _ ?side1 ?side2 A5.out).mono ?_); (case side1 => repeat (first | exact HR0.out | (with_reducible refine Kd.C_alloc ?_ _) | (with_reducible refine Kd.C_drewN ?_ _) | (with_reducible refine Kd.C_drew ?_))); (case side2 => exact HC0.out); rintro e w18 ⟨rfl, hb⟩; refine ⟨_, rfl, ?_⟩; have n0_ := Aside0.mk (below_step tc0_ hb); clear HB; have HB := n0_; clear n0_; (try clear hb); (try clear hb2); (try clear hk); (try clear hi)) | ((with_reducible refine gate_dst (N := 22) rfl ?_); (try (refine gate_guard (by rfl) ?_; dsimp only)); refine Kd.R_lit (Kd.int .i64) _ 3 ?hg (N := 22) ?hd (xs := ([a1, a2, a3] : List Int)) (inner := [.int .i64 a1, .int .i64 a2, .int .i64 a3]) (ok := fun _ => True) (okp := fun _ => True) ?hr ?hp (fun _ hk => hk) trivial (Below.refl _ _) (Nat.le_refl _) (by simp) ?_; (case hd => rfl); (case hg => rfl); (case hr => first | (go_simp; done) | (go_simp; rfl)); (case hp => exact (Reps.one (show Kd.M (Kd.int .i64) _ _ _ a1 [.int .i64 a1] from rfl) (Reps.one (show Kd.M (Kd.int .i64) _ _ _ a2 [.int .i64 a2] from rfl) (Reps.one (show Kd.M (Kd.int .i64) _ _ _ a3 [.int .i64 a3] from rfl) (Reps.none _ _))))); intro v103 w19 ho20 hb hg_ hnew_; clear hg_ hnew_; (first | rw [← Ny102.out] at ho20 | (simp only [Int.reduceToNat] at ho20; rw [← Ny102.out] at ho20)); have n0_ := Aside0.mk (Kd.R_lower ho20 (below_size tc0_)); have n1_ := Aside0.mk (below_step tc0_ hb); clear HB; have HO104 := n0_; have HB := n1_; clear n0_ n1_; clear hb ho20; obtain ⟨Ao21, co21, eo21⟩ := Kd.R_slice HO104.out; subst eo21) | (go_at_call 53; (with_reducible refine (impl_areBases.calls k _ _ y102 false _ ?side1 ?side2 A9.out).mono ?_); (case side1 => repeat (first | exact (Kd.R_reads' HO104.out).2.2 | (with_reducible refine Kd.C_alloc ?_ _) | (with_reducible refine Kd.C_drewN ?_ _) | (with_reducible refine Kd.C_drew ?_))); (case side2 => exact (Kd.R_reads' HO104.out).2.1); rintro e w22 ⟨rfl, hb⟩; have n0_ := Aside0.mk (Kd.R_below tc18_ hb); have n1_ := Aside0.mk (below_step tc0_ hb); clear HO104; clear HB; have HO104 := n0_; have HB := n1_; clear n0_ n1_; (try clear hb); (try clear hb2); (try clear hk); (try clear hi)))
    go_ret2
    exact ⟨by first | rfl | (simp [errW_none, errW_some] <;> rfl) | (simp [*, errW_none, errW_some] <;> rfl), by repeat (first | (with_reducible first | exact HB.out | apply below_alloc | apply pw_below_drewN | apply below_drew1) | exact HB.out)⟩
 ·replace c6 := Bool.eq_false_iff.mpr c6
  subst c6
  have H1 : (some (0, false)) = some (r1, r2) := by rw [if_neg (show ¬ (false = true) by decide)] at H; exact H
  clear H
  have H := H1
  clear H1
  simp only [Option.some.injEq, Prod.mk.injEq] at H
  obtain ⟨rfl, rfl⟩ := H
  go_enter Try.func11, Try.ntmps11
  go_wp2_with (first | ((with_reducible refine gate_callee (f := 61) rfl ?_); refine goesL_ (some 11) rfl rfl Try.func61 (by kernel_rfl) rfl #[.slice A0 l0.length c0] rfl tc1_ ?_; (with_reducible refine (impl_IsSignMatrix.calls k _ _ l0 false _ ?side1 ?side2 A5.out).mono ?_); (case side1 => repeat (first | exact HR0.out | (with_reducible refine Kd.C_alloc ?_ _) | (with_reducible refine Kd.C_drewN ?_ _) | (with_reducible refine Kd.C_drew ?_))); (case side2 => exact HC0.out); rintro e w23 ⟨rfl, hb⟩; refine ⟨_, rfl, ?_⟩; have n0_ := Aside0.mk (below_step tc0_ hb); clear HB; have HB := n0_; clear n0_; (try clear hb); (try clear hb2); (try clear hk); (try clear hi)))
  go_ret2
  exact ⟨by first | rfl | (simp [errW_none, errW_some] <;> rfl) | (simp [*, errW_none, errW_some] <;> rfl), by repeat (first | (with_reducible first | exact HB.out | apply below_alloc | apply pw_below_drewN | apply below_drew1) | exact HB.out)⟩

/-! ### spec_weWeight: function 64 -/
def spec_weWeight.f (k : Nat) (l0 : List (List Int)) (a1 : Int) (a2 : Int) (a3 : Int) : Option (Int) := (spec_weCounts.f k l0).bind fun t101 => (if 0 < (t101.length : Int) then (if 3 < (t101.length : Int) then ((spec_wePower.f k a1 (wrap64 ((rd t101 0) + (rd t101 3)))).bind fun t106 => (if 1 < (t101.length : Int) then (if 2 < (t101.length : Int) then ((spec_wePower.f k a2 (wrap64 ((rd t101 1) + (rd t101 2)))).bind fun t109 => (if 5 < (t101.length : Int) then ((spec_wePower.f k a3 (rd t101 5)).bind fun t111 => (some (wrap64 ((wrap64 (t106 * t109)) * t111)))) else (none))) else (none)) else (none))) else (none)) else (none))
theorem spec_weWeight.mono : ∀ a0 a1 a2 a3  k, LeO (spec_weWeight.f k a0 a1 a2 a3) (spec_weWeight.f (k + 1) a0 a1 a2 a3) := by
 intro a0 a1 a2 a3 k
 unfold spec_weWeight.f
 repeat' first
   | (with_reducible exact spec_weCounts.mono _ _)
   | (with_reducible exact spec_wePower.mono _ _ _)
   | (with_reducible exact LeO.refl _)
   | (with_reducible exact LeO.none _)
   | (with_reducible refine LeO.ite ?_ ?_)
   | (with_reducible refine LeO.bind ?_ (fun _ => ?_))
   | exact spec_weCounts.mono _ _
   | exact spec_wePower.mono _ _ _
   | exact LeO.none _
   | refine LeO.ite ?_ ?_
   | refine LeO.bind ?_ (fun _ => ?_)
set_option maxHeartbeats 8000000 in
set_option maxRecDepth 100000 in
theorem spec_weWeight.calls (k : Nat) (A0 : Option Addr) (c0 : Nat) (l0 : List (List Int)) (a1 : Int) (a2 : Int) (a3 : Int) (r : Int) (w : World) (hr0 : Kd.C (Kd.slice 3 (Kd.int .i64)) w A0 l0.length l0) (hc0 : l0.length ≤ c0) (h : spec_weWeight.f k l0 a1 a2 a3 = some r) :
  Calls Try.prog 64 #[.slice A0 l0.length c0, .int .i64 a1, .int .i64 a2, .int .i64 a3] w fun e w' => e = .returned (.int .i64 r) ∧ Below w.heap.size w w' := by
 have HR0 := Aside0.mk hr0
 have HC0 := Aside0.mk hc0
 clear hr0 hc0
 have HB := Aside0.mk (Below.refl w.heap.size w)
 have H : ((spec_weCounts.f k l0).bind fun t101 => (if 0 < (t101.length : Int) then (if 3 < (t101.length : Int) then ((spec_wePower.f k a1 (wrap64 ((rd t101 0) + (rd t101 3)))).bind fun t106 => (if 1 < (t101.length : Int) then (if 2 < (t101.length : Int) then ((spec_wePower.f k a2 (wrap64 ((rd t101 1) + (rd t101 2)))).bind fun t109 => (if 5 < (t101.length : Int) then ((spec_wePower.f k a3 (rd t101 5)).bind fun t111 => (some (wrap64 ((wrap64 (t106 * t109)) * t111)))) else (none))) else (none)) else (none))) else (none)) else (none))) = some r := h
 clear h
 replace H := Option.bind_eq_some_iff.mp H
 obtain ⟨t101, A50, H⟩ := H
 replace H : (if 0 < (t101.length : Int) then (if 3 < (t101.length : Int) then ((spec_wePower.f k a1 (wrap64 ((rd t101 0) + (rd t101 3)))).bind fun t106 => (if 1 < (t101.length : Int) then (if 2 < (t101.length : Int) then ((spec_wePower.f k a2 (wrap64 ((rd t101 1) + (rd t101 2)))).bind fun t109 => (if 5 < (t101.length : Int) then ((spec_wePower.f k a3 (rd t101 5)).bind fun t111 => (some (wrap64 ((wrap64 (t106 * t109)) * t111)))) else (none))) else (none)) else (none))) else (none)) else (none)) = some r := H
 have A5 := Aside0.mk A50
 clear A50
 by_cases c6 : 0 < (t101.length : Int)
 ·rw [if_pos c6] at H
  have c6b0 : decide (0 < (t101.length : Int)) = true := decide_eq_true c6
  have c6b1 : decide (0 < t101.length) = true := decide_eq_true (by omega)
  clear c6
  by_cases c7 : 3 < (t101.length : Int)
  ·rw [if_pos c7] at H
   have c7b0 : decide (3 < (t101.length : Int)) = true := decide_eq_true c7
   have c7b1 : decide (3 < t101.length) = true := decide_eq_true (by omega)
   clear c7
   replace H := Option.bind_eq_some_iff.mp H
   obtain ⟨t106, A80, H⟩ := H
   replace H : (if 1 < (t101.length : Int) then (if 2 < (t101.length : Int) then ((spec_wePower.f k a2 (wrap64 ((rd t101 1) + (rd t101 2)))).bind fun t109 => (if 5 < (t101.length : Int) then ((spec_wePower.f k a3 (rd t101 5)).bind fun t111 => (some (wrap64 ((wrap64 (t106 * t109)) * t111)))) else (none))) else (none)) else (none)) = some r := H
   have A8 := Aside0.mk A80
   clear A80
   by_cases c9 : 1 < (t101.length : Int)
   ·rw [if_pos c9] at H
    have c9b0 : decide (1 < (t101.length : Int)) = true := decide_eq_true c9
    have c9b1 : decide (1 < t101.length) = true := decide_eq_true (by omega)
    clear c9
    by_cases c10 : 2 < (t101.length : Int)
    ·rw [if_pos c10] at H
     have c10b0 : decide (2 < (t101.length : Int)) = true := decide_eq_true c10
     have c10b1 : decide (2 < t101.length) = true := decide_eq_true (by omega)
     clear c10
     replace H := Option.bind_eq_some_iff.mp H
     obtain ⟨t109, A110, H⟩ := H
     replace H : (if 5 < (t101.length : Int) then ((spec_wePower.f k a3 (rd t101 5)).bind fun t111 => (some (wrap64 ((wrap64 (t106 * t109)) * t111)))) else (none)) = some r := H
     have A11 := Aside0.mk A110
     clear A110
     by_cases c12 : 5 < (t101.length : Int)
     ·rw [if_pos c12] at H
      have c12b0 : decide (5 < (t101.length : Int)) = true := decide_eq_true c12
      have c12b1 : decide (5 < t101.length) = true := decide_eq_true (by omega)
      clear c12
      replace H := Option.bind_eq_some_iff.mp H
      obtain ⟨t111, A130, H⟩ := H
      replace H : (some (wrap64 ((wrap64 (t106 * t109)) * t111))) = some r := H
      have A13 := Aside0.mk A130
      clear A130
      obtain rfl := Option.some.inj H
      go_enter Try.func64, Try.ntmps64
      go_wp2_with (first | (go_at_call 58; (with_reducible refine (spec_weCounts.calls k _ _ l0 t101 _ ?side1 ?side2 A5.out).mono ?_); (case side1 => repeat (first | exact HR0.out | (with_reducible refine Kd.C_alloc ?_ _) | (with_reducible refine Kd.C_drewN ?_ _) | (with_reducible refine Kd.C_drew ?_))); (case side2 => exact HC0.out); rintro e w14 ⟨v102, rfl, ho0, hb⟩; have n0_ := Aside0.mk (Kd.R_lower ho0 (below_size tc0_)); have n1_ := Aside0.mk (below_step tc0_ hb); clear HB; have HO103 := n0_; have HB := n1_; clear n0_ n1_; (try clear hb); (try clear hb2); (try clear hk); (try clear hi); (try clear ho0); obtain ⟨Ao15, co15, eo15⟩ := Kd.R_slice HO103.out; subst eo15; have p104 : 0 ≤ (0 : Int) := (by omega); have q104 : 0 < (t101.length : Int) := of_decide_eq_true tc2_; obtain ⟨ad104, e104, hx104_0⟩ := Kd.at_int (Kd.R_reads' HO103.out).2.2 0 p104 q104; cases e104; have qi104 : (0 < t101.length) = True := eq_true (by omega); (try rw [show ((0 : Int)).toNat = 0 from rfl] at hx104_0); (try rw [Addr.add_zero'] at hx104_0); replace p104 := eq_true p104; replace q104 := eq_true q104; have p105 : 0 ≤ (3 : Int) := (by omega); have q105 : 3 < (t101.length : Int) := of_decide_eq_true tc2_; obtain ⟨ad105, e105, hx105_0⟩ := Kd.at_int (Kd.R_reads' HO103.out).2.2 3 p105 q105; obtain rfl : ad104 = ad105 := (by injection e105); (try simp only [show (3 : Int).toNat = 3 from rfl, Nat.reduceMul, Nat.reduceEqDiff, Go.Addr.add, ↓reduceIte] at hx105_0); have qi105 : (3 < t101.length) = True := eq_true (by omega); (try rw [show ((3 : Int)).toNat = 3 from rfl] at hx105_0); replace p105 := eq_true p105; replace q105 := eq_true q105; have p107 : 0 ≤ (1 : Int) := (by omega); have q107 : 1 < (t101.length : Int) := of_decide_eq_true tc2_; obtain ⟨ad107, e107, hx107_0⟩ := Kd.at_int (Kd.R_reads' HO103.out).2.2 1 p107 q107; obtain rfl : ad104 = ad107 := (by injection e107); (try simp only [show (1 : Int).toNat = 1 from rfl, Nat.reduceMul, Nat.reduceEqDiff, Go.Addr.add, ↓reduceIte] at hx107_0); have qi107 : (1 < t101.length) = True := eq_true (by omega); (try rw [show ((1 : Int)).toNat = 1 from rfl] at hx107_0); replace p107 := eq_true p107; replace q107 := eq_true q107; have p108 : 0 ≤ (2 : Int) := (by omega); have q108 : 2 < (t101.length : Int) := of_decide_eq_true tc2_; obtain ⟨ad108, e108, hx108_0⟩ := Kd.at_int (Kd.R_reads' HO103.out).2.2 2 p108 q108; obtain rfl : ad104 = ad108 := (by injection e108); (try simp only [show (2 : Int).toNat = 2 from rfl, Nat.reduceMul, Nat.reduceEqDiff, Go.Addr.add, ↓reduceIte] at hx108_0); have qi108 : (2 < t101.length) = True := eq_true (by omega); (try rw [show ((2 : Int)).toNat = 2 from rfl] at hx108_0); replace p108 := eq_true p108; replace q108 := eq_true q108; have p110 : 0 ≤ (5 : Int) := (by omega); have q110 : 5 < (t101.length : Int) := of_decide_eq_true tc2_; obtain ⟨ad110, e110, hx110_0⟩ := Kd.at_int (Kd.R_reads' HO103.out).2.2 5 p110 q110; obtain rfl : ad104 = ad110 := (by injection e110); (try simp only [show (5 : Int).toNat = 5 from rfl, Nat.reduceMul, Nat.reduceEqDiff, Go.Addr.add, ↓reduceIte] at hx110_0); have qi110 : (5 < t101.length) = True := eq_true (by omega); (try rw [show ((5 : Int)).toNat = 5 from rfl] at hx110_0); replace p110 := eq_true p110; replace q110 := eq_true q110) | (go_at_call 59; (with_reducible refine (spec_wePower.calls k a1 (wrap64 ((rd t101 0) + (rd t101 3))) t106 _ A8.out).mono ?_); rintro e w' ⟨rfl, ⟨nd, rfl⟩⟩; (try first | exact ⟨rfl, _, World.drewN_drewN _ _ _⟩ | exact ⟨rfl, _, Eq.trans (World.drewN_drewN _ _ _) (congrArg (World.drewN _) (Nat.add_assoc _ _ _))⟩)) | (go_at_call 59; (with_reducible refine (spec_wePower.calls k a2 (wrap64 ((rd t101 1) + (rd t101 2))) t109 _ A11.out).mono ?_); rintro e w' ⟨rfl, ⟨nd, rfl⟩⟩; (try first | exact ⟨rfl, _, World.drewN_drewN _ _ _⟩ | exact ⟨rfl, _, Eq.trans (World.drewN_drewN _ _ _) (congrArg (World.drewN _) (Nat.add_assoc _ _ _))⟩)) | (go_at_call 59; (with_reducible refine (spec_wePower.calls k a3 (rd t101 5) t111 _ A13.out).mono ?_); rintro e w' ⟨rfl, ⟨nd, rfl⟩⟩; (try first | exact ⟨rfl, _, World.drewN_drewN _ _ _⟩ | exact ⟨rfl, _, Eq.trans (World.drewN_drewN _ _ _) (congrArg (World.drewN _) (Nat.add_assoc _ _ _))⟩)))
      repeat (go_quiet (first | (go_at_call 58; (with_reducible refine (spec_weCounts.calls k _ _ l0 t101 _ ?side1 ?side2 A5.out).mono ?_); (case side1 => repeat (first | exact HR0.out | (with_reducible refine Kd.C_alloc ?_ _) | (with_reducible refine Kd.C_drewN ?_ _) | (with_reducible refine Kd.C_drew ?_))); (case side2 => exact HC0.out); rintro e w14 ⟨v102, rfl, ho0, hb⟩; have n0_ := Aside0.mk (Kd.R_lower ho0 (below_size tc0_)); have n1_ := Aside0.mk (below_step tc0_ hb); clear HB; have HO103 := n0_; have HB := n1_; clear n0_ n1_; (try clear hb); (try clear hb2); (try clear hk); (try clear hi); (try clear ho0); obtain ⟨Ao15, co15, eo15⟩ := Kd.R_slice HO103.out; subst eo15; have p104 : 0 ≤ (0 : Int) := (by omega); have q104 : 0 < (t101.length : Int) := of_decide_eq_true tc2_; obtain ⟨ad104, e104, hx104_0⟩ := Kd.at_int (Kd.R_reads' HO103.out).2.2 0 p104 q104; cases e104; have qi104 : (0 < t101.length) = True := eq_true (by omega); (try rw [show ((0 : Int)).toNat = 0 from rfl] at hx104_0); (try rw [Addr.add_zero'] at hx104_0); replace p104 := eq_true p104; replace q104 := eq_true q104; have p105 : 0 ≤ (3 : Int) := (by omega); have q105 : 3 < (t101.length : Int) := of_decide_eq_true tc2_; obtain ⟨ad105, e105, hx105_0⟩ := Kd.at_int (Kd.R_reads' HO103.out).2.2 3 p105 q105; obtain rfl : ad104 = ad105 := (by injection e105); (try simp only [show (3 : Int).toNat = 3 from rfl, Nat.reduceMul, Nat.reduceEqDiff, Go.Addr.add, ↓reduceIte] at hx105_0); have qi105 : (3 < t101.length) = True := eq_true (by omega); (try rw [show ((3 : Int)).toNat = 3 from rfl] at hx105_0); replace p105 := eq_true p105; replace q105 := eq_true q105; have p107 : 0 ≤ (1 : Int) := (by omega); have q107 : 1 < (t101.length : Int) := of_decide_eq_true tc2_; obtain ⟨ad107, e107, hx107_0⟩ := Kd.at_int (Kd.R_reads' HO103.out).2.2 1 p107 q107; obtain rfl : ad104 = ad107 := (by injection e107); (try simp only [show (1 : Int).toNat = 1 from rfl, Nat.reduceMul, Nat.reduceEqDiff, Go.Addr.add, ↓reduceIte] at hx107_0); have qi107 : (1 < t101.length) = True := eq_true (by omega); (try rw [show ((1 : Int)).toNat = 1 from rfl] at hx107_0); replace p107 := eq_true p107; replace q107 := eq_true q107; have p108 : 0 ≤ (2 : Int) := (by omega); have q108 : 2 < (t101.length : Int) := of_decide_eq_true tc2_; obtain ⟨ad108, e108, hx108_0⟩ := Kd.at_int (Kd.R_reads' HO103.out).2.2 2 p108 q108; obtain rfl : ad104 = ad108 := (by injection e108); (try simp only [show (2 : Int).toNat = 2 from rfl, Nat.reduceMul, Nat.reduceEqDiff, Go.Addr.add, ↓reduceIte] at hx108_0); have qi108 : (2 < t101.length) = True := eq_true (by omega); (try rw [show ((2 : Int)).toNat = 2 from rfl] at hx108_0); replace p108 := eq_true p108; replace q108 := eq_true q108; have p110 : 0 ≤ (5 : Int) := (by omega); have q110 : 5 < (t101.length : Int) := of_decide_eq_true tc2_; obtain ⟨ad110, e110, hx110_0⟩ := Kd.at_int (Kd.R_reads' HO103.out).2.2 5 p110 q110; obtain rfl : ad104 = ad110 := (by injection e110); (try simp only [show (5 : Int).toNat = 5 from rfl, Nat.reduceMul, Nat.reduceEqDiff, Go.Addr.add, ↓reduceIte] at hx110_0); have qi110 : (5 < t101.length) = True := eq_true (by omega); (try rw [show ((5 : Int)).toNat = 5 from rfl] at hx110_0); replace p110 := eq_true p110; replace q110 := eq_true q110; have p107 : 0 ≤ (1 : Int) := (by omega); have q107 : 1 < (t101.length : Int) := of_decide_eq_true tc2_; obtain ⟨ad107, e107, hx107_0⟩ := Kd.at_int (Kd.R_reads' HO103.out).2.2 1 p107 q107; obtain rfl : ad104 = ad107 := (by injection e107); (try simp only [show (1 : Int).toNat = 1 from rfl, Nat.reduceMul, Nat.reduceEqDiff, Go.Addr.add, ↓reduceIte] at hx107_0); have qi107 : (1 < t101.length) = True := eq_true (by omega); (try rw [show ((1 : Int)).toNat = 1 from rfl] at hx107_0); replace p107 := eq_true p107; replace q107 := eq_true q107; have p108 : 0 ≤ (2 : Int) := (by omega); have q108 : 2 < (t101.length : Int) := of_decide_eq_true tc2_; obtain ⟨ad108, e108, hx108_0⟩ := Kd.at_int (Kd.R_reads' HO103.out).2.2 2 p108 q108; obtain rfl : ad104 = ad108 := (by injection e108); (try simp only [show (2 : Int).toNat = 2 from rfl, Nat.reduceMul, Nat.reduceEqDiff, Go.Addr.add, ↓reduceIte] at hx108_0); have qi108 : (2 < t101.length) = True := eq_true (by omega); (try rw [show ((2 : Int)).toNat = 2 from rfl] at hx108_0); replace p108 := eq_true p108; replace q108 := eq_true q108; have p110 : 0 ≤ (5 : Int) := (by omega); have q110 : 5 < (t101.length : Int) := of_decide_eq_true tc2_; obtain ⟨ad110, e110, hx110_0⟩ := Kd.at_int (Kd.R_reads' HO103.out).2.2 5 p110 q110; obtain rfl : ad104 = ad110 := (by injection e110); (try simp only [show (5 : Int).toNat = 5 from rfl, Nat.reduceMul, Nat.reduceEqDiff, Go.Addr.add, ↓reduceIte] at hx110_0); have qi110 : (5 < t101.length) = True := eq_true (by omega); (try rw [show ((5 : Int)).toNat = 5 from rfl] at hx110_0); replace p110 := eq_true p110; replace q110 := eq_true q110) | (go_at_call 59; (with_reducible refine (spec_wePower.calls k a1 (wrap64 ((rd t101 0) + (rd t101 3))) t106 _ A8.out).mono ?_); rintro e w' ⟨rfl, ⟨nd, rfl⟩⟩; (try first | exact ⟨rfl, _, World.drewN_drewN _ _ _⟩ | exact ⟨rfl, _, Eq.trans (World.drewN_drewN _ _ _) (congrArg (World.drewN _) (Nat.add_assoc _ _ _))⟩)) | (go_at_call 59; (with_reducible refine (spec_wePower.calls k a2 (wrap64 ((rd t101 1) + (rd t101 2))) t109 _ A11.out).mono ?_); rintro e w' ⟨rfl, ⟨nd, rfl⟩⟩; (try first | exact ⟨rfl, _, World.drewN_drewN _ _ _⟩ | exact ⟨rfl, _, Eq.trans (World.drewN_drewN _ _ _) (congrArg (World.drewN _) (Nat.add_assoc _ _ _))⟩)) | (go_at_call 59; (with_reducible refine (spec_wePower.calls k a3 (rd t101 5) t111 _ A13.out).mono ?_); rintro e w' ⟨rfl, ⟨nd, rfl⟩⟩; (try first | exact ⟨rfl, _, World.drewN_drewN _ _ _⟩ | exact ⟨rfl, _, Eq.trans (World.drewN_drewN _ _ _) (congrArg (World.drewN _) (Nat.add_assoc _ _ _))⟩))); try go_wp2_with (first | (go_at_call 58; (with_reducible refine (spec_weCounts.calls k _ _ l0 t101 _ ?side1 ?side2 A5.out).mono ?_); (case side1 => repeat (first | exact HR0.out | (with_reducible refine Kd.C_alloc ?_ _) | (with_reducible refine Kd.C_drewN ?_ _) | (with_reducible refine Kd.C_drew ?_))); (case side2 => exact HC0.out); rintro e w14 ⟨v102, rfl, ho0, hb⟩; have n0_ := Aside0.mk (Kd.R_lower ho0 (below_size tc0_)); have n1_ := Aside0.mk (below_step tc0_ hb); clear HB; have HO103 := n0_; have HB := n1_; clear n0_ n1_; (try clear hb); (try clear hb2); (try clear hk); (try clear hi); (try clear ho0); obtain ⟨Ao15, co15, eo15⟩ := Kd.R_slice HO103.out; subst eo15; have p104 : 0 ≤ (0 : Int) := (by omega); have q104 : 0 < (t101.length : Int) := of_decide_eq_true tc2_; obtain ⟨ad104, e104, hx104_0⟩ := Kd.at_int (Kd.R_reads' HO103.out).2.2 0 p104 q104; cases e104; have qi104 : (0 < t101.length) = True := eq_true (by omega); (try rw [show ((0 : Int)).toNat = 0 from rfl] at hx104_0); (try rw [Addr.add_zero'] at hx104_0); replace p104 := eq_true p104; replace q104 := eq_true q104; have p105 : 0 ≤ (3 : Int) := (by omega); have q105 : 3 < (t101.length : Int) := of_decide_eq_true tc2_; obtain ⟨ad105, e105, hx105_0⟩ := Kd.at_int (Kd.R_reads' HO103.out).2.2 3 p105 q105; obtain rfl : ad104 = ad105 := (by injection e105); (try simp only [show (3 : Int).toNat = 3 from rfl, Nat.reduceMul, Nat.reduceEqDiff, Go.Addr.add, ↓reduceIte] at hx105_0); have qi105 : (3 < t101.length) = True := eq_true (by omega); (try rw [show ((3 : Int)).toNat = 3 from rfl] at hx105_0); replace p105 := eq_true p105; replace q105 := eq_true q105) | (go_at_call 59; (with_reducible refine (spec_wePower.calls k a1 (wrap64 ((rd t101 0) + (rd t101 3))) t106 _ A8.out).mono ?_); rintro e w' ⟨rfl, ⟨nd, rfl⟩⟩; (try first | exact ⟨rfl, _, World.drewN_drewN _ _ _⟩ | exact ⟨rfl, _, Eq.trans (World.drewN_drewN _ _ _) (congrArg (World.drewN _) (Nat.add_assoc _ _ _))⟩)) | (go_at_call 59; (with_reducible refine (spec_wePower.calls k a2 (wrap64 ((rd t101 1) + (rd t101 2))) t109 _ A11.out).mono ?_); rintro e w' ⟨rfl, ⟨nd, rfl⟩⟩; (try first | exact ⟨rfl, _, World.drewN_drewN _ _ _⟩ | exact ⟨rfl, _, Eq.trans (World.drewN_drewN _ _ _) (congrArg (World.drewN _) (Nat.add_assoc _ _ _))⟩)) | (go_at_call 59; (with_reducible refine (spec_wePower.calls k a3 (rd t101 5) t111 _ A13.out).mono ?_); rintro e w' ⟨rfl, ⟨nd, rfl⟩⟩; (try first | exact ⟨rfl, _, World.drewN_drewN _ _ _⟩ | exact ⟨rfl, _, Eq.trans (World.drewN_drewN _ _ _) (congrArg (World.drewN _) (Nat.add_assoc _ _ _))⟩))))
      go_ret
      exact ⟨by first | rfl | (simp [errW_none, errW_some] <;> rfl) | (simp [*, errW_none, errW_some] <;> rfl), by repeat (first | (with_reducible first | exact HB.out | apply below_alloc | apply pw_below_drewN | apply below_drew1) | exact HB.out)⟩
     ·rw [if_neg c12] at H
      exact absurd H (by simp)
    ·rw [if_neg c10] at H
     exact absurd H (by simp)
   ·rw [if_neg c9] at H
    exact absurd H (by simp)
  ·rw [if_neg c7] at H
   exact absurd H (by simp)
 ·rw [if_neg c6] at H
  exact absurd H (by simp)

/-! ### spec_WeightOf: function 12 -/
def spec_WeightOf.f (k : Nat) (l0 : List (List Int)) (a1 : Int) (a2 : Int) (a3 : Int) : Option (Int × Bool) := (spec_sgGood.f k l0).bind fun t101 => (if t101 = true then ((spec_weWeights.f k (([a1, a2, a3] : List Int))).bind fun t105 => (if t105 = true then (if (l0.length : Int) > 4 then (some (0, false)) else ((spec_weWeight.f k l0 a1 a2 a3).bind fun t106 => (some (t106, true)))) else (some (0, false)))) else (some (0, false)))
theorem spec_WeightOf.mono : ∀ a0 a1 a2 a3  k, LeO (spec_WeightOf.f k a0 a1 a2 a3) (spec_WeightOf.f (k + 1) a0 a1 a2 a3) := by
 intro a0 a1 a2 a3 k
 unfold spec_WeightOf.f
 repeat' first
   | (with_reducible exact spec_sgGood.mono _ _)
   | (with_reducible exact spec_weWeight.mono _ _ _ _ _)
   | (with_reducible exact spec_weWeights.mono _ _)
   | (with_reducible exact LeO.refl _)
   | (with_reducible exact LeO.none _)
   | (with_reducible refine LeO.ite ?_ ?_)
   | (with_reducible refine LeO.bind ?_ (fun _ => ?_))
   | exact spec_sgGood.mono _ _
   | exact spec_weWeight.mono _ _ _ _ _
   | exact spec_weWeights.mono _ _
   | exact LeO.none _
   | refine LeO.ite ?_ ?_
   | refine LeO.bind ?_ (fun _ => ?_)
set_option maxHeartbeats 8000000 in
set_option maxRecDepth 100000 in
theorem spec_WeightOf.calls (k : Nat) (A0 : Option Addr) (c0 : Nat) (l0 : List (List Int)) (a1 : Int) (a2 : Int) (a3 : Int) (r1 : Int) (r2 : Bool) (w : World) (hr0 : Kd.C (Kd.slice 3 (Kd.int .i64)) w A0 l0.length l0) (hc0 : l0.length ≤ c0) (h : spec_WeightOf.f k l0 a1 a2 a3 = some (r1, r2)) :
  Calls Try.prog 12 #[.slice A0 l0.length c0, .int .i64 a1, .int .i64 a2, .int .i64 a3] w fun e w' => e = .returned (.tuple #[.int .i64 r1, .bool r2]) ∧ Below w.heap.size w w' := by
 have HR0 := Aside0.mk hr0
 have HC0 := Aside0.mk hc0
 clear hr0 hc0
 have HB := Aside0.mk (Below.refl w.heap.size w)
 have H : ((spec_sgGood.f k l0).bind fun t101 => (if t101 = true then ((spec_weWeights.f k (([a1, a2, a3] : List Int))).bind fun t105 => (if t105 = true then (if (l0.length : Int) > 4 then (some (0, false)) else ((spec_weWeight.f k l0 a1 a2 a3).bind fun t106 => (some (t106, true)))) else (some (0, false)))) else (some (0, false)))) = some (r1, r2) := h
 clear h
 replace H := Option.bind_eq_some_iff.mp H
 obtain ⟨t101, A50, H⟩ := H
 replace H : (if t101 = true then ((spec_weWeights.f k (([a1, a2, a3] : List Int))).bind fun t105 => (if t105 = true then (if (l0.length : Int) > 4 then (some (0, false)) else ((spec_weWeight.f k l0 a1 a2 a3).bind fun t106 => (some (t106, true)))) else (some (0, false)))) else (some (0, false))) = some (r1, r2) := H
 have A5 := Aside0.mk A50
 clear A50
 by_cases c6 : t101 = true
 ·subst c6
  have H1 : ((spec_weWeights.f k (([a1, a2, a3] : List Int))).bind fun t105 => (if t105 = true then (if (l0.length : Int) > 4 then (some (0, false)) else ((spec_weWeight.f k l0 a1 a2 a3).bind fun t106 => (some (t106, true)))) else (some (0, false)))) = some (r1, r2) := by rw [if_pos rfl] at H; exact H
  clear H
  have H := H1
  clear H1
  obtain ⟨y102, hy102⟩ : ∃ y_ : List Int, y_ = (([a1, a2, a3] : List Int)) := ⟨_, rfl⟩
  replace H : ((spec_weWeights.f k y102).bind fun t105 => (if t105 = true then (if (l0.length : Int) > 4 then (some (0, false)) else ((spec_weWeight.f k l0 a1 a2 a3).bind fun t106 => (some (t106, true)))) else (some (0, false)))) = some (r1, r2) := by first | (rw [hy102]; with_reducible exact H) | (have H2_ := (Option.bind_some _ _).symm.trans H; rw [hy102]; with_reducible exact H2_) | (have H2_ := (Option.bind_some _ _).symm.trans H; with_reducible exact H2_) | with_reducible exact H | (rw [hy102]; exact H) | exact H
  have Ny102 := Aside0.mk hy102
  clear hy102
  replace H := Option.bind_eq_some_iff.mp H
  obtain ⟨t105, A70, H⟩ := H
  replace H : (if t105 = true then (if (l0.length : Int) > 4 then (some (0, false)) else ((spec_weWeight.f k l0 a1 a2 a3).bind fun t106 => (some (t106, true)))) else (some (0, false))) = some (r1, r2) := H
  have A7 := Aside0.mk A70
  clear A70
  by_cases c8 : t105 = true
  ·subst c8
   have H1 : (if (l0.length : Int) > 4 then (some (0, false)) else ((spec_weWeight.f k l0 a1 a2 a3).bind fun t106 => (some (t106, true)))) = some (r1, r2) := by rw [if_pos rfl] at H; exact H
   clear H
   have H := H1
   clear H1
   by_cases c9 : (l0.length : Int) > 4
   ·rw [if_pos c9] at H
    have c9b0 : decide (4 < (l0.length : Int)) = true := decide_eq_true c9
    have c9b1 : decide (4 < l0.length) = true := decide_eq_true (by omega)
    clear c9
    simp only [Option.some.injEq, Prod.mk.injEq] at H
    obtain ⟨rfl, rfl⟩ := H
    go_enter Try.func12, Try.ntmps12
    go_wp2_with (first | ((with_reducible refine gate_callee (f := 63) rfl ?_); refine goesL_ (some 11) rfl rfl Try.func63 (by kernel_rfl) rfl #[.slice A0 l0.length c0] rfl tc1_ ?_; (with_reducible refine (spec_sgGood.calls k _ _ l0 true _ ?side1 ?side2 A5.out).mono ?_); (case side1 => repeat (first | exact HR0.out | (with_reducible refine Kd.C_alloc ?_ _) | (with_reducible refine Kd.C_drewN ?_ _) | (with_reducible refine Kd.C_drew ?_))); (case side2 => exact HC0.out); rintro e w10 ⟨rfl, hb⟩; refine ⟨_, rfl, ?_⟩; have n0_ := Aside0.mk (below_step tc0_ hb); clear HB; have HB := n0_; clear n0_; (try clear hb); (try clear hb2); (try clear hk); (try clear hi)) | ((with_reducible refine gate_dst (N := 17) rfl ?_); (try (refine gate_guard (by rfl) ?_; dsimp only)); refine Kd.R_lit (Kd.int .i64) _ 3 ?hg (N := 17) ?hd (xs := ([a1, a2, a3] : List Int)) (inner := [.int .i64 a1, .int .i64 a2, .int .i64 a3]) (ok := fun _ => True) (okp := fun _ => True) ?hr ?hp (fun _ hk => hk) trivial (Below.refl _ _) (Nat.le_refl _) (by simp) ?_; (case hd => rfl); (case hg => rfl); (case hr => first | (go_simp; done) | (go_simp; rfl)); (case hp => exact (Reps.one (show Kd.M (Kd.int .i64) _ _ _ a1 [.int .i64 a1] from rfl) (Reps.one (show Kd.M (Kd.int .i64) _ _ _ a2 [.int .i64 a2] from rfl) (Reps.one (show Kd.M (Kd.int .i64) _ _ _ a3 [.int .i64 a3] from rfl) (Reps.none _ _))))); intro v103 w11 ho12 hb hg_ hnew_; clear hg_ hnew_; (first | rw [← Ny102.out] at ho12 | (simp only [Int.reduceToNat] at ho12; rw [← Ny102.out] at ho12)); have n0_ := Aside0.mk (Kd.R_lower ho12 (below_size tc0_)); have n1_ := Aside0.mk (below_step tc0_ hb); clear HB; have HO104 := n0_; have HB := n1_; clear n0_ n1_; clear hb ho12; obtain ⟨Ao13, co13, eo13⟩ := Kd.R_slice HO104.out; subst eo13) | (go_at_call 56; (with_reducible refine (spec_weWeights.calls k _ _ y102 true _ ?side1 ?side2 A7.out).mono ?_); (case side1 => repeat (first | exact (Kd.R_reads' HO104.out).2.2 | (with_reducible refine Kd.C_alloc ?_ _) | (with_reducible refine Kd.C_drewN ?_ _) | (with_reducible refine Kd.C_drew ?_))); (case side2 => exact (Kd.R_reads' HO104.out).2.1); rintro e w' ⟨rfl, ⟨nd, rfl⟩⟩))
    go_ret2
    exact ⟨by first | rfl | (simp [errW_none, errW_some] <;> rfl) | (simp [*, errW_none, errW_some] <;> rfl), by repeat (first | (with_reducible first | exact HB.out | apply below_alloc | apply pw_below_drewN | apply below_drew1) | exact HB.out)⟩
   ·rw [if_neg c9] at H
    have c9b0 : decide (4 < (l0.length : Int)) = false := decide_eq_false c9
    have c9b1 : decide (4 < l0.length) = false := decide_eq_false (by omega)
    clear c9
    replace H := Option.bind_eq_some_iff.mp H
    obtain ⟨t106, A140, H⟩ := H
    replace H : (some (t106, true)) = some (r1, r2) := H
    have A14 := Aside0.mk A140
    clear A140
    simp only [Option.some.injEq, Prod.mk.injEq] at H
    obtain ⟨rfl, rfl⟩ := H
    go_enter Try.func12, Try.ntmps12
    go_wp2_with (first | ((with_reducible refine gate_callee (f := 63) rfl ?_); refine goesL_ (some 11) rfl rfl Try.func63 (by kernel_rfl) rfl #[.slice A0 l0.length c0] rfl tc1_ ?_; (with_reducible refine (spec_sgGood.calls k _ _ l0 true _ ?side1 ?side2 A5.out).mono ?_); (case side1 => repeat (first | exact HR0.out | (with_reducible refine Kd.C_alloc ?_ _) | (with_reducible refine Kd.C_drewN ?_ _) | (with_reducible refine Kd.C_drew ?_))); (case side2 => exact HC0.out); rintro e w15 ⟨rfl, hb⟩; refine ⟨_, rfl, ?_⟩; have n0_ := Aside0.mk (below_step tc0_ hb); clear HB; have HB := n0_; clear n0_; (try clear hb); (try clear hb2); (try clear hk); (try clear hi)) | ((with_reducible refine gate_dst (N := 17) rfl ?_); (try (refine gate_guard (by rfl) ?_; dsimp only)); refine Kd.R_lit (Kd.int .i64) _ 3 ?hg (N := 17) ?hd (xs := ([a1, a2, a3] : List Int)) (inner := [.int .i64 a1, .int .i64 a2, .int .i64 a3]) (ok := fun _ => True) (okp := fun _ => True) ?hr ?hp (fun _ hk => hk) trivial (Below.refl _ _) (Nat.le_refl _) (by simp) ?_; (case hd => rfl); (case hg => rfl); (case hr => first | (go_simp; done) | (go_simp; rfl)); (case hp => exact (Reps.one (show Kd.M (Kd.int .i64) _ _ _ a1 [.int .i64 a1] from rfl) (Reps.one (show Kd.M (Kd.int .i64) _ _ _ a2 [.int .i64 a2] from rfl) (Reps.one (show Kd.M (Kd.int .i64) _ _ _ a3 [.int .i64 a3] from rfl) (Reps.none _ _))))); intro v103 w16 ho17 hb hg_ hnew_; clear hg_ hnew_; (first | rw [← Ny102.out] at ho17 | (simp only [Int.reduceToNat] at ho17; rw [← Ny102.out] at ho17)); have n0_ := Aside0.mk (Kd.R_lower ho17 (below_size tc0_)); have n1_ := Aside0.mk (below_step tc0_ hb); clear HB; have HO104 := n0_; have HB := n1_; clear n0_ n1_; clear hb ho17; obtain ⟨Ao18, co18, eo18⟩ := Kd.R_slice HO104.out; subst eo18) | (go_at_call 56; (with_reducible refine (spec_weWeights.calls k _ _ y102 true _ ?side1 ?side2 A7.out).mono ?_); (case side1 => repeat (first | exact (Kd.R_reads' HO104.out).2.2 | (with_reducible refine Kd.C_alloc ?_ _) | (with_reducible refine Kd.C_drewN ?_ _) | (with_reducible refine Kd.C_drew ?_))); (case side2 => exact (Kd.R_reads' HO104.out).2.1); rintro e w' ⟨rfl, ⟨nd, rfl⟩⟩) | ((with_reducible refine gate_callee (f := 64) rfl ?_); refine goesL_ (some 30) rfl rfl Try.func64 (by kernel_rfl) rfl #[.slice A0 l0.length c0, .int .i64 a1, .int .i64 a2, .int .i64 a3] rfl tc1_ ?_; (with_reducible refine (spec_weWeight.calls k _ _ l0 a1 a2 a3 t106 _ ?side1 ?side2 A14.out).mono ?_); (case side1 => repeat (first | exact (Kd.C_below HR0.out tc0_) | (with_reducible refine Kd.C_alloc ?_ _) | (with_reducible refine Kd.C_drewN ?_ _) | (with_reducible refine Kd.C_drew ?_))); (case side2 => exact HC0.out); rintro e w19 ⟨rfl, hb⟩; refine ⟨_, rfl, ?_⟩; have n0_ := Aside0.mk (Kd.R_below tc18_ hb); have n1_ := Aside0.mk (below_step tc0_ hb); clear HO104; clear HB; have HO104 := n0_; have HB := n1_; clear n0_ n1_; (try clear hb); (try clear hb2); (try clear hk); (try clear hi)))
    go_ret2
    exact ⟨by first | rfl | (simp [errW_none, errW_some] <;> rfl) | (simp [*, errW_none, errW_some] <;> rfl), by repeat (first | (with_reducible first | exact HB.out | apply below_alloc | apply pw_below_drewN | apply below_drew1) | exact HB.out)⟩
  ·replace c8 := Bool.eq_false_iff.mpr c8
   subst c8
   have H1 : (some (0, false)) = some (r1, r2) := by rw [if_neg (show ¬ (false = true) by decide)] at H; exact H
   clear H
   have H := H1
   clear H1
   simp only [Option.some.injEq, Prod.mk.injEq] at H
   obtain ⟨rfl, rfl⟩ := H
   go_enter Try.func12, Try.ntmps12
   go_wp2_with (first | ((with_reducible refine gate_callee (f := 63) rfl ?_); refine goesL_ (some 11) rfl rfl Try.func63 (by kernel_rfl) rfl #[.slice A0 l0.length c0] rfl tc1_ ?_; (with_reducible refine (spec_sgGood.calls k _ _ l0 true _ ?side1 ?side2 A5.out).mono ?_); (case side1 => repeat (first | exact HR0.out | (with_reducible refine Kd.C_alloc ?_ _) | (with_reducible refine Kd.C_drewN ?_ _) | (with_reducible refine Kd.C_drew ?_))); (case side2 => exact HC0.out); rintro e w20 ⟨rfl, hb⟩; refine ⟨_, rfl, ?_⟩; have n0_ := Aside0.mk (below_step tc0_ hb); clear HB; have HB := n0_; clear n0_; (try clear hb); (try clear hb2); (try clear hk); (try clear hi)) | ((with_reducible refine gate_dst (N := 17) rfl ?_); (try (refine gate_guard (by rfl) ?_; dsimp only)); refine Kd.R_lit (Kd.int .i64) _ 3 ?hg (N := 17) ?hd (xs := ([a1, a2, a3] : List Int)) (inner := [.int .i64 a1, .int .i64 a2, .int .i64 a3]) (ok := fun _ => True) (okp := fun _ => True) ?hr ?hp (fun _ hk => hk) trivial (Below.refl _ _) (Nat.le_refl _) (by simp) ?_; (case hd => rfl); (case hg => rfl); (case hr => first | (go_simp; done) | (go_simp; rfl)); (case hp => exact (Reps.one (show Kd.M (Kd.int .i64) _ _ _ a1 [.int .i64 a1] from rfl) (Reps.one (show Kd.M (Kd.int .i64) _ _ _ a2 [.int .i64 a2] from rfl) (Reps.one (show Kd.M (Kd.int .i64) _ _ _ a3 [.int .i64 a3] from rfl) (Reps.none _ _))))); intro v103 w21 ho22 hb hg_ hnew_; clear hg_ hnew_; (first | rw [← Ny102.out] at ho22 | (simp only [Int.reduceToNat] at ho22; rw [← Ny102.out] at ho22)); have n0_ := Aside0.mk (Kd.R_lower ho22 (below_size tc0_)); have n1_ := Aside0.mk (below_step tc0_ hb); clear HB; have HO104 := n0_; have HB := n1_; clear n0_ n1_; clear hb ho22; obtain ⟨Ao23, co23, eo23⟩ := Kd.R_slice HO104.out; subst eo23) | (go_at_call 56; (with_reducible refine (spec_weWeights.calls k _ _ y102 false _ ?side1 ?side2 A7.out).mono ?_); (case side1 => repeat (first | exact (Kd.R_reads' HO104.out).2.2 | (with_reducible refine Kd.C_alloc ?_ _) | (with_reducible refine Kd.C_drewN ?_ _) | (with_reducible refine Kd.C_drew ?_))); (case side2 => exact (Kd.R_reads' HO104.out).2.1); rintro e w' ⟨rfl, ⟨nd, rfl⟩⟩))
   go_ret2
   exact ⟨by first | rfl | (simp [errW_none, errW_some] <;> rfl) | (simp [*, errW_none, errW_some] <;> rfl), by repeat (first | (with_reducible first | exact HB.out | apply below_alloc | apply pw_below_drewN | apply below_drew1) | exact HB.out)⟩
 ·replace c6 := Bool.eq_false_iff.mpr c6
  subst c6
  have H1 : (some (0, false)) = some (r1, r2) := by rw [if_neg (show ¬ (false = true) by decide)] at H; exact H
  clear H
  have H := H1
  clear H1
  simp only [Option.some.injEq, Prod.mk.injEq] at H
  obtain ⟨rfl, rfl⟩ := H
  go_enter Try.func12, Try.ntmps12
  go_wp2_with (first | ((with_reducible refine gate_callee (f := 63) rfl ?_); refine goesL_ (some 11) rfl rfl Try.func63 (by kernel_rfl) rfl #[.slice A0 l0.length c0] rfl tc1_ ?_; (with_reducible refine (spec_sgGood.calls k _ _ l0 false _ ?side1 ?side2 A5.out).mono ?_); (case side1 => repeat (first | exact HR0.out | (with_reducible refine Kd.C_alloc ?_ _) | (with_reducible refine Kd.C_drewN ?_ _) | (with_reducible refine Kd.C_drew ?_))); (case side2 => exact HC0.out); rintro e w24 ⟨rfl, hb⟩; refine ⟨_, rfl, ?_⟩; have n0_ := Aside0.mk (below_step tc0_ hb); clear HB; have HB := n0_; clear n0_; (try clear hb); (try clear hb2); (try clear hk); (try clear hi)))
  go_ret2
  exact ⟨by first | rfl | (simp [errW_none, errW_some] <;> rfl) | (simp [*, errW_none, errW_some] <;> rfl), by repeat (first | (with_reducible first | exact HB.out | apply below_alloc | apply pw_below_drewN | apply below_drew1) | exact HB.out)⟩

/-! ### impl_changed: function 65 (by hand) -/
/-- A function value that makes a table of a table, as p says, wherever memory has only grown. -/
structure FnR (P : Program) (g : Nat) (lb : Array Value) (p : List (List Int) → Option (List (List Int))) (w : World) : Prop where
  eg : ∀ args w, (callFunc g args).run P w = .ok (.enter g args) w
  cl : ∀ W, Below w.heap.size w W → ∀ (A : Option Addr) (c : Nat) (x : List (List Int)), Kd.C (Kd.slice 3 (Kd.int .i64)) W A x.length x → x.length ≤ c → ∀ r, p x = some r →
    Calls P g (#[.slice A x.length c] ++ lb) W fun e W' => ∃ v, e = .returned v ∧ Kd.S (Kd.slice 3 (Kd.int .i64)) 40 W' W.heap.size (fun _ => True) v r ∧ Below W.heap.size W W'
def impl_changed.f (k : Nat) (l0 : List (List Int)) (p : List (List Int) → Option (List (List Int))) : Option (List (List Int) × Bool) := (impl_IsSignMatrix.f k l0).bind fun t => if t = true then (p l0).bind fun q => some (q, true) else some ([], false)
theorem impl_changed.mono (l0 : List (List Int)) (p p' : List (List Int) → Option (List (List Int))) (hp : ∀ z, LeO (p z) (p' z)) (k : Nat) : LeO (impl_changed.f k l0 p) (impl_changed.f (k + 1) l0 p') := by
  unfold impl_changed.f
  exact LeO.bind (impl_IsSignMatrix.mono _ _) (fun _ => LeO.ite (LeO.bind (hp _) (fun _ => LeO.refl _)) (LeO.refl _))
set_option maxHeartbeats 4000000 in
set_option maxRecDepth 100000 in
theorem impl_changed.calls (k : Nat) (A0 : Option Addr) (c0 : Nat) (l0 : List (List Int)) (g : Nat) (b : Array Value) (p : List (List Int) → Option (List (List Int))) (r1 : List (List Int)) (r2 : Bool) (w : World) (hr0 : Kd.C (Kd.slice 3 (Kd.int .i64)) w A0 l0.length l0) (hc0 : l0.length ≤ c0)
    (hf : FnR Try.prog g b p w) (h : impl_changed.f k l0 p = some (r1, r2)) :
    Calls Try.prog 65 #[.slice A0 l0.length c0, .func (.func g) #[] b] w fun e w' => ∃ v0_ : Value, e = .returned (.tuple #[v0_, .bool r2]) ∧ Kd.S (Kd.slice 3 (Kd.int .i64)) 40 w' w.heap.size (fun _ => True) v0_ r1 ∧ Below w.heap.size w w' := by
  have HR0 := Aside0.mk hr0
  have HC0 := Aside0.mk hc0
  have HF := Aside0.mk hf.cl
  have eg := hf.eg
  clear hr0 hc0 hf
  obtain ⟨t, ht, h⟩ := Option.bind_eq_some_iff.mp h
  have HT := Aside0.mk ht
  clear ht
  cases t with
  | true =>
    rw [if_pos rfl] at h
    obtain ⟨q, hq, h⟩ := Option.bind_eq_some_iff.mp h
    simp only [Option.some.injEq, Prod.mk.injEq] at h
    obtain ⟨rfl, rfl⟩ := h
    have HQ := Aside0.mk hq
    clear hq
    go_enter Try.func65, Try.ntmps65
    go_wp2_with (first | (go_at_call 61; (refine (impl_IsSignMatrix.calls k A0 c0 l0 true w HR0.out HC0.out HT.out).mono ?_); rintro e w1 ⟨rfl, hb1⟩; have HB1 := Aside0.mk hb1; clear hb1) | (go_at_fn g; (refine (HF.out w1 HB1.out A0 c0 l0 (Kd.C_below HR0.out HB1.out) HC0.out q HQ.out).mono ?_); rintro e w2 ⟨v2, rfl, ho2, hb2⟩; have HO2 := Aside0.mk ho2; have HB2 := Aside0.mk hb2; clear ho2 hb2))
    go_ret2
    exact ⟨_, rfl, Kd.S_lower HO2.out (below_size HB1.out), below_step HB1.out HB2.out⟩
  | false =>
    rw [if_neg (by simp)] at h
    simp only [Option.some.injEq, Prod.mk.injEq] at h
    obtain ⟨rfl, rfl⟩ := h
    go_enter Try.func65, Try.ntmps65
    go_wp2_with (go_at_call 61; (refine (impl_IsSignMatrix.calls k A0 c0 l0 false w HR0.out HC0.out HT.out).mono ?_); rintro e w1 ⟨rfl, hb1⟩; have HB1 := Aside0.mk hb1; clear hb1)
    go_ret2
    exact ⟨_, rfl, Kd.S_nil _ _ _ _ _, HB1.out⟩

/-! ### impl_mirrored_1: function 115 -/
def impl_mirrored_1.f (a0 : Int) (a1 : Int) (l2_0 : List (List Int)) (a3_0 : Int) : Option (Int) := if 0 ≤ a0 then (if a0 < (l2_0.length : Int) then (if 0 ≤ (wrap64 ((wrap64 (a3_0 - 1)) - a1)) then (if (wrap64 ((wrap64 (a3_0 - 1)) - a1)) < ((rd_L3 l2_0 a0).length : Int) then (some (rd (rd_L3 l2_0 a0) (wrap64 ((wrap64 (a3_0 - 1)) - a1)))) else (none)) else (none)) else (none)) else (none)
set_option maxHeartbeats 8000000 in
set_option maxRecDepth 100000 in
theorem impl_mirrored_1.calls (a0 : Int) (a1 : Int) (B2 : Nat) (A2_0 : Option Addr) (c2_0 : Nat) (l2_0 : List (List Int)) (B3 : Nat) (a3_0 : Int) (r : Int) (w : World) (hb2 : w.heap[B2]? = some (.cells #[.slice A2_0 l2_0.length c2_0] 28 (0, 0))) (hr2_0 : Kd.C (Kd.slice 3 (Kd.int .i64)) w A2_0 l2_0.length l2_0) (hc2_0 : l2_0.length ≤ c2_0) (hb3 : w.heap[B3]? = some (.cells #[.int .i64 a3_0] 3 (0, 0))) (h : impl_mirrored_1.f a0 a1 l2_0 a3_0 = some r) :
  Calls Try.prog 115 #[.int .i64 a0, .int .i64 a1, .pointer (some ⟨B2, 0, none⟩), .pointer (some ⟨B3, 0, none⟩)] w fun e w' => e = .returned (.int .i64 r) ∧ Drawn0 w w' := by
 have HR2_0 := Aside0.mk hr2_0
 have HC2_0 := Aside0.mk hc2_0
 clear hr2_0 hc2_0
 have BK62 := Aside0.mk hb2
 clear hb2
 have BK63 := Aside0.mk hb3
 clear hb3
 have H : (if 0 ≤ a0 then (if a0 < (l2_0.length : Int) then (if 0 ≤ (wrap64 ((wrap64 (a3_0 - 1)) - a1)) then (if (wrap64 ((wrap64 (a3_0 - 1)) - a1)) < ((rd_L3 l2_0 a0).length : Int) then (some (rd (rd_L3 l2_0 a0) (wrap64 ((wrap64 (a3_0 - 1)) - a1)))) else (none)) else (none)) else (none)) else (none)) = some r := h
 clear h
 by_cases c5 : 0 ≤ a0
 ·rw [if_pos c5] at H
  have c5b0 : decide (0 ≤ a0) = true := decide_eq_true c5
  clear c5
  by_cases c6 : a0 < (l2_0.length : Int)
  ·rw [if_pos c6] at H
   have c6b0 : decide (a0 < (l2_0.length : Int)) = true := decide_eq_true c6
   clear c6
   obtain ⟨ji7, hji7⟩ : ∃ j_ : Int, (wrap64 ((wrap64 (a3_0 - 1)) - a1)) = j_ := ⟨_, rfl⟩
   replace H : (if 0 ≤ (ji7) then (if (ji7) < ((rd_L3 l2_0 a0).length : Int) then (some (rd (rd_L3 l2_0 a0) (ji7))) else (none)) else (none)) = some r := by first | (rw [hji7] at H; exact H) | (simp only [hji7] at H ⊢; exact H)
   have hji7w : (IntKind.i64.wrap ((wrap64 (a3_0 - 1)) - a1)) = ji7 := (i64_w _).trans hji7
   by_cases c8 : 0 ≤ (ji7)
   ·rw [if_pos c8] at H
    have c8b0 : decide (0 ≤ (ji7)) = true := decide_eq_true c8
    clear c8
    by_cases c9 : (ji7) < ((rd_L3 l2_0 a0).length : Int)
    ·rw [if_pos c9] at H
     have c9b0 : decide ((ji7) < ((rd_L3 l2_0 a0).length : Int)) = true := decide_eq_true c9
     clear c9
     obtain rfl := Option.some.inj H
     have hcz10_0 : w.cell? ⟨B2, 0, none⟩ = some (.slice A2_0 l2_0.length c2_0) := (blk_cell BK62.out 0).trans rfl
     have hfz10_0 := blk_frozen BK62.out 0
     have p101 : 0 ≤ (a0 : Int) := of_decide_eq_true tc2_
     have q101 : a0 < (l2_0.length : Int) := of_decide_eq_true tc2_
     obtain ⟨ad101, A101_0, c101_0, e101, hx101_0, hl101_0, hi101_0⟩ := at_L3 HR2_0.out a0 p101 q101
     cases e101
     have HR101_0 := Aside0.mk hi101_0
     have HC101_0 := Aside0.mk hl101_0
     clear hi101_0 hl101_0
     replace p101 := eq_true p101
     replace q101 := eq_true q101
     have hcz11_0 : w.cell? ⟨B3, 0, none⟩ = some (.int .i64 a3_0) := (blk_cell BK63.out 0).trans rfl
     have hfz11_0 := blk_frozen BK63.out 0
     have p102 : 0 ≤ ((ji7) : Int) := of_decide_eq_true tc2_
     have q102 : (ji7) < ((rd_L3 l2_0 a0).length : Int) := of_decide_eq_true tc2_
     obtain ⟨ad102, e102, hx102_0⟩ := Kd.at_int HR101_0.out (ji7) p102 q102
     cases e102
     replace p102 := eq_true p102
     replace q102 := eq_true q102
     go_enter Try.func115, Try.ntmps115
     go_wp2
     repeat (go_quiet (fail); try go_wp2)
     go_ret
     exact ⟨by first | rfl | (simp; done) | (simp only [← hji7] <;> (first | rfl | simp)) | (simp [*]; done), by repeat (first | exact Drawn0.refl _ | apply Drawn0.step)⟩
    ·rw [if_neg c9] at H
     exact absurd H (by simp)
   ·rw [if_neg c8] at H
    exact absurd H (by simp)
  ·rw [if_neg c6] at H
   exact absurd H (by simp)
 ·rw [if_neg c5] at H
  exact absurd H (by simp)

/-! ### impl_mirrored: function 66 -/
def impl_mirrored.f (k : Nat) (l0 : List (List Int)) : Option ((List (List Int))) := (impl_table.f k (l0.length : Int) (l0.length : Int) (fun x0_ x1_ => impl_mirrored_1.f x0_ x1_ l0 (l0.length : Int))).bind fun t103 => (some t103)
theorem impl_mirrored.mono : ∀ a0  k, LeO (impl_mirrored.f k a0) (impl_mirrored.f (k + 1) a0) := by
 intro a0 k
 unfold impl_mirrored.f
 repeat' first
   | (with_reducible refine impl_table.mono _ _ _ _ (fun _ _ => ?_) _)
   | (with_reducible exact LeO.refl _)
   | (with_reducible exact LeO.none _)
   | (with_reducible refine LeO.ite ?_ ?_)
   | (with_reducible refine LeO.bind ?_ (fun _ => ?_))
   | exact LeO.none _
   | refine LeO.ite ?_ ?_
   | refine LeO.bind ?_ (fun _ => ?_)
set_option maxHeartbeats 8000000 in
set_option maxRecDepth 100000 in
theorem impl_mirrored.calls (k : Nat) (A0 : Option Addr) (c0 : Nat) (l0 : List (List Int)) (r : List (List Int)) (w : World) (hr0 : Kd.C (Kd.slice 3 (Kd.int .i64)) w A0 l0.length l0) (hc0 : l0.length ≤ c0) (h : impl_mirrored.f k l0 = some r) :
  Calls Try.prog 66 #[.slice A0 l0.length c0] w fun e w' => ∃ v0_ : Value, e = .returned (v0_) ∧ Kd.S (Kd.slice 3 (Kd.int .i64)) 40 w' w.heap.size (fun _ => True) v0_ r ∧ Below w.heap.size w w' := by
 have HR0 := Aside0.mk hr0
 have HC0 := Aside0.mk hc0
 clear hr0 hc0
 have HB := Aside0.mk (Below.refl w.heap.size w)
 have H : ((impl_table.f k (l0.length : Int) (l0.length : Int) (fun x0_ x1_ => impl_mirrored_1.f x0_ x1_ l0 (l0.length : Int))).bind fun t103 => (some t103)) = some r := h
 clear h
 replace H := Option.bind_eq_some_iff.mp H
 obtain ⟨t103, A20, H⟩ := H
 replace H : (some t103) = some r := H
 have A2 := Aside0.mk A20
 clear A20
 obtain rfl := Option.some.inj H
 go_enter Try.func66, Try.ntmps66
 go_wp2_with (first | ((with_reducible refine gate_dst (N := 1) rfl ?_); refine box_event ?hg (N := 1) ?hd (cs := #[.slice A0 l0.length c0]) (t := 28) ?hr ?_; (case hd => rfl); (case hg => rfl); (case hr => first | (go_simp; done) | (go_simp; rfl)); intro gb101 hg w3 hbox hb; have n0_ := Aside0.mk (below_step tc0_ hb); have n1_ := Aside0.mk (hbox); have n2_ := Aside0.mk ((by rw [hg]; exact (below_size tc0_) : w.heap.size ≤ gb101)); have n3_ := Aside0.mk ((by rw [hg]; exact (below_size tc0_) : w.heap.size ≤ gb101)); clear HB; have HB := n0_; have BK101 := n1_; have GW101 := n2_; have GE101 := n3_; clear n0_ n1_ n2_ n3_; clear hb hbox hg; have hcz4_0 : w3.cell? ⟨gb101, 0, none⟩ = some (.slice A0 l0.length c0) := (blk_cell BK101.out 0).trans rfl; have hfz4_0 := blk_frozen BK101.out 0) | ((with_reducible refine gate_dst (N := 3) rfl ?_); refine box_event ?hg (N := 3) ?hd (cs := #[.int .i64 0]) (t := 3) ?hr ?_; (case hd => rfl); (case hg => rfl); (case hr => first | (go_simp; done) | (go_simp; rfl)); intro gb102 hg w5 hbox hb; have n0_ := Aside0.mk (blk_below (g := gb101) (o := .cells #[.slice A0 l0.length c0] 28 (0, 0)) tc5_ hb); have n1_ := Aside0.mk (below_step tc6_ hb); have n2_ := Aside0.mk (hbox); have n3_ := Aside0.mk ((by rw [hg]; exact (below_size tc6_) : w.heap.size ≤ gb102)); have n4_ := Aside0.mk ((by rw [hg]; exact (below_size tc6_) : w.heap.size ≤ gb102)); have n5_ := Aside0.mk ((by rw [hg]; exact Nat.ne_of_lt (blk_lt (g := gb101) (o := .cells #[.slice A0 l0.length c0] 28 (0, 0)) tc5_) : gb101 ≠ gb102)); have n6_ := Aside0.mk ((by rw [hg]; exact Nat.ne_of_gt (blk_lt (g := gb101) (o := .cells #[.slice A0 l0.length c0] 28 (0, 0)) tc5_) : gb102 ≠ gb101)); clear BK101; clear HB; have BK101 := n0_; have HB := n1_; have BK102 := n2_; have GW102 := n3_; have GE102 := n4_; have NB101_102 := n5_; have NB102_101 := n6_; clear n0_ n1_ n2_ n3_ n4_ n5_ n6_; clear hb hbox hg; have hnb6 := NB102_101.out; have hnc6 := NB101_102.out; have hcz7_0 : w5.cell? ⟨gb102, 0, none⟩ = some (.int .i64 0) := (blk_cell BK102.out 0).trans rfl; have hfz7_0 := blk_frozen BK102.out 0) | ((with_reducible refine gate_callee (f := 73) rfl ?_); refine goesL_ (some 9) rfl rfl Try.func73 (by kernel_rfl) rfl #[.int .i64 (l0.length : Int), .int .i64 (l0.length : Int), .func (.func 115) #[] #[.pointer (some ⟨gb101, 0, none⟩), .pointer (some ⟨gb102, 0, none⟩)]] rfl tc1_ ?_; (with_reducible refine (impl_table.calls k (l0.length : Int) (l0.length : Int) _ _ (fun x0_ x1_ => impl_mirrored_1.f x0_ x1_ l0 (l0.length : Int)) t103 _ ?side1 A2.out).mono ?_); (case side1 => refine ⟨enters_of Try.func115 (by kernel_rfl) rfl, fun W_ hW_ x0_ v0_ hK0_ x1_ v1_ hK1_ r_ hr_ => ?_⟩; cases (show v0_ = .int .i64 x0_ from by simpa [Kd.int, Kd.bool, Kd.string, Kd.scalar] using hK0_); cases (show v1_ = .int .i64 x1_ from by simpa [Kd.int, Kd.bool, Kd.string, Kd.scalar] using hK1_); refine (impl_mirrored_1.calls x0_ x1_ _ A0 c0 l0 _ (l0.length : Int) r_ W_ ?cb1 ?cb2 ?cb3 ?cb4 hr_).mono ?_; (case cb1 => exact blk_below (by (with_reducible repeat (first | refine blk_drewN ?_ _ | refine blk_drew ?_ | refine blk_alloc ?_ _)); refine blk_far ?_ NB101_102.out _; (with_reducible repeat (first | refine blk_drewN ?_ _ | refine blk_drew ?_ | refine blk_alloc ?_ _)); exact BK101.out) hW_); (case cb2 => refine Kd.C_below ?_ hW_; exact Kd.C_below HR0.out tc8_); (case cb3 => exact HC0.out); (case cb4 => exact blk_below tc17_ hW_); exact fun _ _ h_ => ⟨h_.1, h_.2.below⟩); rintro e w8 ⟨v104, rfl, ho0, hb⟩; refine ⟨_, rfl, ?_⟩; have n0_ := Aside0.mk (Kd.S_lower (Kd.S_newB ho0 (g := gb102) (o := .cells #[.int .i64 (l0.length : Int)] 3 (0, 0)) tc17_) (below_size tc8_)); have n1_ := Aside0.mk (blk_below (g := gb101) (o := .cells #[.slice A0 l0.length c0] 28 (0, 0)) (by (with_reducible repeat (first | refine blk_drewN ?_ _ | refine blk_drew ?_ | refine blk_alloc ?_ _)); refine blk_far ?_ NB101_102.out _; (with_reducible repeat (first | refine blk_drewN ?_ _ | refine blk_drew ?_ | refine blk_alloc ?_ _)); exact BK101.out) hb); have n2_ := Aside0.mk (blk_below (g := gb102) (o := .cells #[.int .i64 (l0.length : Int)] 3 (0, 0)) tc17_ hb); have n3_ := Aside0.mk (below_step tc8_ hb); clear BK101; clear BK102; clear HB; have HO105 := n0_; have BK101 := n1_; have BK102 := n2_; have HB := n3_; clear n0_ n1_ n2_ n3_; (try clear hb); (try clear hb2); (try clear hk); (try clear hi); (try clear ho0)))
 go_ret
 exact ⟨_, by first | rfl | (simp [errW_none, errW_some] <;> rfl) | (simp [*, errW_none, errW_some] <;> rfl), by (with_reducible repeat (first | apply Kd.S_alloc | apply Kd.S_drewN | apply Kd.S_drew)); exact Kd.S_mono HO105.out (fun _ hk => trivial), by repeat (first | (with_reducible first | exact HB.out | apply below_alloc | apply pw_below_drewN | apply below_drew1 | refine below_set ?_ GE101.out | refine below_set ?_ GE102.out) | exact HB.out)⟩

/-! ### impl_MirrorMatrix: function 13 (by hand) -/
def impl_MirrorMatrix.f (k : Nat) (l0 : List (List Int)) : Option (List (List Int) × Bool) := impl_changed.f k l0 (fun x => impl_mirrored.f k x)
theorem impl_MirrorMatrix.mono (l0 : List (List Int)) (k : Nat) : LeO (impl_MirrorMatrix.f k l0) (impl_MirrorMatrix.f (k + 1) l0) := impl_changed.mono _ _ _ (fun _ => impl_mirrored.mono _ _) _
set_option maxHeartbeats 4000000 in
set_option maxRecDepth 100000 in
theorem impl_MirrorMatrix.calls (k : Nat) (A0 : Option Addr) (c0 : Nat) (l0 : List (List Int)) (r1 : List (List Int)) (r2 : Bool) (w : World) (hr0 : Kd.C (Kd.slice 3 (Kd.int .i64)) w A0 l0.length l0) (hc0 : l0.length ≤ c0) (h : impl_MirrorMatrix.f k l0 = some (r1, r2)) :
    Calls Try.prog 13 #[.slice A0 l0.length c0] w fun e w' => ∃ v0_ : Value, e = .returned (.tuple #[v0_, .bool r2]) ∧ Kd.S (Kd.slice 3 (Kd.int .i64)) 40 w' w.heap.size (fun _ => True) v0_ r1 ∧ Below w.heap.size w w' := by
  have HR0 := Aside0.mk hr0
  have HC0 := Aside0.mk hc0
  have H := Aside0.mk h
  clear hr0 hc0 h
  go_enter Try.func13, Try.ntmps13
  go_wp2_with (go_at_call 65; (refine (impl_changed.calls k A0 c0 l0 66 #[] (fun x => impl_mirrored.f k x) r1 r2 w HR0.out HC0.out ?fn H.out).mono ?_); (case fn => exact ⟨enters_of Try.func66 (by kernel_rfl) rfl, fun W hW A c x hr hc r hx => by (refine (impl_mirrored.calls k A c x r W hr hc hx).mono ?_; rintro e W' ⟨v, rfl, ho, hb⟩; exact ⟨v, rfl, ho, hb⟩)⟩); rintro e w1 ⟨v1, rfl, ho1, hb1⟩; have HO := Aside0.mk ho1; have HB := Aside0.mk hb1; clear ho1 hb1)
  go_ret2
  exact ⟨_, rfl, HO.out, HB.out⟩

/-! ### spec_DrawWeightSum: function 14 -/
def spec_DrawWeightSum.f (l0 : List Int) : Option (Int × Int × Int × Int) := (spec_l1Cur_side.f l0 0 0 4).bind fun bt102 => ((spec_l1Cur_weight.f l0 bt102.2.1 bt102.2.2 5).bind fun bt105 => ((spec_l1Cur_weight.f l0 bt105.2.1 bt105.2.2 5).bind fun bt108 => ((spec_l1Cur_weight.f l0 bt108.2.1 bt108.2.2 5).bind fun bt111 => (some (bt102.1, bt105.1, bt108.1, bt111.1)))))
set_option maxHeartbeats 8000000 in
set_option maxRecDepth 100000 in
theorem spec_DrawWeightSum.calls (A0 : Option Addr) (c0 : Nat) (l0 : List Int) (r1 : Int) (r2 : Int) (r3 : Int) (r4 : Int) (w : World) (hr0 : Kd.C (Kd.int .u8) w A0 l0.length l0) (hc0 : l0.length ≤ c0) (h : spec_DrawWeightSum.f l0 = some (r1, r2, r3, r4)) :
  Calls Try.prog 14 #[.slice A0 l0.length c0] w fun e w' => e = .returned (.tuple #[.int .i64 r1, .int .i64 r2, .int .i64 r3, .int .i64 r4]) ∧ Below w.heap.size w w' := by
 have hu49 := Try.underlying49
 have HR0 := Aside0.mk hr0
 have HC0 := Aside0.mk hc0
 clear hr0 hc0
 have HB := Aside0.mk (Below.refl w.heap.size w)
 have H : ((spec_l1Cur_side.f l0 0 0 4).bind fun bt102 => ((spec_l1Cur_weight.f l0 bt102.2.1 bt102.2.2 5).bind fun bt105 => ((spec_l1Cur_weight.f l0 bt105.2.1 bt105.2.2 5).bind fun bt108 => ((spec_l1Cur_weight.f l0 bt108.2.1 bt108.2.2 5).bind fun bt111 => (some (bt102.1, bt105.1, bt108.1, bt111.1)))))) = some (r1, r2, r3, r4) := h
 clear h
 replace H := Option.bind_eq_some_iff.mp H
 obtain ⟨⟨t102, t103, t104⟩, A20, H⟩ := H
 replace H : ((spec_l1Cur_weight.f l0 t103 t104 5).bind fun bt105 => ((spec_l1Cur_weight.f l0 bt105.2.1 bt105.2.2 5).bind fun bt108 => ((spec_l1Cur_weight.f l0 bt108.2.1 bt108.2.2 5).bind fun bt111 => (some (t102, bt105.1, bt108.1, bt111.1))))) = some (r1, r2, r3, r4) := H
 have A2 := Aside0.mk A20
 clear A20
 replace H := Option.bind_eq_some_iff.mp H
 obtain ⟨⟨t105, t106, t107⟩, A30, H⟩ := H
 replace H : ((spec_l1Cur_weight.f l0 t106 t107 5).bind fun bt108 => ((spec_l1Cur_weight.f l0 bt108.2.1 bt108.2.2 5).bind fun bt111 => (some (t102, t105, bt108.1, bt111.1)))) = some (r1, r2, r3, r4) := H
 have A3 := Aside0.mk A30
 clear A30
 replace H := Option.bind_eq_some_iff.mp H
 obtain ⟨⟨t108, t109, t110⟩, A40, H⟩ := H
 replace H : ((spec_l1Cur_weight.f l0 t109 t110 5).bind fun bt111 => (some (t102, t105, t108, bt111.1))) = some (r1, r2, r3, r4) := H
 have A4 := Aside0.mk A40
 clear A40
 replace H := Option.bind_eq_some_iff.mp H
 obtain ⟨⟨t111, t112, t113⟩, A50, H⟩ := H
 replace H : (some (t102, t105, t108, t111)) = some (r1, r2, r3, r4) := H
 have A5 := Aside0.mk A50
 clear A50
 simp only [Option.some.injEq, Prod.mk.injEq] at H
 obtain ⟨rfl, rfl, rfl, rfl⟩ := H
 go_enter Try.func14, Try.ntmps14
 go_wp2_with (first | ((with_reducible refine gate_dst (N := 9) rfl ?_); refine box_event ?hg (N := 9) ?hd (cs := #[.slice A0 l0.length c0, .int .i64 0, .int .u64 0]) (t := 49) ?hr ?_; (case hd => rfl); (case hg => rfl); (case hr => first | (go_simp; done) | (go_simp; rfl)); intro gb101 hg w6 hbox hb; have n0_ := Aside0.mk (below_step tc0_ hb); have n1_ := Aside0.mk ((by rw [hg]; exact (below_size tc0_) : w.heap.size ≤ gb101)); have n2_ := Aside0.mk ((by rw [hg]; exact (below_size tc0_) : w.heap.size ≤ gb101)); have n3_ := Aside0.mk ((show IsS49 w w6 gb101 l0 0 0 from ⟨A0, c0, hbox, (by rw [hg]; exact (below_size tc0_) : w.heap.size ≤ gb101), HR0.out⟩)); clear HB; have HB := n0_; have GW101 := n1_; have GE101 := n2_; have HI101 := n3_; clear n0_ n1_ n2_ n3_; clear hb hbox hg) | ((with_reducible refine gate_callee (f := 50) rfl ?_); refine goesL_ (some 11) rfl rfl Try.func50 (by kernel_rfl) rfl #[.pointer (some ⟨gb101, 0, none⟩), .int .i64 4] rfl tc1_ ?_; (with_reducible refine (spec_l1Cur_side.calls gb101 l0 0 0 4 t102 t103 t104 w _ ?side1 ?side2 A2.out).mono ?_); (case side1 => repeat (first | (with_reducible first | exact HI101.out | apply IsS49.alloc | apply IsS49.drewN | apply IsS49.drew | apply IsS49.set_1 | apply IsS49.set_2) | exact HI101.out)); (case side2 => repeat (first | (with_reducible first | exact HB.out | apply below_alloc | apply pw_below_drewN | apply below_drew1 | refine below_set ?_ (IsS49.ge HI101.out)) | exact HB.out)); rintro e w7 ⟨rfl, hi, hb, hk⟩; refine ⟨_, rfl, ?_⟩; have n0_ := Aside0.mk (hb); have n1_ := Aside0.mk (hi); clear HB; clear HI101; have HB := n0_; have HI101 := n1_; clear n0_ n1_; (try clear hb); (try clear hb2); (try clear hk); (try clear hi)) | ((with_reducible refine gate_callee (f := 51) rfl ?_); refine goesL_ (some 13) rfl rfl Try.func51 (by kernel_rfl) rfl #[.pointer (some ⟨gb101, 0, none⟩), .int .i64 5] rfl tc1_ ?_; (with_reducible refine (spec_l1Cur_weight.calls gb101 l0 t103 t104 5 t105 t106 t107 w _ ?side1 ?side2 A3.out).mono ?_); (case side1 => repeat (first | (with_reducible first | exact HI101.out | apply IsS49.alloc | apply IsS49.drewN | apply IsS49.drew | apply IsS49.set_1 | apply IsS49.set_2) | exact HI101.out)); (case side2 => repeat (first | (with_reducible first | exact HB.out | apply below_alloc | apply pw_below_drewN | apply below_drew1 | refine below_set ?_ (IsS49.ge HI101.out)) | exact HB.out)); rintro e w8 ⟨rfl, hi, hb, hk⟩; refine ⟨_, rfl, ?_⟩; have n0_ := Aside0.mk (hb); have n1_ := Aside0.mk (hi); clear HB; clear HI101; have HB := n0_; have HI101 := n1_; clear n0_ n1_; (try clear hb); (try clear hb2); (try clear hk); (try clear hi)) | ((with_reducible refine gate_callee (f := 51) rfl ?_); refine goesL_ (some 15) rfl rfl Try.func51 (by kernel_rfl) rfl #[.pointer (some ⟨gb101, 0, none⟩), .int .i64 5] rfl tc1_ ?_; (with_reducible refine (spec_l1Cur_weight.calls gb101 l0 t106 t107 5 t108 t109 t110 w _ ?side1 ?side2 A4.out).mono ?_); (case side1 => repeat (first | (with_reducible first | exact HI101.out | apply IsS49.alloc | apply IsS49.drewN | apply IsS49.drew | apply IsS49.set_1 | apply IsS49.set_2) | exact HI101.out)); (case side2 => repeat (first | (with_reducible first | exact HB.out | apply below_alloc | apply pw_below_drewN | apply below_drew1 | refine below_set ?_ (IsS49.ge HI101.out)) | exact HB.out)); rintro e w9 ⟨rfl, hi, hb, hk⟩; refine ⟨_, rfl, ?_⟩; have n0_ := Aside0.mk (hb); have n1_ := Aside0.mk (hi); clear HB; clear HI101; have HB := n0_; have HI101 := n1_; clear n0_ n1_; (try clear hb); (try clear hb2); (try clear hk); (try clear hi)) | ((with_reducible refine gate_callee (f := 51) rfl ?_); refine goesL_ (some 17) rfl rfl Try.func51 (by kernel_rfl) rfl #[.pointer (some ⟨gb101, 0, none⟩), .int .i64 5] rfl tc1_ ?_; (with_reducible refine (spec_l1Cur_weight.calls gb101 l0 t109 t110 5 t111 t112 t113 w _ ?side1 ?side2 A5.out).mono ?_); (case side1 => repeat (first | (with_reducible first | exact HI101.out | apply IsS49.alloc | apply IsS49.drewN | apply IsS49.drew | apply IsS49.set_1 | apply IsS49.set_2) | exact HI101.out)); (case side2 => repeat (first | (with_reducible first | exact HB.out | apply below_alloc | apply pw_below_drewN | apply below_drew1 | refine below_set ?_ (IsS49.ge HI101.out)) | exact HB.out)); rintro e w10 ⟨rfl, hi, hb, hk⟩; refine ⟨_, rfl, ?_⟩; have n0_ := Aside0.mk (hb); have n1_ := Aside0.mk (hi); clear HB; clear HI101; have HB := n0_; have HI101 := n1_; clear n0_ n1_; (try clear hb); (try clear hb2); (try clear hk); (try clear hi)))
 refine bodyPost_ret (results_list (rs := [.tmp 2, .tmp 3, .tmp 4, .tmp 5]) rfl (by simp) (.tmp (.tmp (.tmp (.tmp .nil))))) rfl ?_
 exact ⟨by first | rfl | (simp [errW_none, errW_some] <;> rfl) | (simp [*, errW_none, errW_some] <;> rfl), by repeat (first | (with_reducible first | exact HB.out | apply below_alloc | apply pw_below_drewN | apply below_drew1 | refine below_set ?_ (IsS49.ge HI101.out)) | exact HB.out)⟩

/-! ### slices_Clone_int_int: function 123 (by hand) -/
def slices_Clone_int_int.f (l0 : List Int) : Option (List Int) := if l0.length < 17592186044416 then some l0 else none
set_option maxHeartbeats 1000000 in
set_option maxRecDepth 100000 in
theorem slices_Clone_int_int.calls (A0 : Option Addr) (c0 : Nat) (l0 : List Int) (r : List Int) (w : World) (hr0 : Kd.C (Kd.int .i64) w A0 l0.length l0) (hc0 : l0.length ≤ c0) (h : slices_Clone_int_int.f l0 = some r) :
    Calls Try.prog 123 #[.slice A0 l0.length c0] w fun e w' => ∃ v0_ : Value, e = .returned (v0_) ∧ Kd.R (Kd.int .i64) 3 w' w.heap.size (fun _ => True) v0_ r ∧ Below w.heap.size w w' := by
  have hlt : l0.length < 17592186044416 := by
    unfold slices_Clone_int_int.f at h
    split at h
    · assumption
    · cases h
  unfold slices_Clone_int_int.f at h
  rw [if_pos hlt] at h
  obtain rfl := Option.some.inj h
  have LMc2 := Aside0.mk (show ([] : List Int).length + l0.length < 17592186044416 by simpa using hlt)
  clear h hlt
  have HR0 := Aside0.mk hr0
  have HC0 := Aside0.mk hc0
  clear hr0 hc0
  have HB := Aside0.mk (Below.refl w.heap.size w)
  cases A0 with
  | none =>
    have hl : l0 = [] := by
      have h1 := HR0.out.2.2
      cases l0 with
      | nil => rfl
      | cons x xs =>
        obtain ⟨ad, e, _⟩ := h1 (by simp)
        cases e
    subst hl
    have hq := fun W : World => Lib.run_eql_slice_nil (P := Try.prog) W 40 3 none ([] : List Int).length c0 0 0 Try.underlying40
    simp only [Option.isNone_none, List.length_nil] at hq
    go_enter Try.func123, Try.ntmps123
    go_wp2
    go_ret
    exact ⟨_, rfl, Kd.R_nil _ _ _ _ _, Below.refl _ _⟩
  | some ad =>
    have hq := fun W : World => Lib.run_eql_slice_nil (P := Try.prog) W 40 3 (some ad) l0.length c0 0 0 Try.underlying40
    simp only [Option.isNone_some] at hq
    obtain ⟨y101, hy101⟩ : ∃ y_ : List Int, y_ = (([] : List Int)) := ⟨_, rfl⟩
    rw [← hy101] at LMc2
    have Ny101 := Aside0.mk hy101
    clear hy101
    obtain ⟨y104, hy104⟩ : ∃ y_ : List Int, y_ = (y101 ++ l0) := ⟨_, rfl⟩
    have Ny104 := Aside0.mk hy104
    clear hy104
    go_enter Try.func123, Try.ntmps123
    go_wp2_with (first | ((with_reducible refine gate_dst (N := 5) rfl ?_); refine Kd.R_lit (Kd.int .i64) _ 3 ?hg (N := 5) ?hd (xs := ([] : List Int)) (inner := []) (ok := fun _ => True) (okp := fun _ => True) ?hr ?hp (fun _ hk => hk) trivial (Below.refl _ _) (Nat.le_refl _) (by simp) ?_; (case hd => rfl); (case hg => rfl); (case hr => first | (go_simp; done) | (go_simp; rfl)); (case hp => exact (Reps.none _ _)); intro v102 w3 ho4 hb hg_ hnew_; clear hg_ hnew_; (first | rw [← Ny101.out] at ho4 | (simp only [Int.reduceToNat] at ho4; rw [← Ny101.out] at ho4)); have n0_ := Aside0.mk (Kd.R_lower ho4 (below_size tc0_)); have n1_ := Aside0.mk (below_step tc0_ hb); clear HB; have HO103 := n0_; have HB := n1_; clear n0_ n1_; clear hb ho4) | ((with_reducible refine gate_builtin (b := .append) (xs := #[.tmp 5, .tmp 6]) rfl ?_); at_builtin; refine Kd.R_append_rows (Kd.int .i64) (w0 := w) w.heap.size rfl (.tmp 5) (.tmp 6) 40 3 (.int .i64 0) 8 rfl Try.underlying40 info3 rfl (by decide) (by omega) v102 y101 l0 _ _ _ (fun _ => True) (fun _ => False) rfl rfl ?aO ?aR (fun _ _ h => h) (fun _ h => h.elim) ?aF ?aB ?aS ?aL ?_; (case aR => repeat (first | exact (Kd.C_below HR0.out HB.out) | (with_reducible refine Kd.C_alloc ?_ _) | (with_reducible refine Kd.C_drewN ?_ _) | (with_reducible refine Kd.C_drew ?_))); (case aB => exact tc0_); (case aF => exact (fun _ _ => trivial)); (case aO => exact tc19_); (case aS => exact (below_size tc0_)); (case aL => have := LMc2.out; omega); intro v105 w5 ho hb hg hat; rw [← Ny104.out] at ho; have n0_ := Aside0.mk (hb); have n1_ := Aside0.mk (ho); clear HB; clear HO103; have HB := n0_; have HO106 := n1_; clear n0_ n1_; clear ho hb hg hat))
    go_ret
    have he : y104 = l0 := by rw [Ny104.out, Ny101.out]; rfl
    exact ⟨_, rfl, he ▸ HO106.out, by repeat (first | (with_reducible first | exact HB.out | apply below_alloc | apply pw_below_drewN | apply below_drew1) | exact HB.out)⟩

/-! ### impl_signRows_1: function 151 (by hand) -/
structure impl_signRows_1.St (w0 : World) (n : Int) (B2 B3 B4 T4 : Nat) (w : World) (u : Value) (out : List (List Int)) : Prop where
  b2 : w.heap[B2]? = some (.cells #[.int .i64 n] 3 (0, 0))
  b3 : w.heap[B3]? = some (.cells #[u] 28 (0, 0))
  b4 : w.heap[B4]? = some (.cells #[.func (.func 151) #[] #[.pointer (some ⟨B2, 0, none⟩), .pointer (some ⟨B3, 0, none⟩), .pointer (some ⟨B4, 0, none⟩)]] T4 (0, 0))
  ho : Kd.R (Kd.slice 3 (Kd.int .i64)) 40 w w0.heap.size (fun _ => True) u out
  hb : Below w0.heap.size w0 w
  ge : w0.heap.size ≤ B3
theorem impl_signRows_1.St.below {w0 : World} {n : Int} {B2 B3 B4 T4 : Nat} {w w1 : World} {u : Value} {out : List (List Int)} (h : impl_signRows_1.St w0 n B2 B3 B4 T4 w u out) (hb : Below w.heap.size w w1) : impl_signRows_1.St w0 n B2 B3 B4 T4 w1 u out :=
  ⟨blk_below h.b2 hb, blk_below h.b3 hb, blk_below h.b4 hb, Kd.R_below h.ho hb, below_step h.hb hb, h.ge⟩
theorem impl_signRows_1.St.drew {w0 : World} {n : Int} {B2 B3 B4 T4 : Nat} {w : World} {u : Value} {out : List (List Int)} (h : impl_signRows_1.St w0 n B2 B3 B4 T4 w u out) : impl_signRows_1.St w0 n B2 B3 B4 T4 w.drew u out :=
  h.below (below_drew (Below.refl _ _))
theorem impl_signRows_1.St.push {w0 : World} {n : Int} {B2 B3 B4 T4 : Nat} (hT4 : T4 ≠ 28 ∧ T4 ≠ 40) {w w5 : World} {u v : Value} {out : List (List Int)} {x : List Int} (h : impl_signRows_1.St w0 n B2 B3 B4 T4 w u out)
    (ho : Kd.R (Kd.slice 3 (Kd.int .i64)) 40 w5 w0.heap.size (fun _ => True) v (out ++ [x])) (hb : Below w0.heap.size w0 w5) (hg : w.grownBy w5 u.ownBlock) :
    impl_signRows_1.St w0 n B2 B3 B4 T4 (w5.setCell ⟨B3, 0, none⟩ v) v (out ++ [x]) ∧ Kept w (w5.setCell ⟨B3, 0, none⟩ v) (fun k => k = B3 ∨ some k = u.ownBlock) := by
  have n32 := blk_ne h.b3 h.b2 (by decide)
  have n34 := blk_ne h.b3 h.b4 (Ne.symm hT4.1)
  have b3 := blk_grown h.b3 hg (Kd.R_ne h.ho h.b3 (by decide))
  exact ⟨⟨blk_far (blk_grown h.b2 hg (Kd.R_ne h.ho h.b2 (by decide))) (Ne.symm n32) v, blk_set b3 0 v, blk_far (blk_grown h.b4 hg (Kd.R_ne h.ho h.b4 (Ne.symm hT4.2))) (Ne.symm n34) v, Kd.R_set ho b3 (by decide) 0 v, below_set hb h.ge, h.ge⟩,
    Kept.setCell (Kept.of_grown hg (Kept.refl _ _) (fun k hk => .inl (.inr hk.symm))) (.inl (.inl rfl)) v⟩
mutual
def impl_signRows_1.l0 : Nat → Int → List Int → Int → Int → Option (List (List Int))
  | 0, _, _, _, _ => none
  | k + 1, n, l, s, x => if x ≤ 1 - s then (if -1 ≤ x then (if l.length < 1000000 then ((impl_signRows_1.f k n (l ++ [x]) (s + x)).bind fun a => (impl_signRows_1.l0 k n l s (x + 1)).bind fun b => some (a ++ b)) else none) else none) else some []
def impl_signRows_1.f : Nat → Int → List Int → Int → Option (List (List Int))
  | 0, _, _, _ => none
  | k + 1, n, l, s => if (l.length : Int) = n then (if s = 1 then some [l] else some []) else (if 0 ≤ s then (if s ≤ 1 then impl_signRows_1.l0 k n l s (-s) else none) else none)
end
theorem impl_signRows_1.mono_l : ∀ k, (∀ y0 y1 y2, LeO (impl_signRows_1.f k y0 y1 y2) (impl_signRows_1.f (k + 1) y0 y1 y2)) ∧ (∀ y0 y1 y2 y3, LeO (impl_signRows_1.l0 k y0 y1 y2 y3) (impl_signRows_1.l0 (k + 1) y0 y1 y2 y3))
  | 0 => ⟨fun _ _ _ r h => by simp [impl_signRows_1.f] at h, fun _ _ _ _ r h => by simp [impl_signRows_1.l0] at h⟩
  | k + 1 => by
    obtain ⟨ih0, ih1⟩ := impl_signRows_1.mono_l k
    refine ⟨?_, ?_⟩
    · intro y0 y1 y2
      unfold impl_signRows_1.f
      repeat' first
      | (with_reducible exact ih1 _ _ _ _)
      | (with_reducible exact LeO.refl _)
      | (with_reducible refine LeO.ite ?_ ?_)
    · intro y0 y1 y2 y3
      unfold impl_signRows_1.l0
      repeat' first
      | (with_reducible exact ih0 _ _ _)
      | (with_reducible exact ih1 _ _ _ _)
      | (with_reducible exact LeO.refl _)
      | (with_reducible refine LeO.ite ?_ ?_)
      | (with_reducible refine LeO.bind ?_ (fun _ => ?_))
theorem impl_signRows_1.mono : ∀ a0 a1 a2 k, LeO (impl_signRows_1.f k a0 a1 a2) (impl_signRows_1.f (k + 1) a0 a1 a2) := fun a0 a1 a2 k => (impl_signRows_1.mono_l k).1 a0 a1 a2
set_option maxHeartbeats 4000000 in
set_option maxRecDepth 100000 in
theorem impl_signRows_1.calls (k : Nat) : ∀ (A0 : Option Addr) (c0 : Nat) (l0 : List Int) (a1 n : Int) (B2 B3 B4 T4 : Nat) (hT4 : T4 ≠ 28 ∧ T4 ≠ 40) (u : Value) (out r : List (List Int)) (w0 w : World)
    (hs : impl_signRows_1.St w0 n B2 B3 B4 T4 w u out) (hl : Kd.R (Kd.int .i64) 3 w w0.heap.size (fun _ => True) (.slice A0 l0.length c0) l0) (hn : out.length + r.length < 5864062014805) (h : impl_signRows_1.f k n l0 a1 = some r),
    Calls Try.prog 151 (#[.slice A0 l0.length c0, .int .i64 a1] ++ #[.pointer (some ⟨B2, 0, none⟩), .pointer (some ⟨B3, 0, none⟩), .pointer (some ⟨B4, 0, none⟩)]) w fun e w' => e = .returned (.tuple #[]) ∧ ∃ u', impl_signRows_1.St w0 n B2 B3 B4 T4 w' u' (out ++ r) ∧ Kept w w' (fun k => k = B3 ∨ some k = u.ownBlock) ∧ (u'.ownBlock = u.ownBlock ∨ ∃ b, u'.ownBlock = some b ∧ w.heap.size ≤ b) := by
  induction k using Nat.strongRecOn with
  | _ k ih =>
  intro A0 c0 l0 a1 n B2 B3 B4 T4 hT4 u out r w0 w hs hl hn h
  cases k with
  | zero => exact absurd h (by simp [impl_signRows_1.f])
  | succ k =>
  simp only [impl_signRows_1.f] at h
  have HS := Aside0.mk hs
  have HL := Aside0.mk hl
  have HN := Aside0.mk hn
  have HC := Aside0.mk (Kd.R_reads' hl).2.1
  have n32 := blk_ne hs.b3 hs.b2 (by decide)
  have n34 := blk_ne hs.b3 hs.b4 (Ne.symm hT4.1)
  have hz0 : l0.length ≤ 9223372036854775807 := (Kd.R_reads' hl).2.2.2.1
  clear hs hl hn
  by_cases c1 : (l0.length : Int) = n
  · rw [if_pos c1] at h
    have c1b : ((l0.length : Int) == n) = true := beq_iff_eq.mpr c1
    clear c1
    by_cases c2 : a1 = 1
    · rw [if_pos c2] at h
      have c2b : (a1 == 1) = true := beq_iff_eq.mpr c2
      clear c2
      obtain rfl := Option.some.inj h
      clear h
      have hc2 : w.cell? ⟨B2, 0, none⟩ = some (.int .i64 n) := (blk_cell HS.out.b2 0).trans rfl
      have hc3 : w.cell? ⟨B3, 0, none⟩ = some u := (blk_cell HS.out.b3 0).trans rfl
      have hf3 := blk_frozen HS.out.b3 0
      go_enter Try.func151, Try.ntmps151
      go_wp2_with (first | ((with_reducible refine gate_builtin (b := .append) (xs := #[.tmp 14, .tmp 16]) rfl ?_); at_builtin; refine Kd.R_append (Kd.slice 3 (Kd.int .i64)) (w0 := w0) w0.heap.size rfl (.tmp 14) (.tmp 16) 28 40 (.slice none 0 0) 24 rfl Try.underlying28 info40 rfl (by decide) (by omega) u out l0 [.slice A0 l0.length c0] (fun _ => True) (fun k => True ∧ some k ≠ u.ownBlock) rfl rfl ⟨_, rfl, Kd.R_apart' HL.out (Kd.R_typed HS.out.ho) (by decide)⟩ (fun _ hk => hk) (fun _ _ => trivial) HS.out.ho HS.out.hb (below_size HS.out.hb) (by have := HN.out; simp at this; omega) ?_; intro v5 w5 ho5 hb5 hg5 hat5; have HO5 := Aside0.mk ho5; have HB5 := Aside0.mk hb5; have HG5 := Aside0.mk hg5; have HA5 := Aside0.mk hat5; clear ho5 hb5 hg5 hat5; obtain ⟨A5, k5, e5⟩ := Kd.R_slice HO5.out; subst e5; have hc35 : w5.cell? ⟨B3, 0, none⟩ = some u := (blk_cell (blk_grown HS.out.b3 HG5.out (Kd.R_ne HS.out.ho HS.out.b3 (by decide))) 0).trans rfl; have hf35 := blk_frozen (blk_grown HS.out.b3 HG5.out (Kd.R_ne HS.out.ho HS.out.b3 (by decide))) 0))
      obtain ⟨q1, q2⟩ := impl_signRows_1.St.push hT4 HS.out HO5.out HB5.out HG5.out
      rw [show (out ++ [l0]).length = out.length + 1 by simp] at q1 q2
      first | go_end0 | ((try simp only [Exit.inBlock, Exit.then]); refine bodyPost_ret (results_none rfl _ _ _) rfl ?_)
      exact ⟨rfl, _, q1, q2, by have := HA5.out; rwa [show (out ++ [l0]).length = out.length + 1 by simp] at this⟩
    · rw [if_neg c2] at h
      have c2b : (a1 == 1) = false := beq_eq_false_iff_ne.mpr c2
      clear c2
      obtain rfl := Option.some.inj h
      clear h
      have hc2 : w.cell? ⟨B2, 0, none⟩ = some (.int .i64 n) := (blk_cell HS.out.b2 0).trans rfl
      go_enter Try.func151, Try.ntmps151
      go_wp2
      first | go_end0 | ((try simp only [Exit.inBlock, Exit.then]); refine bodyPost_ret (results_none rfl _ _ _) rfl ?_)
      exact ⟨rfl, u, by simpa using HS.out, Kept.refl _ _, .inl rfl⟩
  · rw [if_neg c1] at h
    have c1b : ((l0.length : Int) == n) = false := beq_eq_false_iff_ne.mpr c1
    clear c1
    by_cases c3 : 0 ≤ a1
    · rw [if_pos c3] at h
      by_cases c4 : a1 ≤ 1
      · rw [if_pos c4] at h
        have HF := Aside0.mk h
        clear h
        have hc2 : w.cell? ⟨B2, 0, none⟩ = some (.int .i64 n) := (blk_cell HS.out.b2 0).trans rfl
        go_enter Try.func151, Try.ntmps151
        go_wp2
        go_loopg [7] k (fun kq v7 w' => ∃ (x7 : Int) (u' : Value) (acc rest : List (List Int)), v7 = .int .i64 x7 ∧ Aside0 (r = acc ++ rest) ∧ Aside0 (impl_signRows_1.l0 kq n l0 a1 x7 = some rest) ∧ Aside0 (kq ≤ k) ∧ Aside0 (impl_signRows_1.St w0 n B2 B3 B4 T4 w' u' (out ++ acc)) ∧ Aside0 (Kd.R (Kd.int .i64) 3 w' w0.heap.size (fun _ => True) (.slice A0 l0.length c0) l0) ∧ Aside0 (Kept w w' (fun k => k = B3 ∨ some k = u.ownBlock)) ∧ Aside0 (u'.ownBlock = u.ownBlock ∨ ∃ b, u'.ownBlock = some b ∧ w.heap.size ≤ b))
        case atStart => exact ⟨-a1, u, [], r, rfl, ⟨rfl⟩, HF, ⟨Nat.le_refl _⟩, ⟨by simpa using HS.out⟩, HL, ⟨Kept.refl _ _⟩, ⟨.inl rfl⟩⟩
        case round =>
          clear HF
          obtain ⟨x7, u2, acc, rest, rfl, HE, HF, HK, HS2, HL2, HKp, HA⟩ := hrel
          cases gk with
          | zero => exact absurd HF.out (by simp [impl_signRows_1.l0])
          | succ k1 =>
            have H := HF.out
            clear HF
            simp only [impl_signRows_1.l0] at H
            by_cases c5 : x7 ≤ 1 - a1
            · rw [if_pos c5] at H
              by_cases c6 : -1 ≤ x7
              · rw [if_pos c6] at H
                by_cases c7 : l0.length < 1000000
                · rw [if_pos c7] at H
                  have LM := Aside0.mk c7
                  obtain ⟨ra, ha, H⟩ := Option.bind_eq_some_iff.mp H
                  obtain ⟨rb, hb, H⟩ := Option.bind_eq_some_iff.mp H
                  have HR2 := Aside0.mk (Option.some.inj H).symm
                  have HFa := Aside0.mk (show impl_signRows_1.f k1 n (l0 ++ [x7]) (wrap64 (a1 + x7)) = some ra by rw [show wrap64 (a1 + x7) = a1 + x7 by unfold wrap64; omega]; exact ha)
                  have HFb := Aside0.mk hb
                  clear H ha hb c7
                  go_wp2_with fail
                  have HS3 := Aside0.mk HS2.out.drew
                  have HL3 := Aside0.mk (Kd.R_drew HL2.out)
                  have HR := Aside0.mk (Kd.R_reads' HL3.out).2.2
                  have HKp3 := Aside0.mk (HKp.out.drew)
                  have HC4 := Aside0.mk ((blk_cell HS3.out.b4 0).trans rfl : wr.drew.cell? ⟨B4, 0, none⟩ = some (.func (.func 151) #[] #[.pointer (some ⟨B2, 0, none⟩), .pointer (some ⟨B3, 0, none⟩), .pointer (some ⟨B4, 0, none⟩)]))
                  clear HS2 HL2 HKp
                  refine start_ (n := 10) (S := fun w' => w'.cell? ⟨B4, 0, none⟩ = some (.func (.func 151) #[] #[.pointer (some ⟨B2, 0, none⟩), .pointer (some ⟨B3, 0, none⟩), .pointer (some ⟨B4, 0, none⟩)])) (ds := []) #[false, false, false, false, false, false, false, false, false, false] (by kernel_rfl) rfl rfl (HC4.out) (fun hHeld => ?_)
                  generalize hW_ : wr.drew = W at HS3 HL3 HR HKp3 HC4 hHeld ⊢
                  clear hW_
                  refine pure_ (i := 1) (N := some 27) (v := ?_) (a' := ?_) #[false, true, false, false, false, false, false, false, false, false] rfl rfl (by kernel_rfl) (fun _ _ _ h => h) (Or.inl ⟨by rfl, ?_⟩) ?_ ?_
                  rotate_left
                  · intro w'
                    go_simp
                    with_reducible rfl
                  rotate_left
                  · simp only [Act.put, List.setIfInBounds_toArray, List.set_cons_zero, List.set_cons_succ, i64_w, i32_w]
                    rfl
                  refine pure_ (i := 3) (N := some 29) (v := ?_) (a' := ?_) #[false, true, false, true, false, false, false, false, false, false] rfl rfl (by kernel_rfl) (fun _ _ _ h => h) (Or.inl ⟨by rfl, ?_⟩) ?_ ?_
                  rotate_left
                  · intro w'
                    go_simp
                    with_reducible rfl
                  rotate_left
                  · simp only [Act.put, List.setIfInBounds_toArray, List.set_cons_zero, List.set_cons_succ, i64_w, i32_w]
                    rfl
                  refine pure_ (i := 6) (N := some 32) (v := ?_) (a' := ?_) #[false, true, false, true, false, false, true, false, false, false] rfl rfl (by kernel_rfl) (fun _ _ _ h => h) (Or.inl ⟨by rfl, ?_⟩) ?_ ?_
                  rotate_left
                  · intro w'
                    go_simp
                    with_reducible rfl
                  rotate_left
                  · simp only [Act.put, List.setIfInBounds_toArray, List.set_cons_zero, List.set_cons_succ, i64_w, i32_w]
                    rfl
                  refine pure_ (i := 7) (N := some 33) (v := ?_) (a' := ?_) #[false, true, false, true, false, false, true, true, false, false] rfl rfl (by kernel_rfl) (fun _ _ _ h => h) (Or.inl ⟨by rfl, ?_⟩) ?_ ?_
                  rotate_left
                  · intro w'
                    go_simp
                    with_reducible rfl
                  rotate_left
                  · simp only [Act.put, List.setIfInBounds_toArray, List.set_cons_zero, List.set_cons_succ, i64_w, i32_w]
                    rfl
                  refine pure_ (i := 8) (N := some 34) (v := ?_) (a' := ?_) #[false, true, false, true, false, false, true, true, true, false] rfl rfl (by kernel_rfl) (fun _ _ _ h => h) (Or.inl ⟨by rfl, ?_⟩) ?_ ?_
                  rotate_left
                  · intro w'
                    go_simp
                    with_reducible rfl
                  rotate_left
                  · simp only [Act.put, List.setIfInBounds_toArray, List.set_cons_zero, List.set_cons_succ, i64_w, i32_w]
                    rfl
                  refine take_ (i := 0) (N := some 26) (v := ?_) (a' := ?_) #[true, true, false, true, false, false, true, true, true, false] rfl rfl (by kernel_rfl) (fun _ _ _ h => h) (Or.inl ⟨by rfl, ?_⟩) hHeld ?_ ?_
                  rotate_left
                  · intro w' s0
                    go_simp
                    with_reducible rfl
                  rotate_left
                  · simp only [Act.put, List.setIfInBounds_toArray, List.set_cons_zero, List.set_cons_succ, i64_w, i32_w]
                    rfl
                  refine join_ (σ := Value × Addr) 2 #[true, true, true, true, true, false, true, true, true, false] (fun s_ => [(28, s_.1), (30, .slice (some s_.2) 1 1)]) (fun s_ w' => Below W.heap.size W w' ∧ Kd.R (Kd.int .i64) 3 w' W.heap.size (fun _ => True) s_.1 l0 ∧ Kd.C (Kd.int .i64) w' (some s_.2) 1 [x7]) ?_ ?_
                  rotate_left
                  · intro hCont
                    refine two_ (i := 2) (j := 4) (Ni := some 28) (Nj := some 30) #[true, true, true, true, false, false, true, true, true, false] #[true, true, false, true, true, false, true, true, true, false] rfl rfl rfl rfl (by kernel_rfl) (by decide) (by decide) (fun K hK => ?_) (fun K hK => ?_)
                    · skip
                      refine goes_ Try.func123 (by kernel_rfl) rfl #[.slice A0 l0.length c0] (by rfl) rfl rfl tc15_ ?_
                      refine (slices_Clone_int_int.calls A0 c0 l0 l0 _ ?sc1 HC.out (if_pos (by have := LM.out; omega))).mono ?_
                      (case sc1 => exact (Kd.C_below HR.out (Below.refl _ _)))
                      rintro e w2 ⟨v28, rfl, ho, hb⟩
                      refine ⟨_, rfl, ?_⟩
                      have HB2 := Aside0.mk (below_step (Below.refl _ _) hb)
                      have HO2 := Aside0.mk (Kd.R_lower ho (below_size (Below.refl _ _)))
                      have hb2_ := Aside0.mk hb
                      clear ho hb
                      refine hK.out _ _ (cell_of_below HB2.out HC4.out) (fun hHeld => ?_)
                      clear hK K
                      refine norm_ (a' := ?_) ?_ ?_
                      rotate_left
                      · show Act.put _ (some 28) _ = _
                        simp only [Act.put, List.setIfInBounds_toArray, List.set_cons_zero, List.set_cons_succ, i64_w, i32_w]
                        rfl
                      refine one_ (i := 4) (N := some 30) #[true, true, true, true, true, false, true, true, true, false] rfl rfl (by kernel_rfl) (by decide) (fun K hK => ?_)
                      refine value_ (w1 := ?_) (v := ?_) (by rfl) rfl ?_ ?_
                      rotate_left 2
                      · go_simp
                        constructor
                        · rfl
                        · rfl
                      refine hK.out _ _ (cell_of_below (below_alloc HB2.out _) HC4.out) (fun hHeld => ?_)
                      clear hK K
                      refine norm_ (a' := ?_) ?_ ?_
                      rotate_left
                      · show Act.put _ (some 30) _ = _
                        simp only [Act.put, List.setIfInBounds_toArray, List.set_cons_zero, List.set_cons_succ, i64_w, i32_w]
                        rfl
                      exact norm_ tc25_ (hCont (v28, ⟨w2.heap.size, 0, none⟩) _ ⟨below_alloc HB2.out _, Kd.R_alloc HO2.out _, C_box rfl rfl _⟩)
                    · skip
                      refine value_ (w1 := ?_) (v := ?_) (by rfl) rfl ?_ ?_
                      rotate_left 2
                      · go_simp
                        constructor
                        · rfl
                        · rfl
                      refine hK.out _ _ (cell_of_below (below_alloc (Below.refl _ _) _) HC4.out) (fun hHeld => ?_)
                      clear hK K
                      refine norm_ (a' := ?_) ?_ ?_
                      rotate_left
                      · show Act.put _ (some 30) _ = _
                        simp only [Act.put, List.setIfInBounds_toArray, List.set_cons_zero, List.set_cons_succ, i64_w, i32_w]
                        rfl
                      refine one_ (i := 2) (N := some 28) #[true, true, true, true, true, false, true, true, true, false] rfl rfl (by kernel_rfl) (by decide) (fun K hK => ?_)
                      refine goes_ Try.func123 (by kernel_rfl) rfl #[.slice A0 l0.length c0] (by rfl) rfl rfl tc15_ ?_
                      refine (slices_Clone_int_int.calls A0 c0 l0 l0 _ ?sc1 HC.out (if_pos (by have := LM.out; omega))).mono ?_
                      (case sc1 => exact (Kd.C_below HR.out (below_alloc (Below.refl _ _) _)))
                      rintro e w2 ⟨v28, rfl, ho, hb⟩
                      refine ⟨_, rfl, ?_⟩
                      have HB2 := Aside0.mk (below_step (below_alloc (Below.refl _ _) _) hb)
                      have HO2 := Aside0.mk (Kd.R_lower ho (below_size (below_alloc (Below.refl _ _) _)))
                      have hb2_ := Aside0.mk hb
                      clear ho hb
                      refine hK.out _ _ (cell_of_below HB2.out HC4.out) (fun hHeld => ?_)
                      clear hK K
                      refine norm_ (a' := ?_) ?_ ?_
                      rotate_left
                      · show Act.put _ (some 28) _ = _
                        simp only [Act.put, List.setIfInBounds_toArray, List.set_cons_zero, List.set_cons_succ, i64_w, i32_w]
                        rfl
                      exact norm_ tc25_ (hCont (v28, ⟨W.heap.size, 0, none⟩) _ ⟨HB2.out, HO2.out, Kd.C_below (C_box rfl rfl _) hb2_.out⟩)
                  rintro ⟨v28, ad30⟩ w4 ⟨hb4_, ho4_, hc4_⟩
                  have hHeld : w4.cell? ⟨B4, 0, none⟩ = some (.func (.func 151) #[] #[.pointer (some ⟨B2, 0, none⟩), .pointer (some ⟨B3, 0, none⟩), .pointer (some ⟨B4, 0, none⟩)]) := cell_of_below hb4_ HC4.out
                  have HB4 := Aside0.mk hb4_
                  have HO4 := Aside0.mk ho4_
                  have HV4 := Aside0.mk hc4_
                  clear hb4_ ho4_ hc4_
                  refine norm_ (a' := ?_) ?_ ?_
                  rotate_left
                  · simp only [putAll, Act.put, List.setIfInBounds_toArray, List.set_cons_zero, List.set_cons_succ]
                    rfl
                  refine one_ (i := 5) (N := some 31) #[true, true, true, true, true, true, true, true, true, false] rfl rfl (by kernel_rfl) (by decide) (fun K hK => ?_)
                  refine Kd.R_append_rows_step (Kd.int .i64) (w0 := W) W.heap.size (by rfl) (.tmp 28) (.tmp 30) 40 3 (.int .i64 0) 8 rfl Try.underlying40 info3 rfl (by decide) (by omega) v28 l0 [x7] _ _ _ (fun _ => True) (fun _ => False) rfl rfl HO4.out HV4.out (fun _ _ h => h) (fun _ h => h.elim) (fun _ _ => trivial) HB4.out (below_size HB4.out) (by have := LM.out; omega) ?_
                  intro v31 w5 ho5 hb5 hg5 hat5
                  clear hg5 hat5
                  have HB5 := Aside0.mk hb5
                  have HO5 := Aside0.mk ho5
                  obtain ⟨A31, c31, e31⟩ := Kd.R_slice HO5.out
                  subst e31
                  clear ho5 hb5 HB4 HO4 HV4
                  refine hK.out _ _ (cell_of_below HB5.out HC4.out) (fun hHeld => ?_)
                  clear hK K
                  refine norm_ (a' := ?_) ?_ ?_
                  rotate_left
                  · show Act.put _ (some 31) _ = _
                    simp only [Act.put, List.setIfInBounds_toArray, List.set_cons_zero, List.set_cons_succ, i64_w, i32_w]
                    rfl
                  refine one_ (i := 9) (N := some 35) #[true, true, true, true, true, true, true, true, true, true] rfl rfl (by kernel_rfl) (by decide) (fun K hK => ?_)
                  refine goesF_ (enters_of Try.func151 (by kernel_rfl) rfl) #[.slice A31 (l0 ++ [x7]).length c31, .int .i64 (wrap64 (a1 + x7))] (by rfl) rfl rfl (by first | rfl | (simp [Act.eval]; done)) tc15_ ?_
                  refine (ih k1 (by have := HK.out; omega) A31 c31 (l0 ++ [x7]) (wrap64 (a1 + x7)) n B2 B3 B4 T4 hT4 u2 (out ++ acc) ra w0 w5 (HS3.out.below HB5.out) (Kd.R_lower HO5.out (below_size HS3.out.hb)) (by have := HN.out; rw [HE.out, HR2.out] at this; simp only [List.length_append] at this ⊢; omega) HFa.out).mono ?_
                  rintro e w6 ⟨rfl, u3, hs6, hk6, hat6⟩
                  refine ⟨_, rfl, ?_⟩
                  have HS6 := Aside0.mk hs6
                  have HK6 := Aside0.mk hk6
                  have HT6 := Aside0.mk hat6
                  clear hs6 hk6 hat6
                  refine hK.out _ _ ((blk_cell HS6.out.b4 0).trans rfl) (fun hHeld => ?_)
                  clear hK K
                  refine norm_ (a' := ?_) ?_ ?_
                  rotate_left
                  · show Act.put _ (some 35) _ = _
                    simp only [Act.put, List.setIfInBounds_toArray, List.set_cons_zero, List.set_cons_succ, i64_w, i32_w]
                    rfl
                  refine done_ (by kernel_rfl) ?_
                  have HL6 := Aside0.mk (Kd.R_mono (Kd.R_kept (Kd.R_apart' (Kd.R_types (Kd.R_below HL3.out HB5.out) (HS3.out.below HB5.out).b3 (by decide)) (Kd.R_typed (HS3.out.below HB5.out).ho) (by decide)) HK6.out (fun k_ hk hS => hS.elim hk.1.2 hk.2)) (fun _ _ => trivial))
                  have HKp6 := Aside0.mk ((HKp3.out.below HB5.out).then_ HK6.out (fun k_ hS => hS.elim (fun e => .inl (.inl e)) (fun e => HA.out.elim (fun ha => .inl (.inr (e.trans ha))) (fun ⟨b, hb, hle⟩ => .inr (by rw [hb] at e; injection e with e; omega)))))
                  have HA6 : Aside0 (u3.ownBlock = u.ownBlock ∨ ∃ b, u3.ownBlock = some b ∧ w.heap.size ≤ b) := ⟨HT6.out.elim (fun h1 => HA.out.elim (fun h2 => .inl (h1.trans h2)) (fun ⟨b, h2, h3⟩ => .inr ⟨b, h1.trans h2, h3⟩)) (fun ⟨b, h2, h3⟩ => .inr ⟨b, h2, Nat.le_trans HKp3.out.1 (Nat.le_trans (below_size HB5.out) h3)⟩)⟩
                  go_wp2
                  go_roundg k1
                  case measure => have := HK.out; omega
                  case rel => exact ⟨x7 + 1, u3, acc ++ ra, rb, by go_num, ⟨by rw [HE.out, HR2.out, List.append_assoc]⟩, HFb, ⟨by have := HK.out; omega⟩, ⟨by rw [← List.append_assoc]; exact HS6.out⟩, HL6, HKp6, HA6⟩
                · rw [if_neg c7] at H
                  exact absurd H (by simp)
              · rw [if_neg c6] at H
                exact absurd H (by simp)
            · rw [if_neg c5] at H
              obtain rfl := Option.some.inj H
              clear H
              go_wp2
              first | go_end0 | ((try simp only [Exit.inBlock, Exit.then]); refine bodyPost_ret (results_none rfl _ _ _) rfl ?_)
              exact ⟨rfl, u2, by have := HS2.out; rw [HE.out, List.append_nil]; exact this, HKp.out, HA.out⟩
      · rw [if_neg c4] at h
        exact absurd h (by simp)
    · rw [if_neg c3] at h
      exact absurd h (by simp)

/-! ### impl_signRows: function 142 (by hand) -/
def impl_signRows.f (k : Nat) (a0 : Int) : Option (List (List Int)) := (impl_signRows_1.f k a0 [] 0).bind fun r => if r.length < 1000000 then some r else none
theorem impl_signRows.mono : ∀ a0 k, LeO (impl_signRows.f k a0) (impl_signRows.f (k + 1) a0) := fun a0 k => by
  unfold impl_signRows.f
  exact LeO.bind (impl_signRows_1.mono _ _ _ _) (fun _ => LeO.refl _)
set_option maxHeartbeats 4000000 in
set_option maxRecDepth 100000 in
theorem impl_signRows.calls (k : Nat) (a0 : Int) (r : List (List Int)) (w : World) (h : impl_signRows.f k a0 = some r) :
    Calls Try.prog 142 #[.int .i64 a0] w fun e w' => ∃ v0_ : Value, e = .returned v0_ ∧ Kd.R (Kd.slice 3 (Kd.int .i64)) 40 w' w.heap.size (fun _ => True) v0_ r ∧ Below w.heap.size w w' := by
  obtain ⟨r', h1, h2⟩ := Option.bind_eq_some_iff.mp h
  have hr : r'.length < 1000000 := by
    split at h2
    · assumption
    · cases h2
  rw [if_pos hr] at h2
  obtain rfl := Option.some.inj h2
  have HF := Aside0.mk h1
  have HL := Aside0.mk hr
  clear h h1 h2 hr
  have HB := Aside0.mk (Below.refl w.heap.size w)
  go_enter Try.func142, Try.ntmps142
  go_wp2_with fail
  refine (impl_signRows_1.calls k none 0 [] 0 a0 w.heap.size (w.heap.size + 1 + 1) (w.heap.size + 1 + 1 + 1) 94 (by decide) (.slice (some ⟨w.heap.size + 1, 0, none⟩) 0 0) [] r' w _ ⟨?b2, ?b3, ?b4, ?ho, ?hb, by omega⟩ (Kd.R_nil _ _ _ _ _) (by have := HL.out; simp; omega) HF.out).mono ?_
  case b2 => exact blk_alloc (blk_alloc (blk_alloc (blk_new _ _) _) _) _
  case b3 => exact blk_alloc (blk_new' (by simp)) _
  case b4 => exact blk_new' (by simp)
  case ho => exact R_empty (blk_alloc (blk_alloc (blk_new' (by simp)) _) _) (by omega)
  case hb => exact below_alloc (below_alloc (below_alloc (below_alloc (Below.refl _ _) _) _) _) _
  rintro e w2 ⟨rfl, u2, hs2, _, _⟩
  have HS := Aside0.mk hs2
  clear hs2
  obtain ⟨A2, c2, e2⟩ := Kd.R_slice HS.out.ho
  subst e2
  have hc3 : w2.cell? ⟨w.heap.size + 1 + 1, 0, none⟩ = _ := (blk_cell HS.out.b3 0).trans rfl
  go_wp2
  go_ret
  exact ⟨_, rfl, HS.out.ho, HS.out.hb⟩

/-! ### impl_fitsSums: function 144 -/
def impl_fitsSums.l0 : Nat → List Int → Bool → List Int → Int → Int → Option (Bool)
 | 0, _, _, _, _, _ => none
 | k + 1, x0, x2, x10, x11, x12 => if x12 < x11 then (if 0 ≤ x12 then (if x12 < (x10.length : Int) then (if x12 < (x0.length : Int) then ((impl_within.f (wrap64 ((rd x0 x12) + (rd x10 x12))) 0 1).bind fun t103 => (if t103 = true then (if x2 = true then (if (wrap64 ((rd x0 x12) + (rd x10 x12))) = 1 then (impl_fitsSums.l0 k x0 x2 x10 x11 (wrap64 (x12 + 1))) else (some false)) else (impl_fitsSums.l0 k x0 x2 x10 x11 (wrap64 (x12 + 1)))) else (some false))) else (none)) else (none)) else (none)) else (some true)
def impl_fitsSums.f (k : Nat) (l0 : List Int) (l1 : List Int) (a2 : Bool) : Option (Bool) := impl_fitsSums.l0 k l0 a2 l1 (l1.length : Int) 0
theorem impl_fitsSums.mono_l : ∀ k, (∀ y0 y1 y2 y3 y4, LeO (impl_fitsSums.l0 k y0 y1 y2 y3 y4) (impl_fitsSums.l0 (k + 1) y0 y1 y2 y3 y4))
 | 0 => fun _ _ _ _ _ r h => by simp [impl_fitsSums.l0] at h
 | k + 1 => by
  have ih0 := impl_fitsSums.mono_l k
  ·intro y0 y1 y2 y3 y4
   unfold impl_fitsSums.l0
   repeat' first
   | (with_reducible exact ih0 _ _ _ _ _)
   | (with_reducible exact LeO.refl _)
   | (with_reducible exact LeO.none _)
   | (with_reducible refine LeO.ite ?_ ?_)
   | (with_reducible refine LeO.bind ?_ (fun _ => ?_))
   | exact ih0 _ _ _ _ _
   | exact LeO.none _
   | refine LeO.ite ?_ ?_
   | refine LeO.bind ?_ (fun _ => ?_)
theorem impl_fitsSums.mono : ∀ a0 a1 a2  k, LeO (impl_fitsSums.f k a0 a1 a2) (impl_fitsSums.f (k + 1) a0 a1 a2) := by
 intro a0 a1 a2 k
 have ih0 := impl_fitsSums.mono_l k
 unfold impl_fitsSums.f
 repeat' first
   | (with_reducible exact ih0 _ _ _ _ _)
   | (with_reducible exact LeO.refl _)
   | (with_reducible exact LeO.none _)
   | (with_reducible refine LeO.ite ?_ ?_)
   | (with_reducible refine LeO.bind ?_ (fun _ => ?_))
   | exact ih0 _ _ _ _ _
   | exact LeO.none _
   | refine LeO.ite ?_ ?_
   | refine LeO.bind ?_ (fun _ => ?_)
set_option maxHeartbeats 8000000 in
set_option maxRecDepth 100000 in
theorem impl_fitsSums.calls (k : Nat) (A0 : Option Addr) (c0 : Nat) (l0 : List Int) (A1 : Option Addr) (c1 : Nat) (l1 : List Int) (a2 : Bool) (r : Bool) (w : World) (hr0 : Kd.C (Kd.int .i64) w A0 l0.length l0) (hc0 : l0.length ≤ c0) (hr1 : Kd.C (Kd.int .i64) w A1 l1.length l1) (hc1 : l1.length ≤ c1) (h : impl_fitsSums.f k l0 l1 a2 = some r) :
  Calls Try.prog 144 #[.slice A0 l0.length c0, .slice A1 l1.length c1, .bool a2] w fun e w' => e = .returned (.bool r) ∧ Drawn0 w w' := by
 have HR0 := Aside0.mk hr0
 have HC0 := Aside0.mk hc0
 clear hr0 hc0
 have HR1 := Aside0.mk hr1
 have HC1 := Aside0.mk hc1
 clear hr1 hc1
 have H : (impl_fitsSums.l0 k l0 a2 l1 (l1.length : Int) 0) = some r := h
 clear h
 have H' := Aside0.mk H
 clear H
 go_enter Try.func144, Try.ntmps144
 go_wp2
 go_loopg [12] k (fun kq v12 w' => ∃ (x12_1 : Int), v12 = .int .i64 x12_1 ∧ Aside0 (impl_fitsSums.l0 kq l0 a2 l1 (l1.length : Int) x12_1 = some r) ∧ Aside0 (kq ≤ k) ∧ Drawn0 w w')
 case atStart => exact ⟨(0), tc4_, H', ⟨Nat.le_refl _⟩, by repeat (first | exact Drawn0.refl _ | apply Drawn0.step)⟩
 case round =>
  clear H'
  try clear c1
  try clear p2
  obtain ⟨x12_1, rfl, HA, HK1, ⟨m1, rfl⟩⟩ := hrel
  cases gk with
  | zero => exact absurd HA.out (by simp [impl_fitsSums.l0])
  | succ k1 =>
   have H := HA.out
   clear HA
   simp only [impl_fitsSums.l0] at H
   by_cases c4 : x12_1 < (l1.length : Int)
   ·rw [if_pos c4] at H
    have c4b0 : decide (x12_1 < (l1.length : Int)) = true := decide_eq_true c4
    clear c4
    by_cases c5 : 0 ≤ x12_1
    ·rw [if_pos c5] at H
     have c5b0 : decide (0 ≤ x12_1) = true := decide_eq_true c5
     clear c5
     by_cases c6 : x12_1 < (l1.length : Int)
     ·rw [if_pos c6] at H
      have c6b0 : decide (x12_1 < (l1.length : Int)) = true := decide_eq_true c6
      clear c6
      by_cases c7 : x12_1 < (l0.length : Int)
      ·rw [if_pos c7] at H
       have c7b0 : decide (x12_1 < (l0.length : Int)) = true := decide_eq_true c7
       clear c7
       replace H := Option.bind_eq_some_iff.mp H
       obtain ⟨t103, A80, H⟩ := H
       replace H : (if t103 = true then (if a2 = true then (if (wrap64 ((rd l0 x12_1) + (rd l1 x12_1))) = 1 then (impl_fitsSums.l0 k1 l0 a2 l1 (l1.length : Int) (wrap64 (x12_1 + 1))) else (some false)) else (impl_fitsSums.l0 k1 l0 a2 l1 (l1.length : Int) (wrap64 (x12_1 + 1)))) else (some false)) = some r := H
       have A8 := Aside0.mk A80
       clear A80
       by_cases c9 : t103 = true
       ·subst c9
        have H1 : (if a2 = true then (if (wrap64 ((rd l0 x12_1) + (rd l1 x12_1))) = 1 then (impl_fitsSums.l0 k1 l0 a2 l1 (l1.length : Int) (wrap64 (x12_1 + 1))) else (some false)) else (impl_fitsSums.l0 k1 l0 a2 l1 (l1.length : Int) (wrap64 (x12_1 + 1)))) = some r := by rw [if_pos rfl] at H; exact H
        clear H
        have H := H1
        clear H1
        by_cases c10 : a2 = true
        ·subst c10
         have H1 : (if (wrap64 ((rd l0 x12_1) + (rd l1 x12_1))) = 1 then (impl_fitsSums.l0 k1 l0 true l1 (l1.length : Int) (wrap64 (x12_1 + 1))) else (some false)) = some r := by rw [if_pos rfl] at H; exact H
         clear H
         have H := H1
         clear H1
         by_cases c11 : (wrap64 ((rd l0 x12_1) + (rd l1 x12_1))) = 1
         ·rw [if_pos c11] at H
          have c11b0 : ((wrap64 ((rd l0 x12_1) + (rd l1 x12_1))) == 1) = true := beq_iff_eq.mpr c11
          have c11b1 : ((wrap64 ((rd l0 x12_1) + (rd l1 x12_1))) != 1) = false := bne_eq_false_iff_eq.mpr c11
          clear c11
          have H' := Aside0.mk H
          clear H
          have p101 : 0 ≤ (x12_1 : Int) := of_decide_eq_true tc2_
          have q101 : x12_1 < (l1.length : Int) := of_decide_eq_true tc2_
          obtain ⟨ad101, e101, hx101_0⟩ := Kd.at_int HR1.out x12_1 p101 q101
          cases e101
          replace p101 := eq_true p101
          replace q101 := eq_true q101
          have p102 : 0 ≤ (x12_1 : Int) := of_decide_eq_true tc2_
          have q102 : x12_1 < (l0.length : Int) := of_decide_eq_true tc2_
          obtain ⟨ad102, e102, hx102_0⟩ := Kd.at_int HR0.out x12_1 p102 q102
          cases e102
          replace p102 := eq_true p102
          replace q102 := eq_true q102
          go_wp2_with (first | ((with_reducible refine gate_callee (f := 69) rfl ?_); refine goesL_ (some 24) rfl rfl Try.func69 (by kernel_rfl) rfl #[.int .i64 (wrap64 ((rd l0 x12_1) + (rd l1 x12_1))), .int .i64 0, .int .i64 1] rfl tc1_ ?_; (with_reducible refine (impl_within.calls (wrap64 ((rd l0 x12_1) + (rd l1 x12_1))) 0 1 true _ A8.out).mono ?_); rintro e w' ⟨rfl, ⟨nd, rfl⟩⟩; refine ⟨_, rfl, ?_⟩))
          go_roundg k1
          case measure => have := HK1.out; omega
          case rel => exact ⟨(wrap64 (x12_1 + 1)), tc4_, H', ⟨by have := HK1.out; omega⟩, by repeat (first | exact Drawn0.refl _ | apply Drawn0.step)⟩
         ·rw [if_neg c11] at H
          have c11b0 : ((wrap64 ((rd l0 x12_1) + (rd l1 x12_1))) == 1) = false := beq_eq_false_iff_ne.mpr c11
          have c11b1 : ((wrap64 ((rd l0 x12_1) + (rd l1 x12_1))) != 1) = true := bne_iff_ne.mpr c11
          obtain rfl := Option.some.inj H
          have p101 : 0 ≤ (x12_1 : Int) := of_decide_eq_true tc2_
          have q101 : x12_1 < (l1.length : Int) := of_decide_eq_true tc2_
          obtain ⟨ad101, e101, hx101_0⟩ := Kd.at_int HR1.out x12_1 p101 q101
          cases e101
          replace p101 := eq_true p101
          replace q101 := eq_true q101
          have p102 : 0 ≤ (x12_1 : Int) := of_decide_eq_true tc2_
          have q102 : x12_1 < (l0.length : Int) := of_decide_eq_true tc2_
          obtain ⟨ad102, e102, hx102_0⟩ := Kd.at_int HR0.out x12_1 p102 q102
          cases e102
          replace p102 := eq_true p102
          replace q102 := eq_true q102
          go_wp2_with (first | ((with_reducible refine gate_callee (f := 69) rfl ?_); refine goesL_ (some 24) rfl rfl Try.func69 (by kernel_rfl) rfl #[.int .i64 (wrap64 ((rd l0 x12_1) + (rd l1 x12_1))), .int .i64 0, .int .i64 1] rfl tc1_ ?_; (with_reducible refine (impl_within.calls (wrap64 ((rd l0 x12_1) + (rd l1 x12_1))) 0 1 true _ A8.out).mono ?_); rintro e w' ⟨rfl, ⟨nd, rfl⟩⟩; refine ⟨_, rfl, ?_⟩))
          go_ret
          exact ⟨by first | rfl | (simp; done) | (simp [*]; done), by repeat (first | exact Drawn0.refl _ | apply Drawn0.step)⟩
        ·replace c10 := Bool.eq_false_iff.mpr c10
         subst c10
         have H1 : (impl_fitsSums.l0 k1 l0 false l1 (l1.length : Int) (wrap64 (x12_1 + 1))) = some r := by rw [if_neg (show ¬ (false = true) by decide)] at H; exact H
         clear H
         have H := H1
         clear H1
         have H' := Aside0.mk H
         clear H
         have p101 : 0 ≤ (x12_1 : Int) := of_decide_eq_true tc2_
         have q101 : x12_1 < (l1.length : Int) := of_decide_eq_true tc2_
         obtain ⟨ad101, e101, hx101_0⟩ := Kd.at_int HR1.out x12_1 p101 q101
         cases e101
         replace p101 := eq_true p101
         replace q101 := eq_true q101
         have p102 : 0 ≤ (x12_1 : Int) := of_decide_eq_true tc2_
         have q102 : x12_1 < (l0.length : Int) := of_decide_eq_true tc2_
         obtain ⟨ad102, e102, hx102_0⟩ := Kd.at_int HR0.out x12_1 p102 q102
         cases e102
         replace p102 := eq_true p102
         replace q102 := eq_true q102
         go_wp2_with (first | ((with_reducible refine gate_callee (f := 69) rfl ?_); refine goesL_ (some 24) rfl rfl Try.func69 (by kernel_rfl) rfl #[.int .i64 (wrap64 ((rd l0 x12_1) + (rd l1 x12_1))), .int .i64 0, .int .i64 1] rfl tc1_ ?_; (with_reducible refine (impl_within.calls (wrap64 ((rd l0 x12_1) + (rd l1 x12_1))) 0 1 true _ A8.out).mono ?_); rintro e w' ⟨rfl, ⟨nd, rfl⟩⟩; refine ⟨_, rfl, ?_⟩))
         go_roundg k1
         case measure => have := HK1.out; omega
         case rel => exact ⟨(wrap64 (x12_1 + 1)), tc4_, H', ⟨by have := HK1.out; omega⟩, by repeat (first | exact Drawn0.refl _ | apply Drawn0.step)⟩
       ·replace c9 := Bool.eq_false_iff.mpr c9
        subst c9
        have H1 : (some false) = some r := by rw [if_neg (show ¬ (false = true) by decide)] at H; exact H
        clear H
        have H := H1
        clear H1
        obtain rfl := Option.some.inj H
        have p101 : 0 ≤ (x12_1 : Int) := of_decide_eq_true tc2_
        have q101 : x12_1 < (l1.length : Int) := of_decide_eq_true tc2_
        obtain ⟨ad101, e101, hx101_0⟩ := Kd.at_int HR1.out x12_1 p101 q101
        cases e101
        replace p101 := eq_true p101
        replace q101 := eq_true q101
        have p102 : 0 ≤ (x12_1 : Int) := of_decide_eq_true tc2_
        have q102 : x12_1 < (l0.length : Int) := of_decide_eq_true tc2_
        obtain ⟨ad102, e102, hx102_0⟩ := Kd.at_int HR0.out x12_1 p102 q102
        cases e102
        replace p102 := eq_true p102
        replace q102 := eq_true q102
        go_wp2_with (first | ((with_reducible refine gate_callee (f := 69) rfl ?_); refine goesL_ (some 24) rfl rfl Try.func69 (by kernel_rfl) rfl #[.int .i64 (wrap64 ((rd l0 x12_1) + (rd l1 x12_1))), .int .i64 0, .int .i64 1] rfl tc1_ ?_; (with_reducible refine (impl_within.calls (wrap64 ((rd l0 x12_1) + (rd l1 x12_1))) 0 1 false _ A8.out).mono ?_); rintro e w' ⟨rfl, ⟨nd, rfl⟩⟩; refine ⟨_, rfl, ?_⟩))
        go_ret
        exact ⟨by first | rfl | (simp; done) | (simp [*]; done), by repeat (first | exact Drawn0.refl _ | apply Drawn0.step)⟩
      ·rw [if_neg c7] at H
       exact absurd H (by simp)
     ·rw [if_neg c6] at H
      exact absurd H (by simp)
    ·rw [if_neg c5] at H
     exact absurd H (by simp)
   ·rw [if_neg c4] at H
    have c4b0 : decide (x12_1 < (l1.length : Int)) = false := decide_eq_false c4
    clear c4
    obtain rfl := Option.some.inj H
    go_wp2
    go_ret
    exact ⟨by first | rfl | (simp; done) | (simp [*]; done), by repeat (first | exact Drawn0.refl _ | apply Drawn0.step)⟩

/-! ### impl_eachSigns_1: function 143 (by hand) -/
structure impl_eachSigns_1.Fr (n : Int) (ge : Nat) (be : Array Value) (Ar : Option Addr) (cr : Nat) (rows : List (List Int)) (B1 B2 B3 B4 B5 T2 T5 gs : Nat) (S : Nat → Prop) (w : World) (sums : List Int) : Prop where
  b1 : w.heap[B1]? = some (.cells #[.int .i64 n] 3 (0, 0))
  b2 : w.heap[B2]? = some (.cells #[.func (.func ge) #[] be] T2 (0, 0))
  b3 : w.heap[B3]? = some (.cells #[.slice Ar rows.length cr] 28 (0, 0))
  b4 : w.heap[B4]? = some (.cells #[.slice (some ⟨gs, 0, none⟩) sums.length sums.length] 40 (0, 0))
  b5 : w.heap[B5]? = some (.cells #[.func (.func 143) #[] #[.pointer (some ⟨B1, 0, none⟩), .pointer (some ⟨B2, 0, none⟩), .pointer (some ⟨B3, 0, none⟩), .pointer (some ⟨B4, 0, none⟩), .pointer (some ⟨B5, 0, none⟩)]] T5 (0, 0))
  bs : w.heap[gs]? = some (.cells (nums .i64 sums).toArray 3 (0, 0))
  vr : Kd.V (Kd.slice 3 (Kd.int .i64)) 40 w 0 (fun k => ¬ S k ∧ k ≠ gs) (.slice Ar rows.length cr) rows
  s1 : ¬ S B1
  s2 : ¬ S B2
  s3 : ¬ S B3
  s4 : ¬ S B4
  s5 : ¬ S B5
  ss : ¬ S gs
  n1 : B1 ≠ gs
  t2 : T2 ≠ 3
  t5 : T5 ≠ 3
  sz : sums.length ≤ 9223372036854775807
section
variable {n : Int} {ge : Nat} {be : Array Value} {Ar : Option Addr} {cr : Nat} {rows : List (List Int)} {B1 B2 B3 B4 B5 T2 T5 gs : Nat} {S S' : Nat → Prop} {w w1 : World} {sums : List Int}
theorem impl_eachSigns_1.Fr.below (h : impl_eachSigns_1.Fr n ge be Ar cr rows B1 B2 B3 B4 B5 T2 T5 gs S w sums) (hb : Below w.heap.size w w1) : impl_eachSigns_1.Fr n ge be Ar cr rows B1 B2 B3 B4 B5 T2 T5 gs S w1 sums :=
  { h with b1 := blk_below h.b1 hb, b2 := blk_below h.b2 hb, b3 := blk_below h.b3 hb, b4 := blk_below h.b4 hb, b5 := blk_below h.b5 hb, bs := blk_below h.bs hb, vr := Kd.V_below h.vr hb }
theorem impl_eachSigns_1.Fr.kept (h : impl_eachSigns_1.Fr n ge be Ar cr rows B1 B2 B3 B4 B5 T2 T5 gs S w sums) (hk : Kp w w1 S) (hs : ∀ k, S' k → S k ∨ w.heap.size ≤ k) : impl_eachSigns_1.Fr n ge be Ar cr rows B1 B2 B3 B4 B5 T2 T5 gs S' w1 sums := by
  have no : ∀ k, ¬ S k → k < w.heap.size → ¬ S' k := fun k h1 h2 h3 => (hs k h3).elim h1 (fun h4 => by omega)
  exact ⟨blk_kept h.b1 hk.1 h.s1, blk_kept h.b2 hk.1 h.s2, blk_kept h.b3 hk.1 h.s3, blk_kept h.b4 hk.1 h.s4, blk_kept h.b5 hk.1 h.s5, blk_kept h.bs hk.1 h.ss, V_kept_to h.vr hk hs,
    no _ h.s1 (blk_lt h.b1), no _ h.s2 (blk_lt h.b2), no _ h.s3 (blk_lt h.b3), no _ h.s4 (blk_lt h.b4), no _ h.s5 (blk_lt h.b5), no _ h.ss (blk_lt h.bs), h.n1, h.t2, h.t5, h.sz⟩
theorem impl_eachSigns_1.Fr.store (h : impl_eachSigns_1.Fr n ge be Ar cr rows B1 B2 B3 B4 B5 T2 T5 gs S w sums) (i : Nat) (v : Int) : impl_eachSigns_1.Fr n ge be Ar cr rows B1 B2 B3 B4 B5 T2 T5 gs S (w.setCell ⟨gs, i, none⟩ (.int .i64 v)) (sums.set i v) :=
  { h with b1 := blk_far h.b1 h.n1 _, b2 := blk_far h.b2 (blk_ne h.b2 h.bs h.t2) _, b3 := blk_far h.b3 (blk_ne h.b3 h.bs (by decide)) _, b4 := by rw [List.length_set]; exact blk_far h.b4 (blk_ne h.b4 h.bs (by decide)) _,
           b5 := blk_far h.b5 (blk_ne h.b5 h.bs h.t5) _, bs := by have := blk_set h.bs i (.int .i64 v); rwa [nums_set] at this, vr := Kd.V_far h.vr (fun _ hk => hk.2) _, sz := by rw [List.length_set]; exact h.sz }
end
def impl_eachSigns_1.okRow (sums row : List Int) : Bool := decide (sums.length = row.length) && sums.all (fun s => decide (0 ≤ s) && decide (s ≤ 1)) && row.all (fun s => decide (-1 ≤ s) && decide (s ≤ 1))
mutual
def impl_eachSigns_1.l0 {σ : Type} : Nat → (σ → List (List Int) → Option (σ × Bool)) → Int → List (List Int) → List Int → List (List Int) → σ → Int → Option (σ × Bool)
  | 0, _, _, _, _, _, _, _ => none
  | k + 1, p, n, rows, sums, m, s, i => if i < (rows.length : Int) then (if 0 ≤ i then ((impl_fitsSums.f k sums (rows.getD i.toNat []) ((m.length : Int) == n - 1)).bind fun t =>
      (if t = true then (if impl_eachSigns_1.okRow sums (rows.getD i.toNat []) = true then ((impl_eachSigns_1.f k p n rows (List.zipWith (· + ·) sums (rows.getD i.toNat [])) (m ++ [rows.getD i.toNat []]) s).bind fun q => (if q.2 = true then impl_eachSigns_1.l0 k p n rows sums m q.1 (i + 1) else some (q.1, false))) else none)
      else impl_eachSigns_1.l0 k p n rows sums m s (i + 1))) else none) else some (s, true)
def impl_eachSigns_1.f {σ : Type} : Nat → (σ → List (List Int) → Option (σ × Bool)) → Int → List (List Int) → List Int → List (List Int) → σ → Option (σ × Bool)
  | 0, _, _, _, _, _, _ => none
  | k + 1, p, n, rows, sums, m, s => if (m.length : Int) = n then p s m else (if m.length < 1000 then impl_eachSigns_1.l0 k p n rows sums m s 0 else none)
end
theorem impl_eachSigns_1.mono_l {σ : Type} : ∀ k, (∀ (p p' : σ → List (List Int) → Option (σ × Bool)) (hp : ∀ s m, LeO (p s m) (p' s m)) y0 y1 y2 y3 y4, LeO (impl_eachSigns_1.f k p y0 y1 y2 y3 y4) (impl_eachSigns_1.f (k + 1) p' y0 y1 y2 y3 y4)) ∧ (∀ (p p' : σ → List (List Int) → Option (σ × Bool)) (hp : ∀ s m, LeO (p s m) (p' s m)) y0 y1 y2 y3 y4 y5, LeO (impl_eachSigns_1.l0 k p y0 y1 y2 y3 y4 y5) (impl_eachSigns_1.l0 (k + 1) p' y0 y1 y2 y3 y4 y5))
  | 0 => ⟨fun _ _ _ _ _ _ _ _ r h => by simp [impl_eachSigns_1.f] at h, fun _ _ _ _ _ _ _ _ _ r h => by simp [impl_eachSigns_1.l0] at h⟩
  | k + 1 => by
    obtain ⟨ih0, ih1⟩ := impl_eachSigns_1.mono_l (σ := σ) k
    refine ⟨?_, ?_⟩
    · intro p p' hp y0 y1 y2 y3 y4
      unfold impl_eachSigns_1.f
      repeat' first
      | (with_reducible exact hp _ _)
      | (with_reducible exact ih1 _ _ hp _ _ _ _ _ _)
      | (with_reducible exact LeO.refl _)
      | (with_reducible refine LeO.ite ?_ ?_)
    · intro p p' hp y0 y1 y2 y3 y4 y5
      unfold impl_eachSigns_1.l0
      repeat' first
      | (with_reducible exact ih0 _ _ hp _ _ _ _ _)
      | (with_reducible exact ih1 _ _ hp _ _ _ _ _ _)
      | (with_reducible exact impl_fitsSums.mono _ _ _ _)
      | (with_reducible exact LeO.refl _)
      | (with_reducible refine LeO.ite ?_ ?_)
      | (with_reducible refine LeO.bind ?_ (fun _ => ?_))
theorem impl_eachSigns_1.zip_len {sums row : List Int} (h : impl_eachSigns_1.okRow sums row = true) : sums.length = row.length ∧ (List.zipWith (· + ·) sums row).length = row.length := by
  simp only [impl_eachSigns_1.okRow, Bool.and_eq_true, decide_eq_true_eq] at h
  exact ⟨h.1.1, by rw [List.length_zipWith, h.1.1, Nat.min_self]⟩
theorem impl_eachSigns_1.ok_at {sums row : List Int} (h : impl_eachSigns_1.okRow sums row = true) (j : Nat) (hj : j < row.length) : 0 ≤ sums.getD j 0 ∧ sums.getD j 0 ≤ 1 ∧ -1 ≤ row.getD j 0 ∧ row.getD j 0 ≤ 1 ∧ (List.zipWith (· + ·) sums row).getD j 0 = sums.getD j 0 + row.getD j 0 := by
  have hl := (impl_eachSigns_1.zip_len h).1
  simp only [impl_eachSigns_1.okRow, Bool.and_eq_true, List.all_eq_true, decide_eq_true_eq] at h
  have h1 := h.1.2 (sums.getD j 0) (by rw [List.getD_eq_getElem?_getD, List.getElem?_eq_getElem (by omega)]; exact List.getElem_mem _)
  have h2 := h.2 (row.getD j 0) (by rw [List.getD_eq_getElem?_getD, List.getElem?_eq_getElem hj]; exact List.getElem_mem _)
  refine ⟨h1.1, h1.2, h2.1, h2.2, ?_⟩
  simp [List.getD_eq_getElem?_getD, List.getElem?_zipWith, List.getElem?_eq_getElem hj, List.getElem?_eq_getElem (show j < sums.length by omega)]
/-- The first j numbers of one row, the others of the other one. -/
def impl_eachSigns_1.mid (a b : List Int) (j : Nat) : List Int := a.take j ++ b.drop j
theorem impl_eachSigns_1.mid_len {a b : List Int} (h : a.length = b.length) (j : Nat) : (impl_eachSigns_1.mid a b j).length = b.length := by
  simp [impl_eachSigns_1.mid]; omega
theorem impl_eachSigns_1.mid_at {a b : List Int} (h : a.length = b.length) (j : Nat) (hj : j < b.length) : (impl_eachSigns_1.mid a b j).getD j 0 = b.getD j 0 := by
  simp only [impl_eachSigns_1.mid, List.getD_eq_getElem?_getD]
  rw [List.getElem?_append_right (by simp; omega)]
  simp only [List.length_take, List.getElem?_drop]
  rw [show j + (j - min j a.length) = j by omega]
theorem impl_eachSigns_1.mid_set {a b : List Int} (h : a.length = b.length) (j : Nat) (hj : j < b.length) : (impl_eachSigns_1.mid a b j).set j (a.getD j 0) = impl_eachSigns_1.mid a b (j + 1) := by
  refine List.ext_getElem (by rw [List.length_set, impl_eachSigns_1.mid_len h, impl_eachSigns_1.mid_len h]) fun i h1 h2 => ?_
  rw [List.length_set, impl_eachSigns_1.mid_len h] at h1
  simp only [impl_eachSigns_1.mid, List.getElem_set, List.getElem_append, List.length_take, List.getElem_take, List.getElem_drop]
  by_cases e : j = i
  · subst e
    rw [if_pos rfl, dif_pos (by omega), List.getD_eq_getElem?_getD, List.getElem?_eq_getElem (by omega)]; rfl
  · rw [if_neg e]
    by_cases e2 : i < j
    · rw [dif_pos (by omega), dif_pos (by omega)]
    · rw [dif_neg (by omega), dif_neg (by omega)]
      congr 1
      omega
theorem impl_eachSigns_1.mid_zero {a b : List Int} : impl_eachSigns_1.mid a b 0 = b := by simp [impl_eachSigns_1.mid]
theorem impl_eachSigns_1.mid_all {a b : List Int} {j : Nat} (h : a.length = b.length) (hj : j = b.length) : impl_eachSigns_1.mid a b j = a := by
  subst hj
  simp only [impl_eachSigns_1.mid]
  rw [← h]
  simp
  omega
set_option maxHeartbeats 4000000 in
set_option maxRecDepth 100000 in
theorem impl_eachSigns_1.calls {σ : Type} (p : σ → List (List Int) → Option (σ × Bool)) (Inv : σ → World → (Nat → Prop) → Prop) (n : Int) (hn0 : 0 ≤ n) (hn1 : n ≤ 1000) (ge : Nat) (be : Array Value) (hf : FnS (Kd.slice 40 (Kd.slice 3 (Kd.int .i64))) Value.bool Try.prog ge be p Inv) (Ar : Option Addr) (cr : Nat) (rows : List (List Int)) (B1 B2 B3 B4 B5 T2 T5 gs : Nat) (k : Nat) :
    ∀ (sums : List Int) (m : List (List Int)) (A0 : Option Addr) (c0 : Nat) (s s' : σ) (b : Bool) (S : Nat → Prop) (w : World)
    (hF : impl_eachSigns_1.Fr n ge be Ar cr rows B1 B2 B3 B4 B5 T2 T5 gs S w sums) (hI : Inv s w S) (hm : Kd.V (Kd.slice 3 (Kd.int .i64)) 40 w 0 (fun k => ¬ S k ∧ k ≠ gs) (.slice A0 m.length c0) m) (h : impl_eachSigns_1.f k p n rows sums m s = some (s', b)),
    Calls Try.prog 143 (#[.slice A0 m.length c0] ++ #[.pointer (some ⟨B1, 0, none⟩), .pointer (some ⟨B2, 0, none⟩), .pointer (some ⟨B3, 0, none⟩), .pointer (some ⟨B4, 0, none⟩), .pointer (some ⟨B5, 0, none⟩)]) w fun e w' => e = .returned (.bool b) ∧ ∃ S', Inv s' w' S' ∧ Kp w w' S ∧ ∀ k, S' k → S k ∨ w.heap.size ≤ k := by
  have HFS := Aside0.mk hf
  have eg := hf.eg
  clear hf
  induction k using Nat.strongRecOn with
  | _ k ih =>
  intro sums m A0 c0 s s' b S w hF hI hm h
  cases k with
  | zero => exact absurd h (by simp [impl_eachSigns_1.f])
  | succ k =>
  simp only [impl_eachSigns_1.f] at h
  have HF := Aside0.mk hF
  have HI := Aside0.mk hI
  have HM := Aside0.mk hm
  have hz0 : m.length ≤ 9223372036854775807 := (Kd.V_reads' hm).2.2.2.1
  have hz1 : m.length ≤ c0 := (Kd.V_reads' hm).2.1
  clear hF hI hm
  have hc1 : w.cell? ⟨B1, 0, none⟩ = some (.int .i64 n) := (blk_cell HF.out.b1 0).trans rfl
  by_cases c1 : (m.length : Int) = n
  · rw [if_pos c1] at h
    have c1b : ((m.length : Int) == n) = true := beq_iff_eq.mpr c1
    clear c1
    have HP := Aside0.mk h
    clear h
    have hc2 : w.cell? ⟨B2, 0, none⟩ = some (.func (.func ge) #[] be) := (blk_cell HF.out.b2 0).trans rfl
    go_enter Try.func143, Try.ntmps143
    go_wp2_with (go_at_fn ge; (refine (HFS.out.cl s w S HI.out m _ (K_slice (Kd.V_reads' HM.out).2.1 (Kd.V_reads' HM.out).2.2) s' b HP.out).mono ?_); rintro e w2 ⟨rfl, q2⟩; have HQ := Aside0.mk q2; clear q2)
    go_ret
    exact ⟨rfl, HQ.out⟩
  · rw [if_neg c1] at h
    have c1b : ((m.length : Int) == n) = false := beq_eq_false_iff_ne.mpr c1
    clear c1
    by_cases c2 : m.length < 1000
    · rw [if_pos c2] at h
      have LM := Aside0.mk c2
      have HL := Aside0.mk h
      clear h c2
      have hc3 : w.cell? ⟨B3, 0, none⟩ = some (.slice Ar rows.length cr) := (blk_cell HF.out.b3 0).trans rfl
      go_enter Try.func143, Try.ntmps143
      go_wp2
      go_loopg [24] k (fun kq v24 w' => ∃ (i : Int) (s1 : σ) (S1 : Nat → Prop), v24 = .int .i64 i ∧ Aside0 (impl_eachSigns_1.l0 kq p n rows sums m s1 i = some (s', b)) ∧ Aside0 (kq ≤ k) ∧ Aside0 (impl_eachSigns_1.Fr n ge be Ar cr rows B1 B2 B3 B4 B5 T2 T5 gs S1 w' sums) ∧ Aside0 (Inv s1 w' S1) ∧ Aside0 (Kd.V (Kd.slice 3 (Kd.int .i64)) 40 w' 0 (fun k => ¬ S1 k ∧ k ≠ gs) (.slice A0 m.length c0) m) ∧ Aside0 (Kp w w' S) ∧ Aside0 (∀ k, S1 k → S k ∨ w.heap.size ≤ k))
      case atStart => exact ⟨0, s, S, rfl, HL, ⟨Nat.le_refl _⟩, HF, HI, HM, ⟨Kp.refl _ _⟩, ⟨fun _ h => .inl h⟩⟩
      case round =>
        clear HL HF HI HM hc1 hc3
        obtain ⟨wo, rfl⟩ : ∃ wo : World, wo = wr := ⟨_, rfl⟩
        obtain ⟨i, s1, S1, rfl, HL, HK, HF, HI, HVm, HKp, HS⟩ := hrel
        cases gk with
        | zero => exact absurd HL.out (by simp [impl_eachSigns_1.l0])
        | succ k1 =>
          have H := HL.out
          clear HL
          simp only [impl_eachSigns_1.l0] at H
          by_cases c3 : i < (rows.length : Int)
          · rw [if_pos c3] at H
            by_cases c4 : 0 ≤ i
            · rw [if_pos c4] at H
              obtain ⟨t, hT, H⟩ := Option.bind_eq_some_iff.mp H
              obtain ⟨ad, Aw, cw, eA, hxw, hVw⟩ := V_row (b' := 0) HF.out.vr i c4 c3
              obtain ⟨row, hrow⟩ : ∃ row : List Int, rows.getD i.toNat [] = row := ⟨_, rfl⟩
              rw [hrow] at hT H hxw hVw
              clear hrow
              subst eA
              have HVw := Aside0.mk hVw
              have HT := Aside0.mk hT
              have hz4 : rows.length ≤ 9223372036854775807 := (Kd.V_reads' HF.out.vr).2.2.2.1
              have hz3 : row.length ≤ 9223372036854775807 := (Kd.V_reads' hVw).2.2.2.1
              clear hVw hT
              have hb1 : wo.cell? ⟨B1, 0, none⟩ = some (.int .i64 n) := (blk_cell HF.out.b1 0).trans rfl
              have hb4 : wo.cell? ⟨B4, 0, none⟩ = some (.slice (some ⟨gs, 0, none⟩) sums.length sums.length) := (blk_cell HF.out.b4 0).trans rfl
              have hd3 : decide (i < (rows.length : Int)) = true := decide_eq_true c3
              have hd4 : decide (0 ≤ i) = true := decide_eq_true c4
              have HSZ := Aside0.mk (show sums.length ≤ 9223372036854775807 from HF.out.sz)
              cases t with
              | false =>
                rw [if_neg (by simp)] at H
                have HL4 := Aside0.mk H
                clear H
                go_wp2_with (go_at_call 144; (refine (impl_fitsSums.calls k1 _ _ sums _ _ row ((m.length : Int) == n - 1) false _ (C_nums HF.out.bs HSZ.out) (Nat.le_refl _) (Kd.V_reads' HVw.out).2.2 (Kd.V_reads' HVw.out).2.1 HT.out).mono ?_); rintro e w' ⟨rfl, ⟨nd, rfl⟩⟩)
                go_roundg k1
                case measure => have := HK.out; omega
                case rel => exact ⟨i + 1, s1, S1, by go_num, HL4, ⟨by have := HK.out; omega⟩, ⟨HF.out.below (pw_below_drewN (Below.refl _ _) _)⟩, ⟨HFS.out.st _ _ _ _ HI.out ((pw_below_drewN (Below.refl wo.heap.size wo) _).mono (Nat.zero_le _)) (fun _ _ => rfl)⟩, ⟨Kd.V_drewN HVm.out _⟩, ⟨HKp.out.drewN _⟩, HS⟩
              | true =>
                rw [if_pos rfl] at H
                by_cases c5 : impl_eachSigns_1.okRow sums row = true
                · rw [if_pos c5] at H
                  obtain ⟨q, hq, H⟩ := Option.bind_eq_some_iff.mp H
                  have HO := Aside0.mk c5
                  obtain ⟨sums2, he2⟩ : ∃ x : List Int, List.zipWith (· + ·) sums row = x := ⟨_, rfl⟩
                  rw [he2] at hq
                  have HZ := Aside0.mk (impl_eachSigns_1.zip_len c5)
                  rw [he2] at HZ
                  have HE2 := Aside0.mk he2
                  have HQ := Aside0.mk hq
                  clear c5 he2 hq
                  go_wp2_with (go_at_call 144; (refine (impl_fitsSums.calls k1 _ _ sums _ _ row ((m.length : Int) == n - 1) true _ (C_nums HF.out.bs HSZ.out) (Nat.le_refl _) (Kd.V_reads' HVw.out).2.2 (Kd.V_reads' HVw.out).2.1 HT.out).mono ?_); rintro e w' ⟨rfl, ⟨nd, rfl⟩⟩)
                  replace HF := Aside0.mk (HF.out.below (pw_below_drewN (Below.refl _ _) nd))
                  replace HI := Aside0.mk (HFS.out.st _ _ _ (wo.drewN nd) HI.out ((pw_below_drewN (Below.refl wo.heap.size wo) nd).mono (Nat.zero_le _)) (fun _ _ => rfl))
                  replace HVm := Aside0.mk (Kd.V_drewN HVm.out nd)
                  replace HVw := Aside0.mk (Kd.V_drewN HVw.out nd)
                  replace HKp := Aside0.mk (HKp.out.drewN nd)
                  clear hb1 hb4 hxw
                  generalize wo.drewN nd = wo2 at *
                  go_loopg [39] row.length (fun gj v39 w' => ∃ j : Nat, v39 = .int .i64 (j : Int) ∧ Aside0 (j + gj = row.length) ∧ Aside0 (impl_eachSigns_1.Fr n ge be (some ad) cr rows B1 B2 B3 B4 B5 T2 T5 gs S1 w' (impl_eachSigns_1.mid sums2 sums j)) ∧ Aside0 (Kd.V (Kd.slice 3 (Kd.int .i64)) 40 w' 0 (fun k => ¬ S1 k ∧ k ≠ gs) (.slice A0 m.length c0) m) ∧ Aside0 (Kd.V (Kd.int .i64) 3 w' 0 (fun k => ¬ S1 k ∧ k ≠ gs) (.slice Aw row.length cw) row) ∧ Aside0 (Kp wo2 w' (fun k => k = gs)))
                  case atStart => exact ⟨0, rfl, ⟨by omega⟩, ⟨by rw [impl_eachSigns_1.mid_zero]; exact HF.out⟩, HVm, HVw, ⟨Kp.refl _ _⟩⟩
                  case round =>
                    obtain ⟨w39, rfl⟩ : ∃ w_ : World, w_ = wr := ⟨_, rfl⟩
                    obtain ⟨j, rfl, HJ, HFj, HVmj, HVwj, HKj⟩ := hrel
                    have HLb := Aside0.mk (impl_eachSigns_1.mid_len (a := sums2) (b := sums) (HZ.out.2.trans HZ.out.1.symm) j)
                    by_cases hj : j < row.length
                    · obtain ⟨g1, rfl⟩ : ∃ g1, gk = g1 + 1 := ⟨gk - 1, by have := HJ.out; omega⟩
                      obtain ⟨adw, eAw, hcw⟩ := Kd.at_int (Kd.V_reads' HVwj.out).2.2 (j : Int) (by omega) (by omega)
                      subst eAw
                      obtain ⟨o1, o2, o3, o4, o5⟩ := impl_eachSigns_1.ok_at HO.out j hj
                      have hcs : w39.cell? ⟨gs, j, none⟩ = some (.int .i64 (sums.getD j 0)) := by
                        rw [blk_cell HFj.out.bs j]
                        have := impl_eachSigns_1.mid_at (a := sums2) (b := sums) (HZ.out.2.trans HZ.out.1.symm) j (by have := HZ.out; omega)
                        rw [← this]
                        have hlt : j < (impl_eachSigns_1.mid sums2 sums j).length := by have := HLb.out; have := HZ.out; omega
                        simp [nums, List.getElem?_eq_getElem hlt]
                      have hfs := blk_frozen HFj.out.bs j
                      have hb4 : w39.cell? ⟨B4, 0, none⟩ = some (.slice (some ⟨gs, 0, none⟩) row.length row.length) := by
                        rw [(blk_cell HFj.out.b4 0).trans rfl, HLb.out, HZ.out.1]; rfl
                      rw [show rd row (j : Int) = row.getD j 0 from rfl] at hcw
                      rw [Int.toNat_natCast] at hcw
                      have HST := Aside0.mk (impl_eachSigns_1.Fr.store HFj.out j (sums2.getD j 0))
                      have HMS := Aside0.mk (impl_eachSigns_1.mid_set (a := sums2) (b := sums) (HZ.out.2.trans HZ.out.1.symm) j (by have := HZ.out; omega))
                      have HVE := Aside0.mk (show sums2.getD j 0 = sums.getD j 0 + row.getD j 0 by rw [← HE2.out] at *; omega)
                      have hd1 : decide ((j : Int) < (row.length : Int)) = true := decide_eq_true (by omega)
                      have hd2 : decide (j < row.length) = true := decide_eq_true hj
                      rw [HE2.out] at o5
                      have o6 : -1 ≤ sums2.getD j 0 := by omega
                      have o7 : sums2.getD j 0 ≤ 2 := by omega
                      clear o5
                      generalize sums.getD j 0 = x at *
                      generalize row.getD j 0 = y at *
                      go_wp2
                      go_roundg g1
                      case measure => omega
                      case rel =>
                        refine ⟨j + 1, by go_num, ⟨by have := HJ.out; omega⟩, ⟨?_⟩, ⟨Kd.V_far HVmj.out (fun _ hk => hk.2) _⟩, ⟨Kd.V_far HVwj.out (fun _ hk => hk.2) _⟩, ⟨Kp.setCell HKj.out (.inl rfl) _⟩⟩
                        have := HST.out
                        rw [HMS.out] at this
                        rwa [HVE.out] at this
                    · have ej : j = row.length := by have := HJ.out; omega
                      subst ej
                      have hd1 : decide ((row.length : Int) < (row.length : Int)) = false := decide_eq_false (by omega)
                      have hd2 : decide (row.length < row.length) = false := decide_eq_false (by omega)
                      have HFe := Aside0.mk HFj.out
                      rw [impl_eachSigns_1.mid_all (HZ.out.2.trans HZ.out.1.symm) (HZ.out.1.symm)] at HFe
                      clear HFj HJ HLb hj
                      have HF3 := Aside0.mk (HFe.out.below (below_drew (Below.refl _ _)))
                      have HVm := Aside0.mk (Kd.V_drew HVmj.out)
                      have HVw := Aside0.mk (Kd.V_drew HVwj.out)
                      have HKp3 := Aside0.mk (HKj.out.drew)
                      have HI3 := Aside0.mk (HFS.out.st _ _ _ _ HI.out HKp3.out.2 (fun k hk => HKp3.out.at k (HFS.out.bd _ _ _ HI.out k hk) (fun e => HF.out.ss (e ▸ hk))))
                      have HC5 := Aside0.mk ((blk_cell HF3.out.b5 0).trans rfl : w39.drew.cell? ⟨B5, 0, none⟩ = some (.func (.func 143) #[] #[.pointer (some ⟨B1, 0, none⟩), .pointer (some ⟨B2, 0, none⟩), .pointer (some ⟨B3, 0, none⟩), .pointer (some ⟨B4, 0, none⟩), .pointer (some ⟨B5, 0, none⟩)]))
                      clear HVmj HVwj HKj HFe
                      go_wp2_with fail
                      refine start_ (n := 12) (S := fun w' => w'.cell? ⟨B5, 0, none⟩ = some (.func (.func 143) #[] #[.pointer (some ⟨B1, 0, none⟩), .pointer (some ⟨B2, 0, none⟩), .pointer (some ⟨B3, 0, none⟩), .pointer (some ⟨B4, 0, none⟩), .pointer (some ⟨B5, 0, none⟩)])) (ds := []) #[false, false, false, false, false, false, false, false, false, false, false, false] (by kernel_rfl) rfl rfl (HC5.out) (fun hHeld => ?_)
                      generalize hW_ : w39.drew = W at HF3 HVm HVw HI3 HKp3 HC5 hHeld ⊢
                      clear hW_
                      refine pure_ (i := 1) (N := some 53) (v := ?_) (a' := ?_) #[false, true, false, false, false, false, false, false, false, false, false, false] rfl rfl (by kernel_rfl) (fun _ _ _ h => h) (Or.inl ⟨by rfl, ?_⟩) ?_ ?_
                      rotate_left
                      · intro w'
                        go_simp
                        with_reducible rfl
                      rotate_left
                      · simp only [Act.put, List.setIfInBounds_toArray, List.set_cons_zero, List.set_cons_succ, i64_w, i32_w]
                        rfl
                      refine pure_ (i := 2) (N := some 54) (v := ?_) (a' := ?_) #[false, true, true, false, false, false, false, false, false, false, false, false] rfl rfl (by kernel_rfl) (fun _ _ _ h => h) (Or.inl ⟨by rfl, ?_⟩) ?_ ?_
                      rotate_left
                      · intro w'
                        go_simp
                        with_reducible rfl
                      rotate_left
                      · simp only [Act.put, List.setIfInBounds_toArray, List.set_cons_zero, List.set_cons_succ, i64_w, i32_w]
                        rfl
                      refine pure_ (i := 3) (N := some 55) (v := ?_) (a' := ?_) #[false, true, true, true, false, false, false, false, false, false, false, false] rfl rfl (by kernel_rfl) (fun _ _ _ h => h) (Or.inl ⟨by rfl, ?_⟩) ?_ ?_
                      rotate_left
                      · intro w'
                        go_simp
                        with_reducible rfl
                      rotate_left
                      · simp only [Act.put, List.setIfInBounds_toArray, List.set_cons_zero, List.set_cons_succ, i64_w, i32_w]
                        rfl
                      refine pure_ (i := 4) (N := some 56) (v := ?_) (a' := ?_) #[false, true, true, true, true, false, false, false, false, false, false, false] rfl rfl (by kernel_rfl) (fun _ _ _ h => h) (Or.inl ⟨by rfl, ?_⟩) ?_ ?_
                      rotate_left
                      · intro w'
                        go_simp
                        with_reducible rfl
                      rotate_left
                      · simp only [Act.put, List.setIfInBounds_toArray, List.set_cons_zero, List.set_cons_succ, i64_w, i32_w]
                        rfl
                      refine pure_ (i := 5) (N := some 57) (v := ?_) (a' := ?_) #[false, true, true, true, true, true, false, false, false, false, false, false] rfl rfl (by kernel_rfl) (fun _ _ _ h => h) (Or.inl ⟨by rfl, ?_⟩) ?_ ?_
                      rotate_left
                      · intro w'
                        go_simp
                        with_reducible rfl
                      rotate_left
                      · simp only [Act.put, List.setIfInBounds_toArray, List.set_cons_zero, List.set_cons_succ, i64_w, i32_w]
                        rfl
                      refine pure_ (i := 6) (N := some 58) (v := ?_) (a' := ?_) #[false, true, true, true, true, true, true, false, false, false, false, false] rfl rfl (by kernel_rfl) (fun _ _ _ h => h) (Or.inl ⟨by rfl, ?_⟩) ?_ ?_
                      rotate_left
                      · intro w'
                        go_simp
                        with_reducible rfl
                      rotate_left
                      · simp only [Act.put, List.setIfInBounds_toArray, List.set_cons_zero, List.set_cons_succ, i64_w, i32_w]
                        rfl
                      refine pure_ (i := 7) (N := some 59) (v := ?_) (a' := ?_) #[false, true, true, true, true, true, true, true, false, false, false, false] rfl rfl (by kernel_rfl) (fun _ _ _ h => h) (Or.inl ⟨by rfl, ?_⟩) ?_ ?_
                      rotate_left
                      · intro w'
                        go_simp
                        with_reducible rfl
                      rotate_left
                      · simp only [Act.put, List.setIfInBounds_toArray, List.set_cons_zero, List.set_cons_succ, i64_w, i32_w]
                        rfl
                      refine take_ (i := 0) (N := some 52) (v := ?_) (a' := ?_) #[true, true, true, true, true, true, true, true, false, false, false, false] rfl rfl (by kernel_rfl) (fun _ _ _ h => h) (Or.inl ⟨by rfl, ?_⟩) hHeld ?_ ?_
                      rotate_left
                      · intro w' s0
                        go_simp
                        with_reducible rfl
                      rotate_left
                      · simp only [Act.put, List.setIfInBounds_toArray, List.set_cons_zero, List.set_cons_succ, i64_w, i32_w]
                        rfl
                      refine one_ (i := 8) (N := some 60) #[true, true, true, true, true, true, true, true, true, false, false, false] rfl rfl (by kernel_rfl) (by decide) (fun K hK => ?_)
                      refine value_ (w1 := ?_) (v := ?_) (by rfl) rfl ?_ ?_
                      rotate_left 2
                      · go_simp
                        constructor
                        · rfl
                        · rfl
                      refine hK.out _ _ (cell_of_below (below_alloc (Below.refl _ _) _) HC5.out) (fun hHeld => ?_)
                      clear hK K
                      refine norm_ (a' := ?_) ?_ ?_
                      rotate_left
                      · show Act.put _ (some 60) _ = _
                        simp only [Act.put, List.setIfInBounds_toArray, List.set_cons_zero, List.set_cons_succ, i64_w, i32_w]
                        rfl
                      refine one_ (i := 9) (N := some 61) #[true, true, true, true, true, true, true, true, true, true, false, false] rfl rfl (by kernel_rfl) (by decide) (fun K hK => ?_)
                      refine V_push_step (d := Kd.slice 3 (Kd.int .i64)) (e := 40) (ok := fun k => ¬ S1 k ∧ k ≠ gs) rfl (.tmp 58) (.tmp 60) 28 rfl (.slice none 0 0) 24 Try.underlying28 info40 rfl rfl (xs := m) (y := row) (ad := ⟨W.heap.size, 0, none⟩) rfl (Kd.F_alloc (Kd.V_F HVm.out) _) rfl (Kd.FK_below (Kd.FK_slice_mk (Kd.V_reads' HVw.out).2.1 (Kd.V_F HVw.out)) (below_alloc (Below.refl _ _) _)) ((blk_cell (blk_new W _) 0).trans rfl) (by have := LM.out; omega) (by have := LM.out; omega) ?_
                      intro v61 w9 hN9 hb9
                      have HB9 := Aside0.mk (below_step (below_alloc (Below.refl _ _) _) hb9)
                      have HN9 := Aside0.mk hN9
                      clear hN9 hb9
                      obtain ⟨A61, c61, e61⟩ := Kd.N_slice HN9.out
                      subst e61
                      refine hK.out _ _ (cell_of_below HB9.out HC5.out) (fun hHeld => ?_)
                      clear hK K
                      refine norm_ (a' := ?_) ?_ ?_
                      rotate_left
                      · show Act.put _ (some 61) _ = _
                        simp only [Act.put, List.setIfInBounds_toArray, List.set_cons_zero, List.set_cons_succ, i64_w, i32_w]
                        rfl
                      refine one_ (i := 10) (N := some 62) #[true, true, true, true, true, true, true, true, true, true, true, false] rfl rfl (by kernel_rfl) (by decide) (fun K hK => ?_)
                      refine goesF_ (enters_of Try.func143 (by kernel_rfl) rfl) #[.slice A61 (m ++ [row]).length c61] (by rfl) rfl rfl (by first | rfl | (simp [Act.eval]; done)) tc15_ ?_
                      refine (ih k1 (by have := HK.out; omega) (sums2) (m ++ [row]) A61 c61 s1 q.1 q.2 S1 w9 (HF3.out.below HB9.out) (HFS.out.st _ _ _ _ HI3.out (HB9.out.mono (Nat.zero_le _)) (fun k hk => HB9.out.block k (HFS.out.bd _ _ _ HI3.out k hk))) (Kd.V_mono (Kd.N_V HN9.out) (fun k hk => hk.elim (fun h => h) (fun h => ⟨fun hs => by have := HFS.out.bd _ _ _ HI3.out k hs; simp at h; omega, fun e => by have := blk_lt HF3.out.bs; simp at h; omega⟩))) HQ.out).mono ?_
                      rintro e w10 ⟨rfl, S2, hI10, hK10, hS10⟩
                      refine ⟨_, rfl, ?_⟩
                      have HI10 := Aside0.mk hI10
                      have HK10 := Aside0.mk hK10
                      have HS10 := Aside0.mk hS10
                      clear hI10 hK10 hS10
                      have HF10 := Aside0.mk ((HF3.out.below HB9.out).kept HK10.out HS10.out)
                      refine hK.out _ _ ((blk_cell HF10.out.b5 0).trans rfl) (fun hHeld => ?_)
                      clear hK K
                      refine norm_ (a' := ?_) ?_ ?_
                      rotate_left
                      · show Act.put _ (some 62) _ = _
                        simp only [Act.put, List.setIfInBounds_toArray, List.set_cons_zero, List.set_cons_succ, i64_w, i32_w]
                        rfl
                      refine pure_ (i := 11) (N := some 12) (v := ?_) (a' := ?_) #[true, true, true, true, true, true, true, true, true, true, true, true] rfl rfl (by kernel_rfl) (fun _ _ _ h => h) (Or.inl ⟨by rfl, ?_⟩) ?_ ?_
                      rotate_left
                      · intro w'
                        go_simp
                        with_reducible rfl
                      rotate_left
                      · simp only [Act.put, List.setIfInBounds_toArray, List.set_cons_zero, List.set_cons_succ, i64_w, i32_w]
                        rfl
                      refine done_ (by kernel_rfl) ?_
                      have HKr := Aside0.mk ((HKp3.out.mono (S' := fun k => S1 k ∨ k = gs) (fun k h => .inr h)).below HB9.out |>.then_ HK10.out (fun k h => .inl (.inl h)))
                      have HW9 := Aside0.mk (Nat.le_trans HKp3.out.sz (below_size HB9.out))
                      have HVm3 := Aside0.mk (V_kept_to (Kd.V_below HVm.out HB9.out) HK10.out HS10.out)
                      have HVw3 := Aside0.mk (V_kept_to (Kd.V_below HVw.out HB9.out) HK10.out HS10.out)
                      clear HVm HVw HKp3 HI3 HC5 HF3 HN9 HB9 HK10
                      go_wp2
                      go_loopg [65] row.length (fun gj v65 w' => ∃ j : Nat, v65 = .int .i64 (j : Int) ∧ Aside0 (j + gj = row.length) ∧ Aside0 (impl_eachSigns_1.Fr n ge be (some ad) cr rows B1 B2 B3 B4 B5 T2 T5 gs S2 w' (impl_eachSigns_1.mid sums sums2 j)) ∧ Aside0 (Kd.V (Kd.slice 3 (Kd.int .i64)) 40 w' 0 (fun k => ¬ S2 k ∧ k ≠ gs) (.slice A0 m.length c0) m) ∧ Aside0 (Kd.V (Kd.int .i64) 3 w' 0 (fun k => ¬ S2 k ∧ k ≠ gs) (.slice Aw row.length cw) row) ∧ Aside0 (Kp w10 w' (fun k => k = gs)))
                      case atStart => exact ⟨0, rfl, ⟨by omega⟩, ⟨by rw [impl_eachSigns_1.mid_zero]; exact HF10.out⟩, HVm3, HVw3, ⟨Kp.refl _ _⟩⟩
                      case round =>
                        obtain ⟨w65, rfl⟩ : ∃ w_ : World, w_ = wr := ⟨_, rfl⟩
                        obtain ⟨j, rfl, HJ, HFj, HVmj, HVwj, HKj⟩ := hrel
                        have HLb := Aside0.mk (impl_eachSigns_1.mid_len (a := sums) (b := sums2) (HZ.out.1.trans HZ.out.2.symm) j)
                        by_cases hj : j < row.length
                        · obtain ⟨g1, rfl⟩ : ∃ g1, gk = g1 + 1 := ⟨gk - 1, by have := HJ.out; omega⟩
                          obtain ⟨adw, eAw, hcw⟩ := Kd.at_int (Kd.V_reads' HVwj.out).2.2 (j : Int) (by omega) (by omega)
                          subst eAw
                          obtain ⟨o1, o2, o3, o4, o5⟩ := impl_eachSigns_1.ok_at HO.out j hj
                          have hcs : w65.cell? ⟨gs, j, none⟩ = some (.int .i64 (sums2.getD j 0)) := by
                            rw [blk_cell HFj.out.bs j]
                            have := impl_eachSigns_1.mid_at (a := sums) (b := sums2) (HZ.out.1.trans HZ.out.2.symm) j (by have := HZ.out; omega)
                            rw [← this]
                            have hlt : j < (impl_eachSigns_1.mid sums sums2 j).length := by have := HLb.out; have := HZ.out; omega
                            simp [nums, List.getElem?_eq_getElem hlt]
                          have hfs := blk_frozen HFj.out.bs j
                          have hb4 : w65.cell? ⟨B4, 0, none⟩ = some (.slice (some ⟨gs, 0, none⟩) row.length row.length) := by
                            rw [(blk_cell HFj.out.b4 0).trans rfl, HLb.out, HZ.out.2]; rfl
                          rw [show rd row (j : Int) = row.getD j 0 from rfl] at hcw
                          rw [Int.toNat_natCast] at hcw
                          have HST := Aside0.mk (impl_eachSigns_1.Fr.store HFj.out j (sums.getD j 0))
                          have HMS := Aside0.mk (impl_eachSigns_1.mid_set (a := sums) (b := sums2) (HZ.out.1.trans HZ.out.2.symm) j (by have := HZ.out; omega))
                          have HVE := Aside0.mk (show sums.getD j 0 = sums2.getD j 0 - row.getD j 0 by rw [← HE2.out] at *; omega)
                          have hd1 : decide ((j : Int) < (row.length : Int)) = true := decide_eq_true (by omega)
                          have hd2 : decide (j < row.length) = true := decide_eq_true hj
                          rw [HE2.out] at o5
                          have o6 : -1 ≤ sums2.getD j 0 := by omega
                          have o7 : sums2.getD j 0 ≤ 2 := by omega
                          clear o5
                          generalize sums2.getD j 0 = x at *
                          generalize row.getD j 0 = y at *
                          go_wp2
                          go_roundg g1
                          case measure => omega
                          case rel =>
                            refine ⟨j + 1, by go_num, ⟨by have := HJ.out; omega⟩, ⟨?_⟩, ⟨Kd.V_far HVmj.out (fun _ hk => hk.2) _⟩, ⟨Kd.V_far HVwj.out (fun _ hk => hk.2) _⟩, ⟨Kp.setCell HKj.out (.inl rfl) _⟩⟩
                            have := HST.out
                            rw [HMS.out] at this
                            rwa [HVE.out] at this
                        · have ej : j = row.length := by have := HJ.out; omega
                          subst ej
                          have hd1 : decide ((row.length : Int) < (row.length : Int)) = false := decide_eq_false (by omega)
                          have hd2 : decide (row.length < row.length) = false := decide_eq_false (by omega)
                          have HFe := Aside0.mk HFj.out
                          rw [impl_eachSigns_1.mid_all (HZ.out.1.trans HZ.out.2.symm) (HZ.out.2.symm)] at HFe
                          clear HFj HJ HLb hj
                          have HB3 := Aside0.mk (Kp.back ((HKr.out.then_ (S2 := fun k => k = gs) HKj.out (fun k h => .inl (.inr h)))) HF.out.bs HFe.out.bs)
                          have HKp4 := Aside0.mk (HKp.out.then_ HB3.out HS.out)
                          have HS4 := Aside0.mk (show ∀ k, S2 k → S k ∨ w.heap.size ≤ k from fun k h => (HS10.out k h).elim (fun h => HS.out k h) (fun h => .inr (Nat.le_trans HKp.out.sz (Nat.le_trans HW9.out h))))
                          have HI4 := Aside0.mk (HFS.out.st _ _ _ _ HI10.out HKj.out.2 (fun k hk => HKj.out.at k (HFS.out.bd _ _ _ HI10.out k hk) (fun e => HF10.out.ss (e ▸ hk))))
                          by_cases cq : q.2 = true
                          · rw [if_pos cq] at H
                            have HL4 := Aside0.mk H
                            clear H
                            rw [cq]
                            go_wp2
                            go_roundg k1
                            case measure => have := HK.out; omega
                            case rel => exact ⟨i + 1, q.1, S2, by go_num, HL4, ⟨by have := HK.out; omega⟩, HFe, HI4, HVmj, HKp4, HS4⟩
                          · rw [if_neg cq] at H
                            have e1 := Prod.mk.inj (Option.some.inj H)
                            have cq2 : q.2 = false := by simpa using cq
                            obtain ⟨e1, e2⟩ := e1
                            subst e2
                            clear H cq
                            rw [cq2]
                            go_wp2
                            go_ret
                            exact ⟨rfl, S2, e1 ▸ HI4.out, HKp4.out, HS4.out⟩
                · rw [if_neg c5] at H
                  exact absurd H (by simp)
            · rw [if_neg c4] at H
              exact absurd H (by simp)
          · rw [if_neg c3] at H
            have hd3 : decide (i < (rows.length : Int)) = false := decide_eq_false c3
            have e1 := Prod.mk.inj (Option.some.inj H)
            obtain ⟨e1, e2⟩ := e1
            subst e2
            clear H
            go_wp2
            go_ret
            exact ⟨rfl, S1, e1 ▸ HI.out, HKp.out, HS.out⟩
    · rw [if_neg c2] at h
      exact absurd h (by simp)

/-! ### impl_eachSigns: function 116 (by hand) -/
def impl_eachSigns.f {σ : Type} (k : Nat) (a0 : Int) (p : σ → List (List Int) → Option (σ × Bool)) (s : σ) : Option σ :=
  if 0 ≤ a0 then (if a0 ≤ 1000 then ((impl_signRows.f k a0).bind fun rows => (impl_eachSigns_1.f k p a0 rows (List.replicate a0.toNat 0) [] s).bind fun q => some q.1) else none) else none
theorem impl_eachSigns.mono {σ : Type} : ∀ (p p' : σ → List (List Int) → Option (σ × Bool)) (hp : ∀ s m, LeO (p s m) (p' s m)) a0 s k, LeO (impl_eachSigns.f k a0 p s) (impl_eachSigns.f (k + 1) a0 p' s) := by
  intro p p' hp a0 s k
  unfold impl_eachSigns.f
  repeat' first
    | (with_reducible exact (impl_eachSigns_1.mono_l k).1 _ _ hp _ _ _ _ _)
    | (with_reducible exact impl_signRows.mono _ _)
    | (with_reducible exact LeO.refl _)
    | (with_reducible refine LeO.ite ?_ ?_)
    | (with_reducible refine LeO.bind ?_ (fun _ => ?_))
def impl_eachSigns.T1 : Bool × List (List Nat × List Nat) := (true, [([], []), ([0], [0]), ([], []), ([2, 2], [2]), ([], []), ([], []), ([4, 1, 1, 0, 1, 4, 5], [1, 4]), ([5, 3, 6, 0, 1, 2, 3, 4, 5, 6], [3, 5])])
def impl_eachSigns.B1 : List Nat := [0, 1, 0, 4, 0, 0, 51, 127]
theorem impl_eachSigns.tab1 : rtab .any (opsOf Try.f116 1) = impl_eachSigns.T1 := by kernel_rfl
theorem impl_eachSigns.bits1 : waitsOk impl_eachSigns.T1.2 impl_eachSigns.B1 = true := by kernel_rfl
set_option maxHeartbeats 4000000 in
set_option maxRecDepth 100000 in
theorem impl_eachSigns.calls {σ : Type} (k : Nat) (a0 : Int) (ge : Nat) (be : Array Value) (p : σ → List (List Int) → Option (σ × Bool)) (Inv : σ → World → (Nat → Prop) → Prop) (hf : FnS (Kd.slice 40 (Kd.slice 3 (Kd.int .i64))) Value.bool Try.prog ge be p Inv)
    (s s' : σ) (S : Nat → Prop) (w : World) (hI : Inv s w S) (h : impl_eachSigns.f k a0 p s = some s') :
    Calls Try.prog 116 #[.int .i64 a0, .func (.func ge) #[] be] w fun e w' => e = .returned (.tuple #[]) ∧ ∃ S', Inv s' w' S' ∧ Kp w w' S ∧ ∀ k, S' k → S k ∨ w.heap.size ≤ k := by
  unfold impl_eachSigns.f at h
  by_cases c1 : 0 ≤ a0
  · rw [if_pos c1] at h
    by_cases c2 : a0 ≤ 1000
    · rw [if_pos c2] at h
      obtain ⟨rows, h1, h⟩ := Option.bind_eq_some_iff.mp h
      obtain ⟨q, h2, h⟩ := Option.bind_eq_some_iff.mp h
      obtain rfl := Option.some.inj h
      have HFS := Aside0.mk hf
      have HI := Aside0.mk hI
      have HR := Aside0.mk h1
      have HQ := Aside0.mk h2
      clear hf hI h1 h2 h
      go_enter Try.func116, Try.ntmps116
      go_wp2
      obtain ⟨B1, hB1⟩ : ∃ B1, B1 = w.heap.size := ⟨_, rfl⟩
      obtain ⟨B2, hB2⟩ : ∃ B2, B2 = B1 + 1 := ⟨_, rfl⟩
      have HA0 := Aside0.mk c1
      have HA1 := Aside0.mk c2
      have HB1 := Aside0.mk (show (((w.alloc (Obj.cells #[Value.int IntKind.i64 a0] 3)).alloc (Obj.cells #[Value.func (Fn.func ge) #[] be] 58)).drew).heap[B1]? = some (.cells #[.int .i64 a0] 3 (0, 0)) from blk_drew (blk_alloc (blk_new' hB1.symm) _))
      have HB2 := Aside0.mk (show (((w.alloc (Obj.cells #[Value.int IntKind.i64 a0] 3)).alloc (Obj.cells #[Value.func (Fn.func ge) #[] be] 58)).drew).heap[B2]? = some (.cells #[.func (.func ge) #[] be] 58 (0, 0)) from blk_drew (blk_new' (by simp; omega)))
      have HC1 := Aside0.mk ((blk_cell HB1.out 0).trans rfl : (((w.alloc (Obj.cells #[Value.int IntKind.i64 a0] 3)).alloc (Obj.cells #[Value.func (Fn.func ge) #[] be] 58)).drew).cell? ⟨B1, 0, none⟩ = some (.int .i64 a0))
      have HBW := Aside0.mk (show Below w.heap.size w (((w.alloc (Obj.cells #[Value.int IntKind.i64 a0] 3)).alloc (Obj.cells #[Value.func (Fn.func ge) #[] be] 58)).drew) from below_drew1 (below_alloc (below_alloc (Below.refl _ _) _) _))
      have HP0 := Aside0.mk (show 0 < (((w.alloc (Obj.cells #[Value.int IntKind.i64 a0] 3)).alloc (Obj.cells #[Value.func (Fn.func ge) #[] be] 58)).drew).heap.size from Nat.lt_of_le_of_lt (Nat.zero_le _) (blk_lt HB1.out))
      rw [← hB1]
      rw [← hB2]
      have EB1 := Aside0.mk hB1
      have EB2 := Aside0.mk hB2
      clear hB1 hB2
      refine start_ (n := 8) (S := fun w' => True) (ds := []) #[false, false, false, false, false, false, false, false] (by kernel_rfl) rfl rfl trivial (fun hHeld => ?_)
      refine with_tabW impl_eachSigns.tab1 impl_eachSigns.bits1 (fun HT_ HW_ => ?_)
      generalize hW_ : World.drew _ = W at HB1 HB2 HBW HC1 HP0 ⊢
      clear hW_
      have FB := (show Below W.heap.size W W ∧ 0 < W.heap.size ∧ 0 < W.heap.size from ⟨Below.refl _ _, HP0.out, HP0.out⟩)
      refine inv_at [0, 1, 2, 3, 4, 5, 6, 7] (fun a0_ b a w' => ∃ (v8 : Value) (g10 : Nat) (g4 : Nat) (g5 : Nat) (m3_ : Value) (m4_ : Value) (m5_ : Value), a = putSel a0_ b [(0, 7, .int .i64 a0), (1, 8, v8), (2, 9, .int .i64 a0), (3, 10, m3_), (4, 4, m4_), (5, 5, m5_)] ∧ (Below W.heap.size W w' ∧ g10 < w'.heap.size ∧ g5 < w'.heap.size) ∧ (b 1 = true → Kd.R (Kd.slice 3 (Kd.int .i64)) 40 w' W.heap.size (fun k => k ≠ g10 ∧ k ≠ g5) v8 rows) ∧ (b 3 = true → w'.heap[g10]? = some (.cells (nums .i64 (List.replicate a0.toNat 0)).toArray 3 (0, 0)) ∧ W.heap.size ≤ g10) ∧ (b 4 = true → b 6 = false → w'.heap[g4]? = some (.cells #[.slice none 0 0] 28 (0, 0)) ∧ W.heap.size ≤ g4) ∧ (b 6 = true → w'.heap[g4]? = some (.cells #[v8] 28 (0, 0)) ∧ W.heap.size ≤ g4) ∧ (b 5 = true → b 7 = false → w'.heap[g5]? = some (.cells #[.slice none 0 0] 40 (0, 0)) ∧ W.heap.size ≤ g5) ∧ (b 7 = true → w'.heap[g5]? = some (.cells #[.slice (some ⟨g10, 0, none⟩) a0.toNat a0.toNat] 40 (0, 0)) ∧ W.heap.size ≤ g5) ∧ (b 3 = true → (m3_ : Value) = .slice (some ⟨g10, 0, none⟩) a0.toNat a0.toNat) ∧ (b 4 = true → (m4_ : Value) = .pointer (some ⟨g4, 0, none⟩)) ∧ (b 5 = true → (m5_ : Value) = .pointer (some ⟨g5, 0, none⟩))) HT_.out HW_.out (by kernel_rfl) (by kernel_rfl) ?_ ?_ ?_
      · exact ⟨.bool false, 0, 0, 0, .bool false, .bool false, .bool false, by simp only [putSel, Bool.false_eq_true, if_false], FB, fun h_ => absurd h_ (by decide), fun h_ => absurd h_ (by decide), fun h_ => absurd h_ (by decide), fun h_ => absurd h_ (by decide), fun h_ => absurd h_ (by decide), fun h_ => absurd h_ (by decide), fun h_ => absurd h_ (by decide), fun h_ => absurd h_ (by decide), fun h_ => absurd h_ (by decide)⟩
      · skip
        clear FB
        refine steps_cons ?_ ?_
        · rintro b a w' ⟨v8, g10, g4, g5, m3_, m4_, m5_, ha, Q_FB, Q_FR, Q_FS, Q_F4, Q_G4, Q_F5, Q_G5, Q_X3_, Q_X4_, Q_X5_⟩ hb_ hon hoff
          refine ⟨_, rfl, fun K hK => ?_⟩
          have e2 : a.tmps[2]? = some (.pointer (some ⟨B1, 0, none⟩)) := by rw [ha]; exact (putSel_off rfl).trans rfl
          replace ha := Aside0.mk ha
          have FB := Aside0.mk Q_FB
          have hc_ : w'.cell? ⟨B1, 0, none⟩ = some (.int .i64 a0) := cell_of_below FB.out.1 HC1.out
          refine value_ (w1 := w') (v := .int .i64 a0) (by rfl) rfl ?_ ?_
          · go_simp
            (try simp only [i64_w])
            try rfl
          refine hK.out _ _ ⟨v8, g10, g4, g5, m3_, m4_, m5_, (by rw [ha.out]; exact putSel_upk 0 hb_ rfl rfl rfl), Q_FB, fun h0_ => absurd ((hoff 1 (by kernel_rfl)).symm.trans h0_) (by decide), Q_FS, Q_F4, fun h0_ => absurd ((hoff 6 (by kernel_rfl)).symm.trans h0_) (by decide), Q_F5, fun h0_ => absurd ((hoff 7 (by kernel_rfl)).symm.trans h0_) (by decide), Q_X3_, Q_X4_, Q_X5_⟩
        refine steps_cons ?_ ?_
        · rintro b a w' ⟨v8, g10, g4, g5, m3_, m4_, m5_, ha, Q_FB, Q_FR, Q_FS, Q_F4, Q_G4, Q_F5, Q_G5, Q_X3_, Q_X4_, Q_X5_⟩ hb_ hon hoff
          refine ⟨_, rfl, fun K hK => ?_⟩
          have e7 : a.tmps[7]? = some (.int .i64 a0) := by rw [ha]; exact putSel_on (e := (0, 7, .int .i64 a0)) 0 rfl rfl (hon 0 (by kernel_rfl)) rfl
          replace ha := Aside0.mk ha
          have FB := Aside0.mk Q_FB
          refine goes_ Try.func142 (by kernel_rfl) rfl #[.int .i64 a0] (by rfl) rfl rfl (by first | (simp only [List.map_toArray, List.map_cons, List.map_nil, Act.eval, Array.getD_eq_getD_getElem?, Option.getD_some, e7]; done) | (simp only [List.map_toArray, List.map_cons, List.map_nil, Act.eval, Array.getD_eq_getD_getElem?, Option.getD_some, e7]; rfl)) ?_
          refine (impl_signRows.calls k a0 rows w' HR.out).mono ?_
          rintro e w3 ⟨v3, rfl, ho, hb⟩
          refine ⟨_, rfl, ?_⟩
          have hsz := below_size hb
          refine hK.out _ _ ⟨v3, g10, g4, g5, m3_, m4_, m5_, (by rw [ha.out]; exact putSel_upk 1 hb_ rfl rfl rfl), ⟨below_step FB.out.1 hb, Nat.lt_of_lt_of_le FB.out.2.1 hsz, Nat.lt_of_lt_of_le FB.out.2.2 hsz⟩, fun _ => Kd.R_lower (Kd.R_mono (Kd.R_bound ho) (fun k hk => ⟨by have := hk.2.1; have := FB.out.2; omega, by have := hk.2.1; have := FB.out.2; omega⟩)) (below_size FB.out.1), fun h0_ => ⟨blk_below (Q_FS h0_).1 hb, (Q_FS h0_).2⟩, fun h0_ h1_ => ⟨blk_below (Q_F4 h0_ h1_).1 hb, (Q_F4 h0_ h1_).2⟩, fun h0_ => absurd ((hoff 6 (by kernel_rfl)).symm.trans h0_) (by decide), fun h0_ h1_ => ⟨blk_below (Q_F5 h0_ h1_).1 hb, (Q_F5 h0_ h1_).2⟩, fun h0_ => absurd ((hoff 7 (by kernel_rfl)).symm.trans h0_) (by decide), Q_X3_, Q_X4_, Q_X5_⟩
        refine steps_cons ?_ ?_
        · rintro b a w' ⟨v8, g10, g4, g5, m3_, m4_, m5_, ha, Q_FB, Q_FR, Q_FS, Q_F4, Q_G4, Q_F5, Q_G5, Q_X3_, Q_X4_, Q_X5_⟩ hb_ hon hoff
          refine ⟨_, rfl, fun K hK => ?_⟩
          have e2 : a.tmps[2]? = some (.pointer (some ⟨B1, 0, none⟩)) := by rw [ha]; exact (putSel_off rfl).trans rfl
          replace ha := Aside0.mk ha
          have FB := Aside0.mk Q_FB
          have hc_ : w'.cell? ⟨B1, 0, none⟩ = some (.int .i64 a0) := cell_of_below FB.out.1 HC1.out
          refine value_ (w1 := w') (v := .int .i64 a0) (by rfl) rfl ?_ ?_
          · go_simp
            (try simp only [i64_w])
            try rfl
          refine hK.out _ _ ⟨v8, g10, g4, g5, m3_, m4_, m5_, (by rw [ha.out]; exact putSel_upk 2 hb_ rfl rfl rfl), Q_FB, Q_FR, fun h0_ => absurd ((hoff 3 (by kernel_rfl)).symm.trans h0_) (by decide), Q_F4, Q_G4, Q_F5, fun h0_ => absurd ((hoff 7 (by kernel_rfl)).symm.trans h0_) (by decide), fun h0_ => absurd ((hoff 3 (by kernel_rfl)).symm.trans h0_) (by decide), Q_X4_, Q_X5_⟩
        refine steps_cons ?_ ?_
        · rintro b a w' ⟨v8, g10, g4, g5, m3_, m4_, m5_, ha, Q_FB, Q_FR, Q_FS, Q_F4, Q_G4, Q_F5, Q_G5, Q_X3_, Q_X4_, Q_X5_⟩ hb_ hon hoff
          refine ⟨_, rfl, fun K hK => ?_⟩
          have e9 : a.tmps[9]? = some (.int .i64 a0) := by rw [ha]; exact putSel_on (e := (2, 9, .int .i64 a0)) 2 rfl rfl (hon 2 (by kernel_rfl)) rfl
          replace ha := Aside0.mk ha
          have FB := Aside0.mk Q_FB
          refine value_ (w1 := w'.alloc (.cells (nums .i64 (List.replicate a0.toNat 0)).toArray 3 (0, 0))) (v := .slice (some ⟨w'.heap.size, 0, none⟩) a0.toNat a0.toNat) (by rfl) rfl ?_ ?_
          · exact make_zeros (x := .tmp 9) rfl a0 (eval_of e9) Try.underlying40 info3 HA0.out (Int.le_trans HA1.out (by decide)) w'
          refine hK.out _ _ ⟨v8, w'.heap.size, g4, g5, (.slice (some ⟨w'.heap.size, 0, none⟩) a0.toNat a0.toNat), m4_, m5_, (by rw [ha.out]; exact putSel_upk 3 hb_ rfl rfl rfl), ⟨below_alloc FB.out.1 _, by simp, by simp; have := FB.out.2; omega⟩, fun h0_ => Kd.R_mono (Kd.R_bound (Q_FR h0_) |> fun h => Kd.R_alloc h _) (fun k hk => ⟨by have := hk.2.2.1; omega, hk.1.2⟩), fun _ => ⟨blk_new _ _, below_size FB.out.1⟩, fun h0_ h1_ => ⟨blk_alloc (Q_F4 h0_ h1_).1 _, (Q_F4 h0_ h1_).2⟩, fun h0_ => ⟨blk_alloc (Q_G4 h0_).1 _, (Q_G4 h0_).2⟩, fun h0_ h1_ => ⟨blk_alloc (Q_F5 h0_ h1_).1 _, (Q_F5 h0_ h1_).2⟩, fun h0_ => absurd ((hoff 7 (by kernel_rfl)).symm.trans h0_) (by decide), fun _ => rfl, Q_X4_, Q_X5_⟩
        refine steps_cons ?_ ?_
        · rintro b a w' ⟨v8, g10, g4, g5, m3_, m4_, m5_, ha, Q_FB, Q_FR, Q_FS, Q_F4, Q_G4, Q_F5, Q_G5, Q_X3_, Q_X4_, Q_X5_⟩ hb_ hon hoff
          refine ⟨_, rfl, fun K hK => ?_⟩
          replace ha := Aside0.mk ha
          have FB := Aside0.mk Q_FB
          refine value_ (w1 := ?_) (v := ?_) (by rfl) rfl ?_ ?_
          rotate_left 2
          · go_simp
            constructor
            · rfl
            · rfl
          refine hK.out _ _ ⟨v8, g10, w'.heap.size, g5, m3_, (.pointer (some ⟨w'.heap.size, 0, none⟩)), m5_, (by rw [ha.out]; exact putSel_upk 4 hb_ rfl rfl rfl), ⟨below_alloc FB.out.1 _, by simp; have := FB.out.2; omega, by simp; have := FB.out.2; omega⟩, fun h0_ => Kd.R_alloc (Q_FR h0_) _, fun h0_ => ⟨blk_alloc (Q_FS h0_).1 _, (Q_FS h0_).2⟩, fun _ _ => ⟨blk_new _ _, below_size FB.out.1⟩, fun h0_ => absurd ((hoff 6 (by kernel_rfl)).symm.trans h0_) (by decide), fun h0_ h1_ => ⟨blk_alloc (Q_F5 h0_ h1_).1 _, (Q_F5 h0_ h1_).2⟩, fun h0_ => absurd ((hoff 7 (by kernel_rfl)).symm.trans h0_) (by decide), Q_X3_, fun _ => rfl, Q_X5_⟩
        refine steps_cons ?_ ?_
        · rintro b a w' ⟨v8, g10, g4, g5, m3_, m4_, m5_, ha, Q_FB, Q_FR, Q_FS, Q_F4, Q_G4, Q_F5, Q_G5, Q_X3_, Q_X4_, Q_X5_⟩ hb_ hon hoff
          refine ⟨_, rfl, fun K hK => ?_⟩
          replace ha := Aside0.mk ha
          have FB := Aside0.mk Q_FB
          refine value_ (w1 := ?_) (v := ?_) (by rfl) rfl ?_ ?_
          rotate_left 2
          · go_simp
            constructor
            · rfl
            · rfl
          refine hK.out _ _ ⟨v8, g10, g4, w'.heap.size, m3_, m4_, (.pointer (some ⟨w'.heap.size, 0, none⟩)), (by rw [ha.out]; exact putSel_upk 5 hb_ rfl rfl rfl), ⟨below_alloc FB.out.1 _, by simp; have := FB.out.2; omega, by simp⟩, fun h0_ => Kd.R_mono (Kd.R_bound (Q_FR h0_) |> fun h => Kd.R_alloc h _) (fun k hk => ⟨hk.1.1, by have := hk.2.2.1; omega⟩), fun h0_ => ⟨blk_alloc (Q_FS h0_).1 _, (Q_FS h0_).2⟩, fun h0_ h1_ => ⟨blk_alloc (Q_F4 h0_ h1_).1 _, (Q_F4 h0_ h1_).2⟩, fun h0_ => absurd ((hoff 6 (by kernel_rfl)).symm.trans h0_) (by decide), fun _ _ => ⟨blk_new _ _, below_size FB.out.1⟩, fun h0_ => absurd ((hoff 7 (by kernel_rfl)).symm.trans h0_) (by decide), Q_X3_, Q_X4_, fun _ => rfl⟩
        refine steps_cons ?_ ?_
        · rintro b a w' ⟨v8, g10, g4, g5, m3_, m4_, m5_, ha, Q_FB, Q_FR, Q_FS, Q_F4, Q_G4, Q_F5, Q_G5, Q_X3_, Q_X4_, Q_X5_⟩ hb_ hon hoff
          refine ⟨_, rfl, fun K hK => ?_⟩
          have e4 : a.tmps[4]? = some (m4_) := by rw [ha]; exact putSel_on (e := (4, 4, m4_)) 4 rfl rfl (hon 4 (by kernel_rfl)) rfl
          rw [Q_X4_ (hon 4 (by kernel_rfl))] at e4
          have e8 : a.tmps[8]? = some (v8) := by rw [ha]; exact putSel_on (e := (1, 8, v8)) 1 rfl rfl (hon 1 (by kernel_rfl)) rfl
          replace ha := Aside0.mk ha
          have FB := Aside0.mk Q_FB
          have FR := Aside0.mk (Q_FR (hon 1 (by kernel_rfl)))
          have F4 := Aside0.mk (Q_F4 (hon 4 (by kernel_rfl)) hb_)
          have F5 := Aside0.mk (Q_F5 (hon 5 (by kernel_rfl)) (hoff 7 (by kernel_rfl)))
          obtain ⟨A8, c8, q8⟩ := Kd.R_slice FR.out
          subst q8
          have hc_ : w'.cell? ⟨g4, 0, none⟩ = some (.slice none 0 0) := (blk_cell F4.out.1 0).trans rfl
          have hf_ := blk_frozen F4.out.1 0
          refine skip_ (w1 := ?_) (by rfl) rfl ?_ ?_
          rotate_left
          · go_simp
            rfl
          refine hK.out _ _ ⟨(.slice A8 rows.length c8), g10, g4, g5, m3_, m4_, m5_, (by rw [ha.out]; exact putSel_none (v := undef) rfl), ⟨below_set FB.out.1 F4.out.2, by simp [World.setCell]; exact FB.out.2.1, by simp [World.setCell]; exact FB.out.2.2⟩, fun _ => Kd.R_set FR.out F4.out.1 (by decide) 0 _, fun h0_ => ⟨blk_far (Q_FS h0_).1 (blk_ne (Q_FS h0_).1 F4.out.1 (by decide)) _, (Q_FS h0_).2⟩, fun _ h1_ => absurd ((up_self b 6).symm.trans h1_) (by decide), fun _ => ⟨blk_set F4.out.1 0 _, F4.out.2⟩, fun _ _ => ⟨blk_far F5.out.1 (blk_ne F5.out.1 F4.out.1 (by decide)) _, F5.out.2⟩, fun h0_ => absurd ((hoff 7 (by kernel_rfl)).symm.trans h0_) (by decide), Q_X3_, Q_X4_, Q_X5_⟩
        refine steps_cons ?_ ?_
        · rintro b a w' ⟨v8, g10, g4, g5, m3_, m4_, m5_, ha, Q_FB, Q_FR, Q_FS, Q_F4, Q_G4, Q_F5, Q_G5, Q_X3_, Q_X4_, Q_X5_⟩ hb_ hon hoff
          refine ⟨_, rfl, fun K hK => ?_⟩
          have e5 : a.tmps[5]? = some (m5_) := by rw [ha]; exact putSel_on (e := (5, 5, m5_)) 5 rfl rfl (hon 5 (by kernel_rfl)) rfl
          rw [Q_X5_ (hon 5 (by kernel_rfl))] at e5
          have e10 : a.tmps[10]? = some (m3_) := by rw [ha]; exact putSel_on (e := (3, 10, m3_)) 3 rfl rfl (hon 3 (by kernel_rfl)) rfl
          rw [Q_X3_ (hon 3 (by kernel_rfl))] at e10
          replace ha := Aside0.mk ha
          have FB := Aside0.mk Q_FB
          have FR := Aside0.mk (Q_FR (hon 1 (by kernel_rfl)))
          have FS := Aside0.mk (Q_FS (hon 3 (by kernel_rfl)))
          have G4 := Aside0.mk (Q_G4 (hon 6 (by kernel_rfl)))
          have F5 := Aside0.mk (Q_F5 (hon 5 (by kernel_rfl)) hb_)
          have hc_ : w'.cell? ⟨g5, 0, none⟩ = some (.slice none 0 0) := (blk_cell F5.out.1 0).trans rfl
          have hf_ := blk_frozen F5.out.1 0
          refine skip_ (w1 := ?_) (by rfl) rfl ?_ ?_
          rotate_left
          · go_simp
            rfl
          refine hK.out _ _ ⟨v8, g10, g4, g5, m3_, m4_, m5_, (by rw [ha.out]; exact putSel_none (v := undef) rfl), ⟨below_set FB.out.1 F5.out.2, by simp [World.setCell]; exact FB.out.2.1, by simp [World.setCell]; exact FB.out.2.2⟩, fun _ => Kd.R_far (p := ⟨g5, 0, none⟩) FR.out (fun _ hk => hk.2) _, fun _ => ⟨blk_far FS.out.1 (blk_ne FS.out.1 F5.out.1 (by decide)) _, FS.out.2⟩, fun _ h1_ => absurd ((hon 6 (by kernel_rfl)).symm.trans h1_) (by decide), fun _ => ⟨blk_far G4.out.1 (blk_ne G4.out.1 F5.out.1 (by decide)) _, G4.out.2⟩, fun _ h1_ => absurd ((up_self b 7).symm.trans h1_) (by decide), fun _ => ⟨blk_set F5.out.1 0 _, F5.out.2⟩, Q_X3_, Q_X4_, Q_X5_⟩
        exact steps_nil
      · rintro b a w' hall ⟨v8, g10, g4, g5, m3_, m4_, m5_, ha, Q_FB, Q_FR, Q_FS, Q_F4, Q_G4, Q_F5, Q_G5, Q_X3_, Q_X4_, Q_X5_⟩
        clear FB
        have hb0_ := hall 0 (by kernel_rfl)
        have hb1_ := hall 1 (by kernel_rfl)
        have hb2_ := hall 2 (by kernel_rfl)
        have hb3_ := hall 3 (by kernel_rfl)
        have hb4_ := hall 4 (by kernel_rfl)
        have hb5_ := hall 5 (by kernel_rfl)
        have hb6_ := hall 6 (by kernel_rfl)
        have hb7_ := hall 7 (by kernel_rfl)
        subst ha
        obtain rfl := Q_X3_ hb3_
        obtain rfl := Q_X4_ hb4_
        obtain rfl := Q_X5_ hb5_
        simp only [putSel, hb0_, hb1_, hb2_, hb3_, hb4_, hb5_, hb6_, hb7_, if_true, Act.put, List.setIfInBounds_toArray, List.set_cons_zero, List.set_cons_succ]
        have FB := Aside0.mk Q_FB
        clear Q_FB
        have FR := Aside0.mk (Q_FR hb1_)
        clear Q_FR
        have FS := Aside0.mk (Q_FS hb3_)
        clear Q_FS
        clear Q_F4
        have G4 := Aside0.mk (Q_G4 hb6_)
        clear Q_G4
        clear Q_F5
        have G5 := Aside0.mk (Q_G5 hb7_)
        clear Q_G5
        clear hall hb0_ hb1_ hb2_ hb3_ hb4_ hb5_ hb6_ hb7_
        have n45 := blk_ne G4.out.1 G5.out.1 (by decide)
        have HSZ := below_size FB.out.1
        have hn1 := blk_lt HB1.out
        have hn2 := blk_lt HB2.out
        have HW1 := Aside0.mk (blk_below HB1.out FB.out.1)
        have HW2 := Aside0.mk (blk_below HB2.out FB.out.1)
        obtain ⟨A8, c8, q8⟩ := Kd.R_slice FR.out
        subst q8
        go_wp2_with fail
        have HWW := Aside0.mk (below_size HBW.out)
        have HBL := Aside0.mk (below_alloc (below_step HBW.out FB.out.1) (Obj.cells #[.func (.func 143) #[] #[.pointer (some ⟨B1, 0, none⟩), .pointer (some ⟨B2, 0, none⟩), .pointer (some ⟨g4, 0, none⟩), .pointer (some ⟨g5, 0, none⟩), .pointer (some ⟨w'.heap.size, 0, none⟩)]] 58))
        have HNS := Aside0.mk (fun (k : Nat) (hk : S k) => (HFS.out.bd _ _ _ HI.out k hk : k < w.heap.size))
        have hno : ∀ k, w.heap.size ≤ k → ¬ S k := fun k h1 h2 => by have := HNS.out k h2; omega
        refine (impl_eachSigns_1.calls p Inv a0 HA0.out HA1.out ge be HFS.out A8 c8 rows B1 B2 g4 g5 w'.heap.size 58 58 g10 k (List.replicate a0.toNat 0) [] none 0 s q.1 q.2 S _ ⟨?b1, ?b2, ?b3, ?b4, ?b5, ?bs, ?vr, ?s1, ?s2, ?s3, ?s4, ?s5, ?ss, ?n1, by decide, by decide, ?sz⟩ ?hI (Kd.V_nil _ _ _ _ _) HQ.out).mono ?_
        case b1 => exact blk_alloc HW1.out _
        case b2 => exact blk_alloc HW2.out _
        case b3 => exact blk_alloc G4.out.1 _
        case b4 => rw [List.length_replicate]; exact blk_alloc G5.out.1 _
        case b5 => exact blk_new _ _
        case bs => exact blk_alloc FS.out.1 _
        case vr => exact Kd.R_V (Kd.R_alloc (Kd.R_mono (Kd.R_bound FR.out) (fun k hk => ⟨hno k (Nat.le_trans HWW.out hk.2.1), hk.1.1⟩)) _)
        case s1 => exact hno _ (by have := EB1.out; omega)
        case s2 => exact hno _ (by have := EB1.out; have := EB2.out; omega)
        case s3 => exact hno _ (Nat.le_trans HWW.out G4.out.2)
        case s4 => exact hno _ (Nat.le_trans HWW.out G5.out.2)
        case s5 => exact hno _ (Nat.le_trans HWW.out HSZ)
        case ss => exact hno _ (Nat.le_trans HWW.out FS.out.2)
        case n1 => have := FS.out.2; omega
        case sz => rw [List.length_replicate]; have := HA0.out; have := HA1.out; omega
        case hI => exact HFS.out.st _ _ _ _ HI.out (HBL.out.mono (Nat.zero_le _)) (fun k hk => HBL.out.block k (HNS.out k hk))
        rintro e w3 ⟨rfl, S', h1, h2, h3⟩
        have H1 := Aside0.mk h1
        have H2 := Aside0.mk h2
        have H3 := Aside0.mk h3
        clear h1 h2 h3
        go_wp2
        first | go_end0 | ((try simp only [Exit.inBlock, Exit.then]); refine bodyPost_ret (results_none rfl _ _ _) rfl ?_)
        exact ⟨rfl, S', H1.out, (Kp.of_below HBL.out S).then_ H2.out (fun k h => .inl h), fun k h => (H3.out k h).elim .inl (fun h => .inr (Nat.le_trans (below_size HBL.out) h))⟩
    · rw [if_neg c2] at h
      exact absurd h (by simp)
  · rw [if_neg c1] at h
    exact absurd h (by simp)

/-! ### impl_total_1: function 117 (by hand) -/
set_option maxHeartbeats 4000000 in
set_option maxRecDepth 100000 in
theorem impl_total_1.calls (A0 : Option Addr) (c0 : Nat) (l0 : List (List Int)) (B1 B2 T2 : Nat) (a : Int) (g : Nat) (b : Array Value) (p : List (List Int) → Option Int) (r : Int) (w : World) (hr0 : Kd.C (Kd.slice 3 (Kd.int .i64)) w A0 l0.length l0) (hc0 : l0.length ≤ c0)
    (hb1 : w.heap[B1]? = some (.cells #[.int .i64 a] 3 (0, 0))) (hb2 : w.heap[B2]? = some (.cells #[.func (.func g) #[] b] T2 (0, 0))) (hf : Fn1 (Kd.slice 40 (Kd.slice 3 (Kd.int .i64))) (Value.int .i64) Try.prog g b p w) (h : p l0 = some r) :
    Calls Try.prog 117 #[.slice A0 l0.length c0, .pointer (some ⟨B1, 0, none⟩), .pointer (some ⟨B2, 0, none⟩)] w fun e w' => e = .returned (.bool true) ∧ w'.heap[B1]? = some (.cells #[.int .i64 (wrap64 (a + r))] 3 (0, 0)) ∧ Kp w w' (fun k => k = B1) := by
  have HR := Aside0.mk hr0
  have HC := Aside0.mk hc0
  have H1 := Aside0.mk hb1
  have H2 := Aside0.mk hb2
  have HF := Aside0.mk hf.cl
  have eg := hf.eg
  have HO := Aside0.mk h
  clear hr0 hc0 hb1 hb2 hf h
  go_enter Try.func117, Try.ntmps117
  try go_wp2
  refine start_ (n := 6) (S := fun w' => w'.cell? ⟨B1, 0, none⟩ = some (.int .i64 a) ∧ w'.cell? ⟨B2, 0, none⟩ = some (.func (.func g) #[] b)) (ds := [5]) #[false, false, false, false, false, false] (by kernel_rfl) rfl rfl ⟨(blk_cell (blk_drew H1.out) 0).trans rfl, (blk_cell (blk_drew H2.out) 0).trans rfl⟩ (fun hHeld => ?_)
  refine pure_ (i := 2) (N := some 7) (v := ?_) (a' := ?_) #[false, false, true, false, false, false] rfl rfl (by kernel_rfl) (fun _ _ _ h => h) (Or.inl ⟨by rfl, ?_⟩) ?_ ?_
  rotate_left
  · intro w'
    go_simp
    with_reducible rfl
  rotate_left
  · simp only [Act.put, List.setIfInBounds_toArray, List.set_cons_zero, List.set_cons_succ, i64_w, i32_w]
    rfl
  refine take_ (i := 0) (N := some 5) (v := ?_) (a' := ?_) #[true, false, true, false, false, false] rfl rfl (by kernel_rfl) (fun _ _ _ h => h) (Or.inl ⟨by rfl, ?_⟩) hHeld ?_ ?_
  rotate_left
  · rintro w' ⟨s0, s1⟩
    go_simp
    with_reducible rfl
  rotate_left
  · simp only [Act.put, List.setIfInBounds_toArray, List.set_cons_zero, List.set_cons_succ, i64_w, i32_w]
    rfl
  refine take_ (i := 1) (N := some 6) (v := ?_) (a' := ?_) #[true, true, true, false, false, false] rfl rfl (by kernel_rfl) (fun _ _ _ h => h) (Or.inl ⟨by rfl, ?_⟩) hHeld ?_ ?_
  rotate_left
  · rintro w' ⟨s0, s1⟩
    go_simp
    with_reducible rfl
  rotate_left
  · simp only [Act.put, List.setIfInBounds_toArray, List.set_cons_zero, List.set_cons_succ, i64_w, i32_w]
    rfl
  refine one_ (i := 3) (N := some 8) #[true, true, true, true, false, false] rfl rfl (by kernel_rfl) (by decide) (fun K hK => ?_)
  refine goesF_ eg #[.slice A0 l0.length c0] (by rfl) rfl rfl (by first | rfl | (simp [Act.eval]; done)) tc15_ ?_
  refine (HF.out _ (below_drew (Below.refl _ _)) l0 _ (K_slice HC.out (Kd.C_drew HR.out)) r HO.out).mono ?_
  rintro e w6 ⟨rfl, hb⟩
  refine ⟨_, rfl, ?_⟩
  have HB := Aside0.mk (below_step (below_drew (Below.refl w.heap.size w)) hb)
  clear hb
  have b1 := Aside0.mk (blk_below H1.out HB.out)
  refine hK.out _ _ ⟨(blk_cell b1.out 0).trans rfl, (blk_cell (blk_below H2.out HB.out) 0).trans rfl⟩ (fun hHeld => ?_)
  clear hK K
  refine norm_ (a' := ?_) ?_ ?_
  rotate_left
  · show Act.put _ (some 8) _ = _
    simp only [Act.put, List.setIfInBounds_toArray, List.set_cons_zero, List.set_cons_succ, i64_w, i32_w]
    rfl
  refine pure_ (i := 4) (N := some 9) (v := ?_) (a' := ?_) #[true, true, true, true, true, false] rfl rfl (by kernel_rfl) (fun _ _ _ h => h) (Or.inl ⟨by rfl, ?_⟩) ?_ ?_
  rotate_left
  · intro w'
    go_simp
    with_reducible rfl
  rotate_left
  · simp only [Act.put, List.setIfInBounds_toArray, List.set_cons_zero, List.set_cons_succ, i64_w, i32_w]
    rfl
  refine last_ (i := 5) (N := none) #[true, true, true, true, true, true] rfl rfl (by kernel_rfl) (by decide) (fun K hK => ?_)
  have hs7 : w6.cell? ⟨B1, 0, none⟩ = some (.int .i64 a) := (blk_cell b1.out 0).trans rfl
  have hfs7 := blk_frozen b1.out 0
  refine skip_ (w1 := ?_) (by rfl) rfl ?_ ?_
  rotate_left
  · go_simp
    rfl
  refine hK.out _ _ ?_
  clear hK K
  refine done_ (by kernel_rfl) ?_
  try go_wp2
  go_ret
  exact ⟨rfl, blk_set b1.out 0 _, Kp.setCell (S := fun k => k = B1) (p := ⟨B1, 0, none⟩) (Kp.of_below HB.out _) (.inl rfl) _⟩

/-! ### impl_total: function 67 (by hand) -/
def impl_total.step (of : List (List Int) → Option Int) (s : Int) (m : List (List Int)) : Option (Int × Bool) := (of m).bind fun r => some (wrap64 (s + r), true)
def impl_total.f (k : Nat) (a0 : Int) (a1 : List (List Int) → Option Int) : Option Int := impl_eachSigns.f k a0 (impl_total.step a1) 0
theorem impl_total.mono : ∀ a0 a1 a1' (ha1 : ∀ z0, LeO (a1 z0) (a1' z0)) k, LeO (impl_total.f k a0 a1) (impl_total.f (k + 1) a0 a1') := fun a0 a1 a1' ha1 k =>
  impl_eachSigns.mono _ _ (fun s m => LeO.bind (ha1 m) (fun _ => LeO.refl _)) _ _ _
def impl_total.Inv (w : World) (B1 B2 g : Nat) (b : Array Value) (s : Int) (W : World) (S : Nat → Prop) : Prop :=
  Below w.heap.size w W ∧ W.heap[B1]? = some (.cells #[.int .i64 s] 3 (0, 0)) ∧ W.heap[B2]? = some (.cells #[.func (.func g) #[] b] 63 (0, 0)) ∧ S = fun k => k < w.heap.size ∨ k = B1 ∨ k = B2
theorem impl_total.fns {w : World} {B1 B2 g : Nat} {b : Array Value} {p : List (List Int) → Option Int} (h1 : w.heap.size ≤ B1) (hne : B2 ≠ B1) (hf : Fn1 (Kd.slice 40 (Kd.slice 3 (Kd.int .i64))) (Value.int .i64) Try.prog g b p w) :
    FnS (Kd.slice 40 (Kd.slice 3 (Kd.int .i64))) Value.bool Try.prog 117 #[.pointer (some ⟨B1, 0, none⟩), .pointer (some ⟨B2, 0, none⟩)] (impl_total.step p) (impl_total.Inv w B1 B2 g b) where
  eg := enters_of Try.func117 (by kernel_rfl) rfl
  bd := by
    rintro s W S ⟨hb, b1, b2, rfl⟩ k hk
    rcases hk with hk | rfl | rfl
    · exact Nat.lt_of_lt_of_le hk hb.size
    · exact blk_lt b1
    · exact blk_lt b2
  st := by
    rintro s W S W' ⟨hb, b1, b2, rfl⟩ h0 hs
    exact ⟨⟨h0.os.trans hb.os, h0.tape.trans hb.tape, h0.output.trans hb.output, Nat.le_trans hb.size h0.size, fun k hk => (hs k (.inl hk)).trans (hb.block k hk)⟩, (hs _ (.inr (.inl rfl))).trans b1, (hs _ (.inr (.inr rfl))).trans b2, rfl⟩
  cl := by
    rintro s W S ⟨hb, b1, b2, rfl⟩ x v hv s' r hp
    obtain ⟨A0, c0, e0, hc0, hr0⟩ := hv
    obtain rfl : v = .slice A0 x.length c0 := by simpa using e0
    obtain ⟨q, hq, hp⟩ := Option.bind_eq_some_iff.mp hp
    obtain ⟨rfl, rfl⟩ := Prod.mk.inj (Option.some.inj hp)
    refine (impl_total_1.calls A0 c0 x B1 B2 _ s g b p q W hr0 hc0 b1 b2 (hf.later hb) hq).mono ?_
    rintro e W' ⟨rfl, h2, h3⟩
    refine ⟨rfl, fun k => k < w.heap.size ∨ k = B1 ∨ k = B2, ⟨?_, h2, (h3.at _ (blk_lt b2) hne).trans b2, rfl⟩, h3.mono (fun k hk => .inr (.inl hk)), fun k hk => .inl hk⟩
    exact hb.trans (h3.to_below hb.size (fun k hk => hk ▸ h1))
set_option maxHeartbeats 4000000 in
set_option maxRecDepth 100000 in
theorem impl_total.calls (k : Nat) (a0 : Int) (g1 : Nat) (b1 : Array Value) (a1 : List (List Int) → Option Int) (r : Int) (w : World) (hf1 : Fn1 (Kd.slice 40 (Kd.slice 3 (Kd.int .i64))) (Value.int .i64) Try.prog g1 b1 a1 w) (h : impl_total.f k a0 a1 = some r) :
    Calls Try.prog 67 #[.int .i64 a0, .func (.func g1) #[] b1] w fun e w' => e = .returned (.int .i64 r) ∧ Below w.heap.size w w' := by
  have HF := Aside0.mk (impl_total.fns (w := w) (B1 := w.heap.size + 1) (B2 := w.heap.size) (by omega) (by omega) hf1)
  have HO := Aside0.mk h
  clear h hf1
  go_enter Try.func67, Try.ntmps67
  go_wp2_with fail
  refine (impl_eachSigns.calls k a0 _ _ _ _ HF.out 0 r _ _ ⟨below_alloc (below_alloc (Below.refl _ _) _) _, blk_new' (by simp), blk_alloc (blk_new _ _) _, rfl⟩ HO.out).mono ?_
  rintro e w3 ⟨rfl, S', ⟨h1, h2, h3, h4⟩, _, _⟩
  have H1 := Aside0.mk h1
  have hc1 : w3.cell? ⟨w.heap.size + 1, 0, none⟩ = some (.int .i64 r) := (blk_cell h2 0).trans rfl
  clear h1 h2 h3 h4
  go_wp2
  go_ret
  exact ⟨rfl, H1.out⟩

/-! ### impl_WeightSum_1: function 68 -/
def impl_WeightSum_1.f (k : Nat) (l0 : List (List Int)) (a1_0 : Int) (a2_0 : Int) (a3_0 : Int) : Option (Int) := (impl_weight.f k l0 a1_0 a2_0 a3_0).bind fun t101 => (some t101)
theorem impl_WeightSum_1.mono : ∀ a0 a1 a2 a3  k, LeO (impl_WeightSum_1.f k a0 a1 a2 a3) (impl_WeightSum_1.f (k + 1) a0 a1 a2 a3) := by
 intro a0 a1 a2 a3 k
 unfold impl_WeightSum_1.f
 repeat' first
   | (with_reducible exact impl_weight.mono _ _ _ _ _)
   | (with_reducible exact LeO.refl _)
   | (with_reducible exact LeO.none _)
   | (with_reducible refine LeO.ite ?_ ?_)
   | (with_reducible refine LeO.bind ?_ (fun _ => ?_))
   | exact impl_weight.mono _ _ _ _ _
   | exact LeO.none _
   | refine LeO.ite ?_ ?_
   | refine LeO.bind ?_ (fun _ => ?_)
set_option maxHeartbeats 8000000 in
set_option maxRecDepth 100000 in
theorem impl_WeightSum_1.calls (k : Nat) (A0 : Option Addr) (c0 : Nat) (l0 : List (List Int)) (B1 : Nat) (a1_0 : Int) (B2 : Nat) (a2_0 : Int) (B3 : Nat) (a3_0 : Int) (r : Int) (w : World) (hr0 : Kd.C (Kd.slice 3 (Kd.int .i64)) w A0 l0.length l0) (hc0 : l0.length ≤ c0) (hb1 : w.heap[B1]? = some (.cells #[.int .i64 a1_0] 3 (0, 0))) (hb2 : w.heap[B2]? = some (.cells #[.int .i64 a2_0] 3 (0, 0))) (hb3 : w.heap[B3]? = some (.cells #[.int .i64 a3_0] 3 (0, 0))) (h : impl_WeightSum_1.f k l0 a1_0 a2_0 a3_0 = some r) :
  Calls Try.prog 68 #[.slice A0 l0.length c0, .pointer (some ⟨B1, 0, none⟩), .pointer (some ⟨B2, 0, none⟩), .pointer (some ⟨B3, 0, none⟩)] w fun e w' => e = .returned (.int .i64 r) ∧ Below w.heap.size w w' := by
 have HR0 := Aside0.mk hr0
 have HC0 := Aside0.mk hc0
 clear hr0 hc0
 have BK61 := Aside0.mk hb1
 clear hb1
 have BK62 := Aside0.mk hb2
 clear hb2
 have BK63 := Aside0.mk hb3
 clear hb3
 have HB := Aside0.mk (Below.refl w.heap.size w)
 have H : ((impl_weight.f k l0 a1_0 a2_0 a3_0).bind fun t101 => (some t101)) = some r := h
 clear h
 replace H := Option.bind_eq_some_iff.mp H
 obtain ⟨t101, A50, H⟩ := H
 replace H : (some t101) = some r := H
 have A5 := Aside0.mk A50
 clear A50
 obtain rfl := Option.some.inj H
 have hcz6_0 : w.cell? ⟨B1, 0, none⟩ = some (.int .i64 a1_0) := (blk_cell BK61.out 0).trans rfl
 have hfz6_0 := blk_frozen BK61.out 0
 have hcz7_0 : w.cell? ⟨B2, 0, none⟩ = some (.int .i64 a2_0) := (blk_cell BK62.out 0).trans rfl
 have hfz7_0 := blk_frozen BK62.out 0
 have hcz8_0 : w.cell? ⟨B3, 0, none⟩ = some (.int .i64 a3_0) := (blk_cell BK63.out 0).trans rfl
 have hfz8_0 := blk_frozen BK63.out 0
 go_enter Try.func68, Try.ntmps68
 go_wp2_with (first | ((with_reducible refine gate_callee (f := 62) rfl ?_); refine goesL_ (some 10) rfl rfl Try.func62 (by kernel_rfl) rfl #[.slice A0 l0.length c0, .int .i64 a1_0, .int .i64 a2_0, .int .i64 a3_0] rfl tc1_ ?_; (with_reducible refine (impl_weight.calls k _ _ l0 a1_0 a2_0 a3_0 t101 _ ?side1 ?side2 A5.out).mono ?_); (case side1 => repeat (first | exact HR0.out | (with_reducible refine Kd.C_alloc ?_ _) | (with_reducible refine Kd.C_drewN ?_ _) | (with_reducible refine Kd.C_drew ?_))); (case side2 => exact HC0.out); rintro e w9 ⟨rfl, hb⟩; refine ⟨_, rfl, ?_⟩; have n0_ := Aside0.mk (blk_below (g := B1) (o := .cells #[.int .i64 a1_0] 3 (0, 0)) (by (with_reducible repeat (first | refine blk_drewN ?_ _ | refine blk_drew ?_ | refine blk_alloc ?_ _)); exact BK61.out) hb); have n1_ := Aside0.mk (blk_below (g := B2) (o := .cells #[.int .i64 a2_0] 3 (0, 0)) (by (with_reducible repeat (first | refine blk_drewN ?_ _ | refine blk_drew ?_ | refine blk_alloc ?_ _)); exact BK62.out) hb); have n2_ := Aside0.mk (blk_below (g := B3) (o := .cells #[.int .i64 a3_0] 3 (0, 0)) (by (with_reducible repeat (first | refine blk_drewN ?_ _ | refine blk_drew ?_ | refine blk_alloc ?_ _)); exact BK63.out) hb); have n3_ := Aside0.mk (below_step (by repeat (first | (with_reducible first | exact HB.out | apply below_alloc | apply pw_below_drewN | apply below_drew1 | refine below_set ?_ GE61.out | refine below_set ?_ GE62.out | refine below_set ?_ GE63.out) | exact HB.out)) hb); clear BK61; clear BK62; clear BK63; clear HB; have BK61 := n0_; have BK62 := n1_; have BK63 := n2_; have HB := n3_; clear n0_ n1_ n2_ n3_; (try clear hb); (try clear hb2); (try clear hk); (try clear hi)))
 go_ret
 exact ⟨by first | rfl | (simp [errW_none, errW_some] <;> rfl) | (simp [*, errW_none, errW_some] <;> rfl), by repeat (first | (with_reducible first | exact HB.out | apply below_alloc | apply pw_below_drewN | apply below_drew1 | refine below_set ?_ GE61.out | refine below_set ?_ GE62.out | refine below_set ?_ GE63.out) | exact HB.out)⟩

/-! ### impl_WeightSum: function 15 -/
def impl_WeightSum.f (k : Nat) (a0 : Int) (a1 : Int) (a2 : Int) (a3 : Int) : Option (Int × Bool) := (impl_isWeighted.f a0).bind fun t104 => (if t104 = true then ((impl_areBases.f k (([a1, a2, a3] : List Int))).bind fun t108 => (if t108 = true then ((impl_total.f k a0 (fun x0_ => impl_WeightSum_1.f k x0_ a1 a2 a3)).bind fun t109 => (some (t109, true))) else (some (0, false)))) else (some (0, false)))
theorem impl_WeightSum.mono : ∀ a0 a1 a2 a3  k, LeO (impl_WeightSum.f k a0 a1 a2 a3) (impl_WeightSum.f (k + 1) a0 a1 a2 a3) := by
 intro a0 a1 a2 a3 k
 unfold impl_WeightSum.f
 repeat' first
   | (with_reducible exact impl_WeightSum_1.mono _ _ _ _ _)
   | (with_reducible exact impl_areBases.mono _ _)
   | (with_reducible refine impl_total.mono _ _ _ (fun _ => ?_) _)
   | (with_reducible exact LeO.refl _)
   | (with_reducible exact LeO.none _)
   | (with_reducible refine LeO.ite ?_ ?_)
   | (with_reducible refine LeO.bind ?_ (fun _ => ?_))
   | exact impl_WeightSum_1.mono _ _ _ _ _
   | exact impl_areBases.mono _ _
   | exact LeO.none _
   | refine LeO.ite ?_ ?_
   | refine LeO.bind ?_ (fun _ => ?_)
set_option maxHeartbeats 8000000 in
set_option maxRecDepth 100000 in
theorem impl_WeightSum.calls (k : Nat) (a0 : Int) (a1 : Int) (a2 : Int) (a3 : Int) (r1 : Int) (r2 : Bool) (w : World) (h : impl_WeightSum.f k a0 a1 a2 a3 = some (r1, r2)) :
  Calls Try.prog 15 #[.int .i64 a0, .int .i64 a1, .int .i64 a2, .int .i64 a3] w fun e w' => e = .returned (.tuple #[.int .i64 r1, .bool r2]) ∧ Below w.heap.size w w' := by
 have HB := Aside0.mk (Below.refl w.heap.size w)
 have H : ((impl_isWeighted.f a0).bind fun t104 => (if t104 = true then ((impl_areBases.f k (([a1, a2, a3] : List Int))).bind fun t108 => (if t108 = true then ((impl_total.f k a0 (fun x0_ => impl_WeightSum_1.f k x0_ a1 a2 a3)).bind fun t109 => (some (t109, true))) else (some (0, false)))) else (some (0, false)))) = some (r1, r2) := h
 clear h
 replace H := Option.bind_eq_some_iff.mp H
 obtain ⟨t104, A50, H⟩ := H
 replace H : (if t104 = true then ((impl_areBases.f k (([a1, a2, a3] : List Int))).bind fun t108 => (if t108 = true then ((impl_total.f k a0 (fun x0_ => impl_WeightSum_1.f k x0_ a1 a2 a3)).bind fun t109 => (some (t109, true))) else (some (0, false)))) else (some (0, false))) = some (r1, r2) := H
 have A5 := Aside0.mk A50
 clear A50
 by_cases c6 : t104 = true
 ·subst c6
  have H1 : ((impl_areBases.f k (([a1, a2, a3] : List Int))).bind fun t108 => (if t108 = true then ((impl_total.f k a0 (fun x0_ => impl_WeightSum_1.f k x0_ a1 a2 a3)).bind fun t109 => (some (t109, true))) else (some (0, false)))) = some (r1, r2) := by rw [if_pos rfl] at H; exact H
  clear H
  have H := H1
  clear H1
  obtain ⟨y105, hy105⟩ : ∃ y_ : List Int, y_ = (([a1, a2, a3] : List Int)) := ⟨_, rfl⟩
  replace H : ((impl_areBases.f k y105).bind fun t108 => (if t108 = true then ((impl_total.f k a0 (fun x0_ => impl_WeightSum_1.f k x0_ a1 a2 a3)).bind fun t109 => (some (t109, true))) else (some (0, false)))) = some (r1, r2) := by first | (rw [hy105]; with_reducible exact H) | (have H2_ := (Option.bind_some _ _).symm.trans H; rw [hy105]; with_reducible exact H2_) | (have H2_ := (Option.bind_some _ _).symm.trans H; with_reducible exact H2_) | with_reducible exact H | (rw [hy105]; exact H) | exact H
  have Ny105 := Aside0.mk hy105
  clear hy105
  replace H := Option.bind_eq_some_iff.mp H
  obtain ⟨t108, A70, H⟩ := H
  replace H : (if t108 = true then ((impl_total.f k a0 (fun x0_ => impl_WeightSum_1.f k x0_ a1 a2 a3)).bind fun t109 => (some (t109, true))) else (some (0, false))) = some (r1, r2) := H
  have A7 := Aside0.mk A70
  clear A70
  by_cases c8 : t108 = true
  ·subst c8
   have H1 : ((impl_total.f k a0 (fun x0_ => impl_WeightSum_1.f k x0_ a1 a2 a3)).bind fun t109 => (some (t109, true))) = some (r1, r2) := by rw [if_pos rfl] at H; exact H
   clear H
   have H := H1
   clear H1
   replace H := Option.bind_eq_some_iff.mp H
   obtain ⟨t109, A90, H⟩ := H
   replace H : (some (t109, true)) = some (r1, r2) := H
   have A9 := Aside0.mk A90
   clear A90
   simp only [Option.some.injEq, Prod.mk.injEq] at H
   obtain ⟨rfl, rfl⟩ := H
   go_enter Try.func15, Try.ntmps15
   go_wp2_with (first | ((with_reducible refine gate_dst (N := 5) rfl ?_); (try (refine gate_guard (by rfl) ?_; dsimp only)); refine box_event ?hg (N := 5) ?hd (cs := #[.int .i64 a1]) (t := 3) ?hr ?_; (case hd => rfl); (case hg => rfl); (case hr => first | (go_simp; done) | (go_simp; rfl)); intro gb101 hg w10 hbox hb; have n0_ := Aside0.mk (below_step tc0_ hb); have n1_ := Aside0.mk (hbox); have n2_ := Aside0.mk ((by rw [hg]; exact (below_size tc0_) : w.heap.size ≤ gb101)); have n3_ := Aside0.mk ((by rw [hg]; exact (below_size tc0_) : w.heap.size ≤ gb101)); clear HB; have HB := n0_; have BK101 := n1_; have GW101 := n2_; have GE101 := n3_; clear n0_ n1_ n2_ n3_; clear hb hbox hg) | ((with_reducible refine gate_dst (N := 6) rfl ?_); (try (refine gate_guard (by rfl) ?_; dsimp only)); refine box_event ?hg (N := 6) ?hd (cs := #[.int .i64 a2]) (t := 3) ?hr ?_; (case hd => rfl); (case hg => rfl); (case hr => first | (go_simp; done) | (go_simp; rfl)); intro gb102 hg w11 hbox hb; have n0_ := Aside0.mk (blk_below (g := gb101) (o := .cells #[.int .i64 a1] 3 (0, 0)) tc5_ hb); have n1_ := Aside0.mk (below_step tc6_ hb); have n2_ := Aside0.mk (hbox); have n3_ := Aside0.mk ((by rw [hg]; exact (below_size tc6_) : w.heap.size ≤ gb102)); have n4_ := Aside0.mk ((by rw [hg]; exact (below_size tc6_) : w.heap.size ≤ gb102)); have n5_ := Aside0.mk ((by rw [hg]; exact Nat.ne_of_lt (blk_lt (g := gb101) (o := .cells #[.int .i64 a1] 3 (0, 0)) tc5_) : gb101 ≠ gb102)); have n6_ := Aside0.mk ((by rw [hg]; exact Nat.ne_of_gt (blk_lt (g := gb101) (o := .cells #[.int .i64 a1] 3 (0, 0)) tc5_) : gb102 ≠ gb101)); clear BK101; clear HB; have BK101 := n0_; have HB := n1_; have BK102 := n2_; have GW102 := n3_; have GE102 := n4_; have NB101_102 := n5_; have NB102_101 := n6_; clear n0_ n1_ n2_ n3_ n4_ n5_ n6_; clear hb hbox hg) | ((with_reducible refine gate_dst (N := 7) rfl ?_); (try (refine gate_guard (by rfl) ?_; dsimp only)); refine box_event ?hg (N := 7) ?hd (cs := #[.int .i64 a3]) (t := 3) ?hr ?_; (case hd => rfl); (case hg => rfl); (case hr => first | (go_simp; done) | (go_simp; rfl)); intro gb103 hg w12 hbox hb; have n0_ := Aside0.mk (blk_below (g := gb101) (o := .cells #[.int .i64 a1] 3 (0, 0)) tc5_ hb); have n1_ := Aside0.mk (blk_below (g := gb102) (o := .cells #[.int .i64 a2] 3 (0, 0)) tc9_ hb); have n2_ := Aside0.mk (below_step tc8_ hb); have n3_ := Aside0.mk (hbox); have n4_ := Aside0.mk ((by rw [hg]; exact (below_size tc8_) : w.heap.size ≤ gb103)); have n5_ := Aside0.mk ((by rw [hg]; exact (below_size tc8_) : w.heap.size ≤ gb103)); have n6_ := Aside0.mk ((by rw [hg]; exact Nat.ne_of_lt (blk_lt (g := gb101) (o := .cells #[.int .i64 a1] 3 (0, 0)) tc5_) : gb101 ≠ gb103)); have n7_ := Aside0.mk ((by rw [hg]; exact Nat.ne_of_gt (blk_lt (g := gb101) (o := .cells #[.int .i64 a1] 3 (0, 0)) tc5_) : gb103 ≠ gb101)); have n8_ := Aside0.mk ((by rw [hg]; exact Nat.ne_of_lt (blk_lt (g := gb102) (o := .cells #[.int .i64 a2] 3 (0, 0)) tc9_) : gb102 ≠ gb103)); have n9_ := Aside0.mk ((by rw [hg]; exact Nat.ne_of_gt (blk_lt (g := gb102) (o := .cells #[.int .i64 a2] 3 (0, 0)) tc9_) : gb103 ≠ gb102)); clear BK101; clear BK102; clear HB; have BK101 := n0_; have BK102 := n1_; have HB := n2_; have BK103 := n3_; have GW103 := n4_; have GE103 := n5_; have NB101_103 := n6_; have NB103_101 := n7_; have NB102_103 := n8_; have NB103_102 := n9_; clear n0_ n1_ n2_ n3_ n4_ n5_ n6_ n7_ n8_ n9_; clear hb hbox hg) | ((with_reducible refine gate_callee (f := 52) rfl ?_); refine goesL_ (some 11) rfl rfl Try.func52 (by kernel_rfl) rfl #[.int .i64 a0] rfl tc1_ ?_; (with_reducible refine (impl_isWeighted.calls a0 true _ A5.out).mono ?_); rintro e w' ⟨rfl, ⟨nd, rfl⟩⟩; refine ⟨_, rfl, ?_⟩; have hnb13 := NB101_102.out; have hnc13 := NB102_101.out; have hnb14 := NB101_103.out; have hnc14 := NB103_101.out; have hcz15_0 : w12.cell? ⟨gb101, 0, none⟩ = some (.int .i64 a1) := (blk_cell BK101.out 0).trans rfl; have hfz15_0 := blk_frozen BK101.out 0; have hnb16 := NB102_103.out; have hnc16 := NB103_102.out; have hcz17_0 : w12.cell? ⟨gb102, 0, none⟩ = some (.int .i64 a2) := (blk_cell BK102.out 0).trans rfl; have hfz17_0 := blk_frozen BK102.out 0; have hcz18_0 : w12.cell? ⟨gb103, 0, none⟩ = some (.int .i64 a3) := (blk_cell BK103.out 0).trans rfl; have hfz18_0 := blk_frozen BK103.out 0) | ((with_reducible refine gate_dst (N := 17) rfl ?_); (try (refine gate_guard (by rfl) ?_; dsimp only)); refine Kd.R_lit (Kd.int .i64) _ 3 ?hg (N := 17) ?hd (xs := ([a1, a2, a3] : List Int)) (inner := [.int .i64 a1, .int .i64 a2, .int .i64 a3]) (ok := fun _ => True) (okp := fun _ => True) ?hr ?hp (fun _ hk => hk) trivial (Below.refl _ _) (Nat.le_refl _) (by simp) ?_; (case hd => rfl); (case hg => rfl); (case hr => first | (go_simp; done) | (go_simp; rfl)); (case hp => exact (Reps.one (show Kd.M (Kd.int .i64) _ _ _ a1 [.int .i64 a1] from rfl) (Reps.one (show Kd.M (Kd.int .i64) _ _ _ a2 [.int .i64 a2] from rfl) (Reps.one (show Kd.M (Kd.int .i64) _ _ _ a3 [.int .i64 a3] from rfl) (Reps.none _ _))))); intro v106 w19 ho20 hb hg_ hnew_; clear hg_ hnew_; (first | rw [← Ny105.out] at ho20 | (simp only [Int.reduceToNat] at ho20; rw [← Ny105.out] at ho20)); have n0_ := Aside0.mk (Kd.R_lower (Kd.R_newB (Kd.R_newB (Kd.R_newB ho20 (g := gb101) (o := .cells #[.int .i64 a1] 3 (0, 0)) tc5_) (g := gb102) (o := .cells #[.int .i64 a2] 3 (0, 0)) tc9_) (g := gb103) (o := .cells #[.int .i64 a3] 3 (0, 0)) tc16_) (below_size tc12_)); have n1_ := Aside0.mk (blk_below (g := gb101) (o := .cells #[.int .i64 a1] 3 (0, 0)) tc5_ hb); have n2_ := Aside0.mk (blk_below (g := gb102) (o := .cells #[.int .i64 a2] 3 (0, 0)) tc9_ hb); have n3_ := Aside0.mk (blk_below (g := gb103) (o := .cells #[.int .i64 a3] 3 (0, 0)) tc16_ hb); have n4_ := Aside0.mk (below_step tc12_ hb); clear BK101; clear BK102; clear BK103; clear HB; have HO107 := n0_; have BK101 := n1_; have BK102 := n2_; have BK103 := n3_; have HB := n4_; clear n0_ n1_ n2_ n3_ n4_; clear hb ho20; obtain ⟨Ao21, co21, eo21⟩ := Kd.R_slice HO107.out; subst eo21) | (go_at_call 53; (with_reducible refine (impl_areBases.calls k _ _ y105 true _ ?side1 ?side2 A7.out).mono ?_); (case side1 => repeat (first | exact (Kd.R_reads' HO107.out).2.2 | (with_reducible refine Kd.C_alloc ?_ _) | (with_reducible refine Kd.C_drewN ?_ _) | (with_reducible refine Kd.C_drew ?_))); (case side2 => exact (Kd.R_reads' HO107.out).2.1); rintro e w22 ⟨rfl, hb⟩; have n0_ := Aside0.mk (Kd.R_below tc34_ hb); have n1_ := Aside0.mk (blk_below (g := gb101) (o := .cells #[.int .i64 a1] 3 (0, 0)) tc5_ hb); have n2_ := Aside0.mk (blk_below (g := gb102) (o := .cells #[.int .i64 a2] 3 (0, 0)) tc9_ hb); have n3_ := Aside0.mk (blk_below (g := gb103) (o := .cells #[.int .i64 a3] 3 (0, 0)) tc16_ hb); have n4_ := Aside0.mk (below_step tc12_ hb); clear HO107; clear BK101; clear BK102; clear BK103; clear HB; have HO107 := n0_; have BK101 := n1_; have BK102 := n2_; have BK103 := n3_; have HB := n4_; clear n0_ n1_ n2_ n3_ n4_; (try clear hb); (try clear hb2); (try clear hk); (try clear hi)) | ((with_reducible refine gate_callee (f := 67) rfl ?_); refine goesL_ (some 23) rfl rfl Try.func67 (by kernel_rfl) rfl #[.int .i64 a0, .func (.func 68) #[] #[.pointer (some ⟨gb101, 0, none⟩), .pointer (some ⟨gb102, 0, none⟩), .pointer (some ⟨gb103, 0, none⟩)]] rfl tc1_ ?_; (with_reducible refine (impl_total.calls k a0 _ _ (fun x0_ => impl_WeightSum_1.f k x0_ a1 a2 a3) t109 _ ?side1 A9.out).mono ?_); (case side1 => refine ⟨enters_of Try.func68 (by kernel_rfl) rfl, fun W_ hW_ x0_ v0_ hK0_ r_ hr_ => ?_⟩; obtain ⟨A0_, c0_, e0_, hl0_, hC0_⟩ := hK0_; cases e0_; refine (impl_WeightSum_1.calls k A0_ c0_ x0_ _ a1 _ a2 _ a3 r_ W_ hC0_ hl0_ ?cb1 ?cb2 ?cb3 hr_).mono ?_; (case cb1 => exact blk_below tc5_ hW_); (case cb2 => exact blk_below tc9_ hW_); (case cb3 => exact blk_below tc16_ hW_); exact fun _ _ h_ => ⟨h_.1, h_.2⟩); rintro e w23 ⟨rfl, hb⟩; refine ⟨_, rfl, ?_⟩; have n0_ := Aside0.mk (Kd.R_below tc34_ hb); have n1_ := Aside0.mk (blk_below (g := gb101) (o := .cells #[.int .i64 a1] 3 (0, 0)) tc5_ hb); have n2_ := Aside0.mk (blk_below (g := gb102) (o := .cells #[.int .i64 a2] 3 (0, 0)) tc9_ hb); have n3_ := Aside0.mk (blk_below (g := gb103) (o := .cells #[.int .i64 a3] 3 (0, 0)) tc16_ hb); have n4_ := Aside0.mk (below_step tc12_ hb); clear HO107; clear BK101; clear BK102; clear BK103; clear HB; have HO107 := n0_; have BK101 := n1_; have BK102 := n2_; have BK103 := n3_; have HB := n4_; clear n0_ n1_ n2_ n3_ n4_; (try clear hb); (try clear hb2); (try clear hk); (try clear hi)))
   go_ret2
   exact ⟨by first | rfl | (simp [errW_none, errW_some] <;> rfl) | (simp [*, errW_none, errW_some] <;> rfl), by repeat (first | (with_reducible first | exact HB.out | apply below_alloc | apply pw_below_drewN | apply below_drew1 | refine below_set ?_ GE101.out | refine below_set ?_ GE102.out | refine below_set ?_ GE103.out) | exact HB.out)⟩
  ·replace c8 := Bool.eq_false_iff.mpr c8
   subst c8
   have H1 : (some (0, false)) = some (r1, r2) := by rw [if_neg (show ¬ (false = true) by decide)] at H; exact H
   clear H
   have H := H1
   clear H1
   simp only [Option.some.injEq, Prod.mk.injEq] at H
   obtain ⟨rfl, rfl⟩ := H
   go_enter Try.func15, Try.ntmps15
   go_wp2_with (first | ((with_reducible refine gate_dst (N := 5) rfl ?_); (try (refine gate_guard (by rfl) ?_; dsimp only)); refine box_event ?hg (N := 5) ?hd (cs := #[.int .i64 a1]) (t := 3) ?hr ?_; (case hd => rfl); (case hg => rfl); (case hr => first | (go_simp; done) | (go_simp; rfl)); intro gb101 hg w24 hbox hb; have n0_ := Aside0.mk (below_step tc0_ hb); have n1_ := Aside0.mk (hbox); have n2_ := Aside0.mk ((by rw [hg]; exact (below_size tc0_) : w.heap.size ≤ gb101)); have n3_ := Aside0.mk ((by rw [hg]; exact (below_size tc0_) : w.heap.size ≤ gb101)); clear HB; have HB := n0_; have BK101 := n1_; have GW101 := n2_; have GE101 := n3_; clear n0_ n1_ n2_ n3_; clear hb hbox hg) | ((with_reducible refine gate_dst (N := 6) rfl ?_); (try (refine gate_guard (by rfl) ?_; dsimp only)); refine box_event ?hg (N := 6) ?hd (cs := #[.int .i64 a2]) (t := 3) ?hr ?_; (case hd => rfl); (case hg => rfl); (case hr => first | (go_simp; done) | (go_simp; rfl)); intro gb102 hg w25 hbox hb; have n0_ := Aside0.mk (blk_below (g := gb101) (o := .cells #[.int .i64 a1] 3 (0, 0)) tc5_ hb); have n1_ := Aside0.mk (below_step tc6_ hb); have n2_ := Aside0.mk (hbox); have n3_ := Aside0.mk ((by rw [hg]; exact (below_size tc6_) : w.heap.size ≤ gb102)); have n4_ := Aside0.mk ((by rw [hg]; exact (below_size tc6_) : w.heap.size ≤ gb102)); have n5_ := Aside0.mk ((by rw [hg]; exact Nat.ne_of_lt (blk_lt (g := gb101) (o := .cells #[.int .i64 a1] 3 (0, 0)) tc5_) : gb101 ≠ gb102)); have n6_ := Aside0.mk ((by rw [hg]; exact Nat.ne_of_gt (blk_lt (g := gb101) (o := .cells #[.int .i64 a1] 3 (0, 0)) tc5_) : gb102 ≠ gb101)); clear BK101; clear HB; have BK101 := n0_; have HB := n1_; have BK102 := n2_; have GW102 := n3_; have GE102 := n4_; have NB101_102 := n5_; have NB102_101 := n6_; clear n0_ n1_ n2_ n3_ n4_ n5_ n6_; clear hb hbox hg) | ((with_reducible refine gate_dst (N := 7) rfl ?_); (try (refine gate_guard (by rfl) ?_; dsimp only)); refine box_event ?hg (N := 7) ?hd (cs := #[.int .i64 a3]) (t := 3) ?hr ?_; (case hd => rfl); (case hg => rfl); (case hr => first | (go_simp; done) | (go_simp; rfl)); intro gb103 hg w26 hbox hb; have n0_ := Aside0.mk (blk_below (g := gb101) (o := .cells #[.int .i64 a1] 3 (0, 0)) tc5_ hb); have n1_ := Aside0.mk (blk_below (g := gb102) (o := .cells #[.int .i64 a2] 3 (0, 0)) tc9_ hb); have n2_ := Aside0.mk (below_step tc8_ hb); have n3_ := Aside0.mk (hbox); have n4_ := Aside0.mk ((by rw [hg]; exact (below_size tc8_) : w.heap.size ≤ gb103)); have n5_ := Aside0.mk ((by rw [hg]; exact (below_size tc8_) : w.heap.size ≤ gb103)); have n6_ := Aside0.mk ((by rw [hg]; exact Nat.ne_of_lt (blk_lt (g := gb101) (o := .cells #[.int .i64 a1] 3 (0, 0)) tc5_) : gb101 ≠ gb103)); have n7_ := Aside0.mk ((by rw [hg]; exact Nat.ne_of_gt (blk_lt (g := gb101) (o := .cells #[.int .i64 a1] 3 (0, 0)) tc5_) : gb103 ≠ gb101)); have n8_ := Aside0.mk ((by rw [hg]; exact Nat.ne_of_lt (blk_lt (g := gb102) (o := .cells #[.int .i64 a2] 3 (0, 0)) tc9_) : gb102 ≠ gb103)); have n9_ := Aside0.mk ((by rw [hg]; exact Nat.ne_of_gt (blk_lt (g := gb102) (o := .cells #[.int .i64 a2] 3 (0, 0)) tc9_) : gb103 ≠ gb102)); clear BK101; clear BK102; clear HB; have BK101 := n0_; have BK102 := n1_; have HB := n2_; have BK103 := n3_; have GW103 := n4_; have GE103 := n5_; have NB101_103 := n6_; have NB103_101 := n7_; have NB102_103 := n8_; have NB103_102 := n9_; clear n0_ n1_ n2_ n3_ n4_ n5_ n6_ n7_ n8_ n9_; clear hb hbox hg) | ((with_reducible refine gate_callee (f := 52) rfl ?_); refine goesL_ (some 11) rfl rfl Try.func52 (by kernel_rfl) rfl #[.int .i64 a0] rfl tc1_ ?_; (with_reducible refine (impl_isWeighted.calls a0 true _ A5.out).mono ?_); rintro e w' ⟨rfl, ⟨nd, rfl⟩⟩; refine ⟨_, rfl, ?_⟩; have hnb27 := NB101_102.out; have hnc27 := NB102_101.out; have hnb28 := NB101_103.out; have hnc28 := NB103_101.out; have hcz29_0 : w26.cell? ⟨gb101, 0, none⟩ = some (.int .i64 a1) := (blk_cell BK101.out 0).trans rfl; have hfz29_0 := blk_frozen BK101.out 0; have hnb30 := NB102_103.out; have hnc30 := NB103_102.out; have hcz31_0 : w26.cell? ⟨gb102, 0, none⟩ = some (.int .i64 a2) := (blk_cell BK102.out 0).trans rfl; have hfz31_0 := blk_frozen BK102.out 0; have hcz32_0 : w26.cell? ⟨gb103, 0, none⟩ = some (.int .i64 a3) := (blk_cell BK103.out 0).trans rfl; have hfz32_0 := blk_frozen BK103.out 0) | ((with_reducible refine gate_dst (N := 17) rfl ?_); (try (refine gate_guard (by rfl) ?_; dsimp only)); refine Kd.R_lit (Kd.int .i64) _ 3 ?hg (N := 17) ?hd (xs := ([a1, a2, a3] : List Int)) (inner := [.int .i64 a1, .int .i64 a2, .int .i64 a3]) (ok := fun _ => True) (okp := fun _ => True) ?hr ?hp (fun _ hk => hk) trivial (Below.refl _ _) (Nat.le_refl _) (by simp) ?_; (case hd => rfl); (case hg => rfl); (case hr => first | (go_simp; done) | (go_simp; rfl)); (case hp => exact (Reps.one (show Kd.M (Kd.int .i64) _ _ _ a1 [.int .i64 a1] from rfl) (Reps.one (show Kd.M (Kd.int .i64) _ _ _ a2 [.int .i64 a2] from rfl) (Reps.one (show Kd.M (Kd.int .i64) _ _ _ a3 [.int .i64 a3] from rfl) (Reps.none _ _))))); intro v106 w33 ho34 hb hg_ hnew_; clear hg_ hnew_; (first | rw [← Ny105.out] at ho34 | (simp only [Int.reduceToNat] at ho34; rw [← Ny105.out] at ho34)); have n0_ := Aside0.mk (Kd.R_lower (Kd.R_newB (Kd.R_newB (Kd.R_newB ho34 (g := gb101) (o := .cells #[.int .i64 a1] 3 (0, 0)) tc5_) (g := gb102) (o := .cells #[.int .i64 a2] 3 (0, 0)) tc9_) (g := gb103) (o := .cells #[.int .i64 a3] 3 (0, 0)) tc16_) (below_size tc12_)); have n1_ := Aside0.mk (blk_below (g := gb101) (o := .cells #[.int .i64 a1] 3 (0, 0)) tc5_ hb); have n2_ := Aside0.mk (blk_below (g := gb102) (o := .cells #[.int .i64 a2] 3 (0, 0)) tc9_ hb); have n3_ := Aside0.mk (blk_below (g := gb103) (o := .cells #[.int .i64 a3] 3 (0, 0)) tc16_ hb); have n4_ := Aside0.mk (below_step tc12_ hb); clear BK101; clear BK102; clear BK103; clear HB; have HO107 := n0_; have BK101 := n1_; have BK102 := n2_; have BK103 := n3_; have HB := n4_; clear n0_ n1_ n2_ n3_ n4_; clear hb ho34; obtain ⟨Ao35, co35, eo35⟩ := Kd.R_slice HO107.out; subst eo35) | (go_at_call 53; (with_reducible refine (impl_areBases.calls k _ _ y105 false _ ?side1 ?side2 A7.out).mono ?_); (case side1 => repeat (first | exact (Kd.R_reads' HO107.out).2.2 | (with_reducible refine Kd.C_alloc ?_ _) | (with_reducible refine Kd.C_drewN ?_ _) | (with_reducible refine Kd.C_drew ?_))); (case side2 => exact (Kd.R_reads' HO107.out).2.1); rintro e w36 ⟨rfl, hb⟩; have n0_ := Aside0.mk (Kd.R_below tc34_ hb); have n1_ := Aside0.mk (blk_below (g := gb101) (o := .cells #[.int .i64 a1] 3 (0, 0)) tc5_ hb); have n2_ := Aside0.mk (blk_below (g := gb102) (o := .cells #[.int .i64 a2] 3 (0, 0)) tc9_ hb); have n3_ := Aside0.mk (blk_below (g := gb103) (o := .cells #[.int .i64 a3] 3 (0, 0)) tc16_ hb); have n4_ := Aside0.mk (below_step tc12_ hb); clear HO107; clear BK101; clear BK102; clear BK103; clear HB; have HO107 := n0_; have BK101 := n1_; have BK102 := n2_; have BK103 := n3_; have HB := n4_; clear n0_ n1_ n2_ n3_ n4_; (try clear hb); (try clear hb2); (try clear hk); (try clear hi)))
   go_ret2
   exact ⟨by first | rfl | (simp [errW_none, errW_some] <;> rfl) | (simp [*, errW_none, errW_some] <;> rfl), by repeat (first | (with_reducible first | exact HB.out | apply below_alloc | apply pw_below_drewN | apply below_drew1 | refine below_set ?_ GE101.out | refine below_set ?_ GE102.out | refine below_set ?_ GE103.out) | exact HB.out)⟩
 ·replace c6 := Bool.eq_false_iff.mpr c6
  subst c6
  have H1 : (some (0, false)) = some (r1, r2) := by rw [if_neg (show ¬ (false = true) by decide)] at H; exact H
  clear H
  have H := H1
  clear H1
  simp only [Option.some.injEq, Prod.mk.injEq] at H
  obtain ⟨rfl, rfl⟩ := H
  go_enter Try.func15, Try.ntmps15
  go_wp2_with (first | ((with_reducible refine gate_dst (N := 5) rfl ?_); (try (refine gate_guard (by rfl) ?_; dsimp only)); refine box_event ?hg (N := 5) ?hd (cs := #[.int .i64 a1]) (t := 3) ?hr ?_; (case hd => rfl); (case hg => rfl); (case hr => first | (go_simp; done) | (go_simp; rfl)); intro gb101 hg w37 hbox hb; have n0_ := Aside0.mk (below_step tc0_ hb); have n1_ := Aside0.mk (hbox); have n2_ := Aside0.mk ((by rw [hg]; exact (below_size tc0_) : w.heap.size ≤ gb101)); have n3_ := Aside0.mk ((by rw [hg]; exact (below_size tc0_) : w.heap.size ≤ gb101)); clear HB; have HB := n0_; have BK101 := n1_; have GW101 := n2_; have GE101 := n3_; clear n0_ n1_ n2_ n3_; clear hb hbox hg) | ((with_reducible refine gate_dst (N := 6) rfl ?_); (try (refine gate_guard (by rfl) ?_; dsimp only)); refine box_event ?hg (N := 6) ?hd (cs := #[.int .i64 a2]) (t := 3) ?hr ?_; (case hd => rfl); (case hg => rfl); (case hr => first | (go_simp; done) | (go_simp; rfl)); intro gb102 hg w38 hbox hb; have n0_ := Aside0.mk (blk_below (g := gb101) (o := .cells #[.int .i64 a1] 3 (0, 0)) tc5_ hb); have n1_ := Aside0.mk (below_step tc6_ hb); have n2_ := Aside0.mk (hbox); have n3_ := Aside0.mk ((by rw [hg]; exact (below_size tc6_) : w.heap.size ≤ gb102)); have n4_ := Aside0.mk ((by rw [hg]; exact (below_size tc6_) : w.heap.size ≤ gb102)); have n5_ := Aside0.mk ((by rw [hg]; exact Nat.ne_of_lt (blk_lt (g := gb101) (o := .cells #[.int .i64 a1] 3 (0, 0)) tc5_) : gb101 ≠ gb102)); have n6_ := Aside0.mk ((by rw [hg]; exact Nat.ne_of_gt (blk_lt (g := gb101) (o := .cells #[.int .i64 a1] 3 (0, 0)) tc5_) : gb102 ≠ gb101)); clear BK101; clear HB; have BK101 := n0_; have HB := n1_; have BK102 := n2_; have GW102 := n3_; have GE102 := n4_; have NB101_102 := n5_; have NB102_101 := n6_; clear n0_ n1_ n2_ n3_ n4_ n5_ n6_; clear hb hbox hg) | ((with_reducible refine gate_dst (N := 7) rfl ?_); (try (refine gate_guard (by rfl) ?_; dsimp only)); refine box_event ?hg (N := 7) ?hd (cs := #[.int .i64 a3]) (t := 3) ?hr ?_; (case hd => rfl); (case hg => rfl); (case hr => first | (go_simp; done) | (go_simp; rfl)); intro gb103 hg w39 hbox hb; have n0_ := Aside0.mk (blk_below (g := gb101) (o := .cells #[.int .i64 a1] 3 (0, 0)) tc5_ hb); have n1_ := Aside0.mk (blk_below (g := gb102) (o := .cells #[.int .i64 a2] 3 (0, 0)) tc9_ hb); have n2_ := Aside0.mk (below_step tc8_ hb); have n3_ := Aside0.mk (hbox); have n4_ := Aside0.mk ((by rw [hg]; exact (below_size tc8_) : w.heap.size ≤ gb103)); have n5_ := Aside0.mk ((by rw [hg]; exact (below_size tc8_) : w.heap.size ≤ gb103)); have n6_ := Aside0.mk ((by rw [hg]; exact Nat.ne_of_lt (blk_lt (g := gb101) (o := .cells #[.int .i64 a1] 3 (0, 0)) tc5_) : gb101 ≠ gb103)); have n7_ := Aside0.mk ((by rw [hg]; exact Nat.ne_of_gt (blk_lt (g := gb101) (o := .cells #[.int .i64 a1] 3 (0, 0)) tc5_) : gb103 ≠ gb101)); have n8_ := Aside0.mk ((by rw [hg]; exact Nat.ne_of_lt (blk_lt (g := gb102) (o := .cells #[.int .i64 a2] 3 (0, 0)) tc9_) : gb102 ≠ gb103)); have n9_ := Aside0.mk ((by rw [hg]; exact Nat.ne_of_gt (blk_lt (g := gb102) (o := .cells #[.int .i64 a2] 3 (0, 0)) tc9_) : gb103 ≠ gb102)); clear BK101; clear BK102; clear HB; have BK101 := n0_; have BK102 := n1_; have HB := n2_; have BK103 := n3_; have GW103 := n4_; have GE103 := n5_; have NB101_103 := n6_; have NB103_101 := n7_; have NB102_103 := n8_; have NB103_102 := n9_; clear n0_ n1_ n2_ n3_ n4_ n5_ n6_ n7_ n8_ n9_; clear hb hbox hg) | ((with_reducible refine gate_callee (f := 52) rfl ?_); refine goesL_ (some 11) rfl rfl Try.func52 (by kernel_rfl) rfl #[.int .i64 a0] rfl tc1_ ?_; (with_reducible refine (impl_isWeighted.calls a0 false _ A5.out).mono ?_); rintro e w' ⟨rfl, ⟨nd, rfl⟩⟩; refine ⟨_, rfl, ?_⟩))
  go_ret2
  exact ⟨by first | rfl | (simp [errW_none, errW_some] <;> rfl) | (simp [*, errW_none, errW_some] <;> rfl), by repeat (first | (with_reducible first | exact HB.out | apply below_alloc | apply pw_below_drewN | apply below_drew1 | refine below_set ?_ GE101.out | refine below_set ?_ GE102.out | refine below_set ?_ GE103.out) | exact HB.out)⟩

end Go.Proofs.Ytjibpmlmohjfcaa.X
