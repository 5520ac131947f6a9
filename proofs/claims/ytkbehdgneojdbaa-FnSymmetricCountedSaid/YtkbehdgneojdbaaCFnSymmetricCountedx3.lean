-- Written by a program of this session (wip/xprint.py) that drives the kit's print; the contracts of what it does not take are this session's own.
import Derived.Test.YtkbehdgneojdbaaCFnSymmetricCountedx0
import Derived.Test.YtkbehdgneojdbaaCFnSymmetricCountedx1
import Derived.Test.YtkbehdgneojdbaaCFnSymmetricCountedx2
namespace Go.Proofs.Ytkbehdgneojdbaa.X
open Go.RowKit Go.Proofs.YtkbehdgneojdbaaW.PrintWords Go.Proofs.YtkbehdgneojdbaaW.PrintLast Go.Proofs.YtkbehdgneojdbaaW.PrintMore
attribute [local go_sem] max2_int min2_int max_two min_two max_three min_three max_four min_four   -- for this text's walks alone
set_option linter.unusedVariables false
set_option linter.unusedSimpArgs false

/-! ### spec_smSymmetries: function 183 -/
mutual
def spec_smSymmetries.l0 : Nat → List (List (List Int)) → List (List Int) → Int → Option ((List (List (List Int))))
 | 0, _, _, _ => none
 | k + 1, x3, x4, x5 => if x5 < 3 then ((spec_sgClockwise.f k x4).bind fun t104 => (if x3.length < 5864062014805 then (spec_smSymmetries.l0 k (x3 ++ [t104]) t104 (wrap64 (x5 + 1))) else (none))) else (spec_smSymmetries.l1 k x3 0)
def spec_smSymmetries.l1 : Nat → List (List (List Int)) → Int → Option ((List (List (List Int))))
 | 0, _, _ => none
 | k + 1, x3, x6 => if x6 < 4 then (if 0 ≤ x6 then (if x6 < (x3.length : Int) then ((spec_sgMirror.f k (rd_L4 x3 x6)).bind fun t111 => (if x3.length < 5864062014805 then (spec_smSymmetries.l1 k (x3 ++ [t111]) (wrap64 (x6 + 1))) else (none))) else (none)) else (none)) else (some x3)
end
def spec_smSymmetries.f (k : Nat) (l0 : List (List Int)) : Option ((List (List (List Int)))) := spec_smSymmetries.l0 k (([l0] : List (List (List Int)))) l0 0
set_option maxHeartbeats 8000000 in
set_option maxRecDepth 100000 in
theorem spec_smSymmetries.calls (k : Nat) (P0_ : Nat → Prop) (A0 : Option Addr) (c0 : Nat) (l0 : List (List Int)) (r : List (List (List Int))) (w : World) (hs0 : Kd.V (Kd.slice 3 (Kd.int .i64)) 35 w w.heap.size (fun k_ => P0_ k_) (.slice A0 l0.length c0) l0) (h : spec_smSymmetries.f k l0 = some r) :
  Calls Try.prog 183 #[.slice A0 l0.length c0] w fun e w' => ∃ v0_ : Value, e = .returned (v0_) ∧ Kd.N (Kd.slice 35 (Kd.slice 3 (Kd.int .i64))) 24 w' w.heap.size (fun k_ => (P0_ k_ ∨ w.heap.size ≤ k_)) v0_ r ∧ Below w.heap.size w w' := by
 have HO0 := am_ (show Kd.V (Kd.slice 3 (Kd.int .i64)) 35 w w.heap.size (fun k_ => (P0_ k_ ∨ w.heap.size ≤ k_)) (.slice A0 l0.length c0) l0 from Kd.V_mono hs0 (fun k_ hk => .inl hk))
 have HB := am_ (Below.refl w.heap.size w)
 have H : (spec_smSymmetries.l0 k (([l0] : List (List (List Int)))) l0 0) = some r := h
 clear h
 obtain ⟨y101, hy101⟩ : ∃ y_ : List (List (List Int)), y_ = (([l0] : List (List (List Int)))) := ⟨_, rfl⟩
 replace H : (spec_smSymmetries.l0 k y101 l0 0) = some r := by first | (rw [hy101]; with_reducible exact H) | (have H2_ := (Option.bind_some _ _).symm.trans H; rw [hy101]; with_reducible exact H2_) | (have H2_ := (Option.bind_some _ _).symm.trans H; with_reducible exact H2_) | with_reducible exact H | (rw [hy101]; exact H) | exact H
 have Ny101 := am_ hy101
 clear hy101
 have H' := am_ H
 clear H
 go_enter Try.func183, Try.ntmps183
 go_wp2_with (first | ((with_reducible refine gate_dst (N := 8) rfl ?_); refine Kd.N_lit (Kd.slice 35 (Kd.slice 3 (Kd.int .i64))) _ 24 ?hg (N' := 8) ?hd (xs := ([l0] : List (List (List Int)))) (inner := [.slice A0 l0.length c0]) (ok := (fun k_ => (P0_ k_ ∨ w.heap.size ≤ k_))) (okp := (fun k_ => (P0_ k_ ∨ w.heap.size ≤ k_))) ?hr ?hp (fun _ hk => hk) ((show ∀ k_, w.heap.size ≤ k_ → (fun k_ => (P0_ k_ ∨ w.heap.size ≤ k_)) k_ from fun k_ hk => (.inr (Nat.le_trans (below_size tc0_) hk))) _ (Nat.le_refl _)) (Below.refl _ _) (Nat.le_refl _) (by simp) ?_; (case hd => rfl); (case hg => rfl); (case hr => exact tc19_); (case hp => exact (Reps.one (show Kd.FK (Kd.slice 35 (Kd.slice 3 (Kd.int .i64))) _ _ l0 [.slice A0 l0.length c0] from (Kd.FK_slice_mk (Kd.V_reads' (Kd.V_mono (ok' := (fun k_ => (P0_ k_ ∨ w.heap.size ≤ k_))) (HO0.out) (fun k_ hk => hk))).2.1 (Kd.V_F (Kd.V_mono (ok' := (fun k_ => (P0_ k_ ∨ w.heap.size ≤ k_))) (HO0.out) (fun k_ hk => hk))))) (Reps.none _ _))); intro v102 w2 ho3 hb hg_ hnew_; clear hg_ hnew_; (first | rw [← Ny101.out] at ho3 | (simp only [Int.reduceToNat] at ho3; rw [← Ny101.out] at ho3)); have n0_ := am_ (Kd.V_elder' (by (with_reducible repeat (first | apply Kd.V_alloc | apply Kd.V_drewN | apply Kd.V_drew)); exact HO0.out) (Kd.N_base ho3) hb); have n1_ := am_ (Kd.N_lower ho3 (below_size tc0_)); have n2_ := am_ (below_step tc0_ hb); clear HO0 HB; have HO0 := n0_; have HO103 := n1_; have HB := n2_; clear n0_ n1_ n2_; clear hb ho3))
 go_loopg [3, 4, 5] k (fun kq v3 v4 v5 w' => ∃ (x3_1 : List (List (List Int))) (x4_1 : List (List Int)) (x5_1 : Int), v5 = .int .i64 x5_1 ∧ Aside0 (spec_smSymmetries.l0 kq x3_1 x4_1 x5_1 = some r) ∧ Aside0 (kq ≤ k) ∧ Aside0 (Kd.N (Kd.slice 35 (Kd.slice 3 (Kd.int .i64))) 24 w' w.heap.size (fun k_ => (P0_ k_ ∨ w.heap.size ≤ k_)) v3 x3_1) ∧ Aside0 (Kd.V (Kd.slice 3 (Kd.int .i64)) 35 w' w.heap.size (fun k_ => (P0_ k_ ∨ w.heap.size ≤ k_) ∧ some k_ ≠ (v3 : Value).ownBlock) v4 x4_1) ∧ Aside0 (Below w.heap.size w w'))
 case atStart => exact ⟨(y101), (l0), (0), tc7_, H', ⟨Nat.le_refl _⟩, ⟨by (with_reducible repeat (first | apply Kd.N_alloc | apply Kd.N_drewN | apply Kd.N_drew)); exact HO103.out⟩, ⟨by (with_reducible repeat (first | apply Kd.V_alloc | apply Kd.V_drewN | apply Kd.V_drew)); exact HO0.out⟩, ⟨by repeat (first | (with_reducible first | exact HB.out | apply below_alloc | apply pw_below_drewN | apply below_drew1) | exact HB.out)⟩⟩
 case round =>
  clear H'
  try clear c1
  try clear p2
  obtain ⟨x3_1, x4_1, x5_1, rfl, HA, HK1, HO_3, HO_4, HB⟩ := hrel
  cases gk with
  | zero => exact absurd HA.out (by simp [spec_smSymmetries.l0])
  | succ k1 =>
   have H := HA.out
   clear HA
   simp only [spec_smSymmetries.l0] at H
   by_cases c4 : x5_1 < 3
   ·rw [if_pos c4] at H
    have c4b0 : decide (x5_1 < 3) = true := decide_eq_true c4
    clear c4
    replace H := Option.bind_eq_some_iff.mp H
    obtain ⟨t104, A50, H⟩ := H
    replace H : (if x3_1.length < 5864062014805 then (spec_smSymmetries.l0 k1 (x3_1 ++ [t104]) t104 (wrap64 (x5_1 + 1))) else (none)) = some r := H
    have A5 := am_ A50
    clear A50
    by_cases c6 : x3_1.length < 5864062014805
    ·rw [if_pos c6] at H
     have LMc6 := am_ c6
     clear c6
     obtain ⟨y107, hy107⟩ : ∃ y_ : List (List (List Int)), y_ = (x3_1 ++ [t104]) := ⟨_, rfl⟩
     replace H : (spec_smSymmetries.l0 k1 y107 t104 (wrap64 (x5_1 + 1))) = some r := by first | (rw [hy107]; with_reducible exact H) | (have H2_ := (Option.bind_some _ _).symm.trans H; rw [hy107]; with_reducible exact H2_) | (have H2_ := (Option.bind_some _ _).symm.trans H; with_reducible exact H2_) | with_reducible exact H | (rw [hy107]; exact H) | exact H
     have Ny107 := am_ hy107
     clear hy107
     have H' := am_ H
     clear H
     obtain ⟨Ao7, co7, eo7⟩ := Kd.V_slice HO_4.out
     subst eo7
     go_wp2_with (first | ((with_reducible refine gate_callee (f := 203) rfl ?_); refine goesL_ (some 15) rfl rfl Try.func203 (by kernel_rfl) rfl #[.slice Ao7 x4_1.length co7] rfl tc1_ ?_; (with_reducible refine (spec_sgClockwise.calls k1 _ _ x4_1 t104 _ ?side1 ?side2 A5.out).mono ?_); (case side1 => repeat (first | exact (Kd.V_reads' HO_4.out).2.2 | (with_reducible refine Kd.C_alloc ?_ _) | (with_reducible refine Kd.C_drewN ?_ _) | (with_reducible refine Kd.C_drew ?_))); (case side2 => exact (Kd.V_reads' HO_4.out).2.1); rintro e w8 ⟨v105, rfl, ho0, hb⟩; refine ⟨_, rfl, ?_⟩; have n0_ := am_ (Kd.N_below tc46_ hb); have n1_ := am_ (Kd.V_below (by (with_reducible repeat (first | apply Kd.V_alloc | apply Kd.V_drewN | apply Kd.V_drew)); exact HO_4.out) hb); have n2_ := am_ (Kd.V_lower (Kd.V_mono (ok' := fun k_ => (P0_ k_ ∨ w.heap.size ≤ k_) ∧ some k_ ≠ (u3 : Value).ownBlock) (Kd.S_V (Kd.S_bound ho0)) (fun k_ hk_ => ⟨(.inr (Nat.le_trans (below_size tc0_) hk_.2.1)), (Kd.fresh' (Kd.N_lt tc46_) k_ hk_.2.1)⟩)) (below_size tc0_)); have n3_ := am_ (below_step tc0_ hb); clear HO_3 HO_4 HB; have HO_3 := n0_; have HO_4 := n1_; have HO106 := n2_; have HB := n3_; clear n0_ n1_ n2_ n3_; (try clear hb ho0); obtain ⟨Ao10, co10, eo10⟩ := Kd.V_slice HO106.out; subst eo10) | ((with_reducible refine gate_builtin (b := .append) (xs := #[.tmp 16, .tmp 18]) rfl ?_); at_builtin; refine Kd.N_append (Kd.slice 35 (Kd.slice 3 (Kd.int .i64))) (w0 := w) w.heap.size rfl (.tmp 16) (.tmp 18) 50 24 (.slice none 0 0) 24 rfl Try.underlying50 info24 rfl (by decide) (by omega) u3 x3_1 t104 [.slice Ao10 t104.length co10] (fun k_ => (P0_ k_ ∨ w.heap.size ≤ k_)) (fun k_ => ((fun k_ => (P0_ k_ ∨ w.heap.size ≤ k_))) k_ ∧ some k_ ≠ (u3 : Value).ownBlock) rfl rfl ?aP (fun _ hk => hk) ?aF ?aO ?aB ?aS ?aL ?_; (case aP => exact (Kd.FK_slice_mk (Kd.V_reads' (Kd.V_mono (ok' := (fun k_ => ((fun k_ => (P0_ k_ ∨ w.heap.size ≤ k_))) k_ ∧ some k_ ≠ (u3 : Value).ownBlock)) (HO106.out) (fun k_ hk => ⟨hk.1, hk.2⟩))).2.1 (Kd.V_F (Kd.V_mono (ok' := (fun k_ => ((fun k_ => (P0_ k_ ∨ w.heap.size ≤ k_))) k_ ∧ some k_ ≠ (u3 : Value).ownBlock)) (HO106.out) (fun k_ hk => ⟨hk.1, hk.2⟩))))); (case aB => exact tc13_); (case aF => exact tc41_); (case aO => exact tc46_); (case aS => exact tc16_); (case aL => have := LMc6.out; omega); intro v108 w9 ho hb hg hat; rw [← Ny107.out] at ho; have n0_ := am_ (Kd.V_afterv (ok := (fun k_ => (P0_ k_ ∨ w.heap.size ≤ k_))) (by (with_reducible repeat (first | apply Kd.V_alloc | apply Kd.V_drewN | apply Kd.V_drew)); exact HO_4.out) hg hat); have n1_ := am_ (Kd.V_afterv (ok := (fun k_ => (P0_ k_ ∨ w.heap.size ≤ k_))) (by (with_reducible repeat (first | apply Kd.V_alloc | apply Kd.V_drewN | apply Kd.V_drew)); exact HO106.out) hg hat); have n2_ := am_ (hb); have n3_ := am_ (ho); clear HO_4 HO106; clear HB HO_3; have HO_4 := n0_; have HO106 := n1_; have HB := n2_; have HO109 := n3_; clear n0_ n1_ n2_ n3_; clear ho hb hg hat))
     go_roundg k1
     case measure => have := HK1.out; omega
     case rel => exact ⟨(y107), (t104), (wrap64 (x5_1 + 1)), tc7_, H', ⟨by have := HK1.out; omega⟩, ⟨by (with_reducible repeat (first | apply Kd.N_alloc | apply Kd.N_drewN | apply Kd.N_drew)); exact HO109.out⟩, ⟨by (with_reducible repeat (first | apply Kd.V_alloc | apply Kd.V_drewN | apply Kd.V_drew)); exact HO106.out⟩, ⟨by repeat (first | (with_reducible first | exact HB.out | apply below_alloc | apply pw_below_drewN | apply below_drew1) | exact HB.out)⟩⟩
    ·rw [if_neg c6] at H
     exact absurd H (by simp)
   ·rw [if_neg c4] at H
    have c4b0 : decide (x5_1 < 3) = false := decide_eq_false c4
    clear c4
    have H' := am_ H
    clear H
    go_wp2
    go_loopg [3, 6] k1 (fun kq v3 v6 w' => ∃ (x3_2 : List (List (List Int))) (x6_2 : Int), v6 = .int .i64 x6_2 ∧ Aside0 (spec_smSymmetries.l1 kq x3_2 x6_2 = some r) ∧ Aside0 (kq ≤ k1) ∧ Aside0 (Kd.N (Kd.slice 35 (Kd.slice 3 (Kd.int .i64))) 24 w' w.heap.size (fun k_ => (P0_ k_ ∨ w.heap.size ≤ k_)) v3 x3_2) ∧ Aside0 (Below w.heap.size w w'))
    case atStart => exact ⟨(x3_1), (0), tc7_, H', ⟨Nat.le_refl _⟩, ⟨by (with_reducible repeat (first | apply Kd.N_alloc | apply Kd.N_drewN | apply Kd.N_drew)); exact HO_3.out⟩, ⟨by repeat (first | (with_reducible first | exact HB.out | apply below_alloc | apply pw_below_drewN | apply below_drew1) | exact HB.out)⟩⟩
    case round =>
     clear H'
     try clear c1
     try clear c2
     try clear p2
     try clear c4
     try clear c4b0
     try clear c6
     try clear p6
     try clear p2
     obtain ⟨x3_2, x6_2, rfl, HA, HK2, HO_3, HB⟩ := hrel
     cases gk with
     | zero => exact absurd HA.out (by simp [spec_smSymmetries.l1])
     | succ k2 =>
      have H := HA.out
      clear HA
      simp only [spec_smSymmetries.l1] at H
      by_cases c11 : x6_2 < 4
      ·rw [if_pos c11] at H
       have c11b0 : decide (x6_2 < 4) = true := decide_eq_true c11
       clear c11
       by_cases c12 : 0 ≤ x6_2
       ·rw [if_pos c12] at H
        have c12b0 : decide (0 ≤ x6_2) = true := decide_eq_true c12
        clear c12
        by_cases c13 : x6_2 < (x3_2.length : Int)
        ·rw [if_pos c13] at H
         have c13b0 : decide (x6_2 < (x3_2.length : Int)) = true := decide_eq_true c13
         clear c13
         replace H := Option.bind_eq_some_iff.mp H
         obtain ⟨t111, A140, H⟩ := H
         replace H : (if x3_2.length < 5864062014805 then (spec_smSymmetries.l1 k2 (x3_2 ++ [t111]) (wrap64 (x6_2 + 1))) else (none)) = some r := H
         have A14 := am_ A140
         clear A140
         by_cases c15 : x3_2.length < 5864062014805
         ·rw [if_pos c15] at H
          have LMc15 := am_ c15
          clear c15
          obtain ⟨y114, hy114⟩ : ∃ y_ : List (List (List Int)), y_ = (x3_2 ++ [t111]) := ⟨_, rfl⟩
          replace H : (spec_smSymmetries.l1 k2 y114 (wrap64 (x6_2 + 1))) = some r := by first | (rw [hy114]; with_reducible exact H) | (have H2_ := (Option.bind_some _ _).symm.trans H; rw [hy114]; with_reducible exact H2_) | (have H2_ := (Option.bind_some _ _).symm.trans H; with_reducible exact H2_) | with_reducible exact H | (rw [hy114]; exact H) | exact H
          have Ny114 := am_ hy114
          clear hy114
          have H' := am_ H
          clear H
          obtain ⟨Ao16, co16, eo16⟩ := Kd.N_slice HO_3.out
          subst eo16
          have p110 : 0 ≤ (x6_2 : Int) := of_decide_eq_true tc3_
          have q110 : x6_2 < (x3_2.length : Int) := of_decide_eq_true tc3_
          obtain ⟨ad110, A110_0, c110_0, e110, hx110_0, hl110_0, hi110_0⟩ := at_L4 (Kd.N_reads' HO_3.out).2.2 x6_2 p110 q110
          cases e110
          obtain ⟨ce110, hce110, hMe110, hcc110⟩ := Kd.N_get HO_3.out [] x6_2 p110 (by first | exact q110 | exact of_decide_eq_true tc3_ | (have e_ := (Kd.N_reads' HO_3.out).1; omega))
          obtain ⟨ua110_0, uc110_0, rfl, ul110_0, ge110_0⟩ := Kd.FK_slice_open hMe110
          have hv110_0 := hcc110 0 _ rfl
          rw [Nat.add_zero, show ((Kd.slice 35 (Kd.slice 3 (Kd.int .i64)))).sz = 1 from rfl, Nat.mul_one] at hv110_0
          replace hv110_0 := Option.some.inj (hv110_0.symm.trans hx110_0)
          injection hv110_0 with hva_ hvn_ hvc_
          rw [hva_] at ge110_0
          rw [hvc_] at ul110_0
          have HL110_0 := am_ (show Kd.V (Kd.slice 3 (Kd.int .i64)) 35 _ w.heap.size _ _ (rd_L4 x3_2 x6_2) from Kd.V_mk ul110_0 ge110_0)
          clear hva_ hvn_ hvc_ ge110_0 ul110_0
          clear hcc110 hce110
          have HR110_0 := am_ hi110_0
          have HC110_0 := am_ hl110_0
          clear hi110_0 hl110_0
          replace p110 := eq_true p110
          replace q110 := eq_true q110
          go_wp2_with (first | ((with_reducible refine gate_callee (f := 204) rfl ?_); refine goesL_ (some 29) rfl rfl Try.func204 (by kernel_rfl) rfl #[.slice A110_0 (rd_L4 x3_2 x6_2).length c110_0] rfl tc1_ ?_; (with_reducible refine (spec_sgMirror.calls k2 _ _ (rd_L4 x3_2 x6_2) t111 _ ?side1 ?side2 A14.out).mono ?_); (case side1 => repeat (first | exact tc48_ | (with_reducible refine Kd.C_alloc ?_ _) | (with_reducible refine Kd.C_drewN ?_ _) | (with_reducible refine Kd.C_drew ?_))); (case side2 => exact HC110_0.out); rintro e w17 ⟨v112, rfl, ho0, hb⟩; refine ⟨_, rfl, ?_⟩; have n0_ := am_ (Kd.N_elder' tc46_ (Kd.S_base ho0) hb); have n1_ := am_ (Kd.V_elder' (by (with_reducible repeat (first | apply Kd.V_alloc | apply Kd.V_drewN | apply Kd.V_drew)); exact HL110_0.out) (Kd.S_base ho0) hb); have n2_ := am_ (Kd.N_lower (Kd.N_mono (ok' := fun k_ => (P0_ k_ ∨ w.heap.size ≤ k_) ∧ some k_ ≠ (.slice (some ad110) x3_2.length co16 : Value).ownBlock) (Kd.S_N (Kd.S_bound ho0)) (fun k_ hk_ => ⟨(.inr (Nat.le_trans (below_size tc0_) hk_.2.1)), (Kd.fresh' (Kd.N_lt tc46_) k_ hk_.2.1)⟩)) (below_size tc0_)); have n3_ := am_ (Kd.C_below tc48_ hb); have n4_ := am_ (below_step tc0_ hb); clear HO_3 HL110_0; clear HR110_0 HB; have HO_3 := n0_; have HL110_0 := n1_; have HO113 := n2_; have HR110_0 := n3_; have HB := n4_; clear n0_ n1_ n2_ n3_ n4_; (try clear hb ho0); obtain ⟨Ao19, co19, eo19⟩ := Kd.N_slice HO113.out; subst eo19) | ((with_reducible refine gate_builtin (b := .append) (xs := #[.tmp 24, .tmp 30]) rfl ?_); at_builtin; refine Kd.N_append (Kd.slice 35 (Kd.slice 3 (Kd.int .i64))) (w0 := w) w.heap.size rfl (.tmp 24) (.tmp 30) 50 24 (.slice none 0 0) 24 rfl Try.underlying50 info24 rfl (by decide) (by omega) (.slice (some ad110) x3_2.length co16) x3_2 t111 [.slice Ao19 t111.length co19] (fun k_ => (P0_ k_ ∨ w.heap.size ≤ k_)) (fun k_ => ((fun k_ => (P0_ k_ ∨ w.heap.size ≤ k_))) k_ ∧ some k_ ≠ (.slice (some ad110) x3_2.length co16 : Value).ownBlock) rfl rfl ?aP (fun _ hk => hk) ?aF ?aO ?aB ?aS ?aL ?_; (case aP => exact (Kd.FK_slice_mk (Kd.N_reads' (Kd.N_mono (ok' := (fun k_ => ((fun k_ => (P0_ k_ ∨ w.heap.size ≤ k_))) k_ ∧ some k_ ≠ (.slice (some ad110) x3_2.length co16 : Value).ownBlock)) (HO113.out) (fun k_ hk => ⟨hk.1, hk.2⟩))).2.1 (Kd.N_F (Kd.N_mono (ok' := (fun k_ => ((fun k_ => (P0_ k_ ∨ w.heap.size ≤ k_))) k_ ∧ some k_ ≠ (.slice (some ad110) x3_2.length co16 : Value).ownBlock)) (HO113.out) (fun k_ hk => ⟨hk.1, hk.2⟩))))); (case aB => exact tc13_); (case aF => exact tc41_); (case aO => exact (by (with_reducible repeat (first | apply Kd.N_alloc | apply Kd.N_drewN | apply Kd.N_drew)); exact Kd.N_mono HO_3.out (fun _ hk => hk.1))); (case aS => exact tc16_); (case aL => have := LMc15.out; omega); intro v115 w18 ho hb hg hat; rw [← Ny114.out] at ho; have n0_ := am_ (Kd.V_afterv (ok := (fun k_ => (P0_ k_ ∨ w.heap.size ≤ k_) ∧ some k_ ≠ (.slice Ao19 t111.length co19 : Value).ownBlock)) (by (with_reducible repeat (first | apply Kd.V_alloc | apply Kd.V_drewN | apply Kd.V_drew)); exact Kd.V_mono HL110_0.out (fun _ hk => ⟨⟨hk.1.1, hk.2⟩, hk.1.2⟩)) hg hat); have n1_ := am_ (hb); have n2_ := am_ (ho); clear HL110_0 HB; clear HO_3 HO113; have HL110_0 := n0_; have HB := n1_; have HO116 := n2_; clear n0_ n1_ n2_; clear ho hb hg hat))
          go_roundg k2
          case measure => have := HK1.out; have := HK2.out; omega
          case rel => exact ⟨(y114), (wrap64 (x6_2 + 1)), tc7_, H', ⟨by have := HK1.out; have := HK2.out; omega⟩, ⟨by (with_reducible repeat (first | apply Kd.N_alloc | apply Kd.N_drewN | apply Kd.N_drew)); exact HO116.out⟩, ⟨by repeat (first | (with_reducible first | exact HB.out | apply below_alloc | apply pw_below_drewN | apply below_drew1) | exact HB.out)⟩⟩
         ·rw [if_neg c15] at H
          exact absurd H (by simp)
        ·rw [if_neg c13] at H
         exact absurd H (by simp)
       ·rw [if_neg c12] at H
        exact absurd H (by simp)
      ·rw [if_neg c11] at H
       have c11b0 : decide (x6_2 < 4) = false := decide_eq_false c11
       clear c11
       obtain rfl := Option.some.inj H
       go_wp2
       go_ret
       exact ⟨_, by first | rfl | (simp [errW_none, errW_some] <;> rfl) | (simp [*, errW_none, errW_some] <;> rfl), by (with_reducible repeat (first | apply Kd.N_alloc | apply Kd.N_drewN | apply Kd.N_drew)); exact HO_3.out, by repeat (first | (with_reducible first | exact HB.out | apply below_alloc | apply pw_below_drewN | apply below_drew1) | exact HB.out)⟩

/-! ### spec_l1Same: function 193 -/
def spec_l1Same.l0 : Nat → List Int → List Int → Int → Int → Option (Bool)
 | 0, _, _, _, _ => none
 | k + 1, x0, x1, x12, x13 => if x13 < x12 then (if 0 ≤ x13 then (if x13 < (x0.length : Int) then (if x13 < (x1.length : Int) then (if (rd x0 x13) = (rd x1 x13) then (spec_l1Same.l0 k x0 x1 x12 (wrap64 (x13 + 1))) else (some false)) else (none)) else (none)) else (none)) else (some true)
def spec_l1Same.f (k : Nat) (l0 : List Int) (l1 : List Int) : Option (Bool) := if (l0.length : Int) = (l1.length : Int) then (spec_l1Same.l0 k l0 l1 (l0.length : Int) 0) else (some false)
set_option maxHeartbeats 8000000 in
set_option maxRecDepth 100000 in
theorem spec_l1Same.calls (k : Nat) (A0 : Option Addr) (c0 : Nat) (l0 : List Int) (A1 : Option Addr) (c1 : Nat) (l1 : List Int) (r : Bool) (w : World) (hr0 : Kd.C (Kd.int .i64) w A0 l0.length l0) (hc0 : l0.length ≤ c0) (hr1 : Kd.C (Kd.int .i64) w A1 l1.length l1) (hc1 : l1.length ≤ c1) (h : spec_l1Same.f k l0 l1 = some r) :
  Calls Try.prog 193 #[.slice A0 l0.length c0, .slice A1 l1.length c1] w fun e w' => e = .returned (.bool r) ∧ Drawn0 w w' := by
 have HR0 := am_ hr0
 have HC0 := am_ hc0
 clear hr0 hc0
 have HR1 := am_ hr1
 have HC1 := am_ hc1
 clear hr1 hc1
 have H : (if (l0.length : Int) = (l1.length : Int) then (spec_l1Same.l0 k l0 l1 (l0.length : Int) 0) else (some false)) = some r := h
 clear h
 by_cases c3 : (l0.length : Int) = (l1.length : Int)
 ·rw [if_pos c3] at H
  have c3b0 : ((l0.length : Int) == (l1.length : Int)) = true := beq_iff_eq.mpr c3
  have c3b1 : ((l0.length : Int) != (l1.length : Int)) = false := bne_eq_false_iff_eq.mpr c3
  have c3b2 : (l0.length == l1.length) = true := by first | simpa using c3 | (simp at c3 ⊢; omega)
  clear c3
  have H' := am_ H
  clear H
  go_enter Try.func193, Try.ntmps193
  go_wp2
  repeat (go_quiet (fail); try go_wp2)
  go_loopg [13] k (fun kq v13 w' => ∃ (x13_1 : Int), v13 = .int .i64 x13_1 ∧ Aside0 (spec_l1Same.l0 kq l0 l1 (l0.length : Int) x13_1 = some r) ∧ Aside0 (kq ≤ k) ∧ Drawn0 w w')
  case atStart => exact ⟨(0), tc7_, H', ⟨Nat.le_refl _⟩, by repeat (first | exact Drawn0.refl _ | apply Drawn0.step)⟩
  case round =>
   clear H'
   try clear c1
   try clear p2
   try clear c3
   try clear c3b0
   try clear c3b1
   try clear c3b2
   obtain ⟨x13_1, rfl, HA, HK1, ⟨m1, rfl⟩⟩ := hrel
   cases gk with
   | zero => exact absurd HA.out (by simp [spec_l1Same.l0])
   | succ k1 =>
    have H := HA.out
    clear HA
    simp only [spec_l1Same.l0] at H
    by_cases c4 : x13_1 < (l0.length : Int)
    ·rw [if_pos c4] at H
     have c4b0 : decide (x13_1 < (l0.length : Int)) = true := decide_eq_true c4
     clear c4
     by_cases c5 : 0 ≤ x13_1
     ·rw [if_pos c5] at H
      have c5b0 : decide (0 ≤ x13_1) = true := decide_eq_true c5
      clear c5
      by_cases c6 : x13_1 < (l0.length : Int)
      ·rw [if_pos c6] at H
       have c6b0 : decide (x13_1 < (l0.length : Int)) = true := decide_eq_true c6
       clear c6
       by_cases c7 : x13_1 < (l1.length : Int)
       ·rw [if_pos c7] at H
        have c7b0 : decide (x13_1 < (l1.length : Int)) = true := decide_eq_true c7
        clear c7
        by_cases c8 : (rd l0 x13_1) = (rd l1 x13_1)
        ·rw [if_pos c8] at H
         have c8b0 : ((rd l0 x13_1) == (rd l1 x13_1)) = true := beq_iff_eq.mpr c8
         have c8b1 : ((rd l0 x13_1) != (rd l1 x13_1)) = false := bne_eq_false_iff_eq.mpr c8
         clear c8
         have H' := am_ H
         clear H
         have p101 : 0 ≤ (x13_1 : Int) := of_decide_eq_true tc3_
         have q101 : x13_1 < (l0.length : Int) := of_decide_eq_true tc3_
         obtain ⟨ad101, e101, hx101_0⟩ := Kd.at_int HR0.out x13_1 p101 q101
         cases e101
         replace p101 := eq_true p101
         replace q101 := eq_true q101
         have p102 : 0 ≤ (x13_1 : Int) := of_decide_eq_true tc3_
         have q102 : x13_1 < (l1.length : Int) := of_decide_eq_true tc3_
         obtain ⟨ad102, e102, hx102_0⟩ := Kd.at_int HR1.out x13_1 p102 q102
         cases e102
         replace p102 := eq_true p102
         replace q102 := eq_true q102
         go_wp2
         repeat (go_quiet (fail); try go_wp2)
         go_roundg k1
         case measure => have := HK1.out; omega
         case rel => exact ⟨(wrap64 (x13_1 + 1)), tc7_, H', ⟨by have := HK1.out; omega⟩, by repeat (first | exact Drawn0.refl _ | apply Drawn0.step)⟩
        ·rw [if_neg c8] at H
         have c8b0 : ((rd l0 x13_1) == (rd l1 x13_1)) = false := beq_eq_false_iff_ne.mpr c8
         have c8b1 : ((rd l0 x13_1) != (rd l1 x13_1)) = true := bne_iff_ne.mpr c8
         obtain rfl := Option.some.inj H
         have p101 : 0 ≤ (x13_1 : Int) := of_decide_eq_true tc3_
         have q101 : x13_1 < (l0.length : Int) := of_decide_eq_true tc3_
         obtain ⟨ad101, e101, hx101_0⟩ := Kd.at_int HR0.out x13_1 p101 q101
         cases e101
         replace p101 := eq_true p101
         replace q101 := eq_true q101
         have p102 : 0 ≤ (x13_1 : Int) := of_decide_eq_true tc3_
         have q102 : x13_1 < (l1.length : Int) := of_decide_eq_true tc3_
         obtain ⟨ad102, e102, hx102_0⟩ := Kd.at_int HR1.out x13_1 p102 q102
         cases e102
         replace p102 := eq_true p102
         replace q102 := eq_true q102
         go_wp2
         repeat (go_quiet (fail); try go_wp2)
         go_ret
         exact ⟨by first | rfl | (simp; done) | (simp [*]; done), by repeat (first | exact Drawn0.refl _ | apply Drawn0.step)⟩
       ·rw [if_neg c7] at H
        exact absurd H (by simp)
      ·rw [if_neg c6] at H
       exact absurd H (by simp)
     ·rw [if_neg c5] at H
      exact absurd H (by simp)
    ·rw [if_neg c4] at H
     have c4b0 : decide (x13_1 < (l0.length : Int)) = false := decide_eq_false c4
     clear c4
     obtain rfl := Option.some.inj H
     go_wp2
     repeat (go_quiet (fail); try go_wp2)
     go_ret
     exact ⟨by first | rfl | (simp; done) | (simp [*]; done), by repeat (first | exact Drawn0.refl _ | apply Drawn0.step)⟩
 ·rw [if_neg c3] at H
  have c3b0 : ((l0.length : Int) == (l1.length : Int)) = false := beq_eq_false_iff_ne.mpr c3
  have c3b1 : ((l0.length : Int) != (l1.length : Int)) = true := bne_iff_ne.mpr c3
  have c3b2 : (l0.length == l1.length) = false := by first | simpa using c3 | (simp at c3 ⊢; omega)
  obtain rfl := Option.some.inj H
  go_enter Try.func193, Try.ntmps193
  go_wp2
  repeat (go_quiet (fail); try go_wp2)
  go_ret
  exact ⟨by first | rfl | (simp; done) | (simp [*]; done), by repeat (first | exact Drawn0.refl _ | apply Drawn0.step)⟩

/-! ### spec_weSame: function 184 -/
def spec_weSame.l0 : Nat → List (List Int) → List (List Int) → Int → Int → Option (Bool)
 | 0, _, _, _, _ => none
 | k + 1, x1, x12, x13, x14 => if x14 < x13 then (if 0 ≤ x14 then (if x14 < (x12.length : Int) then (if x14 < (x1.length : Int) then ((spec_l1Same.f k (rd_L3 x12 x14) (rd_L3 x1 x14)).bind fun t103 => (if t103 = true then (spec_weSame.l0 k x1 x12 x13 (wrap64 (x14 + 1))) else (some false))) else (none)) else (none)) else (none)) else (some true)
def spec_weSame.f (k : Nat) (l0 : List (List Int)) (l1 : List (List Int)) : Option (Bool) := if (l0.length : Int) = (l1.length : Int) then (spec_weSame.l0 k l1 l0 (l0.length : Int) 0) else (some false)
set_option maxHeartbeats 8000000 in
set_option maxRecDepth 100000 in
theorem spec_weSame.calls (k : Nat) (A0 : Option Addr) (c0 : Nat) (l0 : List (List Int)) (A1 : Option Addr) (c1 : Nat) (l1 : List (List Int)) (r : Bool) (w : World) (hr0 : Kd.C (Kd.slice 3 (Kd.int .i64)) w A0 l0.length l0) (hc0 : l0.length ≤ c0) (hr1 : Kd.C (Kd.slice 3 (Kd.int .i64)) w A1 l1.length l1) (hc1 : l1.length ≤ c1) (h : spec_weSame.f k l0 l1 = some r) :
  Calls Try.prog 184 #[.slice A0 l0.length c0, .slice A1 l1.length c1] w fun e w' => e = .returned (.bool r) ∧ Drawn0 w w' := by
 have HR0 := am_ hr0
 have HC0 := am_ hc0
 clear hr0 hc0
 have HR1 := am_ hr1
 have HC1 := am_ hc1
 clear hr1 hc1
 have H : (if (l0.length : Int) = (l1.length : Int) then (spec_weSame.l0 k l1 l0 (l0.length : Int) 0) else (some false)) = some r := h
 clear h
 by_cases c3 : (l0.length : Int) = (l1.length : Int)
 ·rw [if_pos c3] at H
  have c3b0 : ((l0.length : Int) == (l1.length : Int)) = true := beq_iff_eq.mpr c3
  have c3b1 : ((l0.length : Int) != (l1.length : Int)) = false := bne_eq_false_iff_eq.mpr c3
  have c3b2 : (l0.length == l1.length) = true := by first | simpa using c3 | (simp at c3 ⊢; omega)
  clear c3
  have H' := am_ H
  clear H
  go_enter Try.func184, Try.ntmps184
  go_wp2
  go_loopg [14] k (fun kq v14 w' => ∃ (x14_1 : Int), v14 = .int .i64 x14_1 ∧ Aside0 (spec_weSame.l0 kq l1 l0 (l0.length : Int) x14_1 = some r) ∧ Aside0 (kq ≤ k) ∧ Drawn0 w w')
  case atStart => exact ⟨(0), tc7_, H', ⟨Nat.le_refl _⟩, by repeat (first | exact Drawn0.refl _ | apply Drawn0.step)⟩
  case round =>
   clear H'
   try clear c1
   try clear p2
   try clear c3
   try clear c3b0
   try clear c3b1
   try clear c3b2
   obtain ⟨x14_1, rfl, HA, HK1, ⟨m1, rfl⟩⟩ := hrel
   cases gk with
   | zero => exact absurd HA.out (by simp [spec_weSame.l0])
   | succ k1 =>
    have H := HA.out
    clear HA
    simp only [spec_weSame.l0] at H
    by_cases c4 : x14_1 < (l0.length : Int)
    ·rw [if_pos c4] at H
     have c4b0 : decide (x14_1 < (l0.length : Int)) = true := decide_eq_true c4
     clear c4
     by_cases c5 : 0 ≤ x14_1
     ·rw [if_pos c5] at H
      have c5b0 : decide (0 ≤ x14_1) = true := decide_eq_true c5
      clear c5
      by_cases c6 : x14_1 < (l0.length : Int)
      ·rw [if_pos c6] at H
       have c6b0 : decide (x14_1 < (l0.length : Int)) = true := decide_eq_true c6
       clear c6
       by_cases c7 : x14_1 < (l1.length : Int)
       ·rw [if_pos c7] at H
        have c7b0 : decide (x14_1 < (l1.length : Int)) = true := decide_eq_true c7
        clear c7
        replace H := Option.bind_eq_some_iff.mp H
        obtain ⟨t103, A80, H⟩ := H
        replace H : (if t103 = true then (spec_weSame.l0 k1 l1 l0 (l0.length : Int) (wrap64 (x14_1 + 1))) else (some false)) = some r := H
        have A8 := am_ A80
        clear A80
        by_cases c9 : t103 = true
        ·subst c9
         have H1 : (spec_weSame.l0 k1 l1 l0 (l0.length : Int) (wrap64 (x14_1 + 1))) = some r := by rw [if_pos rfl] at H; exact H
         clear H
         have H := H1
         clear H1
         have H' := am_ H
         clear H
         have p101 : 0 ≤ (x14_1 : Int) := of_decide_eq_true tc3_
         have q101 : x14_1 < (l0.length : Int) := of_decide_eq_true tc3_
         obtain ⟨ad101, A101_0, c101_0, e101, hx101_0, hl101_0, hi101_0⟩ := at_L3 HR0.out x14_1 p101 q101
         cases e101
         have HR101_0 := am_ hi101_0
         have HC101_0 := am_ hl101_0
         clear hi101_0 hl101_0
         replace p101 := eq_true p101
         replace q101 := eq_true q101
         have p102 : 0 ≤ (x14_1 : Int) := of_decide_eq_true tc3_
         have q102 : x14_1 < (l1.length : Int) := of_decide_eq_true tc3_
         obtain ⟨ad102, A102_0, c102_0, e102, hx102_0, hl102_0, hi102_0⟩ := at_L3 HR1.out x14_1 p102 q102
         cases e102
         have HR102_0 := am_ hi102_0
         have HC102_0 := am_ hl102_0
         clear hi102_0 hl102_0
         replace p102 := eq_true p102
         replace q102 := eq_true q102
         go_wp2_with (first | ((with_reducible refine gate_callee (f := 193) rfl ?_); refine goesL_ (some 24) rfl rfl Try.func193 (by kernel_rfl) rfl #[.slice A101_0 (rd_L3 l0 x14_1).length c101_0, .slice A102_0 (rd_L3 l1 x14_1).length c102_0] rfl tc1_ ?_; (with_reducible refine (spec_l1Same.calls k1 _ _ (rd_L3 l0 x14_1) _ _ (rd_L3 l1 x14_1) true _ ?side1 ?side2 ?side3 ?side4 A8.out).mono ?_); (case side1 => exact tc27_); (case side2 => exact HC101_0.out); (case side3 => exact tc31_); (case side4 => exact HC102_0.out); rintro e w' ⟨rfl, ⟨nd, rfl⟩⟩; refine ⟨_, rfl, ?_⟩))
         go_roundg k1
         case measure => have := HK1.out; omega
         case rel => exact ⟨(wrap64 (x14_1 + 1)), tc7_, H', ⟨by have := HK1.out; omega⟩, by repeat (first | exact Drawn0.refl _ | apply Drawn0.step)⟩
        ·replace c9 := Bool.eq_false_iff.mpr c9
         subst c9
         have H1 : (some false) = some r := by rw [if_neg (show ¬ (false = true) by decide)] at H; exact H
         clear H
         have H := H1
         clear H1
         obtain rfl := Option.some.inj H
         have p101 : 0 ≤ (x14_1 : Int) := of_decide_eq_true tc3_
         have q101 : x14_1 < (l0.length : Int) := of_decide_eq_true tc3_
         obtain ⟨ad101, A101_0, c101_0, e101, hx101_0, hl101_0, hi101_0⟩ := at_L3 HR0.out x14_1 p101 q101
         cases e101
         have HR101_0 := am_ hi101_0
         have HC101_0 := am_ hl101_0
         clear hi101_0 hl101_0
         replace p101 := eq_true p101
         replace q101 := eq_true q101
         have p102 : 0 ≤ (x14_1 : Int) := of_decide_eq_true tc3_
         have q102 : x14_1 < (l1.length : Int) := of_decide_eq_true tc3_
         obtain ⟨ad102, A102_0, c102_0, e102, hx102_0, hl102_0, hi102_0⟩ := at_L3 HR1.out x14_1 p102 q102
         cases e102
         have HR102_0 := am_ hi102_0
         have HC102_0 := am_ hl102_0
         clear hi102_0 hl102_0
         replace p102 := eq_true p102
         replace q102 := eq_true q102
         go_wp2_with (first | ((with_reducible refine gate_callee (f := 193) rfl ?_); refine goesL_ (some 24) rfl rfl Try.func193 (by kernel_rfl) rfl #[.slice A101_0 (rd_L3 l0 x14_1).length c101_0, .slice A102_0 (rd_L3 l1 x14_1).length c102_0] rfl tc1_ ?_; (with_reducible refine (spec_l1Same.calls k1 _ _ (rd_L3 l0 x14_1) _ _ (rd_L3 l1 x14_1) false _ ?side1 ?side2 ?side3 ?side4 A8.out).mono ?_); (case side1 => exact tc27_); (case side2 => exact HC101_0.out); (case side3 => exact tc31_); (case side4 => exact HC102_0.out); rintro e w' ⟨rfl, ⟨nd, rfl⟩⟩; refine ⟨_, rfl, ?_⟩))
         go_ret
         exact ⟨by first | rfl | (simp; done) | (simp [*]; done), by repeat (first | exact Drawn0.refl _ | apply Drawn0.step)⟩
       ·rw [if_neg c7] at H
        exact absurd H (by simp)
      ·rw [if_neg c6] at H
       exact absurd H (by simp)
     ·rw [if_neg c5] at H
      exact absurd H (by simp)
    ·rw [if_neg c4] at H
     have c4b0 : decide (x14_1 < (l0.length : Int)) = false := decide_eq_false c4
     clear c4
     obtain rfl := Option.some.inj H
     go_wp2
     go_ret
     exact ⟨by first | rfl | (simp; done) | (simp [*]; done), by repeat (first | exact Drawn0.refl _ | apply Drawn0.step)⟩
 ·rw [if_neg c3] at H
  have c3b0 : ((l0.length : Int) == (l1.length : Int)) = false := beq_eq_false_iff_ne.mpr c3
  have c3b1 : ((l0.length : Int) != (l1.length : Int)) = true := bne_iff_ne.mpr c3
  have c3b2 : (l0.length == l1.length) = false := by first | simpa using c3 | (simp at c3 ⊢; omega)
  obtain rfl := Option.some.inj H
  go_enter Try.func184, Try.ntmps184
  go_wp2
  go_ret
  exact ⟨by first | rfl | (simp; done) | (simp [*]; done), by repeat (first | exact Drawn0.refl _ | apply Drawn0.step)⟩

/-! ### spec_smHas: function 176 -/
def spec_smHas.f (k : Nat) (l0 : List (List Int)) (a1 : Int) : Option (Bool) := (spec_smSymmetries.f k l0).bind fun t101 => (if a1 = 0 then (if 2 < (t101.length : Int) then ((spec_weSame.f k (rd_L4 t101 2) l0).bind fun t105 => (some t105)) else (none)) else (if a1 = 1 then (if 1 < (t101.length : Int) then ((spec_weSame.f k (rd_L4 t101 1) l0).bind fun t107 => (some t107)) else (none)) else (if a1 = 2 then (if 4 < (t101.length : Int) then ((spec_weSame.f k (rd_L4 t101 4) l0).bind fun t109 => (some t109)) else (none)) else (if a1 = 3 then ((spec_sgTurn.f k l0).bind fun t110 => ((spec_weSame.f k t110 l0).bind fun t113 => (some t113))) else (if 4 < (t101.length : Int) then ((spec_weSame.f k (rd_L4 t101 4) l0).bind fun t115 => (if t115 = true then (if 6 < (t101.length : Int) then ((spec_weSame.f k (rd_L4 t101 6) l0).bind fun t117 => (some t117)) else (none)) else (some false))) else (none))))))
set_option maxHeartbeats 8000000 in
set_option maxRecDepth 100000 in
theorem spec_smHas.calls (k : Nat) (A0 : Option Addr) (c0 : Nat) (l0 : List (List Int)) (a1 : Int) (r : Bool) (w : World) (hr0 : Kd.C (Kd.slice 3 (Kd.int .i64)) w A0 l0.length l0) (hc0 : l0.length ≤ c0) (h : spec_smHas.f k l0 a1 = some r) :
  Calls Try.prog 176 #[.slice A0 l0.length c0, .int .i64 a1] w fun e w' => e = .returned (.bool r) ∧ Below w.heap.size w w' := by
 have HR0 := am_ hr0
 have HC0 := am_ hc0
 clear hr0 hc0
 have HB := am_ (Below.refl w.heap.size w)
 have H : ((spec_smSymmetries.f k l0).bind fun t101 => (if a1 = 0 then (if 2 < (t101.length : Int) then ((spec_weSame.f k (rd_L4 t101 2) l0).bind fun t105 => (some t105)) else (none)) else (if a1 = 1 then (if 1 < (t101.length : Int) then ((spec_weSame.f k (rd_L4 t101 1) l0).bind fun t107 => (some t107)) else (none)) else (if a1 = 2 then (if 4 < (t101.length : Int) then ((spec_weSame.f k (rd_L4 t101 4) l0).bind fun t109 => (some t109)) else (none)) else (if a1 = 3 then ((spec_sgTurn.f k l0).bind fun t110 => ((spec_weSame.f k t110 l0).bind fun t113 => (some t113))) else (if 4 < (t101.length : Int) then ((spec_weSame.f k (rd_L4 t101 4) l0).bind fun t115 => (if t115 = true then (if 6 < (t101.length : Int) then ((spec_weSame.f k (rd_L4 t101 6) l0).bind fun t117 => (some t117)) else (none)) else (some false))) else (none))))))) = some r := h
 clear h
 replace H := Option.bind_eq_some_iff.mp H
 obtain ⟨t101, A30, H⟩ := H
 replace H : (if a1 = 0 then (if 2 < (t101.length : Int) then ((spec_weSame.f k (rd_L4 t101 2) l0).bind fun t105 => (some t105)) else (none)) else (if a1 = 1 then (if 1 < (t101.length : Int) then ((spec_weSame.f k (rd_L4 t101 1) l0).bind fun t107 => (some t107)) else (none)) else (if a1 = 2 then (if 4 < (t101.length : Int) then ((spec_weSame.f k (rd_L4 t101 4) l0).bind fun t109 => (some t109)) else (none)) else (if a1 = 3 then ((spec_sgTurn.f k l0).bind fun t110 => ((spec_weSame.f k t110 l0).bind fun t113 => (some t113))) else (if 4 < (t101.length : Int) then ((spec_weSame.f k (rd_L4 t101 4) l0).bind fun t115 => (if t115 = true then (if 6 < (t101.length : Int) then ((spec_weSame.f k (rd_L4 t101 6) l0).bind fun t117 => (some t117)) else (none)) else (some false))) else (none)))))) = some r := H
 have A3 := am_ A30
 clear A30
 by_cases c4 : a1 = 0
 ·rw [if_pos c4] at H
  have c4b0 : (a1 == 0) = true := beq_iff_eq.mpr c4
  have c4b1 : (a1 != 0) = false := bne_eq_false_iff_eq.mpr c4
  clear c4
  by_cases c5 : 2 < (t101.length : Int)
  ·rw [if_pos c5] at H
   have c5b0 : decide (2 < (t101.length : Int)) = true := decide_eq_true c5
   have c5b1 : decide (2 < t101.length) = true := decide_eq_true (by omega)
   clear c5
   replace H := Option.bind_eq_some_iff.mp H
   obtain ⟨t105, A60, H⟩ := H
   replace H : (some t105) = some r := H
   have A6 := am_ A60
   clear A60
   obtain rfl := Option.some.inj H
   go_enter Try.func176, Try.ntmps176
   go_wp2_with (first | ((with_reducible refine gate_callee (f := 183) rfl ?_); refine goesL_ (some 7) rfl rfl Try.func183 (by kernel_rfl) rfl #[.slice A0 l0.length c0] rfl tc1_ ?_; (with_reducible refine (spec_smSymmetries.calls k (fun k_ => k_ < w.heap.size) _ _ l0 t101 _ ?side1 A3.out).mono ?_); (case side1 => exact tc25_); rintro e w7 ⟨v102, rfl, ho0, hb⟩; refine ⟨_, rfl, ?_⟩; have n0_ := am_ (Kd.N_lower (Kd.N_mono (ok' := fun k_ => True) ho0 (fun k_ hk_ => trivial)) (below_size tc0_)); have n1_ := am_ (below_step tc0_ hb); clear HB; have HO103 := n0_; have HB := n1_; clear n0_ n1_; (try clear hb ho0); obtain ⟨Ao8, co8, eo8⟩ := Kd.N_slice HO103.out; subst eo8; have p104 : 0 ≤ (2 : Int) := (by omega); have q104 : 2 < (t101.length : Int) := of_decide_eq_true tc3_; obtain ⟨ad104, A104_0, c104_0, e104, hx104_0, hl104_0, hi104_0⟩ := at_L4 (Kd.N_reads' HO103.out).2.2 2 p104 q104; cases e104; obtain ⟨ce104, hce104, hMe104, hcc104⟩ := Kd.N_get HO103.out [] 2 p104 (by first | exact q104 | exact of_decide_eq_true tc3_ | (have e_ := (Kd.N_reads' HO103.out).1; omega)); obtain ⟨ua104_0, uc104_0, rfl, ul104_0, ge104_0⟩ := Kd.FK_slice_open hMe104; have hv104_0 := hcc104 0 _ rfl; rw [Nat.add_zero, show ((Kd.slice 35 (Kd.slice 3 (Kd.int .i64)))).sz = 1 from rfl, Nat.mul_one] at hv104_0; replace hv104_0 := Option.some.inj (hv104_0.symm.trans hx104_0); injection hv104_0 with hva_ hvn_ hvc_; rw [hva_] at ge104_0; rw [hvc_] at ul104_0; have HL104_0 := am_ (show Kd.V (Kd.slice 3 (Kd.int .i64)) 35 _ w.heap.size _ _ (rd_L4 t101 2) from Kd.V_mk ul104_0 ge104_0); clear hva_ hvn_ hvc_ ge104_0 ul104_0; clear hcc104 hce104; (try simp only [show (2 : Int).toNat = 2 from rfl, Nat.reduceMul, Nat.reduceEqDiff, Go.Addr.add, ↓reduceIte] at hx104_0); have qi104 : (2 < t101.length) = True := eq_true (by omega); (try rw [show ((2 : Int)).toNat = 2 from rfl] at hx104_0); have HR104_0 := am_ hi104_0; have HC104_0 := am_ hl104_0; clear hi104_0 hl104_0; replace p104 := eq_true p104; replace q104 := eq_true q104) | ((with_reducible refine gate_callee (f := 184) rfl ?_); refine goesL_ (some 15) rfl rfl Try.func184 (by kernel_rfl) rfl #[.slice A104_0 (rd_L4 t101 2).length c104_0, .slice A0 l0.length c0] rfl tc1_ ?_; (with_reducible refine (spec_weSame.calls k _ _ (rd_L4 t101 2) _ _ l0 t105 _ ?side1 ?side2 ?side3 ?side4 A6.out).mono ?_); (case side1 => exact tc28_); (case side2 => exact HC104_0.out); (case side3 => exact tc12_); (case side4 => exact HC0.out); rintro e w' ⟨rfl, ⟨nd, rfl⟩⟩; refine ⟨_, rfl, ?_⟩))
   go_ret
   exact ⟨by first | rfl | (simp [errW_none, errW_some] <;> rfl) | (simp [*, errW_none, errW_some] <;> rfl), by repeat (first | (with_reducible first | exact HB.out | apply below_alloc | apply pw_below_drewN | apply below_drew1) | exact HB.out)⟩
  ·rw [if_neg c5] at H
   exact absurd H (by simp)
 ·rw [if_neg c4] at H
  have c4b0 : (a1 == 0) = false := beq_eq_false_iff_ne.mpr c4
  have c4b1 : (a1 != 0) = true := bne_iff_ne.mpr c4
  by_cases c9 : a1 = 1
  ·rw [if_pos c9] at H
   have c9b0 : (a1 == 1) = true := beq_iff_eq.mpr c9
   have c9b1 : (a1 != 1) = false := bne_eq_false_iff_eq.mpr c9
   clear c9
   by_cases c10 : 1 < (t101.length : Int)
   ·rw [if_pos c10] at H
    have c10b0 : decide (1 < (t101.length : Int)) = true := decide_eq_true c10
    have c10b1 : decide (1 < t101.length) = true := decide_eq_true (by omega)
    clear c10
    replace H := Option.bind_eq_some_iff.mp H
    obtain ⟨t107, A110, H⟩ := H
    replace H : (some t107) = some r := H
    have A11 := am_ A110
    clear A110
    obtain rfl := Option.some.inj H
    go_enter Try.func176, Try.ntmps176
    go_wp2_with (first | ((with_reducible refine gate_callee (f := 183) rfl ?_); refine goesL_ (some 7) rfl rfl Try.func183 (by kernel_rfl) rfl #[.slice A0 l0.length c0] rfl tc1_ ?_; (with_reducible refine (spec_smSymmetries.calls k (fun k_ => k_ < w.heap.size) _ _ l0 t101 _ ?side1 A3.out).mono ?_); (case side1 => exact tc25_); rintro e w12 ⟨v102, rfl, ho0, hb⟩; refine ⟨_, rfl, ?_⟩; have n0_ := am_ (Kd.N_lower (Kd.N_mono (ok' := fun k_ => True) ho0 (fun k_ hk_ => trivial)) (below_size tc0_)); have n1_ := am_ (below_step tc0_ hb); clear HB; have HO103 := n0_; have HB := n1_; clear n0_ n1_; (try clear hb ho0); obtain ⟨Ao13, co13, eo13⟩ := Kd.N_slice HO103.out; subst eo13; have p106 : 0 ≤ (1 : Int) := (by omega); have q106 : 1 < (t101.length : Int) := of_decide_eq_true tc3_; obtain ⟨ad106, A106_0, c106_0, e106, hx106_0, hl106_0, hi106_0⟩ := at_L4 (Kd.N_reads' HO103.out).2.2 1 p106 q106; cases e106; obtain ⟨ce106, hce106, hMe106, hcc106⟩ := Kd.N_get HO103.out [] 1 p106 (by first | exact q106 | exact of_decide_eq_true tc3_ | (have e_ := (Kd.N_reads' HO103.out).1; omega)); obtain ⟨ua106_0, uc106_0, rfl, ul106_0, ge106_0⟩ := Kd.FK_slice_open hMe106; have hv106_0 := hcc106 0 _ rfl; rw [Nat.add_zero, show ((Kd.slice 35 (Kd.slice 3 (Kd.int .i64)))).sz = 1 from rfl, Nat.mul_one] at hv106_0; replace hv106_0 := Option.some.inj (hv106_0.symm.trans hx106_0); injection hv106_0 with hva_ hvn_ hvc_; rw [hva_] at ge106_0; rw [hvc_] at ul106_0; have HL106_0 := am_ (show Kd.V (Kd.slice 3 (Kd.int .i64)) 35 _ w.heap.size _ _ (rd_L4 t101 1) from Kd.V_mk ul106_0 ge106_0); clear hva_ hvn_ hvc_ ge106_0 ul106_0; clear hcc106 hce106; (try simp only [show (1 : Int).toNat = 1 from rfl, Nat.reduceMul, Nat.reduceEqDiff, Go.Addr.add, ↓reduceIte] at hx106_0); have qi106 : (1 < t101.length) = True := eq_true (by omega); (try rw [show ((1 : Int)).toNat = 1 from rfl] at hx106_0); have HR106_0 := am_ hi106_0; have HC106_0 := am_ hl106_0; clear hi106_0 hl106_0; replace p106 := eq_true p106; replace q106 := eq_true q106) | ((with_reducible refine gate_callee (f := 184) rfl ?_); refine goesL_ (some 22) rfl rfl Try.func184 (by kernel_rfl) rfl #[.slice A106_0 (rd_L4 t101 1).length c106_0, .slice A0 l0.length c0] rfl tc1_ ?_; (with_reducible refine (spec_weSame.calls k _ _ (rd_L4 t101 1) _ _ l0 t107 _ ?side1 ?side2 ?side3 ?side4 A11.out).mono ?_); (case side1 => repeat (first | exact tc57_ | (with_reducible refine Kd.C_alloc ?_ _) | (with_reducible refine Kd.C_drewN ?_ _) | (with_reducible refine Kd.C_drew ?_))); (case side2 => exact HC106_0.out); (case side3 => exact tc12_); (case side4 => exact HC0.out); rintro e w' ⟨rfl, ⟨nd, rfl⟩⟩; refine ⟨_, rfl, ?_⟩))
    go_ret
    exact ⟨by first | rfl | (simp [errW_none, errW_some] <;> rfl) | (simp [*, errW_none, errW_some] <;> rfl), by repeat (first | (with_reducible first | exact HB.out | apply below_alloc | apply pw_below_drewN | apply below_drew1) | exact HB.out)⟩
   ·rw [if_neg c10] at H
    exact absurd H (by simp)
  ·rw [if_neg c9] at H
   have c9b0 : (a1 == 1) = false := beq_eq_false_iff_ne.mpr c9
   have c9b1 : (a1 != 1) = true := bne_iff_ne.mpr c9
   by_cases c14 : a1 = 2
   ·rw [if_pos c14] at H
    have c14b0 : (a1 == 2) = true := beq_iff_eq.mpr c14
    have c14b1 : (a1 != 2) = false := bne_eq_false_iff_eq.mpr c14
    clear c14
    by_cases c15 : 4 < (t101.length : Int)
    ·rw [if_pos c15] at H
     have c15b0 : decide (4 < (t101.length : Int)) = true := decide_eq_true c15
     have c15b1 : decide (4 < t101.length) = true := decide_eq_true (by omega)
     clear c15
     replace H := Option.bind_eq_some_iff.mp H
     obtain ⟨t109, A160, H⟩ := H
     replace H : (some t109) = some r := H
     have A16 := am_ A160
     clear A160
     obtain rfl := Option.some.inj H
     go_enter Try.func176, Try.ntmps176
     go_wp2_with (first | ((with_reducible refine gate_callee (f := 183) rfl ?_); refine goesL_ (some 7) rfl rfl Try.func183 (by kernel_rfl) rfl #[.slice A0 l0.length c0] rfl tc1_ ?_; (with_reducible refine (spec_smSymmetries.calls k (fun k_ => k_ < w.heap.size) _ _ l0 t101 _ ?side1 A3.out).mono ?_); (case side1 => exact tc25_); rintro e w17 ⟨v102, rfl, ho0, hb⟩; refine ⟨_, rfl, ?_⟩; have n0_ := am_ (Kd.N_lower (Kd.N_mono (ok' := fun k_ => True) ho0 (fun k_ hk_ => trivial)) (below_size tc0_)); have n1_ := am_ (below_step tc0_ hb); clear HB; have HO103 := n0_; have HB := n1_; clear n0_ n1_; (try clear hb ho0); obtain ⟨Ao18, co18, eo18⟩ := Kd.N_slice HO103.out; subst eo18; have p108 : 0 ≤ (4 : Int) := (by omega); have q108 : 4 < (t101.length : Int) := of_decide_eq_true tc3_; obtain ⟨ad108, A108_0, c108_0, e108, hx108_0, hl108_0, hi108_0⟩ := at_L4 (Kd.N_reads' HO103.out).2.2 4 p108 q108; cases e108; obtain ⟨ce108, hce108, hMe108, hcc108⟩ := Kd.N_get HO103.out [] 4 p108 (by first | exact q108 | exact of_decide_eq_true tc3_ | (have e_ := (Kd.N_reads' HO103.out).1; omega)); obtain ⟨ua108_0, uc108_0, rfl, ul108_0, ge108_0⟩ := Kd.FK_slice_open hMe108; have hv108_0 := hcc108 0 _ rfl; rw [Nat.add_zero, show ((Kd.slice 35 (Kd.slice 3 (Kd.int .i64)))).sz = 1 from rfl, Nat.mul_one] at hv108_0; replace hv108_0 := Option.some.inj (hv108_0.symm.trans hx108_0); injection hv108_0 with hva_ hvn_ hvc_; rw [hva_] at ge108_0; rw [hvc_] at ul108_0; have HL108_0 := am_ (show Kd.V (Kd.slice 3 (Kd.int .i64)) 35 _ w.heap.size _ _ (rd_L4 t101 4) from Kd.V_mk ul108_0 ge108_0); clear hva_ hvn_ hvc_ ge108_0 ul108_0; clear hcc108 hce108; (try simp only [show (4 : Int).toNat = 4 from rfl, Nat.reduceMul, Nat.reduceEqDiff, Go.Addr.add, ↓reduceIte] at hx108_0); have qi108 : (4 < t101.length) = True := eq_true (by omega); (try rw [show ((4 : Int)).toNat = 4 from rfl] at hx108_0); have HR108_0 := am_ hi108_0; have HC108_0 := am_ hl108_0; clear hi108_0 hl108_0; replace p108 := eq_true p108; replace q108 := eq_true q108) | ((with_reducible refine gate_callee (f := 184) rfl ?_); refine goesL_ (some 29) rfl rfl Try.func184 (by kernel_rfl) rfl #[.slice A108_0 (rd_L4 t101 4).length c108_0, .slice A0 l0.length c0] rfl tc1_ ?_; (with_reducible refine (spec_weSame.calls k _ _ (rd_L4 t101 4) _ _ l0 t109 _ ?side1 ?side2 ?side3 ?side4 A16.out).mono ?_); (case side1 => repeat (first | exact (by repeat (first | (with_reducible exact HR108_0.out) | (with_reducible refine Kd.C_alloc ?_ _) | (with_reducible refine Kd.C_drewN ?_ _) | (with_reducible refine Kd.C_drew ?_) | exact HR108_0.out)) | (with_reducible refine Kd.C_alloc ?_ _) | (with_reducible refine Kd.C_drewN ?_ _) | (with_reducible refine Kd.C_drew ?_))); (case side2 => exact HC108_0.out); (case side3 => exact tc12_); (case side4 => exact HC0.out); rintro e w' ⟨rfl, ⟨nd, rfl⟩⟩; refine ⟨_, rfl, ?_⟩))
     go_ret
     exact ⟨by first | rfl | (simp [errW_none, errW_some] <;> rfl) | (simp [*, errW_none, errW_some] <;> rfl), by repeat (first | (with_reducible first | exact HB.out | apply below_alloc | apply pw_below_drewN | apply below_drew1) | exact HB.out)⟩
    ·rw [if_neg c15] at H
     exact absurd H (by simp)
   ·rw [if_neg c14] at H
    have c14b0 : (a1 == 2) = false := beq_eq_false_iff_ne.mpr c14
    have c14b1 : (a1 != 2) = true := bne_iff_ne.mpr c14
    by_cases c19 : a1 = 3
    ·rw [if_pos c19] at H
     have c19b0 : (a1 == 3) = true := beq_iff_eq.mpr c19
     have c19b1 : (a1 != 3) = false := bne_eq_false_iff_eq.mpr c19
     clear c19
     replace H := Option.bind_eq_some_iff.mp H
     obtain ⟨t110, A200, H⟩ := H
     replace H : ((spec_weSame.f k t110 l0).bind fun t113 => (some t113)) = some r := H
     have A20 := am_ A200
     clear A200
     replace H := Option.bind_eq_some_iff.mp H
     obtain ⟨t113, A210, H⟩ := H
     replace H : (some t113) = some r := H
     have A21 := am_ A210
     clear A210
     obtain rfl := Option.some.inj H
     go_enter Try.func176, Try.ntmps176
     go_wp2_with (first | ((with_reducible refine gate_callee (f := 183) rfl ?_); refine goesL_ (some 7) rfl rfl Try.func183 (by kernel_rfl) rfl #[.slice A0 l0.length c0] rfl tc1_ ?_; (with_reducible refine (spec_smSymmetries.calls k (fun k_ => k_ < w.heap.size) _ _ l0 t101 _ ?side1 A3.out).mono ?_); (case side1 => exact tc25_); rintro e w22 ⟨v102, rfl, ho0, hb⟩; refine ⟨_, rfl, ?_⟩; have n0_ := am_ (Kd.N_lower (Kd.N_mono (ok' := fun k_ => True) ho0 (fun k_ hk_ => trivial)) (below_size tc0_)); have n1_ := am_ (below_step tc0_ hb); clear HB; have HO103 := n0_; have HB := n1_; clear n0_ n1_; (try clear hb ho0)) | ((with_reducible refine gate_callee (f := 141) rfl ?_); refine goesL_ (some 33) rfl rfl Try.func141 (by kernel_rfl) rfl #[.slice A0 l0.length c0] rfl tc1_ ?_; (with_reducible refine (spec_sgTurn.calls k _ _ l0 t110 _ ?side1 ?side2 A20.out).mono ?_); (case side1 => exact tc12_); (case side2 => exact HC0.out); rintro e w23 ⟨v111, rfl, ho0, hb⟩; refine ⟨_, rfl, ?_⟩; have n0_ := am_ (Kd.N_elder' tc63_ (Kd.S_base ho0) hb); have n1_ := am_ (Kd.N_lower (Kd.N_mono (ok' := fun k_ => some k_ ≠ (v102 : Value).ownBlock) (Kd.S_N (Kd.S_bound ho0)) (fun k_ hk_ => (Kd.fresh' (Kd.N_lt tc63_) k_ hk_.2.1))) (below_size tc0_)); have n2_ := am_ (below_step tc0_ hb); clear HO103 HB; have HO103 := n0_; have HO112 := n1_; have HB := n2_; clear n0_ n1_ n2_; (try clear hb ho0); obtain ⟨Ao24, co24, eo24⟩ := Kd.N_slice HO112.out; subst eo24) | ((with_reducible refine gate_callee (f := 184) rfl ?_); refine goesL_ (some 35) rfl rfl Try.func184 (by kernel_rfl) rfl #[.slice Ao24 t110.length co24, .slice A0 l0.length c0] rfl tc1_ ?_; (with_reducible refine (spec_weSame.calls k _ _ t110 _ _ l0 t113 _ ?side1 ?side2 ?side3 ?side4 A21.out).mono ?_); (case side1 => repeat (first | exact (Kd.N_reads' HO112.out).2.2 | (with_reducible refine Kd.C_alloc ?_ _) | (with_reducible refine Kd.C_drewN ?_ _) | (with_reducible refine Kd.C_drew ?_))); (case side2 => exact (Kd.N_reads' HO112.out).2.1); (case side3 => exact tc12_); (case side4 => exact HC0.out); rintro e w' ⟨rfl, ⟨nd, rfl⟩⟩; refine ⟨_, rfl, ?_⟩))
     go_ret
     exact ⟨by first | rfl | (simp [errW_none, errW_some] <;> rfl) | (simp [*, errW_none, errW_some] <;> rfl), by repeat (first | (with_reducible first | exact HB.out | apply below_alloc | apply pw_below_drewN | apply below_drew1) | exact HB.out)⟩
    ·rw [if_neg c19] at H
     have c19b0 : (a1 == 3) = false := beq_eq_false_iff_ne.mpr c19
     have c19b1 : (a1 != 3) = true := bne_iff_ne.mpr c19
     by_cases c25 : 4 < (t101.length : Int)
     ·rw [if_pos c25] at H
      have c25b0 : decide (4 < (t101.length : Int)) = true := decide_eq_true c25
      have c25b1 : decide (4 < t101.length) = true := decide_eq_true (by omega)
      clear c25
      replace H := Option.bind_eq_some_iff.mp H
      obtain ⟨t115, A260, H⟩ := H
      replace H : (if t115 = true then (if 6 < (t101.length : Int) then ((spec_weSame.f k (rd_L4 t101 6) l0).bind fun t117 => (some t117)) else (none)) else (some false)) = some r := H
      have A26 := am_ A260
      clear A260
      by_cases c27 : t115 = true
      ·subst c27
       have H1 : (if 6 < (t101.length : Int) then ((spec_weSame.f k (rd_L4 t101 6) l0).bind fun t117 => (some t117)) else (none)) = some r := by rw [if_pos rfl] at H; exact H
       clear H
       have H := H1
       clear H1
       by_cases c28 : 6 < (t101.length : Int)
       ·rw [if_pos c28] at H
        have c28b0 : decide (6 < (t101.length : Int)) = true := decide_eq_true c28
        have c28b1 : decide (6 < t101.length) = true := decide_eq_true (by omega)
        clear c28
        replace H := Option.bind_eq_some_iff.mp H
        obtain ⟨t117, A290, H⟩ := H
        replace H : (some t117) = some r := H
        have A29 := am_ A290
        clear A290
        obtain rfl := Option.some.inj H
        go_enter Try.func176, Try.ntmps176
        go_wp2_with (first | ((with_reducible refine gate_callee (f := 183) rfl ?_); refine goesL_ (some 7) rfl rfl Try.func183 (by kernel_rfl) rfl #[.slice A0 l0.length c0] rfl tc1_ ?_; (with_reducible refine (spec_smSymmetries.calls k (fun k_ => k_ < w.heap.size) _ _ l0 t101 _ ?side1 A3.out).mono ?_); (case side1 => exact tc25_); rintro e w30 ⟨v102, rfl, ho0, hb⟩; refine ⟨_, rfl, ?_⟩; have n0_ := am_ (Kd.N_lower (Kd.N_mono (ok' := fun k_ => True) ho0 (fun k_ hk_ => trivial)) (below_size tc0_)); have n1_ := am_ (below_step tc0_ hb); clear HB; have HO103 := n0_; have HB := n1_; clear n0_ n1_; (try clear hb ho0); obtain ⟨Ao31, co31, eo31⟩ := Kd.N_slice HO103.out; subst eo31; have p114 : 0 ≤ (4 : Int) := (by omega); have q114 : 4 < (t101.length : Int) := of_decide_eq_true tc3_; obtain ⟨ad114, A114_0, c114_0, e114, hx114_0, hl114_0, hi114_0⟩ := at_L4 (Kd.N_reads' HO103.out).2.2 4 p114 q114; cases e114; obtain ⟨ce114, hce114, hMe114, hcc114⟩ := Kd.N_get HO103.out [] 4 p114 (by first | exact q114 | exact of_decide_eq_true tc3_ | (have e_ := (Kd.N_reads' HO103.out).1; omega)); obtain ⟨ua114_0, uc114_0, rfl, ul114_0, ge114_0⟩ := Kd.FK_slice_open hMe114; have hv114_0 := hcc114 0 _ rfl; rw [Nat.add_zero, show ((Kd.slice 35 (Kd.slice 3 (Kd.int .i64)))).sz = 1 from rfl, Nat.mul_one] at hv114_0; replace hv114_0 := Option.some.inj (hv114_0.symm.trans hx114_0); injection hv114_0 with hva_ hvn_ hvc_; rw [hva_] at ge114_0; rw [hvc_] at ul114_0; have HL114_0 := am_ (show Kd.V (Kd.slice 3 (Kd.int .i64)) 35 _ w.heap.size _ _ (rd_L4 t101 4) from Kd.V_mk ul114_0 ge114_0); clear hva_ hvn_ hvc_ ge114_0 ul114_0; clear hcc114 hce114; (try simp only [show (4 : Int).toNat = 4 from rfl, Nat.reduceMul, Nat.reduceEqDiff, Go.Addr.add, ↓reduceIte] at hx114_0); have qi114 : (4 < t101.length) = True := eq_true (by omega); (try rw [show ((4 : Int)).toNat = 4 from rfl] at hx114_0); have HR114_0 := am_ hi114_0; have HC114_0 := am_ hl114_0; clear hi114_0 hl114_0; replace p114 := eq_true p114; replace q114 := eq_true q114) | ((with_reducible refine gate_callee (f := 184) rfl ?_); refine goesL_ (some 40) rfl rfl Try.func184 (by kernel_rfl) rfl #[.slice A114_0 (rd_L4 t101 4).length c114_0, .slice A0 l0.length c0] rfl tc1_ ?_; (with_reducible refine (spec_weSame.calls k _ _ (rd_L4 t101 4) _ _ l0 true _ ?side1 ?side2 ?side3 ?side4 A26.out).mono ?_); (case side1 => repeat (first | exact (by repeat (first | (with_reducible exact HR114_0.out) | (with_reducible refine Kd.C_alloc ?_ _) | (with_reducible refine Kd.C_drewN ?_ _) | (with_reducible refine Kd.C_drew ?_) | exact HR114_0.out)) | (with_reducible refine Kd.C_alloc ?_ _) | (with_reducible refine Kd.C_drewN ?_ _) | (with_reducible refine Kd.C_drew ?_))); (case side2 => exact HC114_0.out); (case side3 => exact tc12_); (case side4 => exact HC0.out); rintro e w' ⟨rfl, ⟨nd, rfl⟩⟩; refine ⟨_, rfl, ?_⟩; have p116 : 0 ≤ (6 : Int) := (by omega); have q116 : 6 < (t101.length : Int) := of_decide_eq_true tc3_; obtain ⟨ad116, A116_0, c116_0, e116, hx116_0, hl116_0, hi116_0⟩ := at_L4 (Kd.N_reads' HO103.out).2.2 6 p116 q116; obtain rfl : ad114 = ad116 := (by injection e116); obtain ⟨ce116, hce116, hMe116, hcc116⟩ := Kd.N_get HO103.out [] 6 p116 (by first | exact q116 | exact of_decide_eq_true tc3_ | (have e_ := (Kd.N_reads' HO103.out).1; omega)); obtain ⟨ua116_0, uc116_0, rfl, ul116_0, ge116_0⟩ := Kd.FK_slice_open hMe116; have hv116_0 := hcc116 0 _ rfl; rw [Nat.add_zero, show ((Kd.slice 35 (Kd.slice 3 (Kd.int .i64)))).sz = 1 from rfl, Nat.mul_one] at hv116_0; replace hv116_0 := Option.some.inj (hv116_0.symm.trans hx116_0); injection hv116_0 with hva_ hvn_ hvc_; rw [hva_] at ge116_0; rw [hvc_] at ul116_0; have HL116_0 := am_ (show Kd.V (Kd.slice 3 (Kd.int .i64)) 35 _ w.heap.size _ _ (rd_L4 t101 6) from Kd.V_mk ul116_0 ge116_0); clear hva_ hvn_ hvc_ ge116_0 ul116_0; clear hcc116 hce116; (try simp only [show (6 : Int).toNat = 6 from rfl, Nat.reduceMul, Nat.reduceEqDiff, Go.Addr.add, ↓reduceIte] at hx116_0); have qi116 : (6 < t101.length) = True := eq_true (by omega); (try rw [show ((6 : Int)).toNat = 6 from rfl] at hx116_0); have HR116_0 := am_ hi116_0; have HC116_0 := am_ hl116_0; clear hi116_0 hl116_0; replace p116 := eq_true p116; replace q116 := eq_true q116) | (go_at_call 184; (with_reducible refine (spec_weSame.calls k _ _ (rd_L4 t101 6) _ _ l0 t117 _ ?side1 ?side2 ?side3 ?side4 A29.out).mono ?_); (case side1 => repeat (first | exact (by repeat (first | (with_reducible exact HR116_0.out) | (with_reducible refine Kd.C_alloc ?_ _) | (with_reducible refine Kd.C_drewN ?_ _) | (with_reducible refine Kd.C_drew ?_) | exact HR116_0.out)) | (with_reducible refine Kd.C_alloc ?_ _) | (with_reducible refine Kd.C_drewN ?_ _) | (with_reducible refine Kd.C_drew ?_))); (case side2 => exact HC116_0.out); (case side3 => exact tc33_); (case side4 => exact HC0.out); rintro e w' ⟨rfl, ⟨nd, rfl⟩⟩))
        go_ret
        exact ⟨by first | rfl | (simp [errW_none, errW_some] <;> rfl) | (simp [*, errW_none, errW_some] <;> rfl), by repeat (first | (with_reducible first | exact HB.out | apply below_alloc | apply pw_below_drewN | apply below_drew1) | exact HB.out)⟩
       ·rw [if_neg c28] at H
        exact absurd H (by simp)
      ·replace c27 := Bool.eq_false_iff.mpr c27
       subst c27
       have H1 : (some false) = some r := by rw [if_neg (show ¬ (false = true) by decide)] at H; exact H
       clear H
       have H := H1
       clear H1
       obtain rfl := Option.some.inj H
       go_enter Try.func176, Try.ntmps176
       go_wp2_with (first | ((with_reducible refine gate_callee (f := 183) rfl ?_); refine goesL_ (some 7) rfl rfl Try.func183 (by kernel_rfl) rfl #[.slice A0 l0.length c0] rfl tc1_ ?_; (with_reducible refine (spec_smSymmetries.calls k (fun k_ => k_ < w.heap.size) _ _ l0 t101 _ ?side1 A3.out).mono ?_); (case side1 => exact tc25_); rintro e w32 ⟨v102, rfl, ho0, hb⟩; refine ⟨_, rfl, ?_⟩; have n0_ := am_ (Kd.N_lower (Kd.N_mono (ok' := fun k_ => True) ho0 (fun k_ hk_ => trivial)) (below_size tc0_)); have n1_ := am_ (below_step tc0_ hb); clear HB; have HO103 := n0_; have HB := n1_; clear n0_ n1_; (try clear hb ho0); obtain ⟨Ao33, co33, eo33⟩ := Kd.N_slice HO103.out; subst eo33; have p114 : 0 ≤ (4 : Int) := (by omega); have q114 : 4 < (t101.length : Int) := of_decide_eq_true tc3_; obtain ⟨ad114, A114_0, c114_0, e114, hx114_0, hl114_0, hi114_0⟩ := at_L4 (Kd.N_reads' HO103.out).2.2 4 p114 q114; cases e114; obtain ⟨ce114, hce114, hMe114, hcc114⟩ := Kd.N_get HO103.out [] 4 p114 (by first | exact q114 | exact of_decide_eq_true tc3_ | (have e_ := (Kd.N_reads' HO103.out).1; omega)); obtain ⟨ua114_0, uc114_0, rfl, ul114_0, ge114_0⟩ := Kd.FK_slice_open hMe114; have hv114_0 := hcc114 0 _ rfl; rw [Nat.add_zero, show ((Kd.slice 35 (Kd.slice 3 (Kd.int .i64)))).sz = 1 from rfl, Nat.mul_one] at hv114_0; replace hv114_0 := Option.some.inj (hv114_0.symm.trans hx114_0); injection hv114_0 with hva_ hvn_ hvc_; rw [hva_] at ge114_0; rw [hvc_] at ul114_0; have HL114_0 := am_ (show Kd.V (Kd.slice 3 (Kd.int .i64)) 35 _ w.heap.size _ _ (rd_L4 t101 4) from Kd.V_mk ul114_0 ge114_0); clear hva_ hvn_ hvc_ ge114_0 ul114_0; clear hcc114 hce114; (try simp only [show (4 : Int).toNat = 4 from rfl, Nat.reduceMul, Nat.reduceEqDiff, Go.Addr.add, ↓reduceIte] at hx114_0); have qi114 : (4 < t101.length) = True := eq_true (by omega); (try rw [show ((4 : Int)).toNat = 4 from rfl] at hx114_0); have HR114_0 := am_ hi114_0; have HC114_0 := am_ hl114_0; clear hi114_0 hl114_0; replace p114 := eq_true p114; replace q114 := eq_true q114) | ((with_reducible refine gate_callee (f := 184) rfl ?_); refine goesL_ (some 40) rfl rfl Try.func184 (by kernel_rfl) rfl #[.slice A114_0 (rd_L4 t101 4).length c114_0, .slice A0 l0.length c0] rfl tc1_ ?_; (with_reducible refine (spec_weSame.calls k _ _ (rd_L4 t101 4) _ _ l0 false _ ?side1 ?side2 ?side3 ?side4 A26.out).mono ?_); (case side1 => repeat (first | exact (by repeat (first | (with_reducible exact HR114_0.out) | (with_reducible refine Kd.C_alloc ?_ _) | (with_reducible refine Kd.C_drewN ?_ _) | (with_reducible refine Kd.C_drew ?_) | exact HR114_0.out)) | (with_reducible refine Kd.C_alloc ?_ _) | (with_reducible refine Kd.C_drewN ?_ _) | (with_reducible refine Kd.C_drew ?_))); (case side2 => exact HC114_0.out); (case side3 => exact tc12_); (case side4 => exact HC0.out); rintro e w' ⟨rfl, ⟨nd, rfl⟩⟩; refine ⟨_, rfl, ?_⟩))
       go_ret
       exact ⟨by first | rfl | (simp [errW_none, errW_some] <;> rfl) | (simp [*, errW_none, errW_some] <;> rfl), by repeat (first | (with_reducible first | exact HB.out | apply below_alloc | apply pw_below_drewN | apply below_drew1) | exact HB.out)⟩
     ·rw [if_neg c25] at H
      exact absurd H (by simp)

/-! ### spec_smList: function 114 -/
def spec_smList.l0 : Nat → Int → List (List (List Int)) → List (List (List Int)) → Int → Int → Option ((List (List (List Int))))
 | 0, _, _, _, _, _ => none
 | k + 1, x1, x5, x9, x10, x11 => if x11 < x10 then (if 0 ≤ x11 then (if x11 < (x9.length : Int) then ((spec_smHas.f k (rd_L4 x9 x11) x1).bind fun t105 => (if t105 = true then (if x5.length < 5864062014805 then (spec_smList.l0 k x1 (x5 ++ [rd_L4 x9 x11]) x9 x10 (wrap64 (x11 + 1))) else (none)) else (spec_smList.l0 k x1 x5 x9 x10 (wrap64 (x11 + 1))))) else (none)) else (none)) else (some x5)
def spec_smList.f (k : Nat) (a0 : Int) (a1 : Int) : Option ((List (List (List Int)))) := (spec_weAll.f k a0).bind fun t101 => (spec_smList.l0 k a1 ([] : List (List (List Int))) t101 (t101.length : Int) 0)
set_option maxHeartbeats 8000000 in
set_option maxRecDepth 100000 in
theorem spec_smList.calls (k : Nat) (a0 : Int) (a1 : Int) (r : List (List (List Int))) (w : World) (h : spec_smList.f k a0 a1 = some r) :
  Calls Try.prog 114 #[.int .i64 a0, .int .i64 a1] w fun e w' => ∃ v0_ : Value, e = .returned (v0_) ∧ Kd.N (Kd.slice 35 (Kd.slice 3 (Kd.int .i64))) 24 w' w.heap.size (fun k_ => (w.heap.size ≤ k_)) v0_ r ∧ Below w.heap.size w w' := by
 have HB := am_ (Below.refl w.heap.size w)
 have H : ((spec_weAll.f k a0).bind fun t101 => (spec_smList.l0 k a1 ([] : List (List (List Int))) t101 (t101.length : Int) 0)) = some r := h
 clear h
 replace H := Option.bind_eq_some_iff.mp H
 obtain ⟨t101, A30, H⟩ := H
 replace H : (spec_smList.l0 k a1 ([] : List (List (List Int))) t101 (t101.length : Int) 0) = some r := H
 have A3 := am_ A30
 clear A30
 have H' := am_ H
 clear H
 go_enter Try.func114, Try.ntmps114
 go_wp2_with (first | ((with_reducible refine gate_callee (f := 129) rfl ?_); refine goesL_ (some 9) rfl rfl Try.func129 (by kernel_rfl) rfl #[.int .i64 a0] rfl tc1_ ?_; (with_reducible refine (spec_weAll.calls k a0 t101 _ A3.out).mono ?_); rintro e w4 ⟨v102, rfl, ho0, hb⟩; refine ⟨_, rfl, ?_⟩; have n0_ := am_ (Kd.N_lower (Kd.N_mono (ok' := fun k_ => (w.heap.size ≤ k_)) ho0 (fun k_ hk_ => (Nat.le_trans (below_size tc0_) hk_))) (below_size tc0_)); have n1_ := am_ (below_step tc0_ hb); clear HB; have HO103 := n0_; have HB := n1_; clear n0_ n1_; (try clear hb ho0); obtain ⟨Ao5, co5, eo5⟩ := Kd.N_slice HO103.out; subst eo5))
 go_loopg [5, 11] k (fun kq v5 v11 w' => ∃ (x5_1 : List (List (List Int))) (x11_1 : Int), v11 = .int .i64 x11_1 ∧ Aside0 (spec_smList.l0 kq a1 x5_1 t101 (t101.length : Int) x11_1 = some r) ∧ Aside0 (kq ≤ k) ∧ Aside0 (Kd.N (Kd.slice 35 (Kd.slice 3 (Kd.int .i64))) 24 w' w.heap.size (fun k_ => (w.heap.size ≤ k_) ∧ some k_ ≠ ((.slice Ao5 t101.length co5) : Value).ownBlock) v5 x5_1) ∧ Aside0 (Kd.N (Kd.slice 35 (Kd.slice 3 (Kd.int .i64))) 24 w' w.heap.size (fun k_ => (w.heap.size ≤ k_) ∧ some k_ ≠ (v5 : Value).ownBlock) (.slice Ao5 t101.length co5) t101) ∧ Aside0 (Below w.heap.size w w'))
 case atStart => exact ⟨(([] : List (List (List Int)))), (0), tc7_, H', ⟨Nat.le_refl _⟩, ⟨by first | exact Kd.R_nil _ _ _ _ _ | exact Kd.N_nil _ _ _ _ _ | exact Kd.V_nil _ _ _ _ _ | exact Kd.Q_nil _ _ _ _ _ | exact Kd.S_nil _ _ _ _ _⟩, ⟨by (with_reducible repeat (first | apply Kd.N_alloc | apply Kd.N_drewN | apply Kd.N_drew)); exact Kd.N_mono HO103.out (fun _ hk => ⟨hk, (by simp [Value.ownBlock])⟩)⟩, ⟨by repeat (first | (with_reducible first | exact HB.out | apply below_alloc | apply pw_below_drewN | apply below_drew1) | exact HB.out)⟩⟩
 case round =>
  clear H'
  try clear c1
  try clear p2
  obtain ⟨x5_1, x11_1, rfl, HA, HK1, HO_5, HO_9, HB⟩ := hrel
  cases gk with
  | zero => exact absurd HA.out (by simp [spec_smList.l0])
  | succ k1 =>
   have H := HA.out
   clear HA
   simp only [spec_smList.l0] at H
   by_cases c6 : x11_1 < (t101.length : Int)
   ·rw [if_pos c6] at H
    have c6b0 : decide (x11_1 < (t101.length : Int)) = true := decide_eq_true c6
    clear c6
    by_cases c7 : 0 ≤ x11_1
    ·rw [if_pos c7] at H
     have c7b0 : decide (0 ≤ x11_1) = true := decide_eq_true c7
     clear c7
     by_cases c8 : x11_1 < (t101.length : Int)
     ·rw [if_pos c8] at H
      have c8b0 : decide (x11_1 < (t101.length : Int)) = true := decide_eq_true c8
      clear c8
      replace H := Option.bind_eq_some_iff.mp H
      obtain ⟨t105, A90, H⟩ := H
      replace H : (if t105 = true then (if x5_1.length < 5864062014805 then (spec_smList.l0 k1 a1 (x5_1 ++ [rd_L4 t101 x11_1]) t101 (t101.length : Int) (wrap64 (x11_1 + 1))) else (none)) else (spec_smList.l0 k1 a1 x5_1 t101 (t101.length : Int) (wrap64 (x11_1 + 1)))) = some r := H
      have A9 := am_ A90
      clear A90
      by_cases c10 : t105 = true
      ·subst c10
       have H1 : (if x5_1.length < 5864062014805 then (spec_smList.l0 k1 a1 (x5_1 ++ [rd_L4 t101 x11_1]) t101 (t101.length : Int) (wrap64 (x11_1 + 1))) else (none)) = some r := by rw [if_pos rfl] at H; exact H
       clear H
       have H := H1
       clear H1
       by_cases c11 : x5_1.length < 5864062014805
       ·rw [if_pos c11] at H
        have LMc11 := am_ c11
        clear c11
        obtain ⟨y106, hy106⟩ : ∃ y_ : List (List (List Int)), y_ = (x5_1 ++ [rd_L4 t101 x11_1]) := ⟨_, rfl⟩
        replace H : (spec_smList.l0 k1 a1 y106 t101 (t101.length : Int) (wrap64 (x11_1 + 1))) = some r := by first | (rw [hy106]; with_reducible exact H) | (have H2_ := (Option.bind_some _ _).symm.trans H; rw [hy106]; with_reducible exact H2_) | (have H2_ := (Option.bind_some _ _).symm.trans H; with_reducible exact H2_) | with_reducible exact H | (rw [hy106]; exact H) | exact H
        have Ny106 := am_ hy106
        clear hy106
        have H' := am_ H
        clear H
        have p104 : 0 ≤ (x11_1 : Int) := of_decide_eq_true tc3_
        have q104 : x11_1 < (t101.length : Int) := of_decide_eq_true tc3_
        obtain ⟨ad104, A104_0, c104_0, e104, hx104_0, hl104_0, hi104_0⟩ := at_L4 (Kd.N_reads' HO_9.out).2.2 x11_1 p104 q104
        cases e104
        obtain ⟨ce104, hce104, hMe104, hcc104⟩ := Kd.N_get HO_9.out [] x11_1 p104 (by first | exact q104 | exact of_decide_eq_true tc3_ | (have e_ := (Kd.N_reads' HO_9.out).1; omega))
        obtain ⟨ua104_0, uc104_0, rfl, ul104_0, ge104_0⟩ := Kd.FK_slice_open hMe104
        have hv104_0 := hcc104 0 _ rfl
        rw [Nat.add_zero, show ((Kd.slice 35 (Kd.slice 3 (Kd.int .i64)))).sz = 1 from rfl, Nat.mul_one] at hv104_0
        replace hv104_0 := Option.some.inj (hv104_0.symm.trans hx104_0)
        injection hv104_0 with hva_ hvn_ hvc_
        rw [hva_] at ge104_0
        rw [hvc_] at ul104_0
        have HL104_0 := am_ (show Kd.V (Kd.slice 3 (Kd.int .i64)) 35 _ w.heap.size _ _ (rd_L4 t101 x11_1) from Kd.V_mk ul104_0 ge104_0)
        clear hva_ hvn_ hvc_ ge104_0 ul104_0
        clear hcc104 hce104
        have HR104_0 := am_ hi104_0
        have HC104_0 := am_ hl104_0
        clear hi104_0 hl104_0
        replace p104 := eq_true p104
        replace q104 := eq_true q104
        go_wp2_with (first | ((with_reducible refine gate_callee (f := 176) rfl ?_); refine goesL_ (some 17) rfl rfl Try.func176 (by kernel_rfl) rfl #[.slice A104_0 (rd_L4 t101 x11_1).length c104_0, .int .i64 a1] rfl tc1_ ?_; (with_reducible refine (spec_smHas.calls k1 _ _ (rd_L4 t101 x11_1) a1 true _ ?side1 ?side2 A9.out).mono ?_); (case side1 => exact tc28_); (case side2 => exact HC104_0.out); rintro e w12 ⟨rfl, hb⟩; refine ⟨_, rfl, ?_⟩; have n0_ := am_ (Kd.N_below tc69_ hb); have n1_ := am_ (Kd.N_below tc50_ hb); have n2_ := am_ (Kd.V_below (by (with_reducible repeat (first | apply Kd.V_alloc | apply Kd.V_drewN | apply Kd.V_drew)); exact HL104_0.out) hb); have n3_ := am_ (Kd.C_below tc36_ hb); have n4_ := am_ (below_step tc0_ hb); clear HO_5 HO_9; clear HL104_0 HR104_0 HB; have HO_5 := n0_; have HO_9 := n1_; have HL104_0 := n2_; have HR104_0 := n3_; have HB := n4_; clear n0_ n1_ n2_ n3_ n4_; (try clear hb)) | ((with_reducible refine gate_builtin (b := .append) (xs := #[.tmp 18, .tmp 20]) rfl ?_); at_builtin; refine Kd.N_append (Kd.slice 35 (Kd.slice 3 (Kd.int .i64))) (w0 := w) w.heap.size rfl (.tmp 18) (.tmp 20) 50 24 (.slice none 0 0) 24 rfl Try.underlying50 info24 rfl (by decide) (by omega) u5 x5_1 (rd_L4 t101 x11_1) [.slice A104_0 (rd_L4 t101 x11_1).length c104_0] (fun k_ => (w.heap.size ≤ k_) ∧ some k_ ≠ (.slice (some ad104) t101.length co5 : Value).ownBlock) (fun k_ => ((fun k_ => (w.heap.size ≤ k_) ∧ some k_ ≠ (.slice (some ad104) t101.length co5 : Value).ownBlock)) k_ ∧ some k_ ≠ (u5 : Value).ownBlock) rfl rfl ?aP (fun _ hk => hk) ?aF ?aO ?aB ?aS ?aL ?_; (case aP => exact (Kd.FK_slice_mk (Kd.V_reads' (Kd.V_mono (ok' := (fun k_ => ((fun k_ => (w.heap.size ≤ k_) ∧ some k_ ≠ (.slice (some ad104) t101.length co5 : Value).ownBlock)) k_ ∧ some k_ ≠ (u5 : Value).ownBlock)) (HL104_0.out) (fun k_ hk => ⟨⟨hk.1.1, hk.2⟩, hk.1.2⟩))).2.1 (Kd.V_F (Kd.V_mono (ok' := (fun k_ => ((fun k_ => (w.heap.size ≤ k_) ∧ some k_ ≠ (.slice (some ad104) t101.length co5 : Value).ownBlock)) k_ ∧ some k_ ≠ (u5 : Value).ownBlock)) (HL104_0.out) (fun k_ hk => ⟨⟨hk.1.1, hk.2⟩, hk.1.2⟩))))); (case aB => exact tc13_); (case aF => exact (fun k_ hk => ⟨(Nat.le_trans (below_size tc0_) hk), Kd.fresh' (Kd.N_lt tc50_) k_ hk⟩)); (case aO => exact tc69_); (case aS => exact tc16_); (case aL => have := LMc11.out; omega); intro v107 w13 ho hb hg hat; rw [← Ny106.out] at ho; have n0_ := am_ (Kd.N_afterv (ok := (fun k_ => (w.heap.size ≤ k_))) tc50_ hg hat); have n1_ := am_ (Kd.V_afterv (ok := (fun k_ => (w.heap.size ≤ k_) ∧ some k_ ≠ (.slice (some ad104) t101.length co5 : Value).ownBlock)) (by (with_reducible repeat (first | apply Kd.V_alloc | apply Kd.V_drewN | apply Kd.V_drew)); exact Kd.V_mono HL104_0.out (fun _ hk => ⟨⟨hk.1.1, hk.2⟩, hk.1.2⟩)) hg hat); have n2_ := am_ (hb); have n3_ := am_ (ho); clear HO_9 HL104_0; clear HB HO_5; have HO_9 := n0_; have HL104_0 := n1_; have HB := n2_; have HO108 := n3_; clear n0_ n1_ n2_ n3_; clear ho hb hg hat))
        go_roundg k1
        case measure => have := HK1.out; omega
        case rel => exact ⟨(y106), (wrap64 (x11_1 + 1)), tc7_, H', ⟨by have := HK1.out; omega⟩, ⟨by (with_reducible repeat (first | apply Kd.N_alloc | apply Kd.N_drewN | apply Kd.N_drew)); exact HO108.out⟩, ⟨by (with_reducible repeat (first | apply Kd.N_alloc | apply Kd.N_drewN | apply Kd.N_drew)); exact HO_9.out⟩, ⟨by repeat (first | (with_reducible first | exact HB.out | apply below_alloc | apply pw_below_drewN | apply below_drew1) | exact HB.out)⟩⟩
       ·rw [if_neg c11] at H
        exact absurd H (by simp)
      ·replace c10 := Bool.eq_false_iff.mpr c10
       subst c10
       have H1 : (spec_smList.l0 k1 a1 x5_1 t101 (t101.length : Int) (wrap64 (x11_1 + 1))) = some r := by rw [if_neg (show ¬ (false = true) by decide)] at H; exact H
       clear H
       have H := H1
       clear H1
       have H' := am_ H
       clear H
       have p104 : 0 ≤ (x11_1 : Int) := of_decide_eq_true tc3_
       have q104 : x11_1 < (t101.length : Int) := of_decide_eq_true tc3_
       obtain ⟨ad104, A104_0, c104_0, e104, hx104_0, hl104_0, hi104_0⟩ := at_L4 (Kd.N_reads' HO_9.out).2.2 x11_1 p104 q104
       cases e104
       obtain ⟨ce104, hce104, hMe104, hcc104⟩ := Kd.N_get HO_9.out [] x11_1 p104 (by first | exact q104 | exact of_decide_eq_true tc3_ | (have e_ := (Kd.N_reads' HO_9.out).1; omega))
       obtain ⟨ua104_0, uc104_0, rfl, ul104_0, ge104_0⟩ := Kd.FK_slice_open hMe104
       have hv104_0 := hcc104 0 _ rfl
       rw [Nat.add_zero, show ((Kd.slice 35 (Kd.slice 3 (Kd.int .i64)))).sz = 1 from rfl, Nat.mul_one] at hv104_0
       replace hv104_0 := Option.some.inj (hv104_0.symm.trans hx104_0)
       injection hv104_0 with hva_ hvn_ hvc_
       rw [hva_] at ge104_0
       rw [hvc_] at ul104_0
       have HL104_0 := am_ (show Kd.V (Kd.slice 3 (Kd.int .i64)) 35 _ w.heap.size _ _ (rd_L4 t101 x11_1) from Kd.V_mk ul104_0 ge104_0)
       clear hva_ hvn_ hvc_ ge104_0 ul104_0
       clear hcc104 hce104
       have HR104_0 := am_ hi104_0
       have HC104_0 := am_ hl104_0
       clear hi104_0 hl104_0
       replace p104 := eq_true p104
       replace q104 := eq_true q104
       go_wp2_with (first | ((with_reducible refine gate_callee (f := 176) rfl ?_); refine goesL_ (some 17) rfl rfl Try.func176 (by kernel_rfl) rfl #[.slice A104_0 (rd_L4 t101 x11_1).length c104_0, .int .i64 a1] rfl tc1_ ?_; (with_reducible refine (spec_smHas.calls k1 _ _ (rd_L4 t101 x11_1) a1 false _ ?side1 ?side2 A9.out).mono ?_); (case side1 => exact tc28_); (case side2 => exact HC104_0.out); rintro e w14 ⟨rfl, hb⟩; refine ⟨_, rfl, ?_⟩; have n0_ := am_ (Kd.N_below tc69_ hb); have n1_ := am_ (Kd.N_below tc50_ hb); have n2_ := am_ (Kd.V_below (by (with_reducible repeat (first | apply Kd.V_alloc | apply Kd.V_drewN | apply Kd.V_drew)); exact HL104_0.out) hb); have n3_ := am_ (Kd.C_below tc36_ hb); have n4_ := am_ (below_step tc0_ hb); clear HO_5 HO_9; clear HL104_0 HR104_0 HB; have HO_5 := n0_; have HO_9 := n1_; have HL104_0 := n2_; have HR104_0 := n3_; have HB := n4_; clear n0_ n1_ n2_ n3_ n4_; (try clear hb)))
       go_roundg k1
       case measure => have := HK1.out; omega
       case rel => exact ⟨(x5_1), (wrap64 (x11_1 + 1)), tc7_, H', ⟨by have := HK1.out; omega⟩, ⟨by (with_reducible repeat (first | apply Kd.N_alloc | apply Kd.N_drewN | apply Kd.N_drew)); exact HO_5.out⟩, ⟨by (with_reducible repeat (first | apply Kd.N_alloc | apply Kd.N_drewN | apply Kd.N_drew)); exact HO_9.out⟩, ⟨by repeat (first | (with_reducible first | exact HB.out | apply below_alloc | apply pw_below_drewN | apply below_drew1) | exact HB.out)⟩⟩
     ·rw [if_neg c8] at H
      exact absurd H (by simp)
    ·rw [if_neg c7] at H
     exact absurd H (by simp)
   ·rw [if_neg c6] at H
    have c6b0 : decide (x11_1 < (t101.length : Int)) = false := decide_eq_false c6
    clear c6
    obtain rfl := Option.some.inj H
    go_wp2
    go_ret
    exact ⟨_, by first | rfl | (simp [errW_none, errW_some] <;> rfl) | (simp [*, errW_none, errW_some] <;> rfl), by (with_reducible repeat (first | apply Kd.N_alloc | apply Kd.N_drewN | apply Kd.N_drew)); exact Kd.N_mono HO_5.out (fun _ hk => hk.1), by repeat (first | (with_reducible first | exact HB.out | apply below_alloc | apply pw_below_drewN | apply below_drew1) | exact HB.out)⟩

/-! ### spec_smCopy: function 115 -/
def spec_smCopy.l0 : Nat → List (List Int) → List (List Int) → Int → Int → Option ((List (List Int)))
 | 0, _, _, _, _ => none
 | k + 1, x3, x6, x7, x8 => if x8 < x7 then (if 0 ≤ x8 then (if x8 < (x6.length : Int) then ((spec_l1Own.f (rd_L3 x6 x8)).bind fun t102 => (if x3.length < 5864062014805 then (spec_smCopy.l0 k (x3 ++ [t102]) x6 x7 (wrap64 (x8 + 1))) else (none))) else (none)) else (none)) else (some x3)
def spec_smCopy.f (k : Nat) (l0 : List (List Int)) : Option ((List (List Int))) := spec_smCopy.l0 k ([] : List (List Int)) l0 (l0.length : Int) 0
set_option maxHeartbeats 8000000 in
set_option maxRecDepth 100000 in
theorem spec_smCopy.calls (k : Nat) (A0 : Option Addr) (c0 : Nat) (l0 : List (List Int)) (r : List (List Int)) (w : World) (hr0 : Kd.C (Kd.slice 3 (Kd.int .i64)) w A0 l0.length l0) (hc0 : l0.length ≤ c0) (h : spec_smCopy.f k l0 = some r) :
  Calls Try.prog 115 #[.slice A0 l0.length c0] w fun e w' => ∃ v0_ : Value, e = .returned (v0_) ∧ Kd.S (Kd.slice 3 (Kd.int .i64)) 35 w' w.heap.size (fun _ => True) v0_ r ∧ Below w.heap.size w w' := by
 have HR0 := am_ hr0
 have HC0 := am_ hc0
 clear hr0 hc0
 have HB := am_ (Below.refl w.heap.size w)
 have H : (spec_smCopy.l0 k ([] : List (List Int)) l0 (l0.length : Int) 0) = some r := h
 clear h
 have H' := am_ H
 clear H
 go_enter Try.func115, Try.ntmps115
 go_wp2
 go_loopg [3, 8] k (fun kq v3 v8 w' => ∃ (x3_1 : List (List Int)) (x8_1 : Int), v8 = .int .i64 x8_1 ∧ Aside0 (spec_smCopy.l0 kq x3_1 l0 (l0.length : Int) x8_1 = some r) ∧ Aside0 (kq ≤ k) ∧ Aside0 (Kd.S (Kd.slice 3 (Kd.int .i64)) 35 w' w.heap.size (fun _ => True) v3 x3_1) ∧ Aside0 (Below w.heap.size w w'))
 case atStart => exact ⟨(([] : List (List Int))), (0), tc7_, H', ⟨Nat.le_refl _⟩, ⟨by first | exact Kd.S_nil _ _ _ _ _ | exact Kd.N_nil _ _ _ _ _ | exact Kd.V_nil _ _ _ _ _ | exact Kd.Q_nil _ _ _ _ _ | exact Kd.R_nil _ _ _ _ _⟩, ⟨by repeat (first | (with_reducible first | exact HB.out | apply below_alloc | apply pw_below_drewN | apply below_drew1) | exact HB.out)⟩⟩
 case round =>
  clear H'
  try clear c1
  obtain ⟨x3_1, x8_1, rfl, HA, HK1, HO_3, HB⟩ := hrel
  cases gk with
  | zero => exact absurd HA.out (by simp [spec_smCopy.l0])
  | succ k1 =>
   have H := HA.out
   clear HA
   simp only [spec_smCopy.l0] at H
   by_cases c2 : x8_1 < (l0.length : Int)
   ·rw [if_pos c2] at H
    have c2b0 : decide (x8_1 < (l0.length : Int)) = true := decide_eq_true c2
    clear c2
    by_cases c3 : 0 ≤ x8_1
    ·rw [if_pos c3] at H
     have c3b0 : decide (0 ≤ x8_1) = true := decide_eq_true c3
     clear c3
     by_cases c4 : x8_1 < (l0.length : Int)
     ·rw [if_pos c4] at H
      have c4b0 : decide (x8_1 < (l0.length : Int)) = true := decide_eq_true c4
      clear c4
      replace H := Option.bind_eq_some_iff.mp H
      obtain ⟨t102, A50, H⟩ := H
      replace H : (if x3_1.length < 5864062014805 then (spec_smCopy.l0 k1 (x3_1 ++ [t102]) l0 (l0.length : Int) (wrap64 (x8_1 + 1))) else (none)) = some r := H
      have A5 := am_ A50
      clear A50
      by_cases c6 : x3_1.length < 5864062014805
      ·rw [if_pos c6] at H
       have LMc6 := am_ c6
       clear c6
       obtain ⟨y105, hy105⟩ : ∃ y_ : List (List Int), y_ = (x3_1 ++ [t102]) := ⟨_, rfl⟩
       replace H : (spec_smCopy.l0 k1 y105 l0 (l0.length : Int) (wrap64 (x8_1 + 1))) = some r := by first | (rw [hy105]; with_reducible exact H) | (have H2_ := (Option.bind_some _ _).symm.trans H; rw [hy105]; with_reducible exact H2_) | (have H2_ := (Option.bind_some _ _).symm.trans H; with_reducible exact H2_) | with_reducible exact H | (rw [hy105]; exact H) | exact H
       have Ny105 := am_ hy105
       clear hy105
       have H' := am_ H
       clear H
       have p101 : 0 ≤ (x8_1 : Int) := of_decide_eq_true tc3_
       have q101 : x8_1 < (l0.length : Int) := of_decide_eq_true tc3_
       obtain ⟨ad101, A101_0, c101_0, e101, hx101_0, hl101_0, hi101_0⟩ := at_L3 HR0.out x8_1 p101 q101
       cases e101
       replace hx101_0 := (HB.out.cell (World.block_lt_of_cell? w _ hx101_0)).trans hx101_0
       have HR101_0 := am_ hi101_0
       have HC101_0 := am_ hl101_0
       clear hi101_0 hl101_0
       replace p101 := eq_true p101
       replace q101 := eq_true q101
       go_wp2_with (first | ((with_reducible refine gate_callee (f := 177) rfl ?_); refine goesL_ (some 14) rfl rfl Try.func177 (by kernel_rfl) rfl #[.slice A101_0 (rd_L3 l0 x8_1).length c101_0] rfl tc1_ ?_; (with_reducible refine (spec_l1Own.calls _ _ (rd_L3 l0 x8_1) t102 _ ?side1 ?side2 A5.out).mono ?_); (case side1 => exact tc44_); (case side2 => exact HC101_0.out); rintro e w7 ⟨v103, rfl, ho0, hb⟩; refine ⟨_, rfl, ?_⟩; have n0_ := am_ (Kd.S_elder' (by (with_reducible repeat (first | apply Kd.S_alloc | apply Kd.S_drewN | apply Kd.S_drew)); exact HO_3.out) (Kd.R_base ho0) hb); have n1_ := am_ (Kd.R_lower ho0 (below_size tc0_)); have n2_ := am_ (below_step tc0_ hb); clear HO_3 HB; have HO_3 := n0_; have HO104 := n1_; have HB := n2_; clear n0_ n1_ n2_; (try clear hb ho0); obtain ⟨Ao9, co9, eo9⟩ := Kd.R_slice HO104.out; subst eo9) | ((with_reducible refine gate_builtin (b := .append) (xs := #[.tmp 12, .tmp 15]) rfl ?_); at_builtin; refine Kd.S_append (Kd.slice 3 (Kd.int .i64)) (w0 := w) w.heap.size rfl (.tmp 12) (.tmp 15) 24 35 (.slice none 0 0) 24 rfl Try.underlying24 info35 rfl (by decide) (by omega) u3 x3_1 t102 [.slice Ao9 t102.length co9] (fun _ => True) (fun k_ => some k_ = (.slice Ao9 t102.length co9 : Value).ownBlock) rfl rfl ?aP (fun k_ hk_ => ((Kd.R_mono (ok' := fun k_ => ((fun _ => True)) k_ ∧ some k_ ≠ (u3 : Value).ownBlock) (Kd.R_apart' (HO104.out) (Kd.S_typed HO_3.out) (by decide)) (fun k_ hk => ⟨trivial, hk.2⟩))).1 k_ hk_.symm) ?aF ?aO ?aB ?aS ?aL ?_; (case aP => exact Kd.M_row (Kd.R_mono (Kd.R_tight rfl (Kd.R_mono (ok' := fun k_ => ((fun _ => True)) k_ ∧ some k_ ≠ (u3 : Value).ownBlock) (Kd.R_apart' (HO104.out) (Kd.S_typed HO_3.out) (by decide)) (fun k_ hk => ⟨trivial, hk.2⟩))) (fun _ h_ => h_))); (case aB => exact tc13_); (case aF => exact tc70_); (case aO => exact (by (with_reducible repeat (first | apply Kd.S_alloc | apply Kd.S_drewN | apply Kd.S_drew)); exact Kd.S_mono HO_3.out (fun k_ hk => ⟨trivial, fun e_ => hk.2 e_⟩))); (case aS => exact tc16_); (case aL => have := LMc6.out; omega); intro v106 w8 ho hb hg hat; rw [← Ny105.out] at ho; have n0_ := am_ (hb); have n1_ := am_ (ho); clear HB HO_3 HO104; have HB := n0_; have HO107 := n1_; clear n0_ n1_; clear ho hb hg hat))
       go_roundg k1
       case measure => have := HK1.out; omega
       case rel => exact ⟨(y105), (wrap64 (x8_1 + 1)), tc7_, H', ⟨by have := HK1.out; omega⟩, ⟨by (with_reducible repeat (first | apply Kd.S_alloc | apply Kd.S_drewN | apply Kd.S_drew)); exact HO107.out⟩, ⟨by repeat (first | (with_reducible first | exact HB.out | apply below_alloc | apply pw_below_drewN | apply below_drew1) | exact HB.out)⟩⟩
      ·rw [if_neg c6] at H
       exact absurd H (by simp)
     ·rw [if_neg c4] at H
      exact absurd H (by simp)
    ·rw [if_neg c3] at H
     exact absurd H (by simp)
   ·rw [if_neg c2] at H
    have c2b0 : decide (x8_1 < (l0.length : Int)) = false := decide_eq_false c2
    clear c2
    obtain rfl := Option.some.inj H
    go_wp2
    go_ret
    exact ⟨_, by first | rfl | (simp [errW_none, errW_some] <;> rfl) | (simp [*, errW_none, errW_some] <;> rfl), by (with_reducible repeat (first | apply Kd.S_alloc | apply Kd.S_drewN | apply Kd.S_drew)); exact HO_3.out, by repeat (first | (with_reducible first | exact HB.out | apply below_alloc | apply pw_below_drewN | apply below_drew1) | exact HB.out)⟩

/-! ### spec_ListSymmetric: function 47 -/
mutual
def spec_ListSymmetric.j0 : Nat → Int → Int → Bool → Option ((List (List (List Int))) × Bool)
 | 0, _, _, _ => none
 | k + 1, x0, x1, x16 => if x16 = true then (some (([] : List (List (List Int))), false)) else ((spec_smList.f k x0 x1).bind fun t103 => (spec_ListSymmetric.l0 k ([] : List (List (List Int))) t103 (t103.length : Int) 0))
def spec_ListSymmetric.l0 : Nat → List (List (List Int)) → List (List (List Int)) → Int → Int → Option ((List (List (List Int))) × Bool)
 | 0, _, _, _, _ => none
 | k + 1, x6, x19, x20, x21 => if x21 < x20 then (if 0 ≤ x21 then (if x21 < (x19.length : Int) then ((spec_smCopy.f k (rd_L4 x19 x21)).bind fun t107 => (if x6.length < 5864062014805 then (spec_ListSymmetric.l0 k (x6 ++ [t107]) x19 x20 (wrap64 (x21 + 1))) else (none))) else (none)) else (none)) else (some (x6, true))
end
def spec_ListSymmetric.f (k : Nat) (a0 : Int) (a1 : Int) : Option ((List (List (List Int))) × Bool) := (spec_l1In.f a0 1 5).bind fun t101 => (if t101 = true then ((spec_smKind.f a1).bind fun t102 => (spec_ListSymmetric.j0 k a0 a1 (!t102))) else (spec_ListSymmetric.j0 k a0 a1 true))
set_option maxHeartbeats 8000000 in
set_option maxRecDepth 100000 in
theorem spec_ListSymmetric.calls (k : Nat) (a0 : Int) (a1 : Int) (r1 : List (List (List Int))) (r2 : Bool) (w : World) (h : spec_ListSymmetric.f k a0 a1 = some (r1, r2)) :
  Calls Try.prog 47 #[.int .i64 a0, .int .i64 a1] w fun e w' => ∃ v0_ : Value, e = .returned (.tuple #[v0_, .bool r2]) ∧ Kd.N (Kd.slice 35 (Kd.slice 3 (Kd.int .i64))) 24 w' w.heap.size (fun k_ => (w.heap.size ≤ k_)) v0_ r1 ∧ Below w.heap.size w w' := by
 have HB := am_ (Below.refl w.heap.size w)
 have H : ((spec_l1In.f a0 1 5).bind fun t101 => (if t101 = true then ((spec_smKind.f a1).bind fun t102 => (spec_ListSymmetric.j0 k a0 a1 (!t102))) else (spec_ListSymmetric.j0 k a0 a1 true))) = some (r1, r2) := h
 clear h
 have HC3 := am_ H
 clear H
 go_enter Try.func47, Try.ntmps47
 go_upto_region 1 with (fail)
 go_cut [16] (fun v16 wc => ∃ (kq : Nat) (x16_2 : Bool), v16 = .bool x16_2 ∧ Aside0 (spec_ListSymmetric.j0 kq a0 a1 x16_2 = some (r1, r2)) ∧ Aside0 (kq ≤ k) ∧ Aside0 (Below w.heap.size w wc))
 case first =>
  have H := HC3.out
  clear HC3
  replace H := Option.bind_eq_some_iff.mp H
  obtain ⟨t101, A40, H⟩ := H
  replace H : (if t101 = true then ((spec_smKind.f a1).bind fun t102 => (spec_ListSymmetric.j0 k a0 a1 (!t102))) else (spec_ListSymmetric.j0 k a0 a1 true)) = some (r1, r2) := H
  have A4 := am_ A40
  clear A40
  by_cases c5 : t101 = true
  ·subst c5
   have H1 : ((spec_smKind.f a1).bind fun t102 => (spec_ListSymmetric.j0 k a0 a1 (!t102))) = some (r1, r2) := by rw [if_pos rfl] at H; exact H
   clear H
   have H := H1
   clear H1
   replace H := Option.bind_eq_some_iff.mp H
   obtain ⟨t102, A60, H⟩ := H
   replace H : (spec_ListSymmetric.j0 k a0 a1 (!t102)) = some (r1, r2) := H
   have A6 := am_ A60
   clear A60
   have H' := am_ H
   clear H
   go_wp2_with (first | ((with_reducible refine gate_callee (f := 112) rfl ?_); refine goesL_ (some 10) rfl rfl Try.func112 (by kernel_rfl) rfl #[.int .i64 a0, .int .i64 1, .int .i64 5] rfl tc1_ ?_; (with_reducible refine (spec_l1In.calls a0 1 5 true _ A4.out).mono ?_); rintro e w' ⟨rfl, ⟨nd, rfl⟩⟩; refine ⟨_, rfl, ?_⟩) | (go_at_call 113; (with_reducible refine (spec_smKind.calls a1 t102 _ A6.out).mono ?_); rintro e w' ⟨rfl, ⟨nd, rfl⟩⟩))
   go_meet
   case rel => exact ⟨_, (!t102), tc7_, H', ⟨by first | omega | exact Nat.le_refl _⟩, ⟨by repeat (first | (with_reducible first | exact HB.out | apply below_alloc | apply pw_below_drewN | apply below_drew1) | exact HB.out)⟩⟩
  ·replace c5 := Bool.eq_false_iff.mpr c5
   subst c5
   have H1 : (spec_ListSymmetric.j0 k a0 a1 true) = some (r1, r2) := by rw [if_neg (show ¬ (false = true) by decide)] at H; exact H
   clear H
   have H := H1
   clear H1
   have H' := am_ H
   clear H
   go_wp2_with (first | ((with_reducible refine gate_callee (f := 112) rfl ?_); refine goesL_ (some 10) rfl rfl Try.func112 (by kernel_rfl) rfl #[.int .i64 a0, .int .i64 1, .int .i64 5] rfl tc1_ ?_; (with_reducible refine (spec_l1In.calls a0 1 5 false _ A4.out).mono ?_); rintro e w' ⟨rfl, ⟨nd, rfl⟩⟩; refine ⟨_, rfl, ?_⟩))
   go_meet
   case rel => exact ⟨_, (true), tc7_, H', ⟨by first | omega | exact Nat.le_refl _⟩, ⟨by repeat (first | (with_reducible first | exact HB.out | apply below_alloc | apply pw_below_drewN | apply below_drew1) | exact HB.out)⟩⟩
 case rest =>
  clear HC3
  try clear c1
  try clear p2
  try clear c4
  try clear c5
  obtain ⟨kq, x16_2, rfl, HA, HJ2, HB⟩ := hcut
  cases kq with
  | zero => exact absurd HA.out (by simp [spec_ListSymmetric.j0])
  | succ kj2 =>
   have H := HA.out
   clear HA
   simp only [spec_ListSymmetric.j0] at H
   by_cases c7 : x16_2 = true
   ·subst c7
    have H1 : (some (([] : List (List (List Int))), false)) = some (r1, r2) := by rw [if_pos rfl] at H; exact H
    clear H
    have H := H1
    clear H1
    simp only [Option.some.injEq, Prod.mk.injEq] at H
    obtain ⟨rfl, rfl⟩ := H
    go_wp2
    go_ret2
    exact ⟨_, by first | rfl | (simp [errW_none, errW_some] <;> rfl) | (simp [*, errW_none, errW_some] <;> rfl), by first | exact Kd.R_nil _ _ _ _ _ | exact Kd.N_nil _ _ _ _ _ | exact Kd.V_nil _ _ _ _ _ | exact Kd.Q_nil _ _ _ _ _ | exact Kd.S_nil _ _ _ _ _, by repeat (first | (with_reducible first | exact HB.out | apply below_alloc | apply pw_below_drewN | apply below_drew1) | exact HB.out)⟩
   ·replace c7 := Bool.eq_false_iff.mpr c7
    subst c7
    have H1 : ((spec_smList.f kj2 a0 a1).bind fun t103 => (spec_ListSymmetric.l0 kj2 ([] : List (List (List Int))) t103 (t103.length : Int) 0)) = some (r1, r2) := by rw [if_neg (show ¬ (false = true) by decide)] at H; exact H
    clear H
    have H := H1
    clear H1
    replace H := Option.bind_eq_some_iff.mp H
    obtain ⟨t103, A80, H⟩ := H
    replace H : (spec_ListSymmetric.l0 kj2 ([] : List (List (List Int))) t103 (t103.length : Int) 0) = some (r1, r2) := H
    have A8 := am_ A80
    clear A80
    have H' := am_ H
    clear H
    go_wp2_with (first | ((with_reducible refine gate_callee (f := 114) rfl ?_); refine goesL_ (some 19) rfl rfl Try.func114 (by kernel_rfl) rfl #[.int .i64 a0, .int .i64 a1] rfl tc1_ ?_; (with_reducible refine (spec_smList.calls kj2 a0 a1 t103 _ A8.out).mono ?_); rintro e w9 ⟨v104, rfl, ho0, hb⟩; refine ⟨_, rfl, ?_⟩; have n0_ := am_ (Kd.N_lower (Kd.N_mono (ok' := fun k_ => (w.heap.size ≤ k_)) ho0 (fun k_ hk_ => (Nat.le_trans (below_size tc0_) hk_))) (below_size tc0_)); have n1_ := am_ (below_step tc0_ hb); clear HB; have HO105 := n0_; have HB := n1_; clear n0_ n1_; (try clear hb ho0); obtain ⟨Ao10, co10, eo10⟩ := Kd.N_slice HO105.out; subst eo10))
    go_loopg [6, 21] kj2 (fun kq v6 v21 w' => ∃ (x6_2 : List (List (List Int))) (x21_2 : Int), v21 = .int .i64 x21_2 ∧ Aside0 (spec_ListSymmetric.l0 kq x6_2 t103 (t103.length : Int) x21_2 = some (r1, r2)) ∧ Aside0 (kq ≤ kj2) ∧ Aside0 (Kd.N (Kd.slice 35 (Kd.slice 3 (Kd.int .i64))) 24 w' w.heap.size (fun k_ => (w.heap.size ≤ k_) ∧ some k_ ≠ ((.slice Ao10 t103.length co10) : Value).ownBlock) v6 x6_2) ∧ Aside0 (Kd.N (Kd.slice 35 (Kd.slice 3 (Kd.int .i64))) 24 w' w.heap.size (fun k_ => (w.heap.size ≤ k_) ∧ some k_ ≠ (v6 : Value).ownBlock) (.slice Ao10 t103.length co10) t103) ∧ Aside0 (Below w.heap.size w w'))
    case atStart => exact ⟨(([] : List (List (List Int)))), (0), tc7_, H', ⟨Nat.le_refl _⟩, ⟨by first | exact Kd.R_nil _ _ _ _ _ | exact Kd.N_nil _ _ _ _ _ | exact Kd.V_nil _ _ _ _ _ | exact Kd.Q_nil _ _ _ _ _ | exact Kd.S_nil _ _ _ _ _⟩, ⟨by (with_reducible repeat (first | apply Kd.N_alloc | apply Kd.N_drewN | apply Kd.N_drew)); exact Kd.N_mono HO105.out (fun _ hk => ⟨hk, (by simp [Value.ownBlock])⟩)⟩, ⟨by repeat (first | (with_reducible first | exact HB.out | apply below_alloc | apply pw_below_drewN | apply below_drew1) | exact HB.out)⟩⟩
    case round =>
     clear H'
     try clear c1
     try clear p2
     try clear c4
     try clear c5
     try clear c7
     try clear p2
     obtain ⟨x6_2, x21_2, rfl, HA, HK2, HO_6, HO_19, HB⟩ := hrel
     cases gk with
     | zero => exact absurd HA.out (by simp [spec_ListSymmetric.l0])
     | succ k2 =>
      have H := HA.out
      clear HA
      simp only [spec_ListSymmetric.l0] at H
      by_cases c11 : x21_2 < (t103.length : Int)
      ·rw [if_pos c11] at H
       have c11b0 : decide (x21_2 < (t103.length : Int)) = true := decide_eq_true c11
       clear c11
       by_cases c12 : 0 ≤ x21_2
       ·rw [if_pos c12] at H
        have c12b0 : decide (0 ≤ x21_2) = true := decide_eq_true c12
        clear c12
        by_cases c13 : x21_2 < (t103.length : Int)
        ·rw [if_pos c13] at H
         have c13b0 : decide (x21_2 < (t103.length : Int)) = true := decide_eq_true c13
         clear c13
         replace H := Option.bind_eq_some_iff.mp H
         obtain ⟨t107, A140, H⟩ := H
         replace H : (if x6_2.length < 5864062014805 then (spec_ListSymmetric.l0 k2 (x6_2 ++ [t107]) t103 (t103.length : Int) (wrap64 (x21_2 + 1))) else (none)) = some (r1, r2) := H
         have A14 := am_ A140
         clear A140
         by_cases c15 : x6_2.length < 5864062014805
         ·rw [if_pos c15] at H
          have LMc15 := am_ c15
          clear c15
          obtain ⟨y110, hy110⟩ : ∃ y_ : List (List (List Int)), y_ = (x6_2 ++ [t107]) := ⟨_, rfl⟩
          replace H : (spec_ListSymmetric.l0 k2 y110 t103 (t103.length : Int) (wrap64 (x21_2 + 1))) = some (r1, r2) := by first | (rw [hy110]; with_reducible exact H) | (have H2_ := (Option.bind_some _ _).symm.trans H; rw [hy110]; with_reducible exact H2_) | (have H2_ := (Option.bind_some _ _).symm.trans H; with_reducible exact H2_) | with_reducible exact H | (rw [hy110]; exact H) | exact H
          have Ny110 := am_ hy110
          clear hy110
          have H' := am_ H
          clear H
          have p106 : 0 ≤ (x21_2 : Int) := of_decide_eq_true tc3_
          have q106 : x21_2 < (t103.length : Int) := of_decide_eq_true tc3_
          obtain ⟨ad106, A106_0, c106_0, e106, hx106_0, hl106_0, hi106_0⟩ := at_L4 (Kd.N_reads' HO_19.out).2.2 x21_2 p106 q106
          cases e106
          obtain ⟨ce106, hce106, hMe106, hcc106⟩ := Kd.N_get HO_19.out [] x21_2 p106 (by first | exact q106 | exact of_decide_eq_true tc3_ | (have e_ := (Kd.N_reads' HO_19.out).1; omega))
          obtain ⟨ua106_0, uc106_0, rfl, ul106_0, ge106_0⟩ := Kd.FK_slice_open hMe106
          have hv106_0 := hcc106 0 _ rfl
          rw [Nat.add_zero, show ((Kd.slice 35 (Kd.slice 3 (Kd.int .i64)))).sz = 1 from rfl, Nat.mul_one] at hv106_0
          replace hv106_0 := Option.some.inj (hv106_0.symm.trans hx106_0)
          injection hv106_0 with hva_ hvn_ hvc_
          rw [hva_] at ge106_0
          rw [hvc_] at ul106_0
          have HL106_0 := am_ (show Kd.V (Kd.slice 3 (Kd.int .i64)) 35 _ w.heap.size _ _ (rd_L4 t103 x21_2) from Kd.V_mk ul106_0 ge106_0)
          clear hva_ hvn_ hvc_ ge106_0 ul106_0
          clear hcc106 hce106
          have HR106_0 := am_ hi106_0
          have HC106_0 := am_ hl106_0
          clear hi106_0 hl106_0
          replace p106 := eq_true p106
          replace q106 := eq_true q106
          go_wp2_with (first | ((with_reducible refine gate_callee (f := 115) rfl ?_); refine goesL_ (some 27) rfl rfl Try.func115 (by kernel_rfl) rfl #[.slice A106_0 (rd_L4 t103 x21_2).length c106_0] rfl tc1_ ?_; (with_reducible refine (spec_smCopy.calls k2 _ _ (rd_L4 t103 x21_2) t107 _ ?side1 ?side2 A14.out).mono ?_); (case side1 => repeat (first | exact tc57_ | (with_reducible refine Kd.C_alloc ?_ _) | (with_reducible refine Kd.C_drewN ?_ _) | (with_reducible refine Kd.C_drew ?_))); (case side2 => exact HC106_0.out); rintro e w16 ⟨v108, rfl, ho0, hb⟩; refine ⟨_, rfl, ?_⟩; have n0_ := am_ (Kd.N_elder' (by (with_reducible repeat (first | apply Kd.N_alloc | apply Kd.N_drewN | apply Kd.N_drew)); exact HO_6.out) (Kd.S_base ho0) hb); have n1_ := am_ (Kd.N_elder' tc66_ (Kd.S_base ho0) hb); have n2_ := am_ (Kd.V_elder' (by (with_reducible repeat (first | apply Kd.V_alloc | apply Kd.V_drewN | apply Kd.V_drew)); exact HL106_0.out) (Kd.S_base ho0) hb); have n3_ := am_ (Kd.N_lower (Kd.N_mono (ok' := fun k_ => (w.heap.size ≤ k_) ∧ some k_ ≠ (u6 : Value).ownBlock ∧ some k_ ≠ (.slice (some ad106) t103.length co10 : Value).ownBlock) (Kd.S_N (Kd.S_bound ho0)) (fun k_ hk_ => ⟨(Nat.le_trans (below_size tc0_) hk_.2.1), (Kd.fresh' (Kd.N_lt (by (with_reducible repeat (first | apply Kd.N_alloc | apply Kd.N_drewN | apply Kd.N_drew)); exact HO_6.out)) k_ hk_.2.1), (Kd.fresh' (Kd.N_lt tc66_) k_ hk_.2.1)⟩)) (below_size tc0_)); have n4_ := am_ (Kd.C_below tc57_ hb); have n5_ := am_ (below_step tc0_ hb); clear HO_6 HO_19; clear HL106_0 HR106_0 HB; have HO_6 := n0_; have HO_19 := n1_; have HL106_0 := n2_; have HO109 := n3_; have HR106_0 := n4_; have HB := n5_; clear n0_ n1_ n2_ n3_ n4_ n5_; (try clear hb ho0); obtain ⟨Ao18, co18, eo18⟩ := Kd.N_slice HO109.out; subst eo18) | ((with_reducible refine gate_builtin (b := .append) (xs := #[.tmp 25, .tmp 28]) rfl ?_); at_builtin; refine Kd.N_append (Kd.slice 35 (Kd.slice 3 (Kd.int .i64))) (w0 := w) w.heap.size rfl (.tmp 25) (.tmp 28) 50 24 (.slice none 0 0) 24 rfl Try.underlying50 info24 rfl (by decide) (by omega) u6 x6_2 t107 [.slice Ao18 t107.length co18] (fun k_ => (w.heap.size ≤ k_) ∧ some k_ ≠ (.slice (some ad106) t103.length co10 : Value).ownBlock) (fun k_ => ((fun k_ => (w.heap.size ≤ k_) ∧ some k_ ≠ (.slice (some ad106) t103.length co10 : Value).ownBlock)) k_ ∧ some k_ ≠ (u6 : Value).ownBlock) rfl rfl ?aP (fun _ hk => hk) ?aF ?aO ?aB ?aS ?aL ?_; (case aP => exact (Kd.FK_slice_mk (Kd.N_reads' (Kd.N_mono (ok' := (fun k_ => ((fun k_ => (w.heap.size ≤ k_) ∧ some k_ ≠ (.slice (some ad106) t103.length co10 : Value).ownBlock)) k_ ∧ some k_ ≠ (u6 : Value).ownBlock)) (HO109.out) (fun k_ hk => ⟨⟨hk.1, hk.2.2⟩, hk.2.1⟩))).2.1 (Kd.N_F (Kd.N_mono (ok' := (fun k_ => ((fun k_ => (w.heap.size ≤ k_) ∧ some k_ ≠ (.slice (some ad106) t103.length co10 : Value).ownBlock)) k_ ∧ some k_ ≠ (u6 : Value).ownBlock)) (HO109.out) (fun k_ hk => ⟨⟨hk.1, hk.2.2⟩, hk.2.1⟩))))); (case aB => exact tc13_); (case aF => exact (fun k_ hk => ⟨(Nat.le_trans (below_size tc0_) hk), Kd.fresh' (Kd.N_lt tc66_) k_ hk⟩)); (case aO => exact (by (with_reducible repeat (first | apply Kd.N_alloc | apply Kd.N_drewN | apply Kd.N_drew)); exact Kd.N_mono HO_6.out (fun _ hk => ⟨hk.1.1, hk.1.2⟩))); (case aS => exact tc16_); (case aL => have := LMc15.out; omega); intro v111 w17 ho hb hg hat; rw [← Ny110.out] at ho; have n0_ := am_ (Kd.N_afterv (ok := (fun k_ => (w.heap.size ≤ k_) ∧ some k_ ≠ (.slice Ao18 t107.length co18 : Value).ownBlock)) (by (with_reducible repeat (first | apply Kd.N_alloc | apply Kd.N_drewN | apply Kd.N_drew)); exact Kd.N_mono HO_19.out (fun _ hk => ⟨⟨hk.1.1, hk.2⟩, hk.1.2⟩)) hg hat); have n1_ := am_ (Kd.V_afterv (ok := (fun k_ => (w.heap.size ≤ k_) ∧ some k_ ≠ (.slice (some ad106) t103.length co10 : Value).ownBlock ∧ some k_ ≠ (.slice Ao18 t107.length co18 : Value).ownBlock)) (by (with_reducible repeat (first | apply Kd.V_alloc | apply Kd.V_drewN | apply Kd.V_drew)); exact Kd.V_mono HL106_0.out (fun _ hk => ⟨⟨hk.1.1.1, ⟨hk.1.2, hk.2⟩⟩, hk.1.1.2⟩)) hg hat); have n2_ := am_ (hb); have n3_ := am_ (ho); clear HO_19 HL106_0; clear HB HO_6 HO109; have HO_19 := n0_; have HL106_0 := n1_; have HB := n2_; have HO112 := n3_; clear n0_ n1_ n2_ n3_; clear ho hb hg hat))
          go_roundg k2
          case measure => have := HJ2.out; have := HK2.out; omega
          case rel => exact ⟨(y110), (wrap64 (x21_2 + 1)), tc7_, H', ⟨by have := HJ2.out; have := HK2.out; omega⟩, ⟨by (with_reducible repeat (first | apply Kd.N_alloc | apply Kd.N_drewN | apply Kd.N_drew)); exact HO112.out⟩, ⟨by (with_reducible repeat (first | apply Kd.N_alloc | apply Kd.N_drewN | apply Kd.N_drew)); exact Kd.N_mono HO_19.out (fun _ hk => ⟨hk.1.1, hk.2⟩)⟩, ⟨by repeat (first | (with_reducible first | exact HB.out | apply below_alloc | apply pw_below_drewN | apply below_drew1) | exact HB.out)⟩⟩
         ·rw [if_neg c15] at H
          exact absurd H (by simp)
        ·rw [if_neg c13] at H
         exact absurd H (by simp)
       ·rw [if_neg c12] at H
        exact absurd H (by simp)
      ·rw [if_neg c11] at H
       have c11b0 : decide (x21_2 < (t103.length : Int)) = false := decide_eq_false c11
       clear c11
       simp only [Option.some.injEq, Prod.mk.injEq] at H
       obtain ⟨rfl, rfl⟩ := H
       go_wp2
       go_ret2
       exact ⟨_, by first | rfl | (simp [errW_none, errW_some] <;> rfl) | (simp [*, errW_none, errW_some] <;> rfl), by (with_reducible repeat (first | apply Kd.N_alloc | apply Kd.N_drewN | apply Kd.N_drew)); exact Kd.N_mono HO_6.out (fun _ hk => hk.1), by repeat (first | (with_reducible first | exact HB.out | apply below_alloc | apply pw_below_drewN | apply below_drew1) | exact HB.out)⟩

/-! ### impl_isSide: function 69 -/
def impl_isSide.f (a0 : Int) : Option (Bool) := (impl_within.f a0 1 6).bind fun t101 => (some t101)
set_option maxHeartbeats 8000000 in
set_option maxRecDepth 100000 in
theorem impl_isSide.calls (a0 : Int) (r : Bool) (w : World) (h : impl_isSide.f a0 = some r) :
  Calls Try.prog 69 #[.int .i64 a0] w fun e w' => e = .returned (.bool r) ∧ Drawn0 w w' := by
 have H : ((impl_within.f a0 1 6).bind fun t101 => (some t101)) = some r := h
 clear h
 replace H := Option.bind_eq_some_iff.mp H
 obtain ⟨t101, A20, H⟩ := H
 replace H : (some t101) = some r := H
 have A2 := am_ A20
 clear A20
 obtain rfl := Option.some.inj H
 go_enter Try.func69, Try.ntmps69
 go_wp2_with (first | ((with_reducible refine gate_callee (f := 107) rfl ?_); refine goesL_ (some 4) rfl rfl Try.func107 (by kernel_rfl) rfl #[.int .i64 a0, .int .i64 1, .int .i64 6] rfl tc1_ ?_; (with_reducible refine (impl_within.calls a0 1 6 t101 _ A2.out).mono ?_); rintro e w' ⟨rfl, ⟨nd, rfl⟩⟩; refine ⟨_, rfl, ?_⟩))
 go_ret
 exact ⟨by first | rfl | (simp; done) | (simp [*]; done), by repeat (first | exact Drawn0.refl _ | apply Drawn0.step)⟩

/-! ### slices_IndexFunc_int_int: function 185 -/
def slices_IndexFunc_int_int.l0 : Nat → List (List Int) → ((List Int) → Option Bool) → Int → Int → Option (Int)
 | 0, _, _, _, _ => none
 | k + 1, x0, x1, x7, x8 => if x8 < x7 then (if 0 ≤ x8 then (if x8 < (x0.length : Int) then ((x1 (rd_L3 x0 x8)).bind fun t102 => (if t102 = true then (some x8) else (slices_IndexFunc_int_int.l0 k x0 x1 x7 (wrap64 (x8 + 1))))) else (none)) else (none)) else (some (-1))
def slices_IndexFunc_int_int.f (k : Nat) (l0 : List (List Int)) (a1 : ((List Int) → Option Bool)) : Option (Int) := slices_IndexFunc_int_int.l0 k l0 a1 (l0.length : Int) 0
set_option maxHeartbeats 8000000 in
set_option maxRecDepth 100000 in
theorem slices_IndexFunc_int_int.calls (k : Nat) (A0 : Option Addr) (c0 : Nat) (l0 : List (List Int)) (g1 : Nat) (b1 : Array Value) (a1 : ((List Int) → Option Bool)) (r : Int) (w : World) (hr0 : Kd.C (Kd.slice 3 (Kd.int .i64)) w A0 l0.length l0) (hc0 : l0.length ≤ c0) (hf1 : Fn1 (Kd.slice 3 (Kd.int .i64)) Value.bool Try.prog g1 b1 a1 w) (h : slices_IndexFunc_int_int.f k l0 a1 = some r) :
  Calls Try.prog 185 #[.slice A0 l0.length c0, .func (.func g1) #[] b1] w fun e w' => e = .returned (.int .i64 r) ∧ Below w.heap.size w w' := by
 have HR0 := am_ hr0
 have HC0 := am_ hc0
 clear hr0 hc0
 have HF1 := am_ hf1.cl
 have eg1 := hf1.eg
 clear hf1
 have HB := am_ (Below.refl w.heap.size w)
 have H : (slices_IndexFunc_int_int.l0 k l0 a1 (l0.length : Int) 0) = some r := h
 clear h
 have H' := am_ H
 clear H
 go_enter Try.func185, Try.ntmps185
 go_wp2
 go_loopg [8] k (fun kq v8 w' => ∃ (x8_1 : Int), v8 = .int .i64 x8_1 ∧ Aside0 (slices_IndexFunc_int_int.l0 kq l0 a1 (l0.length : Int) x8_1 = some r) ∧ Aside0 (kq ≤ k) ∧ Aside0 (Below w.heap.size w w'))
 case atStart => exact ⟨(0), tc7_, H', ⟨Nat.le_refl _⟩, ⟨by repeat (first | (with_reducible first | exact HB.out | apply below_alloc | apply pw_below_drewN | apply below_drew1) | exact HB.out)⟩⟩
 case round =>
  clear H'
  try clear c1
  try clear p2
  obtain ⟨x8_1, rfl, HA, HK1, HB⟩ := hrel
  cases gk with
  | zero => exact absurd HA.out (by simp [slices_IndexFunc_int_int.l0])
  | succ k1 =>
   have H := HA.out
   clear HA
   simp only [slices_IndexFunc_int_int.l0] at H
   by_cases c3 : x8_1 < (l0.length : Int)
   ·rw [if_pos c3] at H
    have c3b0 : decide (x8_1 < (l0.length : Int)) = true := decide_eq_true c3
    clear c3
    by_cases c4 : 0 ≤ x8_1
    ·rw [if_pos c4] at H
     have c4b0 : decide (0 ≤ x8_1) = true := decide_eq_true c4
     clear c4
     by_cases c5 : x8_1 < (l0.length : Int)
     ·rw [if_pos c5] at H
      have c5b0 : decide (x8_1 < (l0.length : Int)) = true := decide_eq_true c5
      clear c5
      replace H := Option.bind_eq_some_iff.mp H
      obtain ⟨t102, A60, H⟩ := H
      replace H : (if t102 = true then (some x8_1) else (slices_IndexFunc_int_int.l0 k1 l0 a1 (l0.length : Int) (wrap64 (x8_1 + 1)))) = some r := H
      have A6 := am_ A60
      clear A60
      by_cases c7 : t102 = true
      ·subst c7
       have H1 : (some x8_1) = some r := by rw [if_pos rfl] at H; exact H
       clear H
       have H := H1
       clear H1
       obtain rfl := Option.some.inj H
       have p101 : 0 ≤ (x8_1 : Int) := of_decide_eq_true tc3_
       have q101 : x8_1 < (l0.length : Int) := of_decide_eq_true tc3_
       obtain ⟨ad101, A101_0, c101_0, e101, hx101_0, hl101_0, hi101_0⟩ := at_L3 HR0.out x8_1 p101 q101
       cases e101
       replace hx101_0 := (HB.out.cell (World.block_lt_of_cell? w _ hx101_0)).trans hx101_0
       have HR101_0 := am_ hi101_0
       have HC101_0 := am_ hl101_0
       clear hi101_0 hl101_0
       replace p101 := eq_true p101
       replace q101 := eq_true q101
       go_wp2_with (first | (go_at_fn g1; (refine (HF1.out _ ?side1 (rd_L3 l0 x8_1) _ (K_slice ?side2 ?side3) true A6.out).mono ?_); (case side1 => exact tc13_); (case side2 => exact HC101_0.out); (case side3 => exact tc44_); rintro e w8 ⟨rfl, hb⟩; have n0_ := am_ (below_step tc0_ hb); clear HB; have HB := n0_; clear n0_; (try clear hb)))
       go_ret
       exact ⟨by first | rfl | (simp [errW_none, errW_some] <;> rfl) | (simp [*, errW_none, errW_some] <;> rfl), by repeat (first | (with_reducible first | exact HB.out | apply below_alloc | apply pw_below_drewN | apply below_drew1) | exact HB.out)⟩
      ·replace c7 := Bool.eq_false_iff.mpr c7
       subst c7
       have H1 : (slices_IndexFunc_int_int.l0 k1 l0 a1 (l0.length : Int) (wrap64 (x8_1 + 1))) = some r := by rw [if_neg (show ¬ (false = true) by decide)] at H; exact H
       clear H
       have H := H1
       clear H1
       have H' := am_ H
       clear H
       have p101 : 0 ≤ (x8_1 : Int) := of_decide_eq_true tc3_
       have q101 : x8_1 < (l0.length : Int) := of_decide_eq_true tc3_
       obtain ⟨ad101, A101_0, c101_0, e101, hx101_0, hl101_0, hi101_0⟩ := at_L3 HR0.out x8_1 p101 q101
       cases e101
       replace hx101_0 := (HB.out.cell (World.block_lt_of_cell? w _ hx101_0)).trans hx101_0
       have HR101_0 := am_ hi101_0
       have HC101_0 := am_ hl101_0
       clear hi101_0 hl101_0
       replace p101 := eq_true p101
       replace q101 := eq_true q101
       go_wp2_with (first | (go_at_fn g1; (refine (HF1.out _ ?side1 (rd_L3 l0 x8_1) _ (K_slice ?side2 ?side3) false A6.out).mono ?_); (case side1 => exact tc13_); (case side2 => exact HC101_0.out); (case side3 => exact tc44_); rintro e w9 ⟨rfl, hb⟩; have n0_ := am_ (below_step tc0_ hb); clear HB; have HB := n0_; clear n0_; (try clear hb)))
       go_roundg k1
       case measure => have := HK1.out; omega
       case rel => exact ⟨(wrap64 (x8_1 + 1)), tc7_, H', ⟨by have := HK1.out; omega⟩, ⟨by repeat (first | (with_reducible first | exact HB.out | apply below_alloc | apply pw_below_drewN | apply below_drew1) | exact HB.out)⟩⟩
     ·rw [if_neg c5] at H
      exact absurd H (by simp)
    ·rw [if_neg c4] at H
     exact absurd H (by simp)
   ·rw [if_neg c3] at H
    have c3b0 : decide (x8_1 < (l0.length : Int)) = false := decide_eq_false c3
    clear c3
    obtain rfl := Option.some.inj H
    go_wp2
    go_ret
    exact ⟨by first | rfl | (simp [errW_none, errW_some] <;> rfl) | (simp [*, errW_none, errW_some] <;> rfl), by repeat (first | (with_reducible first | exact HB.out | apply below_alloc | apply pw_below_drewN | apply below_drew1) | exact HB.out)⟩

/-! ### slices_ContainsFunc_int_int: function 142 -/
def slices_ContainsFunc_int_int.f (k : Nat) (l0 : List (List Int)) (a1 : ((List Int) → Option Bool)) : Option (Bool) := (slices_IndexFunc_int_int.f k l0 a1).bind fun t101 => (some (decide (t101 ≥ 0)))
set_option maxHeartbeats 8000000 in
set_option maxRecDepth 100000 in
theorem slices_ContainsFunc_int_int.calls (k : Nat) (A0 : Option Addr) (c0 : Nat) (l0 : List (List Int)) (g1 : Nat) (b1 : Array Value) (a1 : ((List Int) → Option Bool)) (r : Bool) (w : World) (hr0 : Kd.C (Kd.slice 3 (Kd.int .i64)) w A0 l0.length l0) (hc0 : l0.length ≤ c0) (hf1 : Fn1 (Kd.slice 3 (Kd.int .i64)) Value.bool Try.prog g1 b1 a1 w) (h : slices_ContainsFunc_int_int.f k l0 a1 = some r) :
  Calls Try.prog 142 #[.slice A0 l0.length c0, .func (.func g1) #[] b1] w fun e w' => e = .returned (.bool r) ∧ Below w.heap.size w w' := by
 have HR0 := am_ hr0
 have HC0 := am_ hc0
 clear hr0 hc0
 have HF1 := am_ hf1.cl
 have eg1 := hf1.eg
 clear hf1
 have HB := am_ (Below.refl w.heap.size w)
 have H : ((slices_IndexFunc_int_int.f k l0 a1).bind fun t101 => (some (decide (t101 ≥ 0)))) = some r := h
 clear h
 replace H := Option.bind_eq_some_iff.mp H
 obtain ⟨t101, A30, H⟩ := H
 replace H : (some (decide (t101 ≥ 0))) = some r := H
 have A3 := am_ A30
 clear A30
 obtain rfl := Option.some.inj H
 go_enter Try.func142, Try.ntmps142
 go_wp2_with (first | ((with_reducible refine gate_callee (f := 185) rfl ?_); refine goesL_ (some 7) rfl rfl Try.func185 (by kernel_rfl) rfl #[.slice A0 l0.length c0, .func (.func g1) #[] b1] rfl tc1_ ?_; (with_reducible refine (slices_IndexFunc_int_int.calls k _ _ l0 _ _ a1 t101 _ ?side1 ?side2 ?side3 A3.out).mono ?_); (case side1 => exact tc23_); (case side2 => exact HC0.out); (case side3 => exact Fn1.later ⟨eg1, HF1.out⟩ tc0_); rintro e w4 ⟨rfl, hb⟩; refine ⟨_, rfl, ?_⟩; have n0_ := am_ (below_step tc0_ hb); clear HB; have HB := n0_; clear n0_; (try clear hb)))
 go_ret
 exact ⟨by first | rfl | (simp [errW_none, errW_some] <;> rfl) | (simp [*, errW_none, errW_some] <;> rfl), by repeat (first | (with_reducible first | exact HB.out | apply below_alloc | apply pw_below_drewN | apply below_drew1) | exact HB.out)⟩

/-! ### impl_isSquare_1: function 159 -/
def impl_isSquare_1.f (l0 : List Int) (l1_0 : List (List Int)) : Option (Bool) := some ((l0.length : Int) != (l1_0.length : Int))
set_option maxHeartbeats 8000000 in
set_option maxRecDepth 100000 in
theorem impl_isSquare_1.calls (A0 : Option Addr) (c0 : Nat) (l0 : List Int) (B1 : Nat) (A1_0 : Option Addr) (c1_0 : Nat) (l1_0 : List (List Int)) (r : Bool) (w : World) (hr0 : Kd.C (Kd.int .i64) w A0 l0.length l0) (hc0 : l0.length ≤ c0) (hb1 : w.heap[B1]? = some (.cells #[.slice A1_0 l1_0.length c1_0] 24 (0, 0))) (hr1_0 : Kd.C (Kd.slice 3 (Kd.int .i64)) w A1_0 l1_0.length l1_0) (hc1_0 : l1_0.length ≤ c1_0) (h : impl_isSquare_1.f l0 l1_0 = some r) :
  Calls Try.prog 159 #[.slice A0 l0.length c0, .pointer (some ⟨B1, 0, none⟩)] w fun e w' => e = .returned (.bool r) ∧ Drawn0 w w' := by
 have HR0 := am_ hr0
 have HC0 := am_ hc0
 clear hr0 hc0
 have HR1_0 := am_ hr1_0
 have HC1_0 := am_ hc1_0
 clear hr1_0 hc1_0
 have BK61 := am_ hb1
 clear hb1
 have H : (some ((l0.length : Int) != (l1_0.length : Int))) = some r := h
 clear h
 obtain rfl := Option.some.inj H
 have hcz3_0 : w.cell? ⟨B1, 0, none⟩ = some (.slice A1_0 l1_0.length c1_0) := (blk_cell BK61.out 0).trans rfl
 have hfz3_0 := blk_frozen BK61.out 0
 go_enter Try.func159, Try.ntmps159
 go_wp2
 go_ret
 exact ⟨by first | rfl | (simp; done) | (simp [*]; done), by repeat (first | exact Drawn0.refl _ | apply Drawn0.step)⟩

/-! ### impl_isSquare: function 92 -/
def impl_isSquare.f (k : Nat) (l0 : List (List Int)) : Option (Bool) := (slices_ContainsFunc_int_int.f k l0 (fun x0_ => impl_isSquare_1.f x0_ l0)).bind fun t102 => (some (!t102))
set_option maxHeartbeats 8000000 in
set_option maxRecDepth 100000 in
theorem impl_isSquare.calls (k : Nat) (A0 : Option Addr) (c0 : Nat) (l0 : List (List Int)) (r : Bool) (w : World) (hr0 : Kd.C (Kd.slice 3 (Kd.int .i64)) w A0 l0.length l0) (hc0 : l0.length ≤ c0) (h : impl_isSquare.f k l0 = some r) :
  Calls Try.prog 92 #[.slice A0 l0.length c0] w fun e w' => e = .returned (.bool r) ∧ Below w.heap.size w w' := by
 have HR0 := am_ hr0
 have HC0 := am_ hc0
 clear hr0 hc0
 have HB := am_ (Below.refl w.heap.size w)
 have H : ((slices_ContainsFunc_int_int.f k l0 (fun x0_ => impl_isSquare_1.f x0_ l0)).bind fun t102 => (some (!t102))) = some r := h
 clear h
 replace H := Option.bind_eq_some_iff.mp H
 obtain ⟨t102, A20, H⟩ := H
 replace H : (some (!t102)) = some r := H
 have A2 := am_ A20
 clear A20
 obtain rfl := Option.some.inj H
 go_enter Try.func92, Try.ntmps92
 go_wp2_with (first | ((with_reducible refine gate_dst (N := 1) rfl ?_); refine box_event ?hg (N := 1) ?hd (cs := #[.slice A0 l0.length c0]) (t := 24) ?hr ?_; (case hd => rfl); (case hg => rfl); (case hr => exact tc19_); intro gb101 hg w3 hbox hb; have n0_ := am_ (below_step tc0_ hb); have n1_ := am_ (hbox); have n2_ := am_ ((by rw [hg]; exact (below_size tc0_) : w.heap.size ≤ gb101)); have n3_ := am_ ((by rw [hg]; exact (below_size tc0_) : w.heap.size ≤ gb101)); clear HB; have HB := n0_; have BK101 := n1_; have GW101 := n2_; have GE101 := n3_; clear n0_ n1_ n2_ n3_; clear hb hbox hg; have hcz4_0 : w3.cell? ⟨gb101, 0, none⟩ = some (.slice A0 l0.length c0) := (blk_cell BK101.out 0).trans rfl; have hfz4_0 := blk_frozen BK101.out 0) | ((with_reducible refine gate_callee (f := 142) rfl ?_); refine goesL_ (some 5) rfl rfl Try.func142 (by kernel_rfl) rfl #[.slice A0 l0.length c0, .func (.func 159) #[] #[.pointer (some ⟨gb101, 0, none⟩)]] rfl tc1_ ?_; (with_reducible refine (slices_ContainsFunc_int_int.calls k _ _ l0 _ _ (fun x0_ => impl_isSquare_1.f x0_ l0) t102 _ ?side1 ?side2 ?side3 A2.out).mono ?_); (case side1 => exact tc12_); (case side2 => exact HC0.out); (case side3 => refine ⟨enters_of Try.func159 (by kernel_rfl) rfl, fun W_ hW_ x0_ v0_ hK0_ r_ hr_ => ?_⟩; obtain ⟨A0_, c0_, e0_, hl0_, hC0_⟩ := hK0_; cases e0_; refine (impl_isSquare_1.calls A0_ c0_ x0_ _ A0 c0 l0 r_ W_ hC0_ hl0_ ?cb1 ?cb2 ?cb3 hr_).mono ?_; (case cb1 => exact tc62_); (case cb2 => refine Kd.C_below ?_ hW_; repeat (first | exact (Kd.C_below HR0.out HB.out) | (with_reducible refine Kd.C_alloc ?_ _) | (with_reducible refine Kd.C_drewN ?_ _) | (with_reducible refine Kd.C_drew ?_))); (case cb3 => exact HC0.out); exact fun _ _ h_ => ⟨h_.1, h_.2.below⟩); rintro e w5 ⟨rfl, hb⟩; refine ⟨_, rfl, ?_⟩; have n0_ := am_ (blk_below (g := gb101) (o := .cells #[.slice A0 l0.length c0] 24 (0, 0)) tc2_ hb); have n1_ := am_ (below_step tc6_ hb); clear BK101 HB; have BK101 := n0_; have HB := n1_; clear n0_ n1_; (try clear hb)))
 go_ret
 exact ⟨by first | rfl | (simp [errW_none, errW_some] <;> rfl) | (simp [*, errW_none, errW_some] <;> rfl), by repeat (first | (with_reducible first | exact HB.out | apply below_alloc | apply pw_below_drewN | apply below_drew1 | refine below_set ?_ GE101.out) | exact HB.out)⟩

/-! ### impl_alternate: function 134 -/
def impl_alternate.l0 : Nat → Int → List Int → Int → Int → Option (Bool)
 | 0, _, _, _, _ => none
 | k + 1, x3, x6, x7, x8 => if x8 < x7 then (if 0 ≤ x8 then (if x8 < (x6.length : Int) then ((impl_within.f (rd x6 x8) (-1) 1).bind fun t102 => (if t102 = true then ((impl_within.f (wrap64 (x3 + (rd x6 x8))) 0 1).bind fun t103 => (if t103 = true then (impl_alternate.l0 k (wrap64 (x3 + (rd x6 x8))) x6 x7 (wrap64 (x8 + 1))) else (some false))) else (some false))) else (none)) else (none)) else (some (x3 == 1))
def impl_alternate.f (k : Nat) (l0 : List Int) : Option (Bool) := impl_alternate.l0 k 0 l0 (l0.length : Int) 0
set_option maxHeartbeats 8000000 in
set_option maxRecDepth 100000 in
theorem impl_alternate.calls (k : Nat) (A0 : Option Addr) (c0 : Nat) (l0 : List Int) (r : Bool) (w : World) (hr0 : Kd.C (Kd.int .i64) w A0 l0.length l0) (hc0 : l0.length ≤ c0) (h : impl_alternate.f k l0 = some r) :
  Calls Try.prog 134 #[.slice A0 l0.length c0] w fun e w' => e = .returned (.bool r) ∧ Drawn0 w w' := by
 have HR0 := am_ hr0
 have HC0 := am_ hc0
 clear hr0 hc0
 have H : (impl_alternate.l0 k 0 l0 (l0.length : Int) 0) = some r := h
 clear h
 have H' := am_ H
 clear H
 go_enter Try.func134, Try.ntmps134
 go_wp2
 go_loopg [3, 8] k (fun kq v3 v8 w' => ∃ (x3_1 : Int) (x8_1 : Int), v3 = .int .i64 x3_1 ∧ v8 = .int .i64 x8_1 ∧ Aside0 (impl_alternate.l0 kq x3_1 l0 (l0.length : Int) x8_1 = some r) ∧ Aside0 (kq ≤ k) ∧ Drawn0 w w')
 case atStart => exact ⟨(0), (0), tc7_, tc7_, H', ⟨Nat.le_refl _⟩, by repeat (first | exact Drawn0.refl _ | apply Drawn0.step)⟩
 case round =>
  clear H'
  try clear c1
  obtain ⟨x3_1, x8_1, rfl, rfl, HA, HK1, ⟨m1, rfl⟩⟩ := hrel
  cases gk with
  | zero => exact absurd HA.out (by simp [impl_alternate.l0])
  | succ k1 =>
   have H := HA.out
   clear HA
   simp only [impl_alternate.l0] at H
   by_cases c2 : x8_1 < (l0.length : Int)
   ·rw [if_pos c2] at H
    have c2b0 : decide (x8_1 < (l0.length : Int)) = true := decide_eq_true c2
    clear c2
    by_cases c3 : 0 ≤ x8_1
    ·rw [if_pos c3] at H
     have c3b0 : decide (0 ≤ x8_1) = true := decide_eq_true c3
     clear c3
     by_cases c4 : x8_1 < (l0.length : Int)
     ·rw [if_pos c4] at H
      have c4b0 : decide (x8_1 < (l0.length : Int)) = true := decide_eq_true c4
      clear c4
      replace H := Option.bind_eq_some_iff.mp H
      obtain ⟨t102, A50, H⟩ := H
      replace H : (if t102 = true then ((impl_within.f (wrap64 (x3_1 + (rd l0 x8_1))) 0 1).bind fun t103 => (if t103 = true then (impl_alternate.l0 k1 (wrap64 (x3_1 + (rd l0 x8_1))) l0 (l0.length : Int) (wrap64 (x8_1 + 1))) else (some false))) else (some false)) = some r := H
      have A5 := am_ A50
      clear A50
      by_cases c6 : t102 = true
      ·subst c6
       have H1 : ((impl_within.f (wrap64 (x3_1 + (rd l0 x8_1))) 0 1).bind fun t103 => (if t103 = true then (impl_alternate.l0 k1 (wrap64 (x3_1 + (rd l0 x8_1))) l0 (l0.length : Int) (wrap64 (x8_1 + 1))) else (some false))) = some r := by rw [if_pos rfl] at H; exact H
       clear H
       have H := H1
       clear H1
       replace H := Option.bind_eq_some_iff.mp H
       obtain ⟨t103, A70, H⟩ := H
       replace H : (if t103 = true then (impl_alternate.l0 k1 (wrap64 (x3_1 + (rd l0 x8_1))) l0 (l0.length : Int) (wrap64 (x8_1 + 1))) else (some false)) = some r := H
       have A7 := am_ A70
       clear A70
       by_cases c8 : t103 = true
       ·subst c8
        have H1 : (impl_alternate.l0 k1 (wrap64 (x3_1 + (rd l0 x8_1))) l0 (l0.length : Int) (wrap64 (x8_1 + 1))) = some r := by rw [if_pos rfl] at H; exact H
        clear H
        have H := H1
        clear H1
        have H' := am_ H
        clear H
        have p101 : 0 ≤ (x8_1 : Int) := of_decide_eq_true tc3_
        have q101 : x8_1 < (l0.length : Int) := of_decide_eq_true tc3_
        obtain ⟨ad101, e101, hx101_0⟩ := Kd.at_int HR0.out x8_1 p101 q101
        cases e101
        replace p101 := eq_true p101
        replace q101 := eq_true q101
        go_wp2_with (first | ((with_reducible refine gate_callee (f := 107) rfl ?_); refine goesL_ (some 16) rfl rfl Try.func107 (by kernel_rfl) rfl #[.int .i64 (rd l0 x8_1), .int .i64 (-1), .int .i64 1] rfl tc1_ ?_; (with_reducible refine (impl_within.calls (rd l0 x8_1) (-1) 1 true _ A5.out).mono ?_); rintro e w' ⟨rfl, ⟨nd, rfl⟩⟩; refine ⟨_, rfl, ?_⟩) | (go_at_call 107; (with_reducible refine (impl_within.calls (wrap64 (x3_1 + (rd l0 x8_1))) 0 1 true _ A7.out).mono ?_); rintro e w' ⟨rfl, ⟨nd, rfl⟩⟩))
        go_roundg k1
        case measure => have := HK1.out; omega
        case rel => exact ⟨(wrap64 (x3_1 + (rd l0 x8_1))), (wrap64 (x8_1 + 1)), tc7_, tc7_, H', ⟨by have := HK1.out; omega⟩, by repeat (first | exact Drawn0.refl _ | apply Drawn0.step)⟩
       ·replace c8 := Bool.eq_false_iff.mpr c8
        subst c8
        have H1 : (some false) = some r := by rw [if_neg (show ¬ (false = true) by decide)] at H; exact H
        clear H
        have H := H1
        clear H1
        obtain rfl := Option.some.inj H
        have p101 : 0 ≤ (x8_1 : Int) := of_decide_eq_true tc3_
        have q101 : x8_1 < (l0.length : Int) := of_decide_eq_true tc3_
        obtain ⟨ad101, e101, hx101_0⟩ := Kd.at_int HR0.out x8_1 p101 q101
        cases e101
        replace p101 := eq_true p101
        replace q101 := eq_true q101
        go_wp2_with (first | ((with_reducible refine gate_callee (f := 107) rfl ?_); refine goesL_ (some 16) rfl rfl Try.func107 (by kernel_rfl) rfl #[.int .i64 (rd l0 x8_1), .int .i64 (-1), .int .i64 1] rfl tc1_ ?_; (with_reducible refine (impl_within.calls (rd l0 x8_1) (-1) 1 true _ A5.out).mono ?_); rintro e w' ⟨rfl, ⟨nd, rfl⟩⟩; refine ⟨_, rfl, ?_⟩) | (go_at_call 107; (with_reducible refine (impl_within.calls (wrap64 (x3_1 + (rd l0 x8_1))) 0 1 false _ A7.out).mono ?_); rintro e w' ⟨rfl, ⟨nd, rfl⟩⟩))
        go_ret
        exact ⟨by first | rfl | (simp; done) | (simp [*]; done), by repeat (first | exact Drawn0.refl _ | apply Drawn0.step)⟩
      ·replace c6 := Bool.eq_false_iff.mpr c6
       subst c6
       have H1 : (some false) = some r := by rw [if_neg (show ¬ (false = true) by decide)] at H; exact H
       clear H
       have H := H1
       clear H1
       obtain rfl := Option.some.inj H
       have p101 : 0 ≤ (x8_1 : Int) := of_decide_eq_true tc3_
       have q101 : x8_1 < (l0.length : Int) := of_decide_eq_true tc3_
       obtain ⟨ad101, e101, hx101_0⟩ := Kd.at_int HR0.out x8_1 p101 q101
       cases e101
       replace p101 := eq_true p101
       replace q101 := eq_true q101
       go_wp2_with (first | ((with_reducible refine gate_callee (f := 107) rfl ?_); refine goesL_ (some 16) rfl rfl Try.func107 (by kernel_rfl) rfl #[.int .i64 (rd l0 x8_1), .int .i64 (-1), .int .i64 1] rfl tc1_ ?_; (with_reducible refine (impl_within.calls (rd l0 x8_1) (-1) 1 false _ A5.out).mono ?_); rintro e w' ⟨rfl, ⟨nd, rfl⟩⟩; refine ⟨_, rfl, ?_⟩))
       go_ret
       exact ⟨by first | rfl | (simp; done) | (simp [*]; done), by repeat (first | exact Drawn0.refl _ | apply Drawn0.step)⟩
     ·rw [if_neg c4] at H
      exact absurd H (by simp)
    ·rw [if_neg c3] at H
     exact absurd H (by simp)
   ·rw [if_neg c2] at H
    have c2b0 : decide (x8_1 < (l0.length : Int)) = false := decide_eq_false c2
    clear c2
    obtain rfl := Option.some.inj H
    go_wp2
    go_ret
    exact ⟨by first | rfl | (simp; done) | (simp [*]; done), by repeat (first | exact Drawn0.refl _ | apply Drawn0.step)⟩

/-! ### impl_column: function 135 -/
def impl_column.l0 : Nat → Int → List Int → List (List Int) → Int → Int → Option (List Int)
 | 0, _, _, _, _, _ => none
 | k + 1, x1, x5, x9, x10, x11 => if x11 < x10 then (if 0 ≤ x11 then (if x11 < (x9.length : Int) then (if 0 ≤ x1 then (if x1 < ((rd_L3 x9 x11).length : Int) then (if x5.length < 17592186044416 then (impl_column.l0 k x1 (x5 ++ [rd (rd_L3 x9 x11) x1]) x9 x10 (wrap64 (x11 + 1))) else (none)) else (none)) else (none)) else (none)) else (none)) else (some x5)
def impl_column.f (k : Nat) (l0 : List (List Int)) (a1 : Int) : Option (List Int) := impl_column.l0 k a1 (([] : List Int)) l0 (l0.length : Int) 0
set_option maxHeartbeats 8000000 in
set_option maxRecDepth 100000 in
theorem impl_column.calls (k : Nat) (A0 : Option Addr) (c0 : Nat) (l0 : List (List Int)) (a1 : Int) (r : List Int) (w : World) (hr0 : Kd.C (Kd.slice 3 (Kd.int .i64)) w A0 l0.length l0) (hc0 : l0.length ≤ c0) (h : impl_column.f k l0 a1 = some r) :
  Calls Try.prog 135 #[.slice A0 l0.length c0, .int .i64 a1] w fun e w' => ∃ v0_ : Value, e = .returned (v0_) ∧ Kd.R (Kd.int .i64) 3 w' w.heap.size (fun _ => True) v0_ r ∧ Below w.heap.size w w' := by
 have HR0 := am_ hr0
 have HC0 := am_ hc0
 clear hr0 hc0
 have HB := am_ (Below.refl w.heap.size w)
 have H : (impl_column.l0 k a1 (([] : List Int)) l0 (l0.length : Int) 0) = some r := h
 clear h
 obtain ⟨y101, hy101⟩ : ∃ y_ : List Int, y_ = (([] : List Int)) := ⟨_, rfl⟩
 replace H : (impl_column.l0 k a1 y101 l0 (l0.length : Int) 0) = some r := by first | (rw [hy101]; with_reducible exact H) | (have H2_ := (Option.bind_some _ _).symm.trans H; rw [hy101]; with_reducible exact H2_) | (have H2_ := (Option.bind_some _ _).symm.trans H; with_reducible exact H2_) | with_reducible exact H | (rw [hy101]; exact H) | exact H
 have Ny101 := am_ hy101
 clear hy101
 have H' := am_ H
 clear H
 go_enter Try.func135, Try.ntmps135
 go_wp2_with (first | ((with_reducible refine gate_dst (N := 8) rfl ?_); refine Kd.R_lit (Kd.int .i64) _ 3 ?hg (N := 8) ?hd (xs := ([] : List Int)) (inner := []) (ok := fun _ => True) (okp := fun _ => True) ?hr ?hp (fun _ hk => hk) trivial (Below.refl _ _) (Nat.le_refl _) (by simp) ?_; (case hd => rfl); (case hg => rfl); (case hr => exact tc19_); (case hp => exact (Reps.none _ _)); intro v102 w3 ho4 hb hg_ hnew_; clear hg_ hnew_; (first | rw [← Ny101.out] at ho4 | (simp only [Int.reduceToNat] at ho4; rw [← Ny101.out] at ho4)); have n0_ := am_ (Kd.R_lower ho4 (below_size tc0_)); have n1_ := am_ (below_step tc0_ hb); clear HB; have HO103 := n0_; have HB := n1_; clear n0_ n1_; clear hb ho4))
 go_loopg [5, 11] k (fun kq v5 v11 w' => ∃ (x5_1 : List Int) (x11_1 : Int), v11 = .int .i64 x11_1 ∧ Aside0 (impl_column.l0 kq a1 x5_1 l0 (l0.length : Int) x11_1 = some r) ∧ Aside0 (kq ≤ k) ∧ Aside0 (Kd.R (Kd.int .i64) 3 w' w.heap.size (fun _ => True) v5 x5_1) ∧ Aside0 (Below w.heap.size w w'))
 case atStart => exact ⟨(y101), (0), tc7_, H', ⟨Nat.le_refl _⟩, ⟨by (with_reducible repeat (first | apply Kd.R_alloc | apply Kd.R_drewN | apply Kd.R_drew)); exact HO103.out⟩, ⟨by repeat (first | (with_reducible first | exact HB.out | apply below_alloc | apply pw_below_drewN | apply below_drew1) | exact HB.out)⟩⟩
 case round =>
  clear H'
  try clear c1
  try clear p2
  obtain ⟨x5_1, x11_1, rfl, HA, HK1, HO_5, HB⟩ := hrel
  cases gk with
  | zero => exact absurd HA.out (by simp [impl_column.l0])
  | succ k1 =>
   have H := HA.out
   clear HA
   simp only [impl_column.l0] at H
   by_cases c5 : x11_1 < (l0.length : Int)
   ·rw [if_pos c5] at H
    have c5b0 : decide (x11_1 < (l0.length : Int)) = true := decide_eq_true c5
    clear c5
    by_cases c6 : 0 ≤ x11_1
    ·rw [if_pos c6] at H
     have c6b0 : decide (0 ≤ x11_1) = true := decide_eq_true c6
     clear c6
     by_cases c7 : x11_1 < (l0.length : Int)
     ·rw [if_pos c7] at H
      have c7b0 : decide (x11_1 < (l0.length : Int)) = true := decide_eq_true c7
      clear c7
      by_cases c8 : 0 ≤ a1
      ·rw [if_pos c8] at H
       have c8b0 : decide (0 ≤ a1) = true := decide_eq_true c8
       clear c8
       by_cases c9 : a1 < ((rd_L3 l0 x11_1).length : Int)
       ·rw [if_pos c9] at H
        have c9b0 : decide (a1 < ((rd_L3 l0 x11_1).length : Int)) = true := decide_eq_true c9
        clear c9
        by_cases c10 : x5_1.length < 17592186044416
        ·rw [if_pos c10] at H
         have LMc10 := am_ c10
         clear c10
         obtain ⟨y106, hy106⟩ : ∃ y_ : List Int, y_ = (x5_1 ++ [rd (rd_L3 l0 x11_1) a1]) := ⟨_, rfl⟩
         replace H : (impl_column.l0 k1 a1 y106 l0 (l0.length : Int) (wrap64 (x11_1 + 1))) = some r := by first | (rw [hy106]; with_reducible exact H) | (have H2_ := (Option.bind_some _ _).symm.trans H; rw [hy106]; with_reducible exact H2_) | (have H2_ := (Option.bind_some _ _).symm.trans H; with_reducible exact H2_) | with_reducible exact H | (rw [hy106]; exact H) | exact H
         have Ny106 := am_ hy106
         clear hy106
         have H' := am_ H
         clear H
         have p104 : 0 ≤ (x11_1 : Int) := of_decide_eq_true tc3_
         have q104 : x11_1 < (l0.length : Int) := of_decide_eq_true tc3_
         obtain ⟨ad104, A104_0, c104_0, e104, hx104_0, hl104_0, hi104_0⟩ := at_L3 HR0.out x11_1 p104 q104
         cases e104
         replace hx104_0 := (HB.out.cell (World.block_lt_of_cell? w _ hx104_0)).trans hx104_0
         have HR104_0 := am_ hi104_0
         have HC104_0 := am_ hl104_0
         clear hi104_0 hl104_0
         replace p104 := eq_true p104
         replace q104 := eq_true q104
         have p105 : 0 ≤ (a1 : Int) := of_decide_eq_true tc3_
         have q105 : a1 < ((rd_L3 l0 x11_1).length : Int) := of_decide_eq_true tc3_
         obtain ⟨ad105, e105, hx105_0⟩ := Kd.at_int HR104_0.out a1 p105 q105
         cases e105
         replace hx105_0 := (HB.out.cell (World.block_lt_of_cell? w _ hx105_0)).trans hx105_0
         replace p105 := eq_true p105
         replace q105 := eq_true q105
         go_wp2_with (first | ((with_reducible refine gate_builtin (b := .append) (xs := #[.tmp 15, .tmp 20]) rfl ?_); at_builtin; refine Kd.R_append (Kd.int .i64) (w0 := w) w.heap.size rfl (.tmp 15) (.tmp 20) 35 3 (.int .i64 0) 8 rfl Try.underlying35 info3 rfl (by decide) (by omega) u5 x5_1 (rd (rd_L3 l0 x11_1) a1) [.int .i64 (rd (rd_L3 l0 x11_1) a1)] (fun _ => True) (fun _ => False) rfl rfl ?aP (fun _ hk => hk.elim) ?aF ?aO ?aB ?aS ?aL ?_; (case aP => exact rfl); (case aB => exact tc13_); (case aF => exact tc70_); (case aO => exact (by (with_reducible repeat (first | apply Kd.R_alloc | apply Kd.R_drewN | apply Kd.R_drew)); exact HO_5.out)); (case aS => exact tc16_); (case aL => have := LMc10.out; omega); intro v107 w11 ho hb hg hat; rw [← Ny106.out] at ho; have n0_ := am_ (hb); have n1_ := am_ (ho); clear HB HO_5; have HB := n0_; have HO108 := n1_; clear n0_ n1_; clear ho hb hg hat))
         go_roundg k1
         case measure => have := HK1.out; omega
         case rel => exact ⟨(y106), (wrap64 (x11_1 + 1)), tc7_, H', ⟨by have := HK1.out; omega⟩, ⟨by (with_reducible repeat (first | apply Kd.R_alloc | apply Kd.R_drewN | apply Kd.R_drew)); exact HO108.out⟩, ⟨by repeat (first | (with_reducible first | exact HB.out | apply below_alloc | apply pw_below_drewN | apply below_drew1) | exact HB.out)⟩⟩
        ·rw [if_neg c10] at H
         exact absurd H (by simp)
       ·rw [if_neg c9] at H
        exact absurd H (by simp)
      ·rw [if_neg c8] at H
       exact absurd H (by simp)
     ·rw [if_neg c7] at H
      exact absurd H (by simp)
    ·rw [if_neg c6] at H
     exact absurd H (by simp)
   ·rw [if_neg c5] at H
    have c5b0 : decide (x11_1 < (l0.length : Int)) = false := decide_eq_false c5
    clear c5
    obtain rfl := Option.some.inj H
    go_wp2
    go_ret
    exact ⟨_, by first | rfl | (simp [errW_none, errW_some] <;> rfl) | (simp [*, errW_none, errW_some] <;> rfl), by (with_reducible repeat (first | apply Kd.R_alloc | apply Kd.R_drewN | apply Kd.R_drew)); exact HO_5.out, by repeat (first | (with_reducible first | exact HB.out | apply below_alloc | apply pw_below_drewN | apply below_drew1) | exact HB.out)⟩

/-! ### impl_IsSignMatrix: function 65 -/
mutual
def impl_IsSignMatrix.j0 : Nat → List (List Int) → Bool → Option (Bool)
 | 0, _, _ => none
 | k + 1, x0, x12 => if x12 = true then (some false) else (impl_IsSignMatrix.l0 k x0 (x0.length : Int) 0)
def impl_IsSignMatrix.l0 : Nat → List (List Int) → Int → Int → Option (Bool)
 | 0, _, _, _ => none
 | k + 1, x0, x14, x15 => if x15 < x14 then (if 0 ≤ x15 then (if x15 < (x0.length : Int) then ((impl_alternate.f k (rd_L3 x0 x15)).bind fun t104 => (if t104 = true then ((impl_column.f k x0 x15).bind fun t105 => ((impl_alternate.f k t105).bind fun t108 => (if t108 = true then (impl_IsSignMatrix.l0 k x0 x14 (wrap64 (x15 + 1))) else (some false)))) else (some false))) else (none)) else (none)) else (some true)
end
def impl_IsSignMatrix.f (k : Nat) (l0 : List (List Int)) : Option (Bool) := (impl_isSide.f (l0.length : Int)).bind fun t101 => (if t101 = true then ((impl_isSquare.f k l0).bind fun t102 => (impl_IsSignMatrix.j0 k l0 (!t102))) else (impl_IsSignMatrix.j0 k l0 true))
set_option maxHeartbeats 8000000 in
set_option maxRecDepth 100000 in
theorem impl_IsSignMatrix.calls (k : Nat) (A0 : Option Addr) (c0 : Nat) (l0 : List (List Int)) (r : Bool) (w : World) (hr0 : Kd.C (Kd.slice 3 (Kd.int .i64)) w A0 l0.length l0) (hc0 : l0.length ≤ c0) (h : impl_IsSignMatrix.f k l0 = some r) :
  Calls Try.prog 65 #[.slice A0 l0.length c0] w fun e w' => e = .returned (.bool r) ∧ Below w.heap.size w w' := by
 have HR0 := am_ hr0
 have HC0 := am_ hc0
 clear hr0 hc0
 have HB := am_ (Below.refl w.heap.size w)
 have H : ((impl_isSide.f (l0.length : Int)).bind fun t101 => (if t101 = true then ((impl_isSquare.f k l0).bind fun t102 => (impl_IsSignMatrix.j0 k l0 (!t102))) else (impl_IsSignMatrix.j0 k l0 true))) = some r := h
 clear h
 have HC2 := am_ H
 clear H
 go_enter Try.func65, Try.ntmps65
 go_upto_region 1 with (fail)
 go_cut [12] (fun v12 wc => ∃ (kq : Nat) (x12_1 : Bool), v12 = .bool x12_1 ∧ Aside0 (impl_IsSignMatrix.j0 kq l0 x12_1 = some r) ∧ Aside0 (kq ≤ k) ∧ Aside0 (Below w.heap.size w wc))
 case first =>
  have H := HC2.out
  clear HC2
  replace H := Option.bind_eq_some_iff.mp H
  obtain ⟨t101, A30, H⟩ := H
  replace H : (if t101 = true then ((impl_isSquare.f k l0).bind fun t102 => (impl_IsSignMatrix.j0 k l0 (!t102))) else (impl_IsSignMatrix.j0 k l0 true)) = some r := H
  have A3 := am_ A30
  clear A30
  by_cases c4 : t101 = true
  ·subst c4
   have H1 : ((impl_isSquare.f k l0).bind fun t102 => (impl_IsSignMatrix.j0 k l0 (!t102))) = some r := by rw [if_pos rfl] at H; exact H
   clear H
   have H := H1
   clear H1
   replace H := Option.bind_eq_some_iff.mp H
   obtain ⟨t102, A50, H⟩ := H
   replace H : (impl_IsSignMatrix.j0 k l0 (!t102)) = some r := H
   have A5 := am_ A50
   clear A50
   have H' := am_ H
   clear H
   go_wp2_with (first | ((with_reducible refine gate_callee (f := 69) rfl ?_); refine goesL_ (some 6) rfl rfl Try.func69 (by kernel_rfl) rfl #[.int .i64 (l0.length : Int)] rfl tc1_ ?_; (with_reducible refine (impl_isSide.calls (l0.length : Int) true _ A3.out).mono ?_); rintro e w' ⟨rfl, ⟨nd, rfl⟩⟩; refine ⟨_, rfl, ?_⟩) | (go_at_call 92; (with_reducible refine (impl_isSquare.calls k _ _ l0 t102 _ ?side1 ?side2 A5.out).mono ?_); (case side1 => exact tc33_); (case side2 => exact HC0.out); rintro e w6 ⟨rfl, hb⟩; have n0_ := am_ (below_step tc0_ hb); clear HB; have HB := n0_; clear n0_; (try clear hb)))
   go_meet
   case rel => exact ⟨_, (!t102), tc7_, H', ⟨by first | omega | exact Nat.le_refl _⟩, ⟨by repeat (first | (with_reducible first | exact HB.out | apply below_alloc | apply pw_below_drewN | apply below_drew1) | exact HB.out)⟩⟩
  ·replace c4 := Bool.eq_false_iff.mpr c4
   subst c4
   have H1 : (impl_IsSignMatrix.j0 k l0 true) = some r := by rw [if_neg (show ¬ (false = true) by decide)] at H; exact H
   clear H
   have H := H1
   clear H1
   have H' := am_ H
   clear H
   go_wp2_with (first | ((with_reducible refine gate_callee (f := 69) rfl ?_); refine goesL_ (some 6) rfl rfl Try.func69 (by kernel_rfl) rfl #[.int .i64 (l0.length : Int)] rfl tc1_ ?_; (with_reducible refine (impl_isSide.calls (l0.length : Int) false _ A3.out).mono ?_); rintro e w' ⟨rfl, ⟨nd, rfl⟩⟩; refine ⟨_, rfl, ?_⟩))
   go_meet
   case rel => exact ⟨_, (true), tc7_, H', ⟨by first | omega | exact Nat.le_refl _⟩, ⟨by repeat (first | (with_reducible first | exact HB.out | apply below_alloc | apply pw_below_drewN | apply below_drew1) | exact HB.out)⟩⟩
 case rest =>
  clear HC2
  try clear p2
  try clear c4
  try clear c6
  obtain ⟨kq, x12_1, rfl, HA, HJ1, HB⟩ := hcut
  cases kq with
  | zero => exact absurd HA.out (by simp [impl_IsSignMatrix.j0])
  | succ kj1 =>
   have H := HA.out
   clear HA
   simp only [impl_IsSignMatrix.j0] at H
   by_cases c7 : x12_1 = true
   ·subst c7
    have H1 : (some false) = some r := by rw [if_pos rfl] at H; exact H
    clear H
    have H := H1
    clear H1
    obtain rfl := Option.some.inj H
    go_wp2
    go_ret
    exact ⟨by first | rfl | (simp [errW_none, errW_some] <;> rfl) | (simp [*, errW_none, errW_some] <;> rfl), by repeat (first | (with_reducible first | exact HB.out | apply below_alloc | apply pw_below_drewN | apply below_drew1) | exact HB.out)⟩
   ·replace c7 := Bool.eq_false_iff.mpr c7
    subst c7
    have H1 : (impl_IsSignMatrix.l0 kj1 l0 (l0.length : Int) 0) = some r := by rw [if_neg (show ¬ (false = true) by decide)] at H; exact H
    clear H
    have H := H1
    clear H1
    have H' := am_ H
    clear H
    go_wp2
    go_loopg [15] kj1 (fun kq v15 w' => ∃ (x15_2 : Int), v15 = .int .i64 x15_2 ∧ Aside0 (impl_IsSignMatrix.l0 kq l0 (l0.length : Int) x15_2 = some r) ∧ Aside0 (kq ≤ kj1) ∧ Aside0 (Below w.heap.size w w'))
    case atStart => exact ⟨(0), tc7_, H', ⟨Nat.le_refl _⟩, ⟨by repeat (first | (with_reducible first | exact HB.out | apply below_alloc | apply pw_below_drewN | apply below_drew1) | exact HB.out)⟩⟩
    case round =>
     clear H'
     try clear p2
     try clear c4
     try clear c6
     try clear c7
     try clear p2
     obtain ⟨x15_2, rfl, HA, HK2, HB⟩ := hrel
     cases gk with
     | zero => exact absurd HA.out (by simp [impl_IsSignMatrix.l0])
     | succ k2 =>
      have H := HA.out
      clear HA
      simp only [impl_IsSignMatrix.l0] at H
      by_cases c8 : x15_2 < (l0.length : Int)
      ·rw [if_pos c8] at H
       have c8b0 : decide (x15_2 < (l0.length : Int)) = true := decide_eq_true c8
       clear c8
       by_cases c9 : 0 ≤ x15_2
       ·rw [if_pos c9] at H
        have c9b0 : decide (0 ≤ x15_2) = true := decide_eq_true c9
        clear c9
        by_cases c10 : x15_2 < (l0.length : Int)
        ·rw [if_pos c10] at H
         have c10b0 : decide (x15_2 < (l0.length : Int)) = true := decide_eq_true c10
         clear c10
         replace H := Option.bind_eq_some_iff.mp H
         obtain ⟨t104, A110, H⟩ := H
         replace H : (if t104 = true then ((impl_column.f k2 l0 x15_2).bind fun t105 => ((impl_alternate.f k2 t105).bind fun t108 => (if t108 = true then (impl_IsSignMatrix.l0 k2 l0 (l0.length : Int) (wrap64 (x15_2 + 1))) else (some false)))) else (some false)) = some r := H
         have A11 := am_ A110
         clear A110
         by_cases c12 : t104 = true
         ·subst c12
          have H1 : ((impl_column.f k2 l0 x15_2).bind fun t105 => ((impl_alternate.f k2 t105).bind fun t108 => (if t108 = true then (impl_IsSignMatrix.l0 k2 l0 (l0.length : Int) (wrap64 (x15_2 + 1))) else (some false)))) = some r := by rw [if_pos rfl] at H; exact H
          clear H
          have H := H1
          clear H1
          replace H := Option.bind_eq_some_iff.mp H
          obtain ⟨t105, A130, H⟩ := H
          replace H : ((impl_alternate.f k2 t105).bind fun t108 => (if t108 = true then (impl_IsSignMatrix.l0 k2 l0 (l0.length : Int) (wrap64 (x15_2 + 1))) else (some false))) = some r := H
          have A13 := am_ A130
          clear A130
          replace H := Option.bind_eq_some_iff.mp H
          obtain ⟨t108, A140, H⟩ := H
          replace H : (if t108 = true then (impl_IsSignMatrix.l0 k2 l0 (l0.length : Int) (wrap64 (x15_2 + 1))) else (some false)) = some r := H
          have A14 := am_ A140
          clear A140
          by_cases c15 : t108 = true
          ·subst c15
           have H1 : (impl_IsSignMatrix.l0 k2 l0 (l0.length : Int) (wrap64 (x15_2 + 1))) = some r := by rw [if_pos rfl] at H; exact H
           clear H
           have H := H1
           clear H1
           have H' := am_ H
           clear H
           have p103 : 0 ≤ (x15_2 : Int) := of_decide_eq_true tc3_
           have q103 : x15_2 < (l0.length : Int) := of_decide_eq_true tc3_
           obtain ⟨ad103, A103_0, c103_0, e103, hx103_0, hl103_0, hi103_0⟩ := at_L3 HR0.out x15_2 p103 q103
           cases e103
           replace hx103_0 := (HB.out.cell (World.block_lt_of_cell? w _ hx103_0)).trans hx103_0
           have HR103_0 := am_ hi103_0
           have HC103_0 := am_ hl103_0
           clear hi103_0 hl103_0
           replace p103 := eq_true p103
           replace q103 := eq_true q103
           go_wp2_with (first | ((with_reducible refine gate_callee (f := 134) rfl ?_); refine goesL_ (some 22) rfl rfl Try.func134 (by kernel_rfl) rfl #[.slice A103_0 (rd_L3 l0 x15_2).length c103_0] rfl tc1_ ?_; (with_reducible refine (impl_alternate.calls k2 _ _ (rd_L3 l0 x15_2) true _ ?side1 ?side2 A11.out).mono ?_); (case side1 => exact tc58_); (case side2 => exact HC103_0.out); rintro e w' ⟨rfl, ⟨nd, rfl⟩⟩; refine ⟨_, rfl, ?_⟩) | (go_at_call 135; (with_reducible refine (impl_column.calls k2 _ _ l0 x15_2 t105 _ ?side1 ?side2 A13.out).mono ?_); (case side1 => exact tc33_); (case side2 => exact HC0.out); rintro e w16 ⟨v106, rfl, ho0, hb⟩; have n0_ := am_ (Kd.R_lower ho0 (below_size tc0_)); have n1_ := am_ (below_step tc0_ hb); clear HB; have HO107 := n0_; have HB := n1_; clear n0_ n1_; (try clear hb ho0); obtain ⟨Ao17, co17, eo17⟩ := Kd.R_slice HO107.out; subst eo17) | (go_at_call 134; (with_reducible refine (impl_alternate.calls k2 _ _ t105 true _ ?side1 ?side2 A14.out).mono ?_); (case side1 => exact tc59_); (case side2 => exact (Kd.R_reads' HO107.out).2.1); rintro e w' ⟨rfl, ⟨nd, rfl⟩⟩))
           go_roundg k2
           case measure => have := HJ1.out; have := HK2.out; omega
           case rel => exact ⟨(wrap64 (x15_2 + 1)), tc7_, H', ⟨by have := HJ1.out; have := HK2.out; omega⟩, ⟨by repeat (first | (with_reducible first | exact HB.out | apply below_alloc | apply pw_below_drewN | apply below_drew1) | exact HB.out)⟩⟩
          ·replace c15 := Bool.eq_false_iff.mpr c15
           subst c15
           have H1 : (some false) = some r := by rw [if_neg (show ¬ (false = true) by decide)] at H; exact H
           clear H
           have H := H1
           clear H1
           obtain rfl := Option.some.inj H
           have p103 : 0 ≤ (x15_2 : Int) := of_decide_eq_true tc3_
           have q103 : x15_2 < (l0.length : Int) := of_decide_eq_true tc3_
           obtain ⟨ad103, A103_0, c103_0, e103, hx103_0, hl103_0, hi103_0⟩ := at_L3 HR0.out x15_2 p103 q103
           cases e103
           replace hx103_0 := (HB.out.cell (World.block_lt_of_cell? w _ hx103_0)).trans hx103_0
           have HR103_0 := am_ hi103_0
           have HC103_0 := am_ hl103_0
           clear hi103_0 hl103_0
           replace p103 := eq_true p103
           replace q103 := eq_true q103
           go_wp2_with (first | ((with_reducible refine gate_callee (f := 134) rfl ?_); refine goesL_ (some 22) rfl rfl Try.func134 (by kernel_rfl) rfl #[.slice A103_0 (rd_L3 l0 x15_2).length c103_0] rfl tc1_ ?_; (with_reducible refine (impl_alternate.calls k2 _ _ (rd_L3 l0 x15_2) true _ ?side1 ?side2 A11.out).mono ?_); (case side1 => exact tc58_); (case side2 => exact HC103_0.out); rintro e w' ⟨rfl, ⟨nd, rfl⟩⟩; refine ⟨_, rfl, ?_⟩) | (go_at_call 135; (with_reducible refine (impl_column.calls k2 _ _ l0 x15_2 t105 _ ?side1 ?side2 A13.out).mono ?_); (case side1 => exact tc33_); (case side2 => exact HC0.out); rintro e w18 ⟨v106, rfl, ho0, hb⟩; have n0_ := am_ (Kd.R_lower ho0 (below_size tc0_)); have n1_ := am_ (below_step tc0_ hb); clear HB; have HO107 := n0_; have HB := n1_; clear n0_ n1_; (try clear hb ho0); obtain ⟨Ao19, co19, eo19⟩ := Kd.R_slice HO107.out; subst eo19) | (go_at_call 134; (with_reducible refine (impl_alternate.calls k2 _ _ t105 false _ ?side1 ?side2 A14.out).mono ?_); (case side1 => exact tc59_); (case side2 => exact (Kd.R_reads' HO107.out).2.1); rintro e w' ⟨rfl, ⟨nd, rfl⟩⟩))
           go_ret
           exact ⟨by first | rfl | (simp [errW_none, errW_some] <;> rfl) | (simp [*, errW_none, errW_some] <;> rfl), by repeat (first | (with_reducible first | exact HB.out | apply below_alloc | apply pw_below_drewN | apply below_drew1) | exact HB.out)⟩
         ·replace c12 := Bool.eq_false_iff.mpr c12
          subst c12
          have H1 : (some false) = some r := by rw [if_neg (show ¬ (false = true) by decide)] at H; exact H
          clear H
          have H := H1
          clear H1
          obtain rfl := Option.some.inj H
          have p103 : 0 ≤ (x15_2 : Int) := of_decide_eq_true tc3_
          have q103 : x15_2 < (l0.length : Int) := of_decide_eq_true tc3_
          obtain ⟨ad103, A103_0, c103_0, e103, hx103_0, hl103_0, hi103_0⟩ := at_L3 HR0.out x15_2 p103 q103
          cases e103
          replace hx103_0 := (HB.out.cell (World.block_lt_of_cell? w _ hx103_0)).trans hx103_0
          have HR103_0 := am_ hi103_0
          have HC103_0 := am_ hl103_0
          clear hi103_0 hl103_0
          replace p103 := eq_true p103
          replace q103 := eq_true q103
          go_wp2_with (first | ((with_reducible refine gate_callee (f := 134) rfl ?_); refine goesL_ (some 22) rfl rfl Try.func134 (by kernel_rfl) rfl #[.slice A103_0 (rd_L3 l0 x15_2).length c103_0] rfl tc1_ ?_; (with_reducible refine (impl_alternate.calls k2 _ _ (rd_L3 l0 x15_2) false _ ?side1 ?side2 A11.out).mono ?_); (case side1 => exact tc58_); (case side2 => exact HC103_0.out); rintro e w' ⟨rfl, ⟨nd, rfl⟩⟩; refine ⟨_, rfl, ?_⟩))
          go_ret
          exact ⟨by first | rfl | (simp [errW_none, errW_some] <;> rfl) | (simp [*, errW_none, errW_some] <;> rfl), by repeat (first | (with_reducible first | exact HB.out | apply below_alloc | apply pw_below_drewN | apply below_drew1) | exact HB.out)⟩
        ·rw [if_neg c10] at H
         exact absurd H (by simp)
       ·rw [if_neg c9] at H
        exact absurd H (by simp)
      ·rw [if_neg c8] at H
       have c8b0 : decide (x15_2 < (l0.length : Int)) = false := decide_eq_false c8
       clear c8
       obtain rfl := Option.some.inj H
       go_wp2
       go_ret
       exact ⟨by first | rfl | (simp [errW_none, errW_some] <;> rfl) | (simp [*, errW_none, errW_some] <;> rfl), by repeat (first | (with_reducible first | exact HB.out | apply below_alloc | apply pw_below_drewN | apply below_drew1) | exact HB.out)⟩

/-! ### impl_HasSymmetry: function 48 -/
def impl_HasSymmetry.f (k : Nat) (l0 : List (List Int)) (a1 : Int) : Option (Bool × Bool) := (impl_IsSignMatrix.f k l0).bind fun t101 => (if t101 = true then ((impl_isKind.f a1).bind fun t102 => (if t102 = true then ((impl_hasKind.f k l0 a1).bind fun t103 => (some (t103, true))) else (some (false, false)))) else (some (false, false)))
set_option maxHeartbeats 8000000 in
set_option maxRecDepth 100000 in
theorem impl_HasSymmetry.calls (k : Nat) (A0 : Option Addr) (c0 : Nat) (l0 : List (List Int)) (a1 : Int) (r1 : Bool) (r2 : Bool) (w : World) (hr0 : Kd.C (Kd.slice 3 (Kd.int .i64)) w A0 l0.length l0) (hc0 : l0.length ≤ c0) (h : impl_HasSymmetry.f k l0 a1 = some (r1, r2)) :
  Calls Try.prog 48 #[.slice A0 l0.length c0, .int .i64 a1] w fun e w' => e = .returned (.tuple #[.bool r1, .bool r2]) ∧ Below w.heap.size w w' := by
 have HR0 := am_ hr0
 have HC0 := am_ hc0
 clear hr0 hc0
 have HB := am_ (Below.refl w.heap.size w)
 have H : ((impl_IsSignMatrix.f k l0).bind fun t101 => (if t101 = true then ((impl_isKind.f a1).bind fun t102 => (if t102 = true then ((impl_hasKind.f k l0 a1).bind fun t103 => (some (t103, true))) else (some (false, false)))) else (some (false, false)))) = some (r1, r2) := h
 clear h
 replace H := Option.bind_eq_some_iff.mp H
 obtain ⟨t101, A30, H⟩ := H
 replace H : (if t101 = true then ((impl_isKind.f a1).bind fun t102 => (if t102 = true then ((impl_hasKind.f k l0 a1).bind fun t103 => (some (t103, true))) else (some (false, false)))) else (some (false, false))) = some (r1, r2) := H
 have A3 := am_ A30
 clear A30
 by_cases c4 : t101 = true
 ·subst c4
  have H1 : ((impl_isKind.f a1).bind fun t102 => (if t102 = true then ((impl_hasKind.f k l0 a1).bind fun t103 => (some (t103, true))) else (some (false, false)))) = some (r1, r2) := by rw [if_pos rfl] at H; exact H
  clear H
  have H := H1
  clear H1
  replace H := Option.bind_eq_some_iff.mp H
  obtain ⟨t102, A50, H⟩ := H
  replace H : (if t102 = true then ((impl_hasKind.f k l0 a1).bind fun t103 => (some (t103, true))) else (some (false, false))) = some (r1, r2) := H
  have A5 := am_ A50
  clear A50
  by_cases c6 : t102 = true
  ·subst c6
   have H1 : ((impl_hasKind.f k l0 a1).bind fun t103 => (some (t103, true))) = some (r1, r2) := by rw [if_pos rfl] at H; exact H
   clear H
   have H := H1
   clear H1
   replace H := Option.bind_eq_some_iff.mp H
   obtain ⟨t103, A70, H⟩ := H
   replace H : (some (t103, true)) = some (r1, r2) := H
   have A7 := am_ A70
   clear A70
   simp only [Option.some.injEq, Prod.mk.injEq] at H
   obtain ⟨rfl, rfl⟩ := H
   go_enter Try.func48, Try.ntmps48
   go_wp2_with (first | ((with_reducible refine gate_callee (f := 65) rfl ?_); refine goesL_ (some 7) rfl rfl Try.func65 (by kernel_rfl) rfl #[.slice A0 l0.length c0] rfl tc1_ ?_; (with_reducible refine (impl_IsSignMatrix.calls k _ _ l0 true _ ?side1 ?side2 A3.out).mono ?_); (case side1 => exact tc23_); (case side2 => exact HC0.out); rintro e w8 ⟨rfl, hb⟩; refine ⟨_, rfl, ?_⟩; have n0_ := am_ (below_step tc0_ hb); clear HB; have HB := n0_; clear n0_; (try clear hb)) | (go_at_call 108; (with_reducible refine (impl_isKind.calls a1 true _ A5.out).mono ?_); rintro e w' ⟨rfl, ⟨nd, rfl⟩⟩) | ((with_reducible refine gate_callee (f := 111) rfl ?_); refine goesL_ (some 16) rfl rfl Try.func111 (by kernel_rfl) rfl #[.slice A0 l0.length c0, .int .i64 a1] rfl tc1_ ?_; (with_reducible refine (impl_hasKind.calls k _ _ l0 a1 t103 _ ?side1 ?side2 A7.out).mono ?_); (case side1 => exact tc33_); (case side2 => exact HC0.out); rintro e w9 ⟨rfl, hb⟩; refine ⟨_, rfl, ?_⟩; have n0_ := am_ (below_step tc0_ hb); clear HB; have HB := n0_; clear n0_; (try clear hb)))
   go_ret2
   exact ⟨by first | rfl | (simp [errW_none, errW_some] <;> rfl) | (simp [*, errW_none, errW_some] <;> rfl), by repeat (first | (with_reducible first | exact HB.out | apply below_alloc | apply pw_below_drewN | apply below_drew1) | exact HB.out)⟩
  ·replace c6 := Bool.eq_false_iff.mpr c6
   subst c6
   have H1 : (some (false, false)) = some (r1, r2) := by rw [if_neg (show ¬ (false = true) by decide)] at H; exact H
   clear H
   have H := H1
   clear H1
   simp only [Option.some.injEq, Prod.mk.injEq] at H
   obtain ⟨rfl, rfl⟩ := H
   go_enter Try.func48, Try.ntmps48
   go_wp2_with (first | ((with_reducible refine gate_callee (f := 65) rfl ?_); refine goesL_ (some 7) rfl rfl Try.func65 (by kernel_rfl) rfl #[.slice A0 l0.length c0] rfl tc1_ ?_; (with_reducible refine (impl_IsSignMatrix.calls k _ _ l0 true _ ?side1 ?side2 A3.out).mono ?_); (case side1 => exact tc23_); (case side2 => exact HC0.out); rintro e w10 ⟨rfl, hb⟩; refine ⟨_, rfl, ?_⟩; have n0_ := am_ (below_step tc0_ hb); clear HB; have HB := n0_; clear n0_; (try clear hb)) | (go_at_call 108; (with_reducible refine (impl_isKind.calls a1 false _ A5.out).mono ?_); rintro e w' ⟨rfl, ⟨nd, rfl⟩⟩))
   go_ret2
   exact ⟨by first | rfl | (simp [errW_none, errW_some] <;> rfl) | (simp [*, errW_none, errW_some] <;> rfl), by repeat (first | (with_reducible first | exact HB.out | apply below_alloc | apply pw_below_drewN | apply below_drew1) | exact HB.out)⟩
 ·replace c4 := Bool.eq_false_iff.mpr c4
  subst c4
  have H1 : (some (false, false)) = some (r1, r2) := by rw [if_neg (show ¬ (false = true) by decide)] at H; exact H
  clear H
  have H := H1
  clear H1
  simp only [Option.some.injEq, Prod.mk.injEq] at H
  obtain ⟨rfl, rfl⟩ := H
  go_enter Try.func48, Try.ntmps48
  go_wp2_with (first | ((with_reducible refine gate_callee (f := 65) rfl ?_); refine goesL_ (some 7) rfl rfl Try.func65 (by kernel_rfl) rfl #[.slice A0 l0.length c0] rfl tc1_ ?_; (with_reducible refine (impl_IsSignMatrix.calls k _ _ l0 false _ ?side1 ?side2 A3.out).mono ?_); (case side1 => exact tc23_); (case side2 => exact HC0.out); rintro e w11 ⟨rfl, hb⟩; refine ⟨_, rfl, ?_⟩; have n0_ := am_ (below_step tc0_ hb); clear HB; have HB := n0_; clear n0_; (try clear hb)))
  go_ret2
  exact ⟨by first | rfl | (simp [errW_none, errW_some] <;> rfl) | (simp [*, errW_none, errW_some] <;> rfl), by repeat (first | (with_reducible first | exact HB.out | apply below_alloc | apply pw_below_drewN | apply below_drew1) | exact HB.out)⟩

/-! ### laws_uSame: function 116 -/
def laws_uSame.l0 : Nat → List Int → List Int → Int → Int → Option (Bool)
 | 0, _, _, _, _ => none
 | k + 1, x0, x1, x12, x13 => if x13 < x12 then (if 0 ≤ x13 then (if x13 < (x0.length : Int) then (if x13 < (x1.length : Int) then (if (rd x0 x13) = (rd x1 x13) then (laws_uSame.l0 k x0 x1 x12 (wrap64 (x13 + 1))) else (some false)) else (none)) else (none)) else (none)) else (some true)
def laws_uSame.f (k : Nat) (l0 : List Int) (l1 : List Int) : Option (Bool) := if (l0.length : Int) = (l1.length : Int) then (laws_uSame.l0 k l0 l1 (l0.length : Int) 0) else (some false)
set_option maxHeartbeats 8000000 in
set_option maxRecDepth 100000 in
theorem laws_uSame.calls (k : Nat) (A0 : Option Addr) (c0 : Nat) (l0 : List Int) (A1 : Option Addr) (c1 : Nat) (l1 : List Int) (r : Bool) (w : World) (hr0 : Kd.C (Kd.int .i64) w A0 l0.length l0) (hc0 : l0.length ≤ c0) (hr1 : Kd.C (Kd.int .i64) w A1 l1.length l1) (hc1 : l1.length ≤ c1) (h : laws_uSame.f k l0 l1 = some r) :
  Calls Try.prog 116 #[.slice A0 l0.length c0, .slice A1 l1.length c1] w fun e w' => e = .returned (.bool r) ∧ Drawn0 w w' := by
 have HR0 := am_ hr0
 have HC0 := am_ hc0
 clear hr0 hc0
 have HR1 := am_ hr1
 have HC1 := am_ hc1
 clear hr1 hc1
 have H : (if (l0.length : Int) = (l1.length : Int) then (laws_uSame.l0 k l0 l1 (l0.length : Int) 0) else (some false)) = some r := h
 clear h
 by_cases c3 : (l0.length : Int) = (l1.length : Int)
 ·rw [if_pos c3] at H
  have c3b0 : ((l0.length : Int) == (l1.length : Int)) = true := beq_iff_eq.mpr c3
  have c3b1 : ((l0.length : Int) != (l1.length : Int)) = false := bne_eq_false_iff_eq.mpr c3
  have c3b2 : (l0.length == l1.length) = true := by first | simpa using c3 | (simp at c3 ⊢; omega)
  clear c3
  have H' := am_ H
  clear H
  go_enter Try.func116, Try.ntmps116
  go_wp2
  repeat (go_quiet (fail); try go_wp2)
  go_loopg [13] k (fun kq v13 w' => ∃ (x13_1 : Int), v13 = .int .i64 x13_1 ∧ Aside0 (laws_uSame.l0 kq l0 l1 (l0.length : Int) x13_1 = some r) ∧ Aside0 (kq ≤ k) ∧ Drawn0 w w')
  case atStart => exact ⟨(0), tc7_, H', ⟨Nat.le_refl _⟩, by repeat (first | exact Drawn0.refl _ | apply Drawn0.step)⟩
  case round =>
   clear H'
   try clear c1
   try clear p2
   try clear c3
   try clear c3b0
   try clear c3b1
   try clear c3b2
   obtain ⟨x13_1, rfl, HA, HK1, ⟨m1, rfl⟩⟩ := hrel
   cases gk with
   | zero => exact absurd HA.out (by simp [laws_uSame.l0])
   | succ k1 =>
    have H := HA.out
    clear HA
    simp only [laws_uSame.l0] at H
    by_cases c4 : x13_1 < (l0.length : Int)
    ·rw [if_pos c4] at H
     have c4b0 : decide (x13_1 < (l0.length : Int)) = true := decide_eq_true c4
     clear c4
     by_cases c5 : 0 ≤ x13_1
     ·rw [if_pos c5] at H
      have c5b0 : decide (0 ≤ x13_1) = true := decide_eq_true c5
      clear c5
      by_cases c6 : x13_1 < (l0.length : Int)
      ·rw [if_pos c6] at H
       have c6b0 : decide (x13_1 < (l0.length : Int)) = true := decide_eq_true c6
       clear c6
       by_cases c7 : x13_1 < (l1.length : Int)
       ·rw [if_pos c7] at H
        have c7b0 : decide (x13_1 < (l1.length : Int)) = true := decide_eq_true c7
        clear c7
        by_cases c8 : (rd l0 x13_1) = (rd l1 x13_1)
        ·rw [if_pos c8] at H
         have c8b0 : ((rd l0 x13_1) == (rd l1 x13_1)) = true := beq_iff_eq.mpr c8
         have c8b1 : ((rd l0 x13_1) != (rd l1 x13_1)) = false := bne_eq_false_iff_eq.mpr c8
         clear c8
         have H' := am_ H
         clear H
         have p101 : 0 ≤ (x13_1 : Int) := of_decide_eq_true tc3_
         have q101 : x13_1 < (l0.length : Int) := of_decide_eq_true tc3_
         obtain ⟨ad101, e101, hx101_0⟩ := Kd.at_int HR0.out x13_1 p101 q101
         cases e101
         replace p101 := eq_true p101
         replace q101 := eq_true q101
         have p102 : 0 ≤ (x13_1 : Int) := of_decide_eq_true tc3_
         have q102 : x13_1 < (l1.length : Int) := of_decide_eq_true tc3_
         obtain ⟨ad102, e102, hx102_0⟩ := Kd.at_int HR1.out x13_1 p102 q102
         cases e102
         replace p102 := eq_true p102
         replace q102 := eq_true q102
         go_wp2
         repeat (go_quiet (fail); try go_wp2)
         go_roundg k1
         case measure => have := HK1.out; omega
         case rel => exact ⟨(wrap64 (x13_1 + 1)), tc7_, H', ⟨by have := HK1.out; omega⟩, by repeat (first | exact Drawn0.refl _ | apply Drawn0.step)⟩
        ·rw [if_neg c8] at H
         have c8b0 : ((rd l0 x13_1) == (rd l1 x13_1)) = false := beq_eq_false_iff_ne.mpr c8
         have c8b1 : ((rd l0 x13_1) != (rd l1 x13_1)) = true := bne_iff_ne.mpr c8
         obtain rfl := Option.some.inj H
         have p101 : 0 ≤ (x13_1 : Int) := of_decide_eq_true tc3_
         have q101 : x13_1 < (l0.length : Int) := of_decide_eq_true tc3_
         obtain ⟨ad101, e101, hx101_0⟩ := Kd.at_int HR0.out x13_1 p101 q101
         cases e101
         replace p101 := eq_true p101
         replace q101 := eq_true q101
         have p102 : 0 ≤ (x13_1 : Int) := of_decide_eq_true tc3_
         have q102 : x13_1 < (l1.length : Int) := of_decide_eq_true tc3_
         obtain ⟨ad102, e102, hx102_0⟩ := Kd.at_int HR1.out x13_1 p102 q102
         cases e102
         replace p102 := eq_true p102
         replace q102 := eq_true q102
         go_wp2
         repeat (go_quiet (fail); try go_wp2)
         go_ret
         exact ⟨by first | rfl | (simp; done) | (simp [*]; done), by repeat (first | exact Drawn0.refl _ | apply Drawn0.step)⟩
       ·rw [if_neg c7] at H
        exact absurd H (by simp)
      ·rw [if_neg c6] at H
       exact absurd H (by simp)
     ·rw [if_neg c5] at H
      exact absurd H (by simp)
    ·rw [if_neg c4] at H
     have c4b0 : decide (x13_1 < (l0.length : Int)) = false := decide_eq_false c4
     clear c4
     obtain rfl := Option.some.inj H
     go_wp2
     repeat (go_quiet (fail); try go_wp2)
     go_ret
     exact ⟨by first | rfl | (simp; done) | (simp [*]; done), by repeat (first | exact Drawn0.refl _ | apply Drawn0.step)⟩
 ·rw [if_neg c3] at H
  have c3b0 : ((l0.length : Int) == (l1.length : Int)) = false := beq_eq_false_iff_ne.mpr c3
  have c3b1 : ((l0.length : Int) != (l1.length : Int)) = true := bne_iff_ne.mpr c3
  have c3b2 : (l0.length == l1.length) = false := by first | simpa using c3 | (simp at c3 ⊢; omega)
  obtain rfl := Option.some.inj H
  go_enter Try.func116, Try.ntmps116
  go_wp2
  repeat (go_quiet (fail); try go_wp2)
  go_ret
  exact ⟨by first | rfl | (simp; done) | (simp [*]; done), by repeat (first | exact Drawn0.refl _ | apply Drawn0.step)⟩

/-! ### laws_uSameRows: function 49 -/
def laws_uSameRows.l0 : Nat → List (List Int) → List (List Int) → Int → Int → Option (Bool)
 | 0, _, _, _, _ => none
 | k + 1, x0, x1, x12, x13 => if x13 < x12 then (if 0 ≤ x13 then (if x13 < (x0.length : Int) then (if x13 < (x1.length : Int) then ((laws_uSame.f k (rd_L3 x0 x13) (rd_L3 x1 x13)).bind fun t103 => (if t103 = true then (laws_uSameRows.l0 k x0 x1 x12 (wrap64 (x13 + 1))) else (some false))) else (none)) else (none)) else (none)) else (some true)
def laws_uSameRows.f (k : Nat) (l0 : List (List Int)) (l1 : List (List Int)) : Option (Bool) := if (l0.length : Int) = (l1.length : Int) then (laws_uSameRows.l0 k l0 l1 (l0.length : Int) 0) else (some false)
set_option maxHeartbeats 8000000 in
set_option maxRecDepth 100000 in
theorem laws_uSameRows.calls (k : Nat) (A0 : Option Addr) (c0 : Nat) (l0 : List (List Int)) (A1 : Option Addr) (c1 : Nat) (l1 : List (List Int)) (r : Bool) (w : World) (hr0 : Kd.C (Kd.slice 3 (Kd.int .i64)) w A0 l0.length l0) (hc0 : l0.length ≤ c0) (hr1 : Kd.C (Kd.slice 3 (Kd.int .i64)) w A1 l1.length l1) (hc1 : l1.length ≤ c1) (h : laws_uSameRows.f k l0 l1 = some r) :
  Calls Try.prog 49 #[.slice A0 l0.length c0, .slice A1 l1.length c1] w fun e w' => e = .returned (.bool r) ∧ Drawn0 w w' := by
 have HR0 := am_ hr0
 have HC0 := am_ hc0
 clear hr0 hc0
 have HR1 := am_ hr1
 have HC1 := am_ hc1
 clear hr1 hc1
 have H : (if (l0.length : Int) = (l1.length : Int) then (laws_uSameRows.l0 k l0 l1 (l0.length : Int) 0) else (some false)) = some r := h
 clear h
 by_cases c3 : (l0.length : Int) = (l1.length : Int)
 ·rw [if_pos c3] at H
  have c3b0 : ((l0.length : Int) == (l1.length : Int)) = true := beq_iff_eq.mpr c3
  have c3b1 : ((l0.length : Int) != (l1.length : Int)) = false := bne_eq_false_iff_eq.mpr c3
  have c3b2 : (l0.length == l1.length) = true := by first | simpa using c3 | (simp at c3 ⊢; omega)
  clear c3
  have H' := am_ H
  clear H
  go_enter Try.func49, Try.ntmps49
  go_wp2
  repeat (go_quiet (fail); try go_wp2)
  go_loopg [13] k (fun kq v13 w' => ∃ (x13_1 : Int), v13 = .int .i64 x13_1 ∧ Aside0 (laws_uSameRows.l0 kq l0 l1 (l0.length : Int) x13_1 = some r) ∧ Aside0 (kq ≤ k) ∧ Drawn0 w w')
  case atStart => exact ⟨(0), tc7_, H', ⟨Nat.le_refl _⟩, by repeat (first | exact Drawn0.refl _ | apply Drawn0.step)⟩
  case round =>
   clear H'
   try clear c1
   try clear p2
   try clear c3
   try clear c3b0
   try clear c3b1
   try clear c3b2
   obtain ⟨x13_1, rfl, HA, HK1, ⟨m1, rfl⟩⟩ := hrel
   cases gk with
   | zero => exact absurd HA.out (by simp [laws_uSameRows.l0])
   | succ k1 =>
    have H := HA.out
    clear HA
    simp only [laws_uSameRows.l0] at H
    by_cases c4 : x13_1 < (l0.length : Int)
    ·rw [if_pos c4] at H
     have c4b0 : decide (x13_1 < (l0.length : Int)) = true := decide_eq_true c4
     clear c4
     by_cases c5 : 0 ≤ x13_1
     ·rw [if_pos c5] at H
      have c5b0 : decide (0 ≤ x13_1) = true := decide_eq_true c5
      clear c5
      by_cases c6 : x13_1 < (l0.length : Int)
      ·rw [if_pos c6] at H
       have c6b0 : decide (x13_1 < (l0.length : Int)) = true := decide_eq_true c6
       clear c6
       by_cases c7 : x13_1 < (l1.length : Int)
       ·rw [if_pos c7] at H
        have c7b0 : decide (x13_1 < (l1.length : Int)) = true := decide_eq_true c7
        clear c7
        replace H := Option.bind_eq_some_iff.mp H
        obtain ⟨t103, A80, H⟩ := H
        replace H : (if t103 = true then (laws_uSameRows.l0 k1 l0 l1 (l0.length : Int) (wrap64 (x13_1 + 1))) else (some false)) = some r := H
        have A8 := am_ A80
        clear A80
        by_cases c9 : t103 = true
        ·subst c9
         have H1 : (laws_uSameRows.l0 k1 l0 l1 (l0.length : Int) (wrap64 (x13_1 + 1))) = some r := by rw [if_pos rfl] at H; exact H
         clear H
         have H := H1
         clear H1
         have H' := am_ H
         clear H
         have p101 : 0 ≤ (x13_1 : Int) := of_decide_eq_true tc3_
         have q101 : x13_1 < (l0.length : Int) := of_decide_eq_true tc3_
         obtain ⟨ad101, A101_0, c101_0, e101, hx101_0, hl101_0, hi101_0⟩ := at_L3 HR0.out x13_1 p101 q101
         cases e101
         have HR101_0 := am_ hi101_0
         have HC101_0 := am_ hl101_0
         clear hi101_0 hl101_0
         replace p101 := eq_true p101
         replace q101 := eq_true q101
         have p102 : 0 ≤ (x13_1 : Int) := of_decide_eq_true tc3_
         have q102 : x13_1 < (l1.length : Int) := of_decide_eq_true tc3_
         obtain ⟨ad102, A102_0, c102_0, e102, hx102_0, hl102_0, hi102_0⟩ := at_L3 HR1.out x13_1 p102 q102
         cases e102
         have HR102_0 := am_ hi102_0
         have HC102_0 := am_ hl102_0
         clear hi102_0 hl102_0
         replace p102 := eq_true p102
         replace q102 := eq_true q102
         go_wp2_with (first | (go_at_call 116; (with_reducible refine (laws_uSame.calls k1 _ _ (rd_L3 l0 x13_1) _ _ (rd_L3 l1 x13_1) true _ ?side1 ?side2 ?side3 ?side4 A8.out).mono ?_); (case side1 => exact tc27_); (case side2 => exact HC101_0.out); (case side3 => exact tc31_); (case side4 => exact HC102_0.out); rintro e w' ⟨rfl, ⟨nd, rfl⟩⟩; (try first | exact ⟨rfl, _, World.drewN_drewN _ _ _⟩ | exact ⟨rfl, _, Eq.trans (World.drewN_drewN _ _ _) (congrArg (World.drewN _) (Nat.add_assoc _ _ _))⟩)))
         repeat (go_quiet (first | (go_at_call 116; (with_reducible refine (laws_uSame.calls k1 _ _ (rd_L3 l0 x13_1) _ _ (rd_L3 l1 x13_1) true _ ?side1 ?side2 ?side3 ?side4 A8.out).mono ?_); (case side1 => exact tc27_); (case side2 => exact HC101_0.out); (case side3 => exact tc31_); (case side4 => exact HC102_0.out); rintro e w' ⟨rfl, ⟨nd, rfl⟩⟩; (try first | exact ⟨rfl, _, World.drewN_drewN _ _ _⟩ | exact ⟨rfl, _, Eq.trans (World.drewN_drewN _ _ _) (congrArg (World.drewN _) (Nat.add_assoc _ _ _))⟩))); try go_wp2_with (first | (go_at_call 116; (with_reducible refine (laws_uSame.calls k1 _ _ (rd_L3 l0 x13_1) _ _ (rd_L3 l1 x13_1) true _ ?side1 ?side2 ?side3 ?side4 A8.out).mono ?_); (case side1 => exact tc27_); (case side2 => exact HC101_0.out); (case side3 => exact tc31_); (case side4 => exact HC102_0.out); rintro e w' ⟨rfl, ⟨nd, rfl⟩⟩; (try first | exact ⟨rfl, _, World.drewN_drewN _ _ _⟩ | exact ⟨rfl, _, Eq.trans (World.drewN_drewN _ _ _) (congrArg (World.drewN _) (Nat.add_assoc _ _ _))⟩))))
         go_roundg k1
         case measure => have := HK1.out; omega
         case rel => exact ⟨(wrap64 (x13_1 + 1)), tc7_, H', ⟨by have := HK1.out; omega⟩, by repeat (first | exact Drawn0.refl _ | apply Drawn0.step)⟩
        ·replace c9 := Bool.eq_false_iff.mpr c9
         subst c9
         have H1 : (some false) = some r := by rw [if_neg (show ¬ (false = true) by decide)] at H; exact H
         clear H
         have H := H1
         clear H1
         obtain rfl := Option.some.inj H
         have p101 : 0 ≤ (x13_1 : Int) := of_decide_eq_true tc3_
         have q101 : x13_1 < (l0.length : Int) := of_decide_eq_true tc3_
         obtain ⟨ad101, A101_0, c101_0, e101, hx101_0, hl101_0, hi101_0⟩ := at_L3 HR0.out x13_1 p101 q101
         cases e101
         have HR101_0 := am_ hi101_0
         have HC101_0 := am_ hl101_0
         clear hi101_0 hl101_0
         replace p101 := eq_true p101
         replace q101 := eq_true q101
         have p102 : 0 ≤ (x13_1 : Int) := of_decide_eq_true tc3_
         have q102 : x13_1 < (l1.length : Int) := of_decide_eq_true tc3_
         obtain ⟨ad102, A102_0, c102_0, e102, hx102_0, hl102_0, hi102_0⟩ := at_L3 HR1.out x13_1 p102 q102
         cases e102
         have HR102_0 := am_ hi102_0
         have HC102_0 := am_ hl102_0
         clear hi102_0 hl102_0
         replace p102 := eq_true p102
         replace q102 := eq_true q102
         go_wp2_with (first | (go_at_call 116; (with_reducible refine (laws_uSame.calls k1 _ _ (rd_L3 l0 x13_1) _ _ (rd_L3 l1 x13_1) false _ ?side1 ?side2 ?side3 ?side4 A8.out).mono ?_); (case side1 => exact tc27_); (case side2 => exact HC101_0.out); (case side3 => exact tc31_); (case side4 => exact HC102_0.out); rintro e w' ⟨rfl, ⟨nd, rfl⟩⟩; (try first | exact ⟨rfl, _, World.drewN_drewN _ _ _⟩ | exact ⟨rfl, _, Eq.trans (World.drewN_drewN _ _ _) (congrArg (World.drewN _) (Nat.add_assoc _ _ _))⟩)))
         repeat (go_quiet (first | (go_at_call 116; (with_reducible refine (laws_uSame.calls k1 _ _ (rd_L3 l0 x13_1) _ _ (rd_L3 l1 x13_1) false _ ?side1 ?side2 ?side3 ?side4 A8.out).mono ?_); (case side1 => exact tc27_); (case side2 => exact HC101_0.out); (case side3 => exact tc31_); (case side4 => exact HC102_0.out); rintro e w' ⟨rfl, ⟨nd, rfl⟩⟩; (try first | exact ⟨rfl, _, World.drewN_drewN _ _ _⟩ | exact ⟨rfl, _, Eq.trans (World.drewN_drewN _ _ _) (congrArg (World.drewN _) (Nat.add_assoc _ _ _))⟩))); try go_wp2_with (first | (go_at_call 116; (with_reducible refine (laws_uSame.calls k1 _ _ (rd_L3 l0 x13_1) _ _ (rd_L3 l1 x13_1) false _ ?side1 ?side2 ?side3 ?side4 A8.out).mono ?_); (case side1 => exact tc27_); (case side2 => exact HC101_0.out); (case side3 => exact tc31_); (case side4 => exact HC102_0.out); rintro e w' ⟨rfl, ⟨nd, rfl⟩⟩; (try first | exact ⟨rfl, _, World.drewN_drewN _ _ _⟩ | exact ⟨rfl, _, Eq.trans (World.drewN_drewN _ _ _) (congrArg (World.drewN _) (Nat.add_assoc _ _ _))⟩))))
         go_ret
         exact ⟨by first | rfl | (simp; done) | (simp [*]; done), by repeat (first | exact Drawn0.refl _ | apply Drawn0.step)⟩
       ·rw [if_neg c7] at H
        exact absurd H (by simp)
      ·rw [if_neg c6] at H
       exact absurd H (by simp)
     ·rw [if_neg c5] at H
      exact absurd H (by simp)
    ·rw [if_neg c4] at H
     have c4b0 : decide (x13_1 < (l0.length : Int)) = false := decide_eq_false c4
     clear c4
     obtain rfl := Option.some.inj H
     go_wp2
     repeat (go_quiet (fail); try go_wp2)
     go_ret
     exact ⟨by first | rfl | (simp; done) | (simp [*]; done), by repeat (first | exact Drawn0.refl _ | apply Drawn0.step)⟩
 ·rw [if_neg c3] at H
  have c3b0 : ((l0.length : Int) == (l1.length : Int)) = false := beq_eq_false_iff_ne.mpr c3
  have c3b1 : ((l0.length : Int) != (l1.length : Int)) = true := bne_iff_ne.mpr c3
  have c3b2 : (l0.length == l1.length) = false := by first | simpa using c3 | (simp at c3 ⊢; omega)
  obtain rfl := Option.some.inj H
  go_enter Try.func49, Try.ntmps49
  go_wp2
  repeat (go_quiet (fail); try go_wp2)
  go_ret
  exact ⟨by first | rfl | (simp; done) | (simp [*]; done), by repeat (first | exact Drawn0.refl _ | apply Drawn0.step)⟩

/-! ### laws_uLess: function 117 -/
def laws_uLess.l0 : Nat → List Int → List Int → Int → Int → Option (Bool)
 | 0, _, _, _, _ => none
 | k + 1, x0, x1, x7, x8 => if x8 < x7 then (if 0 ≤ x8 then (if x8 < (x0.length : Int) then (if x8 < (x1.length : Int) then (if (rd x0 x8) = (rd x1 x8) then (laws_uLess.l0 k x0 x1 x7 (wrap64 (x8 + 1))) else (some (decide ((rd x0 x8) < (rd x1 x8))))) else (none)) else (none)) else (none)) else (some false)
def laws_uLess.f (k : Nat) (l0 : List Int) (l1 : List Int) : Option (Bool) := laws_uLess.l0 k l0 l1 (l0.length : Int) 0
set_option maxHeartbeats 8000000 in
set_option maxRecDepth 100000 in
theorem laws_uLess.calls (k : Nat) (A0 : Option Addr) (c0 : Nat) (l0 : List Int) (A1 : Option Addr) (c1 : Nat) (l1 : List Int) (r : Bool) (w : World) (hr0 : Kd.C (Kd.int .i64) w A0 l0.length l0) (hc0 : l0.length ≤ c0) (hr1 : Kd.C (Kd.int .i64) w A1 l1.length l1) (hc1 : l1.length ≤ c1) (h : laws_uLess.f k l0 l1 = some r) :
  Calls Try.prog 117 #[.slice A0 l0.length c0, .slice A1 l1.length c1] w fun e w' => e = .returned (.bool r) ∧ Drawn0 w w' := by
 have HR0 := am_ hr0
 have HC0 := am_ hc0
 clear hr0 hc0
 have HR1 := am_ hr1
 have HC1 := am_ hc1
 clear hr1 hc1
 have H : (laws_uLess.l0 k l0 l1 (l0.length : Int) 0) = some r := h
 clear h
 have H' := am_ H
 clear H
 go_enter Try.func117, Try.ntmps117
 go_wp2
 repeat (go_quiet (fail); try go_wp2)
 go_loopg [8] k (fun kq v8 w' => ∃ (x8_1 : Int), v8 = .int .i64 x8_1 ∧ Aside0 (laws_uLess.l0 kq l0 l1 (l0.length : Int) x8_1 = some r) ∧ Aside0 (kq ≤ k) ∧ Drawn0 w w')
 case atStart => exact ⟨(0), tc7_, H', ⟨Nat.le_refl _⟩, by repeat (first | exact Drawn0.refl _ | apply Drawn0.step)⟩
 case round =>
  clear H'
  try clear c1
  try clear p2
  obtain ⟨x8_1, rfl, HA, HK1, ⟨m1, rfl⟩⟩ := hrel
  cases gk with
  | zero => exact absurd HA.out (by simp [laws_uLess.l0])
  | succ k1 =>
   have H := HA.out
   clear HA
   simp only [laws_uLess.l0] at H
   by_cases c3 : x8_1 < (l0.length : Int)
   ·rw [if_pos c3] at H
    have c3b0 : decide (x8_1 < (l0.length : Int)) = true := decide_eq_true c3
    clear c3
    by_cases c4 : 0 ≤ x8_1
    ·rw [if_pos c4] at H
     have c4b0 : decide (0 ≤ x8_1) = true := decide_eq_true c4
     clear c4
     by_cases c5 : x8_1 < (l0.length : Int)
     ·rw [if_pos c5] at H
      have c5b0 : decide (x8_1 < (l0.length : Int)) = true := decide_eq_true c5
      clear c5
      by_cases c6 : x8_1 < (l1.length : Int)
      ·rw [if_pos c6] at H
       have c6b0 : decide (x8_1 < (l1.length : Int)) = true := decide_eq_true c6
       clear c6
       by_cases c7 : (rd l0 x8_1) = (rd l1 x8_1)
       ·rw [if_pos c7] at H
        have c7b0 : ((rd l0 x8_1) == (rd l1 x8_1)) = true := beq_iff_eq.mpr c7
        have c7b1 : ((rd l0 x8_1) != (rd l1 x8_1)) = false := bne_eq_false_iff_eq.mpr c7
        clear c7
        have H' := am_ H
        clear H
        have p101 : 0 ≤ (x8_1 : Int) := of_decide_eq_true tc3_
        have q101 : x8_1 < (l0.length : Int) := of_decide_eq_true tc3_
        obtain ⟨ad101, e101, hx101_0⟩ := Kd.at_int HR0.out x8_1 p101 q101
        cases e101
        replace p101 := eq_true p101
        replace q101 := eq_true q101
        have p102 : 0 ≤ (x8_1 : Int) := of_decide_eq_true tc3_
        have q102 : x8_1 < (l1.length : Int) := of_decide_eq_true tc3_
        obtain ⟨ad102, e102, hx102_0⟩ := Kd.at_int HR1.out x8_1 p102 q102
        cases e102
        replace p102 := eq_true p102
        replace q102 := eq_true q102
        go_wp2
        repeat (go_quiet (fail); try go_wp2)
        go_roundg k1
        case measure => have := HK1.out; omega
        case rel => exact ⟨(wrap64 (x8_1 + 1)), tc7_, H', ⟨by have := HK1.out; omega⟩, by repeat (first | exact Drawn0.refl _ | apply Drawn0.step)⟩
       ·rw [if_neg c7] at H
        have c7b0 : ((rd l0 x8_1) == (rd l1 x8_1)) = false := beq_eq_false_iff_ne.mpr c7
        have c7b1 : ((rd l0 x8_1) != (rd l1 x8_1)) = true := bne_iff_ne.mpr c7
        obtain rfl := Option.some.inj H
        have p101 : 0 ≤ (x8_1 : Int) := of_decide_eq_true tc3_
        have q101 : x8_1 < (l0.length : Int) := of_decide_eq_true tc3_
        obtain ⟨ad101, e101, hx101_0⟩ := Kd.at_int HR0.out x8_1 p101 q101
        cases e101
        replace p101 := eq_true p101
        replace q101 := eq_true q101
        have p102 : 0 ≤ (x8_1 : Int) := of_decide_eq_true tc3_
        have q102 : x8_1 < (l1.length : Int) := of_decide_eq_true tc3_
        obtain ⟨ad102, e102, hx102_0⟩ := Kd.at_int HR1.out x8_1 p102 q102
        cases e102
        replace p102 := eq_true p102
        replace q102 := eq_true q102
        have p103 : 0 ≤ (x8_1 : Int) := of_decide_eq_true tc3_
        have q103 : x8_1 < (l0.length : Int) := of_decide_eq_true tc3_
        obtain ⟨ad103, e103, hx103_0⟩ := Kd.at_int HR0.out x8_1 p103 q103
        obtain rfl : ad101 = ad103 := (by injection e103)
        replace p103 := eq_true p103
        replace q103 := eq_true q103
        have p104 : 0 ≤ (x8_1 : Int) := of_decide_eq_true tc3_
        have q104 : x8_1 < (l1.length : Int) := of_decide_eq_true tc3_
        obtain ⟨ad104, e104, hx104_0⟩ := Kd.at_int HR1.out x8_1 p104 q104
        obtain rfl : ad102 = ad104 := (by injection e104)
        replace p104 := eq_true p104
        replace q104 := eq_true q104
        go_wp2
        repeat (go_quiet (fail); try go_wp2)
        go_ret
        exact ⟨by first | rfl | (simp; done) | (simp [*]; done), by repeat (first | exact Drawn0.refl _ | apply Drawn0.step)⟩
      ·rw [if_neg c6] at H
       exact absurd H (by simp)
     ·rw [if_neg c5] at H
      exact absurd H (by simp)
    ·rw [if_neg c4] at H
     exact absurd H (by simp)
   ·rw [if_neg c3] at H
    have c3b0 : decide (x8_1 < (l0.length : Int)) = false := decide_eq_false c3
    clear c3
    obtain rfl := Option.some.inj H
    go_wp2
    repeat (go_quiet (fail); try go_wp2)
    go_ret
    exact ⟨by first | rfl | (simp; done) | (simp [*]; done), by repeat (first | exact Drawn0.refl _ | apply Drawn0.step)⟩

/-! ### laws_uBefore: function 50 -/
def laws_uBefore.l0 : Nat → List (List Int) → List (List Int) → Int → Int → Option (Bool)
 | 0, _, _, _, _ => none
 | k + 1, x1, x7, x8, x9 => if x9 < x8 then (if 0 ≤ x9 then (if x9 < (x7.length : Int) then (if x9 < (x1.length : Int) then ((laws_uSame.f k (rd_L3 x7 x9) (rd_L3 x1 x9)).bind fun t103 => (if t103 = true then (laws_uBefore.l0 k x1 x7 x8 (wrap64 (x9 + 1))) else ((laws_uLess.f k (rd_L3 x7 x9) (rd_L3 x1 x9)).bind fun t105 => (some t105)))) else (none)) else (none)) else (none)) else (some false)
def laws_uBefore.f (k : Nat) (l0 : List (List Int)) (l1 : List (List Int)) : Option (Bool) := laws_uBefore.l0 k l1 l0 (l0.length : Int) 0
set_option maxHeartbeats 8000000 in
set_option maxRecDepth 100000 in
theorem laws_uBefore.calls (k : Nat) (A0 : Option Addr) (c0 : Nat) (l0 : List (List Int)) (A1 : Option Addr) (c1 : Nat) (l1 : List (List Int)) (r : Bool) (w : World) (hr0 : Kd.C (Kd.slice 3 (Kd.int .i64)) w A0 l0.length l0) (hc0 : l0.length ≤ c0) (hr1 : Kd.C (Kd.slice 3 (Kd.int .i64)) w A1 l1.length l1) (hc1 : l1.length ≤ c1) (h : laws_uBefore.f k l0 l1 = some r) :
  Calls Try.prog 50 #[.slice A0 l0.length c0, .slice A1 l1.length c1] w fun e w' => e = .returned (.bool r) ∧ Drawn0 w w' := by
 have HR0 := am_ hr0
 have HC0 := am_ hc0
 clear hr0 hc0
 have HR1 := am_ hr1
 have HC1 := am_ hc1
 clear hr1 hc1
 have H : (laws_uBefore.l0 k l1 l0 (l0.length : Int) 0) = some r := h
 clear h
 have H' := am_ H
 clear H
 go_enter Try.func50, Try.ntmps50
 go_wp2
 go_loopg [9] k (fun kq v9 w' => ∃ (x9_1 : Int), v9 = .int .i64 x9_1 ∧ Aside0 (laws_uBefore.l0 kq l1 l0 (l0.length : Int) x9_1 = some r) ∧ Aside0 (kq ≤ k) ∧ Drawn0 w w')
 case atStart => exact ⟨(0), tc7_, H', ⟨Nat.le_refl _⟩, by repeat (first | exact Drawn0.refl _ | apply Drawn0.step)⟩
 case round =>
  clear H'
  try clear c1
  try clear p2
  obtain ⟨x9_1, rfl, HA, HK1, ⟨m1, rfl⟩⟩ := hrel
  cases gk with
  | zero => exact absurd HA.out (by simp [laws_uBefore.l0])
  | succ k1 =>
   have H := HA.out
   clear HA
   simp only [laws_uBefore.l0] at H
   by_cases c3 : x9_1 < (l0.length : Int)
   ·rw [if_pos c3] at H
    have c3b0 : decide (x9_1 < (l0.length : Int)) = true := decide_eq_true c3
    clear c3
    by_cases c4 : 0 ≤ x9_1
    ·rw [if_pos c4] at H
     have c4b0 : decide (0 ≤ x9_1) = true := decide_eq_true c4
     clear c4
     by_cases c5 : x9_1 < (l0.length : Int)
     ·rw [if_pos c5] at H
      have c5b0 : decide (x9_1 < (l0.length : Int)) = true := decide_eq_true c5
      clear c5
      by_cases c6 : x9_1 < (l1.length : Int)
      ·rw [if_pos c6] at H
       have c6b0 : decide (x9_1 < (l1.length : Int)) = true := decide_eq_true c6
       clear c6
       replace H := Option.bind_eq_some_iff.mp H
       obtain ⟨t103, A70, H⟩ := H
       replace H : (if t103 = true then (laws_uBefore.l0 k1 l1 l0 (l0.length : Int) (wrap64 (x9_1 + 1))) else ((laws_uLess.f k1 (rd_L3 l0 x9_1) (rd_L3 l1 x9_1)).bind fun t105 => (some t105))) = some r := H
       have A7 := am_ A70
       clear A70
       by_cases c8 : t103 = true
       ·subst c8
        have H1 : (laws_uBefore.l0 k1 l1 l0 (l0.length : Int) (wrap64 (x9_1 + 1))) = some r := by rw [if_pos rfl] at H; exact H
        clear H
        have H := H1
        clear H1
        have H' := am_ H
        clear H
        have p101 : 0 ≤ (x9_1 : Int) := of_decide_eq_true tc3_
        have q101 : x9_1 < (l0.length : Int) := of_decide_eq_true tc3_
        obtain ⟨ad101, A101_0, c101_0, e101, hx101_0, hl101_0, hi101_0⟩ := at_L3 HR0.out x9_1 p101 q101
        cases e101
        have HR101_0 := am_ hi101_0
        have HC101_0 := am_ hl101_0
        clear hi101_0 hl101_0
        replace p101 := eq_true p101
        replace q101 := eq_true q101
        have p102 : 0 ≤ (x9_1 : Int) := of_decide_eq_true tc3_
        have q102 : x9_1 < (l1.length : Int) := of_decide_eq_true tc3_
        obtain ⟨ad102, A102_0, c102_0, e102, hx102_0, hl102_0, hi102_0⟩ := at_L3 HR1.out x9_1 p102 q102
        cases e102
        have HR102_0 := am_ hi102_0
        have HC102_0 := am_ hl102_0
        clear hi102_0 hl102_0
        replace p102 := eq_true p102
        replace q102 := eq_true q102
        go_wp2_with (first | ((with_reducible refine gate_callee (f := 116) rfl ?_); refine goesL_ (some 19) rfl rfl Try.func116 (by kernel_rfl) rfl #[.slice A101_0 (rd_L3 l0 x9_1).length c101_0, .slice A102_0 (rd_L3 l1 x9_1).length c102_0] rfl tc1_ ?_; (with_reducible refine (laws_uSame.calls k1 _ _ (rd_L3 l0 x9_1) _ _ (rd_L3 l1 x9_1) true _ ?side1 ?side2 ?side3 ?side4 A7.out).mono ?_); (case side1 => exact tc27_); (case side2 => exact HC101_0.out); (case side3 => exact tc31_); (case side4 => exact HC102_0.out); rintro e w' ⟨rfl, ⟨nd, rfl⟩⟩; refine ⟨_, rfl, ?_⟩))
        go_roundg k1
        case measure => have := HK1.out; omega
        case rel => exact ⟨(wrap64 (x9_1 + 1)), tc7_, H', ⟨by have := HK1.out; omega⟩, by repeat (first | exact Drawn0.refl _ | apply Drawn0.step)⟩
       ·replace c8 := Bool.eq_false_iff.mpr c8
        subst c8
        have H1 : ((laws_uLess.f k1 (rd_L3 l0 x9_1) (rd_L3 l1 x9_1)).bind fun t105 => (some t105)) = some r := by rw [if_neg (show ¬ (false = true) by decide)] at H; exact H
        clear H
        have H := H1
        clear H1
        replace H := Option.bind_eq_some_iff.mp H
        obtain ⟨t105, A90, H⟩ := H
        replace H : (some t105) = some r := H
        have A9 := am_ A90
        clear A90
        obtain rfl := Option.some.inj H
        have p101 : 0 ≤ (x9_1 : Int) := of_decide_eq_true tc3_
        have q101 : x9_1 < (l0.length : Int) := of_decide_eq_true tc3_
        obtain ⟨ad101, A101_0, c101_0, e101, hx101_0, hl101_0, hi101_0⟩ := at_L3 HR0.out x9_1 p101 q101
        cases e101
        have HR101_0 := am_ hi101_0
        have HC101_0 := am_ hl101_0
        clear hi101_0 hl101_0
        replace p101 := eq_true p101
        replace q101 := eq_true q101
        have p102 : 0 ≤ (x9_1 : Int) := of_decide_eq_true tc3_
        have q102 : x9_1 < (l1.length : Int) := of_decide_eq_true tc3_
        obtain ⟨ad102, A102_0, c102_0, e102, hx102_0, hl102_0, hi102_0⟩ := at_L3 HR1.out x9_1 p102 q102
        cases e102
        have HR102_0 := am_ hi102_0
        have HC102_0 := am_ hl102_0
        clear hi102_0 hl102_0
        replace p102 := eq_true p102
        replace q102 := eq_true q102
        go_wp2_with (first | ((with_reducible refine gate_callee (f := 116) rfl ?_); refine goesL_ (some 19) rfl rfl Try.func116 (by kernel_rfl) rfl #[.slice A101_0 (rd_L3 l0 x9_1).length c101_0, .slice A102_0 (rd_L3 l1 x9_1).length c102_0] rfl tc1_ ?_; (with_reducible refine (laws_uSame.calls k1 _ _ (rd_L3 l0 x9_1) _ _ (rd_L3 l1 x9_1) false _ ?side1 ?side2 ?side3 ?side4 A7.out).mono ?_); (case side1 => exact tc27_); (case side2 => exact HC101_0.out); (case side3 => exact tc31_); (case side4 => exact HC102_0.out); rintro e w' ⟨rfl, ⟨nd, rfl⟩⟩; refine ⟨_, rfl, ?_⟩; have p104 : 0 ≤ (x9_1 : Int) := of_decide_eq_true tc3_; have q104 : x9_1 < (l1.length : Int) := of_decide_eq_true tc3_; obtain ⟨ad104, A104_0, c104_0, e104, hx104_0, hl104_0, hi104_0⟩ := at_L3 HR1.out x9_1 p104 q104; obtain rfl : ad102 = ad104 := (by injection e104); have HR104_0 := am_ hi104_0; have HC104_0 := am_ hl104_0; clear hi104_0 hl104_0; replace p104 := eq_true p104; replace q104 := eq_true q104; have ea_ := Option.some.inj (hx102_0.symm.trans hx104_0); injection ea_ with ea_ en_ ec_; subst ea_; subst ec_; clear en_) | ((with_reducible refine gate_callee (f := 117) rfl ?_); refine goesL_ (some 26) rfl rfl Try.func117 (by kernel_rfl) rfl #[.slice A101_0 (rd_L3 l0 x9_1).length c101_0, .slice A102_0 (rd_L3 l1 x9_1).length c102_0] rfl tc1_ ?_; (with_reducible refine (laws_uLess.calls k1 _ _ (rd_L3 l0 x9_1) _ _ (rd_L3 l1 x9_1) t105 _ ?side1 ?side2 ?side3 ?side4 A9.out).mono ?_); (case side1 => exact tc27_); (case side2 => exact HC101_0.out); (case side3 => repeat (first | exact HR104_0.out | (with_reducible refine Kd.C_alloc ?_ _) | (with_reducible refine Kd.C_drewN ?_ _) | (with_reducible refine Kd.C_drew ?_))); (case side4 => exact HC104_0.out); rintro e w' ⟨rfl, ⟨nd, rfl⟩⟩; refine ⟨_, rfl, ?_⟩))
        go_ret
        exact ⟨by first | rfl | (simp; done) | (simp [*]; done), by repeat (first | exact Drawn0.refl _ | apply Drawn0.step)⟩
      ·rw [if_neg c6] at H
       exact absurd H (by simp)
     ·rw [if_neg c5] at H
      exact absurd H (by simp)
    ·rw [if_neg c4] at H
     exact absurd H (by simp)
   ·rw [if_neg c3] at H
    have c3b0 : decide (x9_1 < (l0.length : Int)) = false := decide_eq_false c3
    clear c3
    obtain rfl := Option.some.inj H
    go_wp2
    go_ret
    exact ⟨by first | rfl | (simp; done) | (simp [*]; done), by repeat (first | exact Drawn0.refl _ | apply Drawn0.step)⟩

/-! ### impl_total_1: function 178 (by hand) -/
set_option maxHeartbeats 4000000 in
set_option maxRecDepth 100000 in
theorem impl_total_1.calls (A0 : Option Addr) (c0 : Nat) (l0 : List (List Int)) (B1 B2 T2 : Nat) (a : Int) (g : Nat) (b : Array Value) (p : List (List Int) → Option Int) (r : Int) (w : World) (hr0 : Kd.C (Kd.slice 3 (Kd.int .i64)) w A0 l0.length l0) (hc0 : l0.length ≤ c0)
    (hb1 : w.heap[B1]? = some (.cells #[.int .i64 a] 3 (0, 0))) (hb2 : w.heap[B2]? = some (.cells #[.func (.func g) #[] b] T2 (0, 0))) (hf : Fn1 (Kd.slice 35 (Kd.slice 3 (Kd.int .i64))) (Value.int .i64) Try.prog g b p w) (h : p l0 = some r) :
    Calls Try.prog 178 #[.slice A0 l0.length c0, .pointer (some ⟨B1, 0, none⟩), .pointer (some ⟨B2, 0, none⟩)] w fun e w' => e = .returned (.bool true) ∧ w'.heap[B1]? = some (.cells #[.int .i64 (wrap64 (a + r))] 3 (0, 0)) ∧ Kp w w' (fun k => k = B1) := by
  have HR := am_ hr0
  have HC := am_ hc0
  have H1 := am_ hb1
  have H2 := am_ hb2
  have HF := am_ hf.cl
  have eg := hf.eg
  have HO := am_ h
  clear hr0 hc0 hb1 hb2 hf h
  go_enter Try.func178, Try.ntmps178
  try go_wp2
  refine start_ (n := 6) (S := fun w' => w'.cell? ⟨B1, 0, none⟩ = some (.int .i64 a) ∧ w'.cell? ⟨B2, 0, none⟩ = some (.func (.func g) #[] b)) (ds := [5]) #[false, false, false, false, false, false] (by kernel_rfl) rfl rfl ⟨(blk_cell (blk_drew H1.out) 0).trans rfl, (blk_cell (blk_drew H2.out) 0).trans rfl⟩ (fun hHeld => ?_)
  refine pure_ (i := 2) (N := some 7) (v := ?_) (a' := ?_) #[false, false, true, false, false, false] rfl rfl (by kernel_rfl) (fun _ _ _ h => h) (Or.inl ⟨by rfl, ?_⟩) ?_ ?_
  rotate_left
  · intro w'
    go_simp
    with_reducible rfl
  rotate_left
  · simp only [Act.put, List.setIfInBounds_toArray, List.set_cons_zero, List.set_cons_succ, i64_w, i32_w]
    rfl
  refine take_ (i := 0) (N := some 5) (v := ?_) (a' := ?_) #[true, false, true, false, false, false] rfl rfl (by kernel_rfl) (fun _ _ _ h => h) (Or.inl ⟨by rfl, ?_⟩) hHeld ?_ ?_
  rotate_left
  · rintro w' ⟨s0, s1⟩
    go_simp
    with_reducible rfl
  rotate_left
  · simp only [Act.put, List.setIfInBounds_toArray, List.set_cons_zero, List.set_cons_succ, i64_w, i32_w]
    rfl
  refine take_ (i := 1) (N := some 6) (v := ?_) (a' := ?_) #[true, true, true, false, false, false] rfl rfl (by kernel_rfl) (fun _ _ _ h => h) (Or.inl ⟨by rfl, ?_⟩) hHeld ?_ ?_
  rotate_left
  · rintro w' ⟨s0, s1⟩
    go_simp
    with_reducible rfl
  rotate_left
  · simp only [Act.put, List.setIfInBounds_toArray, List.set_cons_zero, List.set_cons_succ, i64_w, i32_w]
    rfl
  refine one_ (i := 3) (N := some 8) #[true, true, true, true, false, false] rfl rfl (by kernel_rfl) (by decide) (fun K hK => ?_)
  refine goesF_ eg #[.slice A0 l0.length c0] (by rfl) rfl rfl (by first | rfl | (simp [Act.eval]; done)) tc54_ ?_
  refine (HF.out _ (below_drew (Below.refl _ _)) l0 _ (K_slice HC.out (Kd.C_drew HR.out)) r HO.out).mono ?_
  rintro e w6 ⟨rfl, hb⟩
  refine ⟨_, rfl, ?_⟩
  have HB := am_ (below_step (below_drew (Below.refl w.heap.size w)) hb)
  clear hb
  have b1 := am_ (blk_below H1.out HB.out)
  refine hK.out _ _ ⟨(blk_cell b1.out 0).trans rfl, (blk_cell (blk_below H2.out HB.out) 0).trans rfl⟩ (fun hHeld => ?_)
  clear hK K
  refine norm_ (a' := ?_) ?_ ?_
  rotate_left
  · show Act.put _ (some 8) _ = _
    simp only [Act.put, List.setIfInBounds_toArray, List.set_cons_zero, List.set_cons_succ, i64_w, i32_w]
    rfl
  refine pure_ (i := 4) (N := some 9) (v := ?_) (a' := ?_) #[true, true, true, true, true, false] rfl rfl (by kernel_rfl) (fun _ _ _ h => h) (Or.inl ⟨by rfl, ?_⟩) ?_ ?_
  rotate_left
  · intro w'
    go_simp
    with_reducible rfl
  rotate_left
  · simp only [Act.put, List.setIfInBounds_toArray, List.set_cons_zero, List.set_cons_succ, i64_w, i32_w]
    rfl
  refine last_ (i := 5) (N := none) #[true, true, true, true, true, true] rfl rfl (by kernel_rfl) (by decide) (fun K hK => ?_)
  have hs7 : w6.cell? ⟨B1, 0, none⟩ = some (.int .i64 a) := (blk_cell b1.out 0).trans rfl
  have hfs7 := blk_frozen b1.out 0
  refine skip_ (w1 := ?_) (by rfl) rfl ?_ ?_
  rotate_left
  · go_simp
    rfl
  refine hK.out _ _ ?_
  clear hK K
  refine done_ (by kernel_rfl) ?_
  try go_wp2
  go_ret
  exact ⟨rfl, blk_set b1.out 0 _, Kp.setCell (S := fun k => k = B1) (p := ⟨B1, 0, none⟩) (Kp.of_below HB.out _) (.inl rfl) _⟩

/-! ### impl_total: function 118 (by hand) -/
def impl_total.step (of : List (List Int) → Option Int) (s : Int) (m : List (List Int)) : Option (Int × Bool) := (of m).bind fun r => some (wrap64 (s + r), true)
def impl_total.f (k : Nat) (a0 : Int) (a1 : List (List Int) → Option Int) : Option Int := impl_eachSigns.f k a0 (impl_total.step a1) 0
def impl_total.Inv (w : World) (B1 B2 g : Nat) (b : Array Value) (s : Int) (W : World) (S : Nat → Prop) : Prop :=
  Below w.heap.size w W ∧ W.heap[B1]? = some (.cells #[.int .i64 s] 3 (0, 0)) ∧ W.heap[B2]? = some (.cells #[.func (.func g) #[] b] 83 (0, 0)) ∧ S = fun k => k < w.heap.size ∨ k = B1 ∨ k = B2
theorem impl_total.fns {w : World} {B1 B2 g : Nat} {b : Array Value} {p : List (List Int) → Option Int} (h1 : w.heap.size ≤ B1) (hne : B2 ≠ B1) (hf : Fn1 (Kd.slice 35 (Kd.slice 3 (Kd.int .i64))) (Value.int .i64) Try.prog g b p w) :
    FnS (Kd.slice 35 (Kd.slice 3 (Kd.int .i64))) Value.bool Try.prog 178 #[.pointer (some ⟨B1, 0, none⟩), .pointer (some ⟨B2, 0, none⟩)] (impl_total.step p) (impl_total.Inv w B1 B2 g b) where
  eg := enters_of Try.func178 (by kernel_rfl) rfl
  bd := by
    rintro s W S ⟨hb, b1, b2, rfl⟩ k hk
    rcases hk with hk | rfl | rfl
    · exact Nat.lt_of_lt_of_le hk hb.size
    · exact blk_lt b1
    · exact blk_lt b2
  st := by
    rintro s W S W' ⟨hb, b1, b2, rfl⟩ h0 hs
    exact ⟨⟨h0.os.trans hb.os, h0.tape.trans hb.tape, h0.output.trans hb.output, Nat.le_trans hb.size h0.size, fun k hk => (hs k (.inl hk)).trans (hb.block k hk)⟩, (hs _ (.inr (.inl rfl))).trans b1, (hs _ (.inr (.inr rfl))).trans b2, rfl⟩
  cl := by
    rintro s W S ⟨hb, b1, b2, rfl⟩ x v hv s' r hp
    obtain ⟨A0, c0, e0, hc0, hr0⟩ := hv
    obtain rfl : v = .slice A0 x.length c0 := by simpa using e0
    obtain ⟨q, hq, hp⟩ := Option.bind_eq_some_iff.mp hp
    obtain ⟨rfl, rfl⟩ := Prod.mk.inj (Option.some.inj hp)
    refine (impl_total_1.calls A0 c0 x B1 B2 _ s g b p q W hr0 hc0 b1 b2 (hf.later hb) hq).mono ?_
    rintro e W' ⟨rfl, h2, h3⟩
    refine ⟨rfl, fun k => k < w.heap.size ∨ k = B1 ∨ k = B2, ⟨?_, h2, (h3.at _ (blk_lt b2) hne).trans b2, rfl⟩, h3.mono (fun k hk => .inr (.inl hk)), fun k hk => .inl hk⟩
    exact hb.trans (h3.to_below hb.size (fun k hk => hk ▸ h1))
set_option maxHeartbeats 4000000 in
set_option maxRecDepth 100000 in
theorem impl_total.calls (k : Nat) (a0 : Int) (g1 : Nat) (b1 : Array Value) (a1 : List (List Int) → Option Int) (r : Int) (w : World) (hf1 : Fn1 (Kd.slice 35 (Kd.slice 3 (Kd.int .i64))) (Value.int .i64) Try.prog g1 b1 a1 w) (h : impl_total.f k a0 a1 = some r) :
    Calls Try.prog 118 #[.int .i64 a0, .func (.func g1) #[] b1] w fun e w' => e = .returned (.int .i64 r) ∧ Below w.heap.size w w' := by
  have HF := am_ (impl_total.fns (w := w) (B1 := w.heap.size + 1) (B2 := w.heap.size) (by omega) (by omega) hf1)
  have HO := am_ h
  clear h hf1
  go_enter Try.func118, Try.ntmps118
  go_wp2_with fail
  refine (impl_eachSigns.calls k a0 _ _ _ _ HF.out 0 r _ _ ⟨below_alloc (below_alloc (Below.refl _ _) _) _, blk_new' (by simp), blk_alloc (blk_new _ _) _, rfl⟩ HO.out).mono ?_
  rintro e w3 ⟨rfl, S', ⟨h1, h2, h3, h4⟩, _, _⟩
  have H1 := am_ h1
  have hc1 : w3.cell? ⟨w.heap.size + 1, 0, none⟩ = some (.int .i64 r) := (blk_cell h2 0).trans rfl
  clear h1 h2 h3 h4
  go_wp2
  go_ret
  exact ⟨rfl, H1.out⟩

/-! ### impl_bit: function 82 -/
def impl_bit.f (a0 : Bool) : Option (Int) := if a0 = true then (some 1) else (some 0)
set_option maxHeartbeats 8000000 in
set_option maxRecDepth 100000 in
theorem impl_bit.calls (a0 : Bool) (r : Int) (w : World) (h : impl_bit.f a0 = some r) :
  Calls Try.prog 82 #[.bool a0] w fun e w' => e = .returned (.int .i64 r) ∧ Drawn0 w w' := by
 have H : (if a0 = true then (some 1) else (some 0)) = some r := h
 clear h
 by_cases c2 : a0 = true
 ·subst c2
  have H1 : (some 1) = some r := by rw [if_pos rfl] at H; exact H
  clear H
  have H := H1
  clear H1
  obtain rfl := Option.some.inj H
  go_enter Try.func82, Try.ntmps82
  go_wp2
  go_ret
  exact ⟨by first | rfl | (simp; done) | (simp [*]; done), by repeat (first | exact Drawn0.refl _ | apply Drawn0.step)⟩
 ·replace c2 := Bool.eq_false_iff.mpr c2
  subst c2
  have H1 : (some 0) = some r := by rw [if_neg (show ¬ (false = true) by decide)] at H; exact H
  clear H
  have H := H1
  clear H1
  obtain rfl := Option.some.inj H
  go_enter Try.func82, Try.ntmps82
  go_wp2
  go_ret
  exact ⟨by first | rfl | (simp; done) | (simp [*]; done), by repeat (first | exact Drawn0.refl _ | apply Drawn0.step)⟩

/-! ### impl_CountSymmetric_1: function 119 -/
def impl_CountSymmetric_1.f (k : Nat) (l0 : List (List Int)) (a1_0 : Int) : Option (Int) := (impl_hasKind.f k l0 a1_0).bind fun t101 => ((impl_bit.f t101).bind fun t102 => (some t102))
set_option maxHeartbeats 8000000 in
set_option maxRecDepth 100000 in
theorem impl_CountSymmetric_1.calls (k : Nat) (A0 : Option Addr) (c0 : Nat) (l0 : List (List Int)) (B1 : Nat) (a1_0 : Int) (r : Int) (w : World) (hr0 : Kd.C (Kd.slice 3 (Kd.int .i64)) w A0 l0.length l0) (hc0 : l0.length ≤ c0) (hb1 : w.heap[B1]? = some (.cells #[.int .i64 a1_0] 3 (0, 0))) (h : impl_CountSymmetric_1.f k l0 a1_0 = some r) :
  Calls Try.prog 119 #[.slice A0 l0.length c0, .pointer (some ⟨B1, 0, none⟩)] w fun e w' => e = .returned (.int .i64 r) ∧ Below w.heap.size w w' := by
 have HR0 := am_ hr0
 have HC0 := am_ hc0
 clear hr0 hc0
 have BK61 := am_ hb1
 clear hb1
 have HB := am_ (Below.refl w.heap.size w)
 have H : ((impl_hasKind.f k l0 a1_0).bind fun t101 => ((impl_bit.f t101).bind fun t102 => (some t102))) = some r := h
 clear h
 replace H := Option.bind_eq_some_iff.mp H
 obtain ⟨t101, A30, H⟩ := H
 replace H : ((impl_bit.f t101).bind fun t102 => (some t102)) = some r := H
 have A3 := am_ A30
 clear A30
 replace H := Option.bind_eq_some_iff.mp H
 obtain ⟨t102, A40, H⟩ := H
 replace H : (some t102) = some r := H
 have A4 := am_ A40
 clear A40
 obtain rfl := Option.some.inj H
 have hcz5_0 : w.cell? ⟨B1, 0, none⟩ = some (.int .i64 a1_0) := (blk_cell BK61.out 0).trans rfl
 have hfz5_0 := blk_frozen BK61.out 0
 go_enter Try.func119, Try.ntmps119
 go_wp2_with (first | ((with_reducible refine gate_callee (f := 111) rfl ?_); refine goesL_ (some 6) rfl rfl Try.func111 (by kernel_rfl) rfl #[.slice A0 l0.length c0, .int .i64 a1_0] rfl tc1_ ?_; (with_reducible refine (impl_hasKind.calls k _ _ l0 a1_0 t101 _ ?side1 ?side2 A3.out).mono ?_); (case side1 => exact tc23_); (case side2 => exact HC0.out); rintro e w6 ⟨rfl, hb⟩; refine ⟨_, rfl, ?_⟩; have n0_ := am_ (blk_below (g := B1) (o := .cells #[.int .i64 a1_0] 3 (0, 0)) tc64_ hb); have n1_ := am_ (below_step tc61_ hb); clear BK61 HB; have BK61 := n0_; have HB := n1_; clear n0_ n1_; (try clear hb)) | ((with_reducible refine gate_callee (f := 82) rfl ?_); refine goesL_ (some 7) rfl rfl Try.func82 (by kernel_rfl) rfl #[.bool t101] rfl tc1_ ?_; (with_reducible refine (impl_bit.calls t101 t102 _ A4.out).mono ?_); rintro e w' ⟨rfl, ⟨nd, rfl⟩⟩; refine ⟨_, rfl, ?_⟩))
 go_ret
 exact ⟨by first | rfl | (simp [errW_none, errW_some] <;> rfl) | (simp [*, errW_none, errW_some] <;> rfl), by repeat (first | (with_reducible first | exact HB.out | apply below_alloc | apply pw_below_drewN | apply below_drew1 | refine below_set ?_ GE61.out) | exact HB.out)⟩

/-! ### impl_CountSymmetric: function 51 -/
def impl_CountSymmetric.f (k : Nat) (a0 : Int) (a1 : Int) : Option (Int × Bool) := (impl_isSide.f a0).bind fun t102 => (if t102 = true then ((impl_isKind.f a1).bind fun t103 => (if t103 = true then ((impl_total.f k a0 (fun x0_ => impl_CountSymmetric_1.f k x0_ a1)).bind fun t104 => (some (t104, true))) else (some (0, false)))) else (some (0, false)))
set_option maxHeartbeats 8000000 in
set_option maxRecDepth 100000 in
theorem impl_CountSymmetric.calls (k : Nat) (a0 : Int) (a1 : Int) (r1 : Int) (r2 : Bool) (w : World) (h : impl_CountSymmetric.f k a0 a1 = some (r1, r2)) :
  Calls Try.prog 51 #[.int .i64 a0, .int .i64 a1] w fun e w' => e = .returned (.tuple #[.int .i64 r1, .bool r2]) ∧ Below w.heap.size w w' := by
 have HB := am_ (Below.refl w.heap.size w)
 have H : ((impl_isSide.f a0).bind fun t102 => (if t102 = true then ((impl_isKind.f a1).bind fun t103 => (if t103 = true then ((impl_total.f k a0 (fun x0_ => impl_CountSymmetric_1.f k x0_ a1)).bind fun t104 => (some (t104, true))) else (some (0, false)))) else (some (0, false)))) = some (r1, r2) := h
 clear h
 replace H := Option.bind_eq_some_iff.mp H
 obtain ⟨t102, A30, H⟩ := H
 replace H : (if t102 = true then ((impl_isKind.f a1).bind fun t103 => (if t103 = true then ((impl_total.f k a0 (fun x0_ => impl_CountSymmetric_1.f k x0_ a1)).bind fun t104 => (some (t104, true))) else (some (0, false)))) else (some (0, false))) = some (r1, r2) := H
 have A3 := am_ A30
 clear A30
 by_cases c4 : t102 = true
 ·subst c4
  have H1 : ((impl_isKind.f a1).bind fun t103 => (if t103 = true then ((impl_total.f k a0 (fun x0_ => impl_CountSymmetric_1.f k x0_ a1)).bind fun t104 => (some (t104, true))) else (some (0, false)))) = some (r1, r2) := by rw [if_pos rfl] at H; exact H
  clear H
  have H := H1
  clear H1
  replace H := Option.bind_eq_some_iff.mp H
  obtain ⟨t103, A50, H⟩ := H
  replace H : (if t103 = true then ((impl_total.f k a0 (fun x0_ => impl_CountSymmetric_1.f k x0_ a1)).bind fun t104 => (some (t104, true))) else (some (0, false))) = some (r1, r2) := H
  have A5 := am_ A50
  clear A50
  by_cases c6 : t103 = true
  ·subst c6
   have H1 : ((impl_total.f k a0 (fun x0_ => impl_CountSymmetric_1.f k x0_ a1)).bind fun t104 => (some (t104, true))) = some (r1, r2) := by rw [if_pos rfl] at H; exact H
   clear H
   have H := H1
   clear H1
   replace H := Option.bind_eq_some_iff.mp H
   obtain ⟨t104, A70, H⟩ := H
   replace H : (some (t104, true)) = some (r1, r2) := H
   have A7 := am_ A70
   clear A70
   simp only [Option.some.injEq, Prod.mk.injEq] at H
   obtain ⟨rfl, rfl⟩ := H
   go_enter Try.func51, Try.ntmps51
   go_wp2_with (first | ((with_reducible refine gate_dst (N := 3) rfl ?_); refine box_event ?hg (N := 3) ?hd (cs := #[.int .i64 a1]) (t := 3) ?hr ?_; (case hd => rfl); (case hg => rfl); (case hr => exact tc19_); intro gb101 hg w8 hbox hb; have n0_ := am_ (below_step tc0_ hb); have n1_ := am_ (hbox); have n2_ := am_ ((by rw [hg]; exact (below_size tc0_) : w.heap.size ≤ gb101)); have n3_ := am_ ((by rw [hg]; exact (below_size tc0_) : w.heap.size ≤ gb101)); clear HB; have HB := n0_; have BK101 := n1_; have GW101 := n2_; have GE101 := n3_; clear n0_ n1_ n2_ n3_; clear hb hbox hg) | ((with_reducible refine gate_callee (f := 69) rfl ?_); refine goesL_ (some 7) rfl rfl Try.func69 (by kernel_rfl) rfl #[.int .i64 a0] rfl tc1_ ?_; (with_reducible refine (impl_isSide.calls a0 true _ A3.out).mono ?_); rintro e w' ⟨rfl, ⟨nd, rfl⟩⟩; refine ⟨_, rfl, ?_⟩; have hcz9_0 : w8.cell? ⟨gb101, 0, none⟩ = some (.int .i64 a1) := (blk_cell BK101.out 0).trans rfl; have hfz9_0 := blk_frozen BK101.out 0) | (go_at_call 108; (with_reducible refine (impl_isKind.calls a1 true _ A5.out).mono ?_); rintro e w' ⟨rfl, ⟨nd, rfl⟩⟩) | ((with_reducible refine gate_callee (f := 118) rfl ?_); refine goesL_ (some 16) rfl rfl Try.func118 (by kernel_rfl) rfl #[.int .i64 a0, .func (.func 119) #[] #[.pointer (some ⟨gb101, 0, none⟩)]] rfl tc1_ ?_; (with_reducible refine (impl_total.calls k a0 _ _ (fun x0_ => impl_CountSymmetric_1.f k x0_ a1) t104 _ ?side1 A7.out).mono ?_); (case side1 => refine ⟨enters_of Try.func119 (by kernel_rfl) rfl, fun W_ hW_ x0_ v0_ hK0_ r_ hr_ => ?_⟩; obtain ⟨A0_, c0_, e0_, hl0_, hC0_⟩ := hK0_; cases e0_; refine (impl_CountSymmetric_1.calls k A0_ c0_ x0_ _ a1 r_ W_ hC0_ hl0_ ?cb1 hr_).mono ?_; (case cb1 => exact tc62_); exact fun _ _ h_ => ⟨h_.1, h_.2⟩); rintro e w10 ⟨rfl, hb⟩; refine ⟨_, rfl, ?_⟩; have n0_ := am_ (blk_below (g := gb101) (o := .cells #[.int .i64 a1] 3 (0, 0)) tc2_ hb); have n1_ := am_ (below_step tc6_ hb); clear BK101 HB; have BK101 := n0_; have HB := n1_; clear n0_ n1_; (try clear hb)))
   go_ret2
   exact ⟨by first | rfl | (simp [errW_none, errW_some] <;> rfl) | (simp [*, errW_none, errW_some] <;> rfl), by repeat (first | (with_reducible first | exact HB.out | apply below_alloc | apply pw_below_drewN | apply below_drew1 | refine below_set ?_ GE101.out) | exact HB.out)⟩
  ·replace c6 := Bool.eq_false_iff.mpr c6
   subst c6
   have H1 : (some (0, false)) = some (r1, r2) := by rw [if_neg (show ¬ (false = true) by decide)] at H; exact H
   clear H
   have H := H1
   clear H1
   simp only [Option.some.injEq, Prod.mk.injEq] at H
   obtain ⟨rfl, rfl⟩ := H
   go_enter Try.func51, Try.ntmps51
   go_wp2_with (first | ((with_reducible refine gate_dst (N := 3) rfl ?_); refine box_event ?hg (N := 3) ?hd (cs := #[.int .i64 a1]) (t := 3) ?hr ?_; (case hd => rfl); (case hg => rfl); (case hr => exact tc19_); intro gb101 hg w11 hbox hb; have n0_ := am_ (below_step tc0_ hb); have n1_ := am_ (hbox); have n2_ := am_ ((by rw [hg]; exact (below_size tc0_) : w.heap.size ≤ gb101)); have n3_ := am_ ((by rw [hg]; exact (below_size tc0_) : w.heap.size ≤ gb101)); clear HB; have HB := n0_; have BK101 := n1_; have GW101 := n2_; have GE101 := n3_; clear n0_ n1_ n2_ n3_; clear hb hbox hg) | ((with_reducible refine gate_callee (f := 69) rfl ?_); refine goesL_ (some 7) rfl rfl Try.func69 (by kernel_rfl) rfl #[.int .i64 a0] rfl tc1_ ?_; (with_reducible refine (impl_isSide.calls a0 true _ A3.out).mono ?_); rintro e w' ⟨rfl, ⟨nd, rfl⟩⟩; refine ⟨_, rfl, ?_⟩; have hcz12_0 : w11.cell? ⟨gb101, 0, none⟩ = some (.int .i64 a1) := (blk_cell BK101.out 0).trans rfl; have hfz12_0 := blk_frozen BK101.out 0) | (go_at_call 108; (with_reducible refine (impl_isKind.calls a1 false _ A5.out).mono ?_); rintro e w' ⟨rfl, ⟨nd, rfl⟩⟩))
   go_ret2
   exact ⟨by first | rfl | (simp [errW_none, errW_some] <;> rfl) | (simp [*, errW_none, errW_some] <;> rfl), by repeat (first | (with_reducible first | exact HB.out | apply below_alloc | apply pw_below_drewN | apply below_drew1 | refine below_set ?_ GE101.out) | exact HB.out)⟩
 ·replace c4 := Bool.eq_false_iff.mpr c4
  subst c4
  have H1 : (some (0, false)) = some (r1, r2) := by rw [if_neg (show ¬ (false = true) by decide)] at H; exact H
  clear H
  have H := H1
  clear H1
  simp only [Option.some.injEq, Prod.mk.injEq] at H
  obtain ⟨rfl, rfl⟩ := H
  go_enter Try.func51, Try.ntmps51
  go_wp2_with (first | ((with_reducible refine gate_dst (N := 3) rfl ?_); refine box_event ?hg (N := 3) ?hd (cs := #[.int .i64 a1]) (t := 3) ?hr ?_; (case hd => rfl); (case hg => rfl); (case hr => exact tc19_); intro gb101 hg w13 hbox hb; have n0_ := am_ (below_step tc0_ hb); have n1_ := am_ (hbox); have n2_ := am_ ((by rw [hg]; exact (below_size tc0_) : w.heap.size ≤ gb101)); have n3_ := am_ ((by rw [hg]; exact (below_size tc0_) : w.heap.size ≤ gb101)); clear HB; have HB := n0_; have BK101 := n1_; have GW101 := n2_; have GE101 := n3_; clear n0_ n1_ n2_ n3_; clear hb hbox hg) | ((with_reducible refine gate_callee (f := 69) rfl ?_); refine goesL_ (some 7) rfl rfl Try.func69 (by kernel_rfl) rfl #[.int .i64 a0] rfl tc1_ ?_; (with_reducible refine (impl_isSide.calls a0 false _ A3.out).mono ?_); rintro e w' ⟨rfl, ⟨nd, rfl⟩⟩; refine ⟨_, rfl, ?_⟩))
  go_ret2
  exact ⟨by first | rfl | (simp [errW_none, errW_some] <;> rfl) | (simp [*, errW_none, errW_some] <;> rfl), by repeat (first | (with_reducible first | exact HB.out | apply below_alloc | apply pw_below_drewN | apply below_drew1 | refine below_set ?_ GE101.out) | exact HB.out)⟩

end Go.Proofs.Ytkbehdgneojdbaa.X
