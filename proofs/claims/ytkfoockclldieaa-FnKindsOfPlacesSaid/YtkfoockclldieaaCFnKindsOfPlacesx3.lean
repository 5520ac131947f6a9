-- Written by a program of this session (wip/xprint.py) that drives the kit's print; the contracts of what it does not take are this session's own.
import Derived.Test.YtkfoockclldieaaCFnKindsOfPlacesx0
import Derived.Test.YtkfoockclldieaaCFnKindsOfPlacesx1
import Derived.Test.YtkfoockclldieaaCFnKindsOfPlacesx2
namespace Go.Proofs.Ytkfoockclldieaa.X
open Go.RowKit Go.Proofs.YtkfoockclldieaaW.PrintWords Go.Proofs.YtkfoockclldieaaW.PrintLast Go.Proofs.YtkfoockclldieaaW.PrintMore
attribute [local go_sem] max2_int min2_int max_two min_two max_three min_three max_four min_four   -- for this text's walks alone
set_option linter.unusedVariables false
set_option linter.unusedSimpArgs false

/-! ### spec_weKinds: function 39 -/
mutual
def spec_weKinds.l0 : Nat → List (List Int) → List Int → List (List Int) → Int → Int → Option ((List (List Int)))
 | 0, _, _, _, _, _ => none
 | k + 1, x3, x4, x14, x15, x16 => if x16 < x15 then (if 0 ≤ x16 then (if x16 < (x14.length : Int) then (spec_weKinds.l1 k x3 x4 ([] : List Int) 0 x14 x15 x16 (rd_L3 x14 x16) ((rd_L3 x14 x16).length : Int) 0) else (none)) else (none)) else (some x3)
def spec_weKinds.l1 : Nat → List (List Int) → List Int → List Int → Int → List (List Int) → Int → Int → List Int → Int → Int → Option ((List (List Int)))
 | 0, _, _, _, _, _, _, _, _, _, _ => none
 | k + 1, x3, x4, x7, x8, x14, x15, x16, x20, x21, x22 => if x22 < x21 then (if 0 ≤ x22 then (if x22 < (x20.length : Int) then (if (rd x20 x22) = 1 then (if x7.length < 17592186044416 then (if x22 < (x4.length : Int) then (spec_weKinds.l1 k x3 (x4.set (x22 : Int).toNat (wrap64 ((rd x4 x22) + (rd x20 x22)))) (x7 ++ [4]) (wrap64 (x8 + (rd x20 x22))) x14 x15 x16 x20 x21 (wrap64 (x22 + 1))) else (none)) else (none)) else (if (rd x20 x22) = (-1) then (if x7.length < 17592186044416 then (if x22 < (x4.length : Int) then (spec_weKinds.l1 k x3 (x4.set (x22 : Int).toNat (wrap64 ((rd x4 x22) + (rd x20 x22)))) (x7 ++ [5]) (wrap64 (x8 + (rd x20 x22))) x14 x15 x16 x20 x21 (wrap64 (x22 + 1))) else (none)) else (none)) else (if x22 < (x4.length : Int) then (if x7.length < 17592186044416 then (spec_weKinds.l1 k x3 (x4.set (x22 : Int).toNat (wrap64 ((rd x4 x22) + (rd x20 x22)))) (x7 ++ [wrap64 ((wrap64 (2 * x8)) + (rd x4 x22))]) (wrap64 (x8 + (rd x20 x22))) x14 x15 x16 x20 x21 (wrap64 (x22 + 1))) else (none)) else (none)))) else (none)) else (none)) else (if x3.length < 5864062014805 then (spec_weKinds.l0 k (x3 ++ [x7]) x4 x14 x15 (wrap64 (x16 + 1))) else (none))
end
def spec_weKinds.f (k : Nat) (l0 : List (List Int)) : Option ((List (List Int))) := if 0 ≤ (l0.length : Int) then (if ((l0.length : Int) : Int).toNat ≤ 35184372088832 then (spec_weKinds.l0 k ([] : List (List Int)) (List.replicate ((l0.length : Int) : Int).toNat 0) l0 (l0.length : Int) 0) else (none)) else (none)
set_option maxHeartbeats 8000000 in
set_option maxRecDepth 100000 in
theorem spec_weKinds.calls (k : Nat) (A0 : Option Addr) (c0 : Nat) (l0 : List (List Int)) (r : List (List Int)) (w : World) (hr0 : Kd.C (Kd.slice 3 (Kd.int .i64)) w A0 l0.length l0) (hc0 : l0.length ≤ c0) (h : spec_weKinds.f k l0 = some r) :
  Calls Try.prog 39 #[.slice A0 l0.length c0] w fun e w' => ∃ v0_ : Value, e = .returned (v0_) ∧ Kd.S (Kd.slice 3 (Kd.int .i64)) 28 w' w.heap.size (fun _ => True) v0_ r ∧ Below w.heap.size w w' := by
 have HR0 := am_ hr0
 have HC0 := am_ hc0
 clear hr0 hc0
 have HB := am_ (Below.refl w.heap.size w)
 have H : (if 0 ≤ (l0.length : Int) then (if ((l0.length : Int) : Int).toNat ≤ 35184372088832 then (spec_weKinds.l0 k ([] : List (List Int)) (List.replicate ((l0.length : Int) : Int).toNat 0) l0 (l0.length : Int) 0) else (none)) else (none)) = some r := h
 clear h
 by_cases c2 : 0 ≤ (l0.length : Int)
 ·rw [if_pos c2] at H
  have c2b0 := eq_true c2
  have c2b1 : decide (0 ≤ (l0.length : Int)) = true := decide_eq_true c2
  clear c2
  by_cases c3 : ((l0.length : Int) : Int).toNat ≤ 35184372088832
  ·rw [if_pos c3] at H
   have c3b0 := eq_true c3
   have c3b1 : decide (((l0.length : Int) : Int).toNat ≤ 35184372088832) = true := decide_eq_true c3
   clear c3
   obtain ⟨y101, hy101⟩ : ∃ y_ : List Int, y_ = (List.replicate ((l0.length : Int) : Int).toNat 0) := ⟨_, rfl⟩
   replace H : (spec_weKinds.l0 k ([] : List (List Int)) y101 l0 (l0.length : Int) 0) = some r := by first | (rw [hy101]; with_reducible exact H) | (have H2_ := (Option.bind_some _ _).symm.trans H; rw [hy101]; with_reducible exact H2_) | (have H2_ := (Option.bind_some _ _).symm.trans H; with_reducible exact H2_) | with_reducible exact H | (rw [hy101]; exact H) | exact H
   have Ny101 := am_ hy101
   clear hy101
   have H' := am_ H
   clear H
   go_enter Try.func39, Try.ntmps39
   go_wp2_with (first | ((with_reducible refine gate_dst (N := 13) rfl ?_); refine Kd.R_make (Kd.int .i64) _ 3 rfl (N := 13) rfl 28 _ _ rfl (l0.length : Int) rfl rfl Try.underlying28 (.int .i64 0) 8 info3 rfl (by decide) (by omega) 0 (ok := fun _ => True) (okp := fun _ => True) rfl (fun _ hk => hk) trivial (of_decide_eq_true tc2_) (Nat.le_trans (Nat.mul_le_mul_right _ (of_decide_eq_true tc2_ : (l0.length : Int).toNat ≤ 35184372088832)) (by omega)) (Below.refl _ _) (Nat.le_refl _) ?_; intro v102 w4 ho5 hb hg_ hnew_; clear hg_ hnew_; (first | rw [← Ny101.out] at ho5 | (simp only [Int.reduceToNat] at ho5; rw [← Ny101.out] at ho5)); have n0_ := am_ (Kd.R_lower ho5 (below_size tc1_)); have n1_ := am_ (below_step tc1_ hb); clear HB; have HO103 := n0_; have HB := n1_; clear n0_ n1_; clear hb ho5))
   go_loopg [3, 16] k (fun kq v3 v16 w' => ∃ (x3_1 : List (List Int)) (x4_1 : List Int) (x16_1 : Int), v16 = .int .i64 x16_1 ∧ Aside0 (spec_weKinds.l0 kq x3_1 x4_1 l0 (l0.length : Int) x16_1 = some r) ∧ Aside0 (kq ≤ k) ∧ Aside0 (Kd.S (Kd.slice 3 (Kd.int .i64)) 28 w' w.heap.size (fun k_ => some k_ ≠ (v102 : Value).ownBlock) v3 x3_1) ∧ Aside0 (Kd.R (Kd.int .i64) 3 w' w.heap.size (fun _ => True) v102 x4_1) ∧ Aside0 (Below w.heap.size w w'))
   case atStart => exact ⟨(([] : List (List Int))), (y101), (0), tc6_, H', ⟨Nat.le_refl _⟩, ⟨by first | exact Kd.S_nil _ _ _ _ _ | exact Kd.N_nil _ _ _ _ _ | exact Kd.V_nil _ _ _ _ _ | exact Kd.Q_nil _ _ _ _ _ | exact Kd.R_nil _ _ _ _ _⟩, ⟨by (with_reducible repeat (first | apply Kd.R_alloc | apply Kd.R_drewN | apply Kd.R_drew)); exact HO103.out⟩, ⟨by repeat (first | (with_reducible first | exact HB.out | apply below_alloc | apply pw_below_drewN | apply below_drew1) | exact HB.out)⟩⟩
   case round =>
    clear H'
    try clear c2
    try clear c2b0
    try clear c2b1
    try clear p2
    try clear c3
    try clear c3b0
    try clear c3b1
    obtain ⟨x3_1, x4_1, x16_1, rfl, HA, HK1, HO_3, HO_4, HB⟩ := hrel
    cases gk with
    | zero => exact absurd HA.out (by simp [spec_weKinds.l0])
    | succ k1 =>
     have H := HA.out
     clear HA
     simp only [spec_weKinds.l0] at H
     by_cases c6 : x16_1 < (l0.length : Int)
     ·rw [if_pos c6] at H
      have c6b0 : decide (x16_1 < (l0.length : Int)) = true := decide_eq_true c6
      clear c6
      by_cases c7 : 0 ≤ x16_1
      ·rw [if_pos c7] at H
       have c7b0 : decide (0 ≤ x16_1) = true := decide_eq_true c7
       clear c7
       by_cases c8 : x16_1 < (l0.length : Int)
       ·rw [if_pos c8] at H
        have c8b0 : decide (x16_1 < (l0.length : Int)) = true := decide_eq_true c8
        clear c8
        have H' := am_ H
        clear H
        have p104 : 0 ≤ (x16_1 : Int) := of_decide_eq_true tc2_
        have q104 : x16_1 < (l0.length : Int) := of_decide_eq_true tc2_
        obtain ⟨ad104, A104_0, c104_0, e104, hx104_0, hl104_0, hi104_0⟩ := at_L3 HR0.out x16_1 p104 q104
        cases e104
        replace hx104_0 := (HB.out.cell (World.block_lt_of_cell? w _ hx104_0)).trans hx104_0
        have HR104_0 := am_ hi104_0
        have HC104_0 := am_ hl104_0
        clear hi104_0 hl104_0
        replace p104 := eq_true p104
        replace q104 := eq_true q104
        go_wp2
        go_loopg [7, 8, 22] k1 (fun kq v7 v8 v22 w' => ∃ (x4_2 : List Int) (x7_2 : List Int) (x8_2 : Int) (x22_2 : Int), v8 = .int .i64 x8_2 ∧ v22 = .int .i64 x22_2 ∧ Aside0 (spec_weKinds.l1 kq x3_1 x4_2 x7_2 x8_2 l0 (l0.length : Int) x16_1 (rd_L3 l0 x16_1) ((rd_L3 l0 x16_1).length : Int) x22_2 = some r) ∧ Aside0 (kq ≤ k1) ∧ Aside0 (Kd.S (Kd.slice 3 (Kd.int .i64)) 28 w' w.heap.size (fun k_ => some k_ ≠ (v102 : Value).ownBlock ∧ some k_ ≠ (v7 : Value).ownBlock) u3 x3_1) ∧ Aside0 (Kd.R (Kd.int .i64) 3 w' w.heap.size (fun k_ => some k_ ≠ (v7 : Value).ownBlock) v102 x4_2) ∧ Aside0 (Kd.R (Kd.int .i64) 3 w' w.heap.size (fun k_ => some k_ ≠ (v102 : Value).ownBlock) v7 x7_2) ∧ Aside0 (Below w.heap.size w w'))
        case atStart => exact ⟨(x4_1), (([] : List Int)), (0), (0), tc6_, tc6_, H', ⟨Nat.le_refl _⟩, ⟨by (with_reducible repeat (first | apply Kd.S_alloc | apply Kd.S_drewN | apply Kd.S_drew)); exact Kd.S_mono HO_3.out (fun _ hk => ⟨hk, (by simp [Value.ownBlock])⟩)⟩, ⟨by (with_reducible repeat (first | apply Kd.R_alloc | apply Kd.R_drewN | apply Kd.R_drew)); exact Kd.R_mono HO_4.out (fun _ hk => (by simp [Value.ownBlock]))⟩, ⟨by first | exact Kd.R_nil _ _ _ _ _ | exact Kd.N_nil _ _ _ _ _ | exact Kd.V_nil _ _ _ _ _ | exact Kd.Q_nil _ _ _ _ _ | exact Kd.S_nil _ _ _ _ _⟩, ⟨by repeat (first | (with_reducible first | exact HB.out | apply below_alloc | apply pw_below_drewN | apply below_drew1) | exact HB.out)⟩⟩
        case round =>
         clear H'
         try clear c1
         try clear p1
         try clear q1
         try clear hx1
         try clear c2
         try clear c2b0
         try clear c2b1
         try clear p2
         try clear c3
         try clear c3b0
         try clear c3b1
         try clear c6
         try clear c6b0
         try clear c7
         try clear c7b0
         try clear c8
         try clear c8b0
         try clear hx104_0
         try clear p104
         try clear p2
         try clear q104
         obtain ⟨x4_2, x7_2, x8_2, x22_2, rfl, rfl, HA, HK2, HO_3, HO_4, HO_7, HB⟩ := hrel
         cases gk with
         | zero => exact absurd HA.out (by simp [spec_weKinds.l1])
         | succ k2 =>
          have H := HA.out
          clear HA
          simp only [spec_weKinds.l1] at H
          by_cases c9 : x22_2 < ((rd_L3 l0 x16_1).length : Int)
          ·rw [if_pos c9] at H
           have c9b0 : decide (x22_2 < ((rd_L3 l0 x16_1).length : Int)) = true := decide_eq_true c9
           clear c9
           by_cases c10 : 0 ≤ x22_2
           ·rw [if_pos c10] at H
            have c10b0 : decide (0 ≤ x22_2) = true := decide_eq_true c10
            clear c10
            by_cases c11 : x22_2 < ((rd_L3 l0 x16_1).length : Int)
            ·rw [if_pos c11] at H
             have c11b0 : decide (x22_2 < ((rd_L3 l0 x16_1).length : Int)) = true := decide_eq_true c11
             clear c11
             by_cases c12 : (rd (rd_L3 l0 x16_1) x22_2) = 1
             ·rw [if_pos c12] at H
              have c12b0 : ((rd (rd_L3 l0 x16_1) x22_2) == 1) = true := beq_iff_eq.mpr c12
              have c12b1 : ((rd (rd_L3 l0 x16_1) x22_2) != 1) = false := bne_eq_false_iff_eq.mpr c12
              clear c12
              by_cases c13 : x7_2.length < 17592186044416
              ·rw [if_pos c13] at H
               have LMc13 := am_ c13
               clear c13
               obtain ⟨y109, hy109⟩ : ∃ y_ : List Int, y_ = (x7_2 ++ [4]) := ⟨_, rfl⟩
               replace H : (if x22_2 < (x4_2.length : Int) then (spec_weKinds.l1 k2 x3_1 (x4_2.set (x22_2 : Int).toNat (wrap64 ((rd x4_2 x22_2) + (rd (rd_L3 l0 x16_1) x22_2)))) y109 (wrap64 (x8_2 + (rd (rd_L3 l0 x16_1) x22_2))) l0 (l0.length : Int) x16_1 (rd_L3 l0 x16_1) ((rd_L3 l0 x16_1).length : Int) (wrap64 (x22_2 + 1))) else (none)) = some r := by first | (rw [hy109]; with_reducible exact H) | (have H2_ := (Option.bind_some _ _).symm.trans H; rw [hy109]; with_reducible exact H2_) | (have H2_ := (Option.bind_some _ _).symm.trans H; with_reducible exact H2_) | with_reducible exact H | (rw [hy109]; exact H) | exact H
               have Ny109 := am_ hy109
               clear hy109
               by_cases c14 : x22_2 < (x4_2.length : Int)
               ·rw [if_pos c14] at H
                have c14b0 : decide (x22_2 < (x4_2.length : Int)) = true := decide_eq_true c14
                clear c14
                obtain ⟨y113, hy113⟩ : ∃ y_ : List Int, y_ = (x4_2.set (x22_2 : Int).toNat (wrap64 ((rd x4_2 x22_2) + (rd (rd_L3 l0 x16_1) x22_2)))) := ⟨_, rfl⟩
                replace H : (spec_weKinds.l1 k2 x3_1 y113 y109 (wrap64 (x8_2 + (rd (rd_L3 l0 x16_1) x22_2))) l0 (l0.length : Int) x16_1 (rd_L3 l0 x16_1) ((rd_L3 l0 x16_1).length : Int) (wrap64 (x22_2 + 1))) = some r := by first | (rw [hy113]; with_reducible exact H) | (have H2_ := (Option.bind_some _ _).symm.trans H; rw [hy113]; with_reducible exact H2_) | (have H2_ := (Option.bind_some _ _).symm.trans H; with_reducible exact H2_) | with_reducible exact H | (rw [hy113]; exact H) | exact H
                have Ny113 := am_ hy113
                clear hy113
                have H' := am_ H
                clear H
                have p108 : 0 ≤ (x22_2 : Int) := of_decide_eq_true tc2_
                have q108 : x22_2 < ((rd_L3 l0 x16_1).length : Int) := of_decide_eq_true tc2_
                obtain ⟨ad108, e108, hx108_0⟩ := Kd.at_int HR104_0.out x22_2 p108 q108
                cases e108
                replace hx108_0 := (HB.out.cell (World.block_lt_of_cell? w _ hx108_0)).trans hx108_0
                replace p108 := eq_true p108
                replace q108 := eq_true q108
                go_wp2_with (first | ((with_reducible refine gate_builtin (b := .append) (xs := #[.tmp 40, .tmp 41]) rfl ?_); at_builtin; refine Kd.R_append (Kd.int .i64) (w0 := w) w.heap.size rfl (.tmp 40) (.tmp 41) 28 3 (.int .i64 0) 8 rfl Try.underlying28 info3 rfl (by decide) (by omega) u7 x7_2 4 [.int .i64 4] (fun k_ => some k_ ≠ (v102 : Value).ownBlock) (fun _ => False) rfl rfl ?aP (fun _ hk => hk.elim) ?aF ?aO ?aB ?aS ?aL ?_; (case aP => exact rfl); (case aB => exact tc16_); (case aF => exact tc35_); (case aO => exact tc50_); (case aS => exact tc23_); (case aL => have := LMc13.out; omega); intro v110 w16 ho hb hg hat; rw [← Ny109.out] at ho; have n0_ := am_ (Kd.S_after (ok := (fun k_ => some k_ ≠ (v102 : Value).ownBlock)) tc40_ hg hat); have n1_ := am_ (Kd.R_after (ok := (fun _ => True)) tc45_ hg hat); have n2_ := am_ (hb); have n3_ := am_ (ho); clear HO_3 HO_4; clear HB HO_7; have HO_3 := n0_; have HO_4 := n1_; have HB := n2_; have HO111 := n3_; clear n0_ n1_ n2_ n3_; clear ho hb hg hat; obtain ⟨Ao17, co17, eo17⟩ := Kd.R_slice HO_4.out; subst eo17; have p112 : 0 ≤ (x22_2 : Int) := of_decide_eq_true tc2_; have q112 : x22_2 < (x4_2.length : Int) := of_decide_eq_true tc2_; obtain ⟨ad112, e112, hx112_0⟩ := Kd.at_int (Kd.R_reads' HO_4.out).2.2 x22_2 p112 q112; cases e112; replace p112 := eq_true p112; replace q112 := eq_true q112; have p15 : 0 ≤ (x22_2 : Int) := of_decide_eq_true tc2_; have q15 : (x22_2 : Int) < ((x4_2.length : Int) : Int) := of_decide_eq_true tc2_; obtain ⟨go15, co15, eo15, gb15, gl15, cl15, HG15⟩ := Kd.R_form HO_4.out (by omega); (first | cases eo15 | (injection eo15 with ea_ en_ ec_; (first | subst ea_ | (injection ea_ with ea_; subst ea_)); subst ec_; clear en_)); have GB15 := am_ gb15; have GG15 := am_ HG15; clear gb15 gl15 HG15; (first | simp only [add_plain] at hx112_0 | skip); obtain ⟨hx15_0, hf15_0⟩ := Kd.R_celln 0 HO_4.out (x22_2 : Int) p15 q15; replace p15 := eq_true p15; replace q15 := eq_true q15; have n_ := am_ (Kd.R_mono (ok' := (fun k_ => some k_ ≠ (v110 : Value).ownBlock)) HO_4.out (fun k_ hk => hk.2)); clear HO_4; have HO_4 := n_; clear n_; obtain ⟨hy18_, hz18_⟩ := Kd.R_celln 0 HO_4.out (x22_2 : Int) (of_decide_eq_true tc2_) (of_decide_eq_true tc2_); have HP18 := Kd.R_putg HO_4.out (x22_2 : Int) (wrap64 ((rd x4_2 x22_2) + (rd (rd_L3 l0 x16_1) x22_2)))) | ((with_reducible refine gate_store (t := 3) (p := 57) rfl ?_); refine store_event (t := 3) (p := 57) (v := ?vo_w19) (w1 := (w16.setCell ⟨go15, (x22_2 : Int).toNat, none⟩ (.int .i64 (wrap64 ((rd x4_2 x22_2) + (rd (rd_L3 l0 x16_1) x22_2)))))) ?hg ?ho ?hn ?hr ?_; (case ho => rfl); (case hg => rfl); (case hn => rfl); (case hr => exact tc27_); intro w19 hw; have hg : w16.grownBy w19 (some go15) := (by rw [hw]; exact HP18.2); have hp_ : Kd.R (Kd.int .i64) 3 w19 w.heap.size (fun k_ => some k_ ≠ (v110 : Value).ownBlock) (.slice (some ⟨go15, 0, none⟩) x4_2.length co17) y113 := (by rw [hw, Ny113.out]; exact HP18.1); clear HP18; have n0_ := am_ (Kd.S_after (v := (.slice (some ⟨go15, 0, none⟩) x4_2.length co17)) (v1 := (.slice (some ⟨go15, 0, none⟩) x4_2.length co17)) (ok := (fun k_ => some k_ ≠ (v110 : Value).ownBlock)) tc48_ hg (.inl rfl)); have n1_ := am_ (hp_); have n2_ := am_ (Kd.R_after (v := (.slice (some ⟨go15, 0, none⟩) x4_2.length co17)) (v1 := (.slice (some ⟨go15, 0, none⟩) x4_2.length co17)) (ok := (fun _ => True)) (by (with_reducible repeat (first | apply Kd.R_alloc | apply Kd.R_drewN | apply Kd.R_drew)); exact Kd.R_mono HO111.out (fun _ hk => ⟨trivial, hk⟩)) hg (.inl rfl)); have n3_ := am_ ((by rw [hw]; exact below_set (HB.out) GB15.out : Below w.heap.size w w19)); clear HO_3 HO_4; clear HO111 HB; have HO_3 := n0_; have HO_4 := n1_; have HO111 := n2_; have HB := n3_; clear n0_ n1_ n2_ n3_; clear hg hw hp_))
                go_roundg k2
                case measure => have := HK1.out; have := HK2.out; omega
                case rel => exact ⟨(y113), (y109), (wrap64 (x8_2 + (rd (rd_L3 l0 x16_1) x22_2))), (wrap64 (x22_2 + 1)), tc6_, tc6_, H', ⟨by have := HK1.out; have := HK2.out; omega⟩, ⟨by (with_reducible repeat (first | apply Kd.S_alloc | apply Kd.S_drewN | apply Kd.S_drew)); exact Kd.S_mono HO_3.out (fun _ hk => ⟨hk.2, hk.1⟩)⟩, ⟨by (with_reducible repeat (first | apply Kd.R_alloc | apply Kd.R_drewN | apply Kd.R_drew)); exact HO_4.out⟩, ⟨by (with_reducible repeat (first | apply Kd.R_alloc | apply Kd.R_drewN | apply Kd.R_drew)); exact Kd.R_mono HO111.out (fun _ hk => hk.2)⟩, ⟨by repeat (first | (with_reducible first | exact HB.out | apply below_alloc | apply pw_below_drewN | apply below_drew1) | exact HB.out)⟩⟩
               ·rw [if_neg c14] at H
                exact absurd H (by simp)
              ·rw [if_neg c13] at H
               exact absurd H (by simp)
             ·rw [if_neg c12] at H
              have c12b0 : ((rd (rd_L3 l0 x16_1) x22_2) == 1) = false := beq_eq_false_iff_ne.mpr c12
              have c12b1 : ((rd (rd_L3 l0 x16_1) x22_2) != 1) = true := bne_iff_ne.mpr c12
              by_cases c20 : (rd (rd_L3 l0 x16_1) x22_2) = (-1)
              ·rw [if_pos c20] at H
               have c20b0 : ((rd (rd_L3 l0 x16_1) x22_2) == (-1)) = true := beq_iff_eq.mpr c20
               have c20b1 : ((rd (rd_L3 l0 x16_1) x22_2) != (-1)) = false := bne_eq_false_iff_eq.mpr c20
               clear c20
               by_cases c21 : x7_2.length < 17592186044416
               ·rw [if_pos c21] at H
                have LMc21 := am_ c21
                clear c21
                obtain ⟨y114, hy114⟩ : ∃ y_ : List Int, y_ = (x7_2 ++ [5]) := ⟨_, rfl⟩
                replace H : (if x22_2 < (x4_2.length : Int) then (spec_weKinds.l1 k2 x3_1 (x4_2.set (x22_2 : Int).toNat (wrap64 ((rd x4_2 x22_2) + (rd (rd_L3 l0 x16_1) x22_2)))) y114 (wrap64 (x8_2 + (rd (rd_L3 l0 x16_1) x22_2))) l0 (l0.length : Int) x16_1 (rd_L3 l0 x16_1) ((rd_L3 l0 x16_1).length : Int) (wrap64 (x22_2 + 1))) else (none)) = some r := by first | (rw [hy114]; with_reducible exact H) | (have H2_ := (Option.bind_some _ _).symm.trans H; rw [hy114]; with_reducible exact H2_) | (have H2_ := (Option.bind_some _ _).symm.trans H; with_reducible exact H2_) | with_reducible exact H | (rw [hy114]; exact H) | exact H
                have Ny114 := am_ hy114
                clear hy114
                by_cases c22 : x22_2 < (x4_2.length : Int)
                ·rw [if_pos c22] at H
                 have c22b0 : decide (x22_2 < (x4_2.length : Int)) = true := decide_eq_true c22
                 clear c22
                 obtain ⟨y118, hy118⟩ : ∃ y_ : List Int, y_ = (x4_2.set (x22_2 : Int).toNat (wrap64 ((rd x4_2 x22_2) + (rd (rd_L3 l0 x16_1) x22_2)))) := ⟨_, rfl⟩
                 replace H : (spec_weKinds.l1 k2 x3_1 y118 y114 (wrap64 (x8_2 + (rd (rd_L3 l0 x16_1) x22_2))) l0 (l0.length : Int) x16_1 (rd_L3 l0 x16_1) ((rd_L3 l0 x16_1).length : Int) (wrap64 (x22_2 + 1))) = some r := by first | (rw [hy118]; with_reducible exact H) | (have H2_ := (Option.bind_some _ _).symm.trans H; rw [hy118]; with_reducible exact H2_) | (have H2_ := (Option.bind_some _ _).symm.trans H; with_reducible exact H2_) | with_reducible exact H | (rw [hy118]; exact H) | exact H
                 have Ny118 := am_ hy118
                 clear hy118
                 have H' := am_ H
                 clear H
                 have p108 : 0 ≤ (x22_2 : Int) := of_decide_eq_true tc2_
                 have q108 : x22_2 < ((rd_L3 l0 x16_1).length : Int) := of_decide_eq_true tc2_
                 obtain ⟨ad108, e108, hx108_0⟩ := Kd.at_int HR104_0.out x22_2 p108 q108
                 cases e108
                 replace hx108_0 := (HB.out.cell (World.block_lt_of_cell? w _ hx108_0)).trans hx108_0
                 replace p108 := eq_true p108
                 replace q108 := eq_true q108
                 go_wp2_with (first | ((with_reducible refine gate_builtin (b := .append) (xs := #[.tmp 45, .tmp 46]) rfl ?_); at_builtin; refine Kd.R_append (Kd.int .i64) (w0 := w) w.heap.size rfl (.tmp 45) (.tmp 46) 28 3 (.int .i64 0) 8 rfl Try.underlying28 info3 rfl (by decide) (by omega) u7 x7_2 5 [.int .i64 5] (fun k_ => some k_ ≠ (v102 : Value).ownBlock) (fun _ => False) rfl rfl ?aP (fun _ hk => hk.elim) ?aF ?aO ?aB ?aS ?aL ?_; (case aP => exact rfl); (case aB => exact tc16_); (case aF => exact tc35_); (case aO => exact tc50_); (case aS => exact tc23_); (case aL => have := LMc21.out; omega); intro v115 w24 ho hb hg hat; rw [← Ny114.out] at ho; have n0_ := am_ (Kd.S_after (ok := (fun k_ => some k_ ≠ (v102 : Value).ownBlock)) tc40_ hg hat); have n1_ := am_ (Kd.R_after (ok := (fun _ => True)) tc45_ hg hat); have n2_ := am_ (hb); have n3_ := am_ (ho); clear HO_3 HO_4; clear HB HO_7; have HO_3 := n0_; have HO_4 := n1_; have HB := n2_; have HO116 := n3_; clear n0_ n1_ n2_ n3_; clear ho hb hg hat; obtain ⟨Ao25, co25, eo25⟩ := Kd.R_slice HO_4.out; subst eo25; have p117 : 0 ≤ (x22_2 : Int) := of_decide_eq_true tc2_; have q117 : x22_2 < (x4_2.length : Int) := of_decide_eq_true tc2_; obtain ⟨ad117, e117, hx117_0⟩ := Kd.at_int (Kd.R_reads' HO_4.out).2.2 x22_2 p117 q117; cases e117; replace p117 := eq_true p117; replace q117 := eq_true q117; have p23 : 0 ≤ (x22_2 : Int) := of_decide_eq_true tc2_; have q23 : (x22_2 : Int) < ((x4_2.length : Int) : Int) := of_decide_eq_true tc2_; obtain ⟨go23, co23, eo23, gb23, gl23, cl23, HG23⟩ := Kd.R_form HO_4.out (by omega); (first | cases eo23 | (injection eo23 with ea_ en_ ec_; (first | subst ea_ | (injection ea_ with ea_; subst ea_)); subst ec_; clear en_)); have GB23 := am_ gb23; have GG23 := am_ HG23; clear gb23 gl23 HG23; (first | simp only [add_plain] at hx117_0 | skip); obtain ⟨hx23_0, hf23_0⟩ := Kd.R_celln 0 HO_4.out (x22_2 : Int) p23 q23; replace p23 := eq_true p23; replace q23 := eq_true q23; have n_ := am_ (Kd.R_mono (ok' := (fun k_ => some k_ ≠ (v115 : Value).ownBlock)) HO_4.out (fun k_ hk => hk.2)); clear HO_4; have HO_4 := n_; clear n_; obtain ⟨hy26_, hz26_⟩ := Kd.R_celln 0 HO_4.out (x22_2 : Int) (of_decide_eq_true tc2_) (of_decide_eq_true tc2_); have HP26 := Kd.R_putg HO_4.out (x22_2 : Int) (wrap64 ((rd x4_2 x22_2) + (rd (rd_L3 l0 x16_1) x22_2)))) | ((with_reducible refine gate_store (t := 3) (p := 57) rfl ?_); refine store_event (t := 3) (p := 57) (v := ?vo_w27) (w1 := (w24.setCell ⟨go23, (x22_2 : Int).toNat, none⟩ (.int .i64 (wrap64 ((rd x4_2 x22_2) + (rd (rd_L3 l0 x16_1) x22_2)))))) ?hg ?ho ?hn ?hr ?_; (case ho => rfl); (case hg => rfl); (case hn => rfl); (case hr => exact tc27_); intro w27 hw; have hg : w24.grownBy w27 (some go23) := (by rw [hw]; exact HP26.2); have hp_ : Kd.R (Kd.int .i64) 3 w27 w.heap.size (fun k_ => some k_ ≠ (v115 : Value).ownBlock) (.slice (some ⟨go23, 0, none⟩) x4_2.length co25) y118 := (by rw [hw, Ny118.out]; exact HP26.1); clear HP26; have n0_ := am_ (Kd.S_after (v := (.slice (some ⟨go23, 0, none⟩) x4_2.length co25)) (v1 := (.slice (some ⟨go23, 0, none⟩) x4_2.length co25)) (ok := (fun k_ => some k_ ≠ (v115 : Value).ownBlock)) tc48_ hg (.inl rfl)); have n1_ := am_ (hp_); have n2_ := am_ (Kd.R_after (v := (.slice (some ⟨go23, 0, none⟩) x4_2.length co25)) (v1 := (.slice (some ⟨go23, 0, none⟩) x4_2.length co25)) (ok := (fun _ => True)) (by (with_reducible repeat (first | apply Kd.R_alloc | apply Kd.R_drewN | apply Kd.R_drew)); exact Kd.R_mono HO116.out (fun _ hk => ⟨trivial, hk⟩)) hg (.inl rfl)); have n3_ := am_ ((by rw [hw]; exact below_set (HB.out) GB23.out : Below w.heap.size w w27)); clear HO_3 HO_4; clear HO116 HB; have HO_3 := n0_; have HO_4 := n1_; have HO116 := n2_; have HB := n3_; clear n0_ n1_ n2_ n3_; clear hg hw hp_))
                 go_roundg k2
                 case measure => have := HK1.out; have := HK2.out; omega
                 case rel => exact ⟨(y118), (y114), (wrap64 (x8_2 + (rd (rd_L3 l0 x16_1) x22_2))), (wrap64 (x22_2 + 1)), tc6_, tc6_, H', ⟨by have := HK1.out; have := HK2.out; omega⟩, ⟨by (with_reducible repeat (first | apply Kd.S_alloc | apply Kd.S_drewN | apply Kd.S_drew)); exact Kd.S_mono HO_3.out (fun _ hk => ⟨hk.2, hk.1⟩)⟩, ⟨by (with_reducible repeat (first | apply Kd.R_alloc | apply Kd.R_drewN | apply Kd.R_drew)); exact HO_4.out⟩, ⟨by (with_reducible repeat (first | apply Kd.R_alloc | apply Kd.R_drewN | apply Kd.R_drew)); exact Kd.R_mono HO116.out (fun _ hk => hk.2)⟩, ⟨by repeat (first | (with_reducible first | exact HB.out | apply below_alloc | apply pw_below_drewN | apply below_drew1) | exact HB.out)⟩⟩
                ·rw [if_neg c22] at H
                 exact absurd H (by simp)
               ·rw [if_neg c21] at H
                exact absurd H (by simp)
              ·rw [if_neg c20] at H
               have c20b0 : ((rd (rd_L3 l0 x16_1) x22_2) == (-1)) = false := beq_eq_false_iff_ne.mpr c20
               have c20b1 : ((rd (rd_L3 l0 x16_1) x22_2) != (-1)) = true := bne_iff_ne.mpr c20
               by_cases c28 : x22_2 < (x4_2.length : Int)
               ·rw [if_pos c28] at H
                have c28b0 : decide (x22_2 < (x4_2.length : Int)) = true := decide_eq_true c28
                clear c28
                by_cases c29 : x7_2.length < 17592186044416
                ·rw [if_pos c29] at H
                 have LMc29 := am_ c29
                 clear c29
                 obtain ⟨y120, hy120⟩ : ∃ y_ : List Int, y_ = (x7_2 ++ [wrap64 ((wrap64 (2 * x8_2)) + (rd x4_2 x22_2))]) := ⟨_, rfl⟩
                 replace H : (spec_weKinds.l1 k2 x3_1 (x4_2.set (x22_2 : Int).toNat (wrap64 ((rd x4_2 x22_2) + (rd (rd_L3 l0 x16_1) x22_2)))) y120 (wrap64 (x8_2 + (rd (rd_L3 l0 x16_1) x22_2))) l0 (l0.length : Int) x16_1 (rd_L3 l0 x16_1) ((rd_L3 l0 x16_1).length : Int) (wrap64 (x22_2 + 1))) = some r := by first | (rw [hy120]; with_reducible exact H) | (have H2_ := (Option.bind_some _ _).symm.trans H; rw [hy120]; with_reducible exact H2_) | (have H2_ := (Option.bind_some _ _).symm.trans H; with_reducible exact H2_) | with_reducible exact H | (rw [hy120]; exact H) | exact H
                 have Ny120 := am_ hy120
                 clear hy120
                 obtain ⟨y124, hy124⟩ : ∃ y_ : List Int, y_ = (x4_2.set (x22_2 : Int).toNat (wrap64 ((rd x4_2 x22_2) + (rd (rd_L3 l0 x16_1) x22_2)))) := ⟨_, rfl⟩
                 replace H : (spec_weKinds.l1 k2 x3_1 y124 y120 (wrap64 (x8_2 + (rd (rd_L3 l0 x16_1) x22_2))) l0 (l0.length : Int) x16_1 (rd_L3 l0 x16_1) ((rd_L3 l0 x16_1).length : Int) (wrap64 (x22_2 + 1))) = some r := by first | (rw [hy124]; with_reducible exact H) | (have H2_ := (Option.bind_some _ _).symm.trans H; rw [hy124]; with_reducible exact H2_) | (have H2_ := (Option.bind_some _ _).symm.trans H; with_reducible exact H2_) | with_reducible exact H | (rw [hy124]; exact H) | exact H
                 have Ny124 := am_ hy124
                 clear hy124
                 have H' := am_ H
                 clear H
                 have p108 : 0 ≤ (x22_2 : Int) := of_decide_eq_true tc2_
                 have q108 : x22_2 < ((rd_L3 l0 x16_1).length : Int) := of_decide_eq_true tc2_
                 obtain ⟨ad108, e108, hx108_0⟩ := Kd.at_int HR104_0.out x22_2 p108 q108
                 cases e108
                 replace hx108_0 := (HB.out.cell (World.block_lt_of_cell? w _ hx108_0)).trans hx108_0
                 replace p108 := eq_true p108
                 replace q108 := eq_true q108
                 obtain ⟨Ao31, co31, eo31⟩ := Kd.R_slice HO_4.out
                 subst eo31
                 have p119 : 0 ≤ (x22_2 : Int) := of_decide_eq_true tc2_
                 have q119 : x22_2 < (x4_2.length : Int) := of_decide_eq_true tc2_
                 obtain ⟨ad119, e119, hx119_0⟩ := Kd.at_int (Kd.R_reads' HO_4.out).2.2 x22_2 p119 q119
                 cases e119
                 replace p119 := eq_true p119
                 replace q119 := eq_true q119
                 go_wp2_with (first | ((with_reducible refine gate_builtin (b := .append) (xs := #[.tmp 28, .tmp 36]) rfl ?_); at_builtin; refine Kd.R_append (Kd.int .i64) (w0 := w) w.heap.size rfl (.tmp 28) (.tmp 36) 28 3 (.int .i64 0) 8 rfl Try.underlying28 info3 rfl (by decide) (by omega) u7 x7_2 (wrap64 ((wrap64 (2 * x8_2)) + (rd x4_2 x22_2))) [.int .i64 (wrap64 ((wrap64 (2 * x8_2)) + (rd x4_2 x22_2)))] (fun k_ => some k_ ≠ (.slice (some ad119) x4_2.length co31 : Value).ownBlock) (fun _ => False) rfl rfl ?aP (fun _ hk => hk.elim) ?aF ?aO ?aB ?aS ?aL ?_; (case aP => exact rfl); (case aB => exact tc16_); (case aF => exact tc35_); (case aO => exact tc50_); (case aS => exact tc23_); (case aL => have := LMc29.out; omega); intro v121 w32 ho hb hg hat; rw [← Ny120.out] at ho; have n0_ := am_ (Kd.S_after (ok := (fun k_ => some k_ ≠ (.slice (some ad119) x4_2.length co31 : Value).ownBlock)) tc40_ hg hat); have n1_ := am_ (Kd.R_after (ok := (fun _ => True)) tc45_ hg hat); have n2_ := am_ (hb); have n3_ := am_ (ho); clear HO_3 HO_4; clear HB HO_7; have HO_3 := n0_; have HO_4 := n1_; have HB := n2_; have HO122 := n3_; clear n0_ n1_ n2_ n3_; clear ho hb hg hat; have p123 : 0 ≤ (x22_2 : Int) := of_decide_eq_true tc2_; have q123 : x22_2 < (x4_2.length : Int) := of_decide_eq_true tc2_; obtain ⟨ad123, e123, hx123_0⟩ := Kd.at_int (Kd.R_reads' HO_4.out).2.2 x22_2 p123 q123; obtain rfl : ad119 = ad123 := (by injection e123); replace p123 := eq_true p123; replace q123 := eq_true q123; have p30 : 0 ≤ (x22_2 : Int) := of_decide_eq_true tc2_; have q30 : (x22_2 : Int) < ((x4_2.length : Int) : Int) := of_decide_eq_true tc2_; obtain ⟨go30, co30, eo30, gb30, gl30, cl30, HG30⟩ := Kd.R_form HO_4.out (by omega); (first | cases eo30 | (injection eo30 with ea_ en_ ec_; (first | subst ea_ | (injection ea_ with ea_; subst ea_)); subst ec_; clear en_)); have GB30 := am_ gb30; have GG30 := am_ HG30; clear gb30 gl30 HG30; (first | simp only [add_plain] at hx119_0 | skip); (first | simp only [add_plain] at hx123_0 | skip); obtain ⟨hx30_0, hf30_0⟩ := Kd.R_celln 0 HO_4.out (x22_2 : Int) p30 q30; replace p30 := eq_true p30; replace q30 := eq_true q30; have n_ := am_ (Kd.R_mono (ok' := (fun k_ => some k_ ≠ (v121 : Value).ownBlock)) HO_4.out (fun k_ hk => hk.2)); clear HO_4; have HO_4 := n_; clear n_; obtain ⟨hy33_, hz33_⟩ := Kd.R_celln 0 HO_4.out (x22_2 : Int) (of_decide_eq_true tc2_) (of_decide_eq_true tc2_); have HP33 := Kd.R_putg HO_4.out (x22_2 : Int) (wrap64 ((rd x4_2 x22_2) + (rd (rd_L3 l0 x16_1) x22_2)))) | ((with_reducible refine gate_store (t := 3) (p := 57) rfl ?_); refine store_event (t := 3) (p := 57) (v := ?vo_w34) (w1 := (w32.setCell ⟨go30, (x22_2 : Int).toNat, none⟩ (.int .i64 (wrap64 ((rd x4_2 x22_2) + (rd (rd_L3 l0 x16_1) x22_2)))))) ?hg ?ho ?hn ?hr ?_; (case ho => rfl); (case hg => rfl); (case hn => rfl); (case hr => exact tc27_); intro w34 hw; have hg : w32.grownBy w34 (some go30) := (by rw [hw]; exact HP33.2); have hp_ : Kd.R (Kd.int .i64) 3 w34 w.heap.size (fun k_ => some k_ ≠ (v121 : Value).ownBlock) (.slice (some ⟨go30, 0, none⟩) x4_2.length co31) y124 := (by rw [hw, Ny124.out]; exact HP33.1); clear HP33; have n0_ := am_ (Kd.S_after (v := (.slice (some ⟨go30, 0, none⟩) x4_2.length co31)) (v1 := (.slice (some ⟨go30, 0, none⟩) x4_2.length co31)) (ok := (fun k_ => some k_ ≠ (v121 : Value).ownBlock)) tc48_ hg (.inl rfl)); have n1_ := am_ (hp_); have n2_ := am_ (Kd.R_after (v := (.slice (some ⟨go30, 0, none⟩) x4_2.length co31)) (v1 := (.slice (some ⟨go30, 0, none⟩) x4_2.length co31)) (ok := (fun _ => True)) (by (with_reducible repeat (first | apply Kd.R_alloc | apply Kd.R_drewN | apply Kd.R_drew)); exact Kd.R_mono HO122.out (fun _ hk => ⟨trivial, hk⟩)) hg (.inl rfl)); have n3_ := am_ ((by rw [hw]; exact below_set (HB.out) GB30.out : Below w.heap.size w w34)); clear HO_3 HO_4; clear HO122 HB; have HO_3 := n0_; have HO_4 := n1_; have HO122 := n2_; have HB := n3_; clear n0_ n1_ n2_ n3_; clear hg hw hp_))
                 go_roundg k2
                 case measure => have := HK1.out; have := HK2.out; omega
                 case rel => exact ⟨(y124), (y120), (wrap64 (x8_2 + (rd (rd_L3 l0 x16_1) x22_2))), (wrap64 (x22_2 + 1)), tc6_, tc6_, H', ⟨by have := HK1.out; have := HK2.out; omega⟩, ⟨by (with_reducible repeat (first | apply Kd.S_alloc | apply Kd.S_drewN | apply Kd.S_drew)); exact Kd.S_mono HO_3.out (fun _ hk => ⟨hk.2, hk.1⟩)⟩, ⟨by (with_reducible repeat (first | apply Kd.R_alloc | apply Kd.R_drewN | apply Kd.R_drew)); exact HO_4.out⟩, ⟨by (with_reducible repeat (first | apply Kd.R_alloc | apply Kd.R_drewN | apply Kd.R_drew)); exact Kd.R_mono HO122.out (fun _ hk => hk.2)⟩, ⟨by repeat (first | (with_reducible first | exact HB.out | apply below_alloc | apply pw_below_drewN | apply below_drew1) | exact HB.out)⟩⟩
                ·rw [if_neg c29] at H
                 exact absurd H (by simp)
               ·rw [if_neg c28] at H
                exact absurd H (by simp)
            ·rw [if_neg c11] at H
             exact absurd H (by simp)
           ·rw [if_neg c10] at H
            exact absurd H (by simp)
          ·rw [if_neg c9] at H
           have c9b0 : decide (x22_2 < ((rd_L3 l0 x16_1).length : Int)) = false := decide_eq_false c9
           clear c9
           by_cases c35 : x3_1.length < 5864062014805
           ·rw [if_pos c35] at H
            have LMc35 := am_ c35
            clear c35
            obtain ⟨y105, hy105⟩ : ∃ y_ : List (List Int), y_ = (x3_1 ++ [x7_2]) := ⟨_, rfl⟩
            replace H : (spec_weKinds.l0 k2 y105 x4_2 l0 (l0.length : Int) (wrap64 (x16_1 + 1))) = some r := by first | (rw [hy105]; with_reducible exact H) | (have H2_ := (Option.bind_some _ _).symm.trans H; rw [hy105]; with_reducible exact H2_) | (have H2_ := (Option.bind_some _ _).symm.trans H; with_reducible exact H2_) | with_reducible exact H | (rw [hy105]; exact H) | exact H
            have Ny105 := am_ hy105
            clear hy105
            have H' := am_ H
            clear H
            obtain ⟨Ao37, co37, eo37⟩ := Kd.R_slice HO_7.out
            subst eo37
            go_wp2_with (first | ((with_reducible refine gate_builtin (b := .append) (xs := #[.tmp 59, .tmp 61]) rfl ?_); at_builtin; refine Kd.S_append (Kd.slice 3 (Kd.int .i64)) (w0 := w) w.heap.size rfl (.tmp 59) (.tmp 61) 24 28 (.slice none 0 0) 24 rfl Try.underlying24 info28 rfl (by decide) (by omega) u3 x3_1 x7_2 [.slice Ao37 x7_2.length co37] (fun k_ => some k_ ≠ (v102 : Value).ownBlock) (fun k_ => some k_ = (.slice Ao37 x7_2.length co37 : Value).ownBlock) rfl rfl ?aP (fun k_ hk_ => ((Kd.R_mono (ok' := fun k_ => ((fun k_ => some k_ ≠ (v102 : Value).ownBlock)) k_ ∧ some k_ ≠ (u3 : Value).ownBlock) (Kd.R_apart' (HO_7.out) (Kd.S_typed HO_3.out) (by decide)) (fun k_ hk => ⟨hk.1, hk.2⟩))).1 k_ hk_.symm) ?aF ?aO ?aB ?aS ?aL ?_; (case aP => exact Kd.M_row (Kd.R_mono (Kd.R_tight rfl (Kd.R_mono (ok' := fun k_ => ((fun k_ => some k_ ≠ (v102 : Value).ownBlock)) k_ ∧ some k_ ≠ (u3 : Value).ownBlock) (Kd.R_apart' (HO_7.out) (Kd.S_typed HO_3.out) (by decide)) (fun k_ hk => ⟨hk.1, hk.2⟩))) (fun _ h_ => h_))); (case aB => exact tc16_); (case aF => exact tc35_); (case aO => exact (by (with_reducible repeat (first | apply Kd.S_alloc | apply Kd.S_drewN | apply Kd.S_drew)); exact Kd.S_mono HO_3.out (fun k_ hk => ⟨hk.1, fun e_ => hk.2 e_⟩))); (case aS => exact tc23_); (case aL => have := LMc35.out; omega); intro v106 w36 ho hb hg hat; rw [← Ny105.out] at ho; have n0_ := am_ (Kd.R_over' tc41_ (Kd.S_typed tc40_) (by decide) hg); have n1_ := am_ (hb); have n2_ := am_ (ho); clear HO_4 HB; clear HO_3 HO_7; have HO_4 := n0_; have HB := n1_; have HO107 := n2_; clear n0_ n1_ n2_; clear ho hb hg hat))
            go_roundg k2
            case measure => have := HK1.out; have := HK2.out; omega
            case rel => exact ⟨(y105), (x4_2), (wrap64 (x16_1 + 1)), tc6_, H', ⟨by have := HK1.out; have := HK2.out; omega⟩, ⟨by (with_reducible repeat (first | apply Kd.S_alloc | apply Kd.S_drewN | apply Kd.S_drew)); exact HO107.out⟩, ⟨by (with_reducible repeat (first | apply Kd.R_alloc | apply Kd.R_drewN | apply Kd.R_drew)); exact Kd.R_mono HO_4.out (fun _ hk => trivial)⟩, ⟨by repeat (first | (with_reducible first | exact HB.out | apply below_alloc | apply pw_below_drewN | apply below_drew1) | exact HB.out)⟩⟩
           ·rw [if_neg c35] at H
            exact absurd H (by simp)
       ·rw [if_neg c8] at H
        exact absurd H (by simp)
      ·rw [if_neg c7] at H
       exact absurd H (by simp)
     ·rw [if_neg c6] at H
      have c6b0 : decide (x16_1 < (l0.length : Int)) = false := decide_eq_false c6
      clear c6
      obtain rfl := Option.some.inj H
      go_wp2
      go_ret
      exact ⟨_, by first | rfl | (simp [errW_none, errW_some] <;> rfl) | (simp [*, errW_none, errW_some] <;> rfl), by (with_reducible repeat (first | apply Kd.S_alloc | apply Kd.S_drewN | apply Kd.S_drew)); exact Kd.S_mono HO_3.out (fun _ hk => trivial), by repeat (first | (with_reducible first | exact HB.out | apply below_alloc | apply pw_below_drewN | apply below_drew1) | exact HB.out)⟩
  ·rw [if_neg c3] at H
   exact absurd H (by simp)
 ·rw [if_neg c2] at H
  exact absurd H (by simp)

/-! ### spec_KindsOf: function 8 -/
def spec_KindsOf.f (k : Nat) (l0 : List (List Int)) : Option ((List (List Int)) × Bool) := (spec_sgGood.f k l0).bind fun t101 => (if t101 = true then ((spec_weKinds.f k l0).bind fun t102 => (some (t102, true))) else (some (([] : List (List Int)), false)))
set_option maxHeartbeats 8000000 in
set_option maxRecDepth 100000 in
theorem spec_KindsOf.calls (k : Nat) (A0 : Option Addr) (c0 : Nat) (l0 : List (List Int)) (r1 : List (List Int)) (r2 : Bool) (w : World) (hr0 : Kd.C (Kd.slice 3 (Kd.int .i64)) w A0 l0.length l0) (hc0 : l0.length ≤ c0) (h : spec_KindsOf.f k l0 = some (r1, r2)) :
  Calls Try.prog 8 #[.slice A0 l0.length c0] w fun e w' => ∃ v0_ : Value, e = .returned (.tuple #[v0_, .bool r2]) ∧ Kd.S (Kd.slice 3 (Kd.int .i64)) 28 w' w.heap.size (fun _ => True) v0_ r1 ∧ Below w.heap.size w w' := by
 have HR0 := am_ hr0
 have HC0 := am_ hc0
 clear hr0 hc0
 have HB := am_ (Below.refl w.heap.size w)
 have H : ((spec_sgGood.f k l0).bind fun t101 => (if t101 = true then ((spec_weKinds.f k l0).bind fun t102 => (some (t102, true))) else (some (([] : List (List Int)), false)))) = some (r1, r2) := h
 clear h
 replace H := Option.bind_eq_some_iff.mp H
 obtain ⟨t101, A20, H⟩ := H
 replace H : (if t101 = true then ((spec_weKinds.f k l0).bind fun t102 => (some (t102, true))) else (some (([] : List (List Int)), false))) = some (r1, r2) := H
 have A2 := am_ A20
 clear A20
 by_cases c3 : t101 = true
 ·subst c3
  have H1 : ((spec_weKinds.f k l0).bind fun t102 => (some (t102, true))) = some (r1, r2) := by rw [if_pos rfl] at H; exact H
  clear H
  have H := H1
  clear H1
  replace H := Option.bind_eq_some_iff.mp H
  obtain ⟨t102, A40, H⟩ := H
  replace H : (some (t102, true)) = some (r1, r2) := H
  have A4 := am_ A40
  clear A40
  simp only [Option.some.injEq, Prod.mk.injEq] at H
  obtain ⟨rfl, rfl⟩ := H
  go_enter Try.func8, Try.ntmps8
  go_wp2_with (first | ((with_reducible refine gate_callee (f := 38) rfl ?_); refine goesL_ (some 5) rfl rfl Try.func38 (by kernel_rfl) rfl #[.slice A0 l0.length c0] rfl tc0_ ?_; (with_reducible refine (spec_sgGood.calls k _ _ l0 true _ ?side1 ?side2 A2.out).mono ?_); (case side1 => exact tc8_); (case side2 => exact HC0.out); rintro e w5 ⟨rfl, hb⟩; refine ⟨_, rfl, ?_⟩; have n0_ := am_ (below_step tc1_ hb); clear HB; have HB := n0_; clear n0_; (try clear hb)) | ((with_reducible refine gate_callee (f := 39) rfl ?_); refine goesL_ (some 8) rfl rfl Try.func39 (by kernel_rfl) rfl #[.slice A0 l0.length c0] rfl tc0_ ?_; (with_reducible refine (spec_weKinds.calls k _ _ l0 t102 _ ?side1 ?side2 A4.out).mono ?_); (case side1 => exact tc13_); (case side2 => exact HC0.out); rintro e w6 ⟨v103, rfl, ho0, hb⟩; refine ⟨_, rfl, ?_⟩; have n0_ := am_ (Kd.S_lower ho0 (below_size tc1_)); have n1_ := am_ (below_step tc1_ hb); clear HB; have HO104 := n0_; have HB := n1_; clear n0_ n1_; (try clear hb ho0)))
  go_ret2
  exact ⟨_, by first | rfl | (simp [errW_none, errW_some] <;> rfl) | (simp [*, errW_none, errW_some] <;> rfl), by (with_reducible repeat (first | apply Kd.S_alloc | apply Kd.S_drewN | apply Kd.S_drew)); exact HO104.out, by repeat (first | (with_reducible first | exact HB.out | apply below_alloc | apply pw_below_drewN | apply below_drew1) | exact HB.out)⟩
 ·replace c3 := Bool.eq_false_iff.mpr c3
  subst c3
  have H1 : (some (([] : List (List Int)), false)) = some (r1, r2) := by rw [if_neg (show ¬ (false = true) by decide)] at H; exact H
  clear H
  have H := H1
  clear H1
  simp only [Option.some.injEq, Prod.mk.injEq] at H
  obtain ⟨rfl, rfl⟩ := H
  go_enter Try.func8, Try.ntmps8
  go_wp2_with (first | ((with_reducible refine gate_callee (f := 38) rfl ?_); refine goesL_ (some 5) rfl rfl Try.func38 (by kernel_rfl) rfl #[.slice A0 l0.length c0] rfl tc0_ ?_; (with_reducible refine (spec_sgGood.calls k _ _ l0 false _ ?side1 ?side2 A2.out).mono ?_); (case side1 => exact tc8_); (case side2 => exact HC0.out); rintro e w7 ⟨rfl, hb⟩; refine ⟨_, rfl, ?_⟩; have n0_ := am_ (below_step tc1_ hb); clear HB; have HB := n0_; clear n0_; (try clear hb)))
  go_ret2
  exact ⟨_, by first | rfl | (simp [errW_none, errW_some] <;> rfl) | (simp [*, errW_none, errW_some] <;> rfl), by first | exact Kd.S_nil _ _ _ _ _ | exact Kd.N_nil _ _ _ _ _ | exact Kd.V_nil _ _ _ _ _ | exact Kd.Q_nil _ _ _ _ _ | exact Kd.R_nil _ _ _ _ _, by repeat (first | (with_reducible first | exact HB.out | apply below_alloc | apply pw_below_drewN | apply below_drew1) | exact HB.out)⟩

/-! ### impl_kindCounts: function 40 -/
mutual
def impl_kindCounts.l0 : Nat → List Int → List (List Int) → Int → Int → Option (List Int)
 | 0, _, _, _, _ => none
 | k + 1, x3, x10, x11, x12 => if x12 < x11 then (if 0 ≤ x12 then (if x12 < (x10.length : Int) then (impl_kindCounts.l1 k x3 x10 x11 x12 (rd_L3 x10 x12) ((rd_L3 x10 x12).length : Int) 0) else (none)) else (none)) else (some x3)
def impl_kindCounts.l1 : Nat → List Int → List (List Int) → Int → Int → List Int → Int → Int → Option (List Int)
 | 0, _, _, _, _, _, _, _ => none
 | k + 1, x3, x10, x11, x12, x16, x17, x18 => if x18 < x17 then (if 0 ≤ x18 then (if x18 < (x16.length : Int) then (if 0 ≤ (rd x16 x18) then (if (rd x16 x18) < (x3.length : Int) then (impl_kindCounts.l1 k (x3.set ((rd x16 x18) : Int).toNat (wrap64 ((rd x3 (rd x16 x18)) + 1))) x10 x11 x12 x16 x17 (wrap64 (x18 + 1))) else (none)) else (none)) else (none)) else (none)) else (impl_kindCounts.l0 k x3 x10 x11 (wrap64 (x12 + 1)))
end
def impl_kindCounts.f (k : Nat) (l0 : List (List Int)) : Option (List Int) := if 6 ≤ 35184372088832 then ((impl_kinds.f k l0).bind fun t104 => (impl_kindCounts.l0 k (List.replicate 6 0) t104 (t104.length : Int) 0)) else (none)
set_option maxHeartbeats 8000000 in
set_option maxRecDepth 100000 in
theorem impl_kindCounts.calls (k : Nat) (A0 : Option Addr) (c0 : Nat) (l0 : List (List Int)) (r : List Int) (w : World) (hr0 : Kd.C (Kd.slice 3 (Kd.int .i64)) w A0 l0.length l0) (hc0 : l0.length ≤ c0) (h : impl_kindCounts.f k l0 = some r) :
  Calls Try.prog 40 #[.slice A0 l0.length c0] w fun e w' => ∃ v0_ : Value, e = .returned (v0_) ∧ Kd.R (Kd.int .i64) 3 w' w.heap.size (fun _ => True) v0_ r ∧ Below w.heap.size w w' := by
 have HR0 := am_ hr0
 have HC0 := am_ hc0
 clear hr0 hc0
 have HB := am_ (Below.refl w.heap.size w)
 have H : (if 6 ≤ 35184372088832 then ((impl_kinds.f k l0).bind fun t104 => (impl_kindCounts.l0 k (List.replicate 6 0) t104 (t104.length : Int) 0)) else (none)) = some r := h
 clear h
 by_cases c2 : 6 ≤ 35184372088832
 ·rw [if_pos c2] at H
  have c2b0 := eq_true c2
  have c2b1 : decide (6 ≤ 35184372088832) = true := decide_eq_true c2
  clear c2
  obtain ⟨y101, hy101⟩ : ∃ y_ : List Int, y_ = (List.replicate 6 0) := ⟨_, rfl⟩
  replace H : ((impl_kinds.f k l0).bind fun t104 => (impl_kindCounts.l0 k y101 t104 (t104.length : Int) 0)) = some r := by first | (rw [hy101]; with_reducible exact H) | (have H2_ := (Option.bind_some _ _).symm.trans H; rw [hy101]; with_reducible exact H2_) | (have H2_ := (Option.bind_some _ _).symm.trans H; with_reducible exact H2_) | with_reducible exact H | (rw [hy101]; exact H) | exact H
  have Ny101 := am_ hy101
  clear hy101
  replace H := Option.bind_eq_some_iff.mp H
  obtain ⟨t104, A30, H⟩ := H
  replace H : (impl_kindCounts.l0 k y101 t104 (t104.length : Int) 0) = some r := H
  have A3 := am_ A30
  clear A30
  have H' := am_ H
  clear H
  go_enter Try.func40, Try.ntmps40
  go_wp2_with (first | ((with_reducible refine gate_dst (N := 8) rfl ?_); refine Kd.R_make (Kd.int .i64) _ 3 rfl (N := 8) rfl 28 _ _ rfl 6 rfl rfl Try.underlying28 (.int .i64 0) 8 info3 rfl (by decide) (by omega) 0 (ok := fun _ => True) (okp := fun _ => True) rfl (fun _ hk => hk) trivial (by omega) (by omega) (Below.refl _ _) (Nat.le_refl _) ?_; intro v102 w4 ho5 hb hg_ hnew_; clear hg_ hnew_; (first | rw [← Ny101.out] at ho5 | (simp only [Int.reduceToNat] at ho5; rw [← Ny101.out] at ho5)); have n0_ := am_ (Kd.R_lower ho5 (below_size tc1_)); have n1_ := am_ (below_step tc1_ hb); clear HB; have HO103 := n0_; have HB := n1_; clear n0_ n1_; clear hb ho5) | ((with_reducible refine gate_callee (f := 37) rfl ?_); refine goesL_ (some 10) rfl rfl Try.func37 (by kernel_rfl) rfl #[.slice A0 l0.length c0] rfl tc0_ ?_; (with_reducible refine (impl_kinds.calls k _ _ l0 t104 _ ?side1 ?side2 A3.out).mono ?_); (case side1 => exact tc13_); (case side2 => exact HC0.out); rintro e w6 ⟨v105, rfl, ho0, hb⟩; refine ⟨_, rfl, ?_⟩; have n0_ := am_ (Kd.R_below tc46_ hb); have n1_ := am_ (Kd.S_lower (Kd.S_new' ho0 (Kd.R_lt tc46_)) (below_size tc1_)); have n2_ := am_ (below_step tc1_ hb); clear HO103 HB; have HO103 := n0_; have HO106 := n1_; have HB := n2_; clear n0_ n1_ n2_; (try clear hb ho0); obtain ⟨Ao7, co7, eo7⟩ := Kd.S_slice HO106.out; subst eo7))
  go_loopg [12] k (fun kq v12 w' => ∃ (x3_1 : List Int) (x12_1 : Int), v12 = .int .i64 x12_1 ∧ Aside0 (impl_kindCounts.l0 kq x3_1 t104 (t104.length : Int) x12_1 = some r) ∧ Aside0 (kq ≤ k) ∧ Aside0 (Kd.R (Kd.int .i64) 3 w' w.heap.size (fun _ => True) v102 x3_1) ∧ Aside0 (Kd.S (Kd.slice 3 (Kd.int .i64)) 28 w' w.heap.size (fun k_ => some k_ ≠ (v102 : Value).ownBlock) (.slice Ao7 t104.length co7) t104) ∧ Aside0 (Below w.heap.size w w'))
  case atStart => exact ⟨(y101), (0), tc6_, H', ⟨Nat.le_refl _⟩, ⟨by (with_reducible repeat (first | apply Kd.R_alloc | apply Kd.R_drewN | apply Kd.R_drew)); exact HO103.out⟩, ⟨by (with_reducible repeat (first | apply Kd.S_alloc | apply Kd.S_drewN | apply Kd.S_drew)); exact Kd.S_mono HO106.out (fun _ hk => hk.2)⟩, ⟨by repeat (first | (with_reducible first | exact HB.out | apply below_alloc | apply pw_below_drewN | apply below_drew1) | exact HB.out)⟩⟩
  case round =>
   clear H'
   try clear c2
   try clear c2b0
   try clear c2b1
   try clear p2
   try clear c3
   try clear c4
   obtain ⟨x3_1, x12_1, rfl, HA, HK1, HO_3, HO_10, HB⟩ := hrel
   cases gk with
   | zero => exact absurd HA.out (by simp [impl_kindCounts.l0])
   | succ k1 =>
    have H := HA.out
    clear HA
    simp only [impl_kindCounts.l0] at H
    by_cases c8 : x12_1 < (t104.length : Int)
    ·rw [if_pos c8] at H
     have c8b0 : decide (x12_1 < (t104.length : Int)) = true := decide_eq_true c8
     clear c8
     by_cases c9 : 0 ≤ x12_1
     ·rw [if_pos c9] at H
      have c9b0 : decide (0 ≤ x12_1) = true := decide_eq_true c9
      clear c9
      by_cases c10 : x12_1 < (t104.length : Int)
      ·rw [if_pos c10] at H
       have c10b0 : decide (x12_1 < (t104.length : Int)) = true := decide_eq_true c10
       clear c10
       have H' := am_ H
       clear H
       have p107 : 0 ≤ (x12_1 : Int) := of_decide_eq_true tc2_
       have q107 : x12_1 < (t104.length : Int) := of_decide_eq_true tc2_
       obtain ⟨ad107, A107_0, c107_0, e107, hx107_0, hl107_0, hi107_0⟩ := at_L3 (Kd.S_reads' HO_10.out).2.2 x12_1 p107 q107
       cases e107
       obtain ⟨ce107, hce107, hMe107, hcc107⟩ := Kd.S_get HO_10.out [] x12_1 p107 (by first | exact q107 | exact of_decide_eq_true tc2_ | (have e_ := (Kd.S_reads' HO_10.out).1; omega))
       obtain ⟨ve107_0, rfl, ge107_0⟩ := hMe107
       have hv107_0 := hcc107 0 _ rfl
       rw [Nat.add_zero, show ((Kd.slice 3 (Kd.int .i64))).sz = 1 from rfl, Nat.mul_one] at hv107_0
       replace hv107_0 := Option.some.inj (hv107_0.symm.trans hx107_0)
       rw [hv107_0] at ge107_0
       have HL107_0 := am_ (show Kd.R (Kd.int .i64) 3 _ _ _ _ (rd_L3 t104 x12_1) from ge107_0)
       clear hv107_0 ge107_0
       clear hcc107 hce107
       have HR107_0 := am_ hi107_0
       have HC107_0 := am_ hl107_0
       clear hi107_0 hl107_0
       replace p107 := eq_true p107
       replace q107 := eq_true q107
       go_wp2
       go_loopg [18] k1 (fun kq v18 w' => ∃ (x3_2 : List Int) (x18_2 : Int), v18 = .int .i64 x18_2 ∧ Aside0 (impl_kindCounts.l1 kq x3_2 t104 (t104.length : Int) x12_1 (rd_L3 t104 x12_1) ((rd_L3 t104 x12_1).length : Int) x18_2 = some r) ∧ Aside0 (kq ≤ k1) ∧ Aside0 (Kd.R (Kd.int .i64) 3 w' w.heap.size (fun _ => True) v102 x3_2) ∧ Aside0 (Kd.S (Kd.slice 3 (Kd.int .i64)) 28 w' w.heap.size (fun k_ => some k_ ≠ (v102 : Value).ownBlock) (.slice (some ad107) t104.length co7) t104) ∧ Aside0 (Kd.R (Kd.int .i64) 3 w' w.heap.size (fun k_ => some k_ ≠ (v102 : Value).ownBlock) (.slice A107_0 (rd_L3 t104 x12_1).length c107_0) (rd_L3 t104 x12_1)) ∧ Aside0 (Below w.heap.size w w'))
       case atStart => exact ⟨(x3_1), (0), tc6_, H', ⟨Nat.le_refl _⟩, ⟨by (with_reducible repeat (first | apply Kd.R_alloc | apply Kd.R_drewN | apply Kd.R_drew)); exact HO_3.out⟩, ⟨by (with_reducible repeat (first | apply Kd.S_alloc | apply Kd.S_drewN | apply Kd.S_drew)); exact HO_10.out⟩, ⟨by (with_reducible repeat (first | apply Kd.R_alloc | apply Kd.R_drewN | apply Kd.R_drew)); exact Kd.R_mono HL107_0.out (fun _ hk => by first | exact hk | exact hk.1 | exact hk.2)⟩, ⟨by repeat (first | (with_reducible first | exact HB.out | apply below_alloc | apply pw_below_drewN | apply below_drew1) | exact HB.out)⟩⟩
       case round =>
        clear H'
        try clear c1
        try clear p1
        try clear q1
        try clear hx1
        try clear c2
        try clear c2b0
        try clear c2b1
        try clear p2
        try clear c3
        try clear c4
        try clear c8
        try clear c8b0
        try clear c9
        try clear c9b0
        try clear c10
        try clear c10b0
        try clear p10
        try clear q10
        try clear hx10
        try clear hx107_0
        try clear p107
        try clear p2
        try clear q107
        obtain ⟨x3_2, x18_2, rfl, HA, HK2, HO_3, HO_10, HS_, HB⟩ := hrel
        cases gk with
        | zero => exact absurd HA.out (by simp [impl_kindCounts.l1])
        | succ k2 =>
         have H := HA.out
         clear HA
         simp only [impl_kindCounts.l1] at H
         by_cases c11 : x18_2 < ((rd_L3 t104 x12_1).length : Int)
         ·rw [if_pos c11] at H
          have c11b0 : decide (x18_2 < ((rd_L3 t104 x12_1).length : Int)) = true := decide_eq_true c11
          clear c11
          by_cases c12 : 0 ≤ x18_2
          ·rw [if_pos c12] at H
           have c12b0 : decide (0 ≤ x18_2) = true := decide_eq_true c12
           clear c12
           by_cases c13 : x18_2 < ((rd_L3 t104 x12_1).length : Int)
           ·rw [if_pos c13] at H
            have c13b0 : decide (x18_2 < ((rd_L3 t104 x12_1).length : Int)) = true := decide_eq_true c13
            clear c13
            by_cases c14 : 0 ≤ (rd (rd_L3 t104 x12_1) x18_2)
            ·rw [if_pos c14] at H
             have c14b0 : decide (0 ≤ (rd (rd_L3 t104 x12_1) x18_2)) = true := decide_eq_true c14
             clear c14
             by_cases c15 : (rd (rd_L3 t104 x12_1) x18_2) < (x3_2.length : Int)
             ·rw [if_pos c15] at H
              have c15b0 : decide ((rd (rd_L3 t104 x12_1) x18_2) < (x3_2.length : Int)) = true := decide_eq_true c15
              clear c15
              obtain ⟨y110, hy110⟩ : ∃ y_ : List Int, y_ = (x3_2.set ((rd (rd_L3 t104 x12_1) x18_2) : Int).toNat (wrap64 ((rd x3_2 (rd (rd_L3 t104 x12_1) x18_2)) + 1))) := ⟨_, rfl⟩
              replace H : (impl_kindCounts.l1 k2 y110 t104 (t104.length : Int) x12_1 (rd_L3 t104 x12_1) ((rd_L3 t104 x12_1).length : Int) (wrap64 (x18_2 + 1))) = some r := by first | (rw [hy110]; with_reducible exact H) | (have H2_ := (Option.bind_some _ _).symm.trans H; rw [hy110]; with_reducible exact H2_) | (have H2_ := (Option.bind_some _ _).symm.trans H; with_reducible exact H2_) | with_reducible exact H | (rw [hy110]; exact H) | exact H
              have Ny110 := am_ hy110
              clear hy110
              have H' := am_ H
              clear H
              have p108 : 0 ≤ (x18_2 : Int) := of_decide_eq_true tc2_
              have q108 : x18_2 < ((rd_L3 t104 x12_1).length : Int) := of_decide_eq_true tc2_
              obtain ⟨ad108, e108, hx108_0⟩ := Kd.at_int (Kd.R_reads' HS_.out).2.2 x18_2 p108 q108
              cases e108
              replace p108 := eq_true p108
              replace q108 := eq_true q108
              obtain ⟨Ao17, co17, eo17⟩ := Kd.R_slice HO_3.out
              subst eo17
              have p109 : 0 ≤ ((rd (rd_L3 t104 x12_1) x18_2) : Int) := of_decide_eq_true tc2_
              have q109 : (rd (rd_L3 t104 x12_1) x18_2) < (x3_2.length : Int) := of_decide_eq_true tc2_
              obtain ⟨ad109, e109, hx109_0⟩ := Kd.at_int (Kd.R_reads' HO_3.out).2.2 (rd (rd_L3 t104 x12_1) x18_2) p109 q109
              cases e109
              replace p109 := eq_true p109
              replace q109 := eq_true q109
              have p16 : 0 ≤ ((rd (rd_L3 t104 x12_1) x18_2) : Int) := of_decide_eq_true tc2_
              have q16 : ((rd (rd_L3 t104 x12_1) x18_2) : Int) < ((x3_2.length : Int) : Int) := of_decide_eq_true tc2_
              obtain ⟨go16, co16, eo16, gb16, gl16, cl16, HG16⟩ := Kd.R_form HO_3.out (by omega)
              (first | cases eo16 | (injection eo16 with ea_ en_ ec_; (first | subst ea_ | (injection ea_ with ea_; subst ea_)); subst ec_; clear en_))
              have GB16 := am_ gb16
              have GG16 := am_ HG16
              clear gb16 gl16 HG16
              (first | simp only [add_plain] at hx109_0 | skip)
              obtain ⟨hx16_0, hf16_0⟩ := Kd.R_celln 0 HO_3.out ((rd (rd_L3 t104 x12_1) x18_2) : Int) p16 q16
              replace p16 := eq_true p16
              replace q16 := eq_true q16
              have HP18 := Kd.R_putg HO_3.out ((rd (rd_L3 t104 x12_1) x18_2) : Int) (wrap64 ((rd x3_2 (rd (rd_L3 t104 x12_1) x18_2)) + 1))
              go_wp2_with (first | ((with_reducible refine gate_store (t := 3) (p := 27) rfl ?_); refine store_event (t := 3) (p := 27) (v := ?vo_w19) (w1 := (wr.setCell ⟨go16, ((rd (rd_L3 t104 x12_1) x18_2) : Int).toNat, none⟩ (.int .i64 (wrap64 ((rd x3_2 (rd (rd_L3 t104 x12_1) x18_2)) + 1))))) ?hg ?ho ?hn ?hr ?_; (case ho => rfl); (case hg => rfl); (case hn => rfl); (case hr => exact tc27_); intro w19 hw; have hg : wr.grownBy w19 (some go16) := (by rw [hw]; exact HP18.2); have hp_ : Kd.R (Kd.int .i64) 3 w19 w.heap.size (fun _ => True) (.slice (some ⟨go16, 0, none⟩) x3_2.length co17) y110 := (by rw [hw, Ny110.out]; exact HP18.1); clear HP18; have n0_ := am_ (hp_); have n1_ := am_ (Kd.S_after (v := (.slice (some ⟨go16, 0, none⟩) x3_2.length co17)) (v1 := (.slice (some ⟨go16, 0, none⟩) x3_2.length co17)) (ok := (fun _ => True)) (by (with_reducible repeat (first | apply Kd.S_alloc | apply Kd.S_drewN | apply Kd.S_drew)); exact Kd.S_mono HO_10.out (fun _ hk => ⟨trivial, hk⟩)) hg (.inl rfl)); have ms_ := am_ (Kd.R_after (v := (.slice (some ⟨go16, 0, none⟩) x3_2.length co17)) (v1 := (.slice (some ⟨go16, 0, none⟩) x3_2.length co17)) (ok := (fun _ => True)) (by (with_reducible repeat (first | apply Kd.R_alloc | apply Kd.R_drewN | apply Kd.R_drew)); exact Kd.R_mono HS_.out (fun _ hk => ⟨trivial, hk⟩)) hg (.inl rfl)); clear HS_; have HS_ := ms_; clear ms_; have n2_ := am_ ((by rw [hw]; exact below_set (HB.out) GB16.out : Below w.heap.size w w19)); clear HO_3 HO_10 HB; have HO_3 := n0_; have HO_10 := n1_; have HB := n2_; clear n0_ n1_ n2_; clear hg hw hp_))
              go_roundg k2
              case measure => have := HK1.out; have := HK2.out; omega
              case rel => exact ⟨(y110), (wrap64 (x18_2 + 1)), tc6_, H', ⟨by have := HK1.out; have := HK2.out; omega⟩, ⟨by (with_reducible repeat (first | apply Kd.R_alloc | apply Kd.R_drewN | apply Kd.R_drew)); exact HO_3.out⟩, ⟨by (with_reducible repeat (first | apply Kd.S_alloc | apply Kd.S_drewN | apply Kd.S_drew)); exact Kd.S_mono HO_10.out (fun _ hk => hk.2)⟩, ⟨by (with_reducible repeat (first | apply Kd.R_alloc | apply Kd.R_drewN | apply Kd.R_drew)); exact Kd.R_mono HS_.out (fun _ hk => hk.2)⟩, ⟨by repeat (first | (with_reducible first | exact HB.out | apply below_alloc | apply pw_below_drewN | apply below_drew1) | exact HB.out)⟩⟩
             ·rw [if_neg c15] at H
              exact absurd H (by simp)
            ·rw [if_neg c14] at H
             exact absurd H (by simp)
           ·rw [if_neg c13] at H
            exact absurd H (by simp)
          ·rw [if_neg c12] at H
           exact absurd H (by simp)
         ·rw [if_neg c11] at H
          have c11b0 : decide (x18_2 < ((rd_L3 t104 x12_1).length : Int)) = false := decide_eq_false c11
          clear c11
          have H' := am_ H
          clear H
          go_wp2
          go_roundg k2
          case measure => have := HK1.out; have := HK2.out; omega
          case rel => exact ⟨(x3_2), (wrap64 (x12_1 + 1)), tc6_, H', ⟨by have := HK1.out; have := HK2.out; omega⟩, ⟨by (with_reducible repeat (first | apply Kd.R_alloc | apply Kd.R_drewN | apply Kd.R_drew)); exact HO_3.out⟩, ⟨by (with_reducible repeat (first | apply Kd.S_alloc | apply Kd.S_drewN | apply Kd.S_drew)); exact HO_10.out⟩, ⟨by repeat (first | (with_reducible first | exact HB.out | apply below_alloc | apply pw_below_drewN | apply below_drew1) | exact HB.out)⟩⟩
      ·rw [if_neg c10] at H
       exact absurd H (by simp)
     ·rw [if_neg c9] at H
      exact absurd H (by simp)
    ·rw [if_neg c8] at H
     have c8b0 : decide (x12_1 < (t104.length : Int)) = false := decide_eq_false c8
     clear c8
     obtain rfl := Option.some.inj H
     go_wp2
     go_ret
     exact ⟨_, by first | rfl | (simp [errW_none, errW_some] <;> rfl) | (simp [*, errW_none, errW_some] <;> rfl), by (with_reducible repeat (first | apply Kd.R_alloc | apply Kd.R_drewN | apply Kd.R_drew)); exact HO_3.out, by repeat (first | (with_reducible first | exact HB.out | apply below_alloc | apply pw_below_drewN | apply below_drew1) | exact HB.out)⟩
 ·rw [if_neg c2] at H
  exact absurd H (by simp)

/-! ### impl_KindCounts: function 9 -/
def impl_KindCounts.f (k : Nat) (l0 : List (List Int)) : Option (List Int × Bool) := (impl_IsSignMatrix.f k l0).bind fun t101 => (if t101 = true then ((impl_kindCounts.f k l0).bind fun t102 => (some (t102, true))) else (some (([] : List Int), false)))
set_option maxHeartbeats 8000000 in
set_option maxRecDepth 100000 in
theorem impl_KindCounts.calls (k : Nat) (A0 : Option Addr) (c0 : Nat) (l0 : List (List Int)) (r1 : List Int) (r2 : Bool) (w : World) (hr0 : Kd.C (Kd.slice 3 (Kd.int .i64)) w A0 l0.length l0) (hc0 : l0.length ≤ c0) (h : impl_KindCounts.f k l0 = some (r1, r2)) :
  Calls Try.prog 9 #[.slice A0 l0.length c0] w fun e w' => ∃ v0_ : Value, e = .returned (.tuple #[v0_, .bool r2]) ∧ Kd.R (Kd.int .i64) 3 w' w.heap.size (fun _ => True) v0_ r1 ∧ Below w.heap.size w w' := by
 have HR0 := am_ hr0
 have HC0 := am_ hc0
 clear hr0 hc0
 have HB := am_ (Below.refl w.heap.size w)
 have H : ((impl_IsSignMatrix.f k l0).bind fun t101 => (if t101 = true then ((impl_kindCounts.f k l0).bind fun t102 => (some (t102, true))) else (some (([] : List Int), false)))) = some (r1, r2) := h
 clear h
 replace H := Option.bind_eq_some_iff.mp H
 obtain ⟨t101, A20, H⟩ := H
 replace H : (if t101 = true then ((impl_kindCounts.f k l0).bind fun t102 => (some (t102, true))) else (some (([] : List Int), false))) = some (r1, r2) := H
 have A2 := am_ A20
 clear A20
 by_cases c3 : t101 = true
 ·subst c3
  have H1 : ((impl_kindCounts.f k l0).bind fun t102 => (some (t102, true))) = some (r1, r2) := by rw [if_pos rfl] at H; exact H
  clear H
  have H := H1
  clear H1
  replace H := Option.bind_eq_some_iff.mp H
  obtain ⟨t102, A40, H⟩ := H
  replace H : (some (t102, true)) = some (r1, r2) := H
  have A4 := am_ A40
  clear A40
  simp only [Option.some.injEq, Prod.mk.injEq] at H
  obtain ⟨rfl, rfl⟩ := H
  go_enter Try.func9, Try.ntmps9
  go_wp2_with (first | ((with_reducible refine gate_callee (f := 13) rfl ?_); refine goesL_ (some 5) rfl rfl Try.func13 (by kernel_rfl) rfl #[.slice A0 l0.length c0] rfl tc0_ ?_; (with_reducible refine (impl_IsSignMatrix.calls k _ _ l0 true _ ?side1 ?side2 A2.out).mono ?_); (case side1 => exact tc8_); (case side2 => exact HC0.out); rintro e w5 ⟨rfl, hb⟩; refine ⟨_, rfl, ?_⟩; have n0_ := am_ (below_step tc1_ hb); clear HB; have HB := n0_; clear n0_; (try clear hb)) | ((with_reducible refine gate_callee (f := 40) rfl ?_); refine goesL_ (some 8) rfl rfl Try.func40 (by kernel_rfl) rfl #[.slice A0 l0.length c0] rfl tc0_ ?_; (with_reducible refine (impl_kindCounts.calls k _ _ l0 t102 _ ?side1 ?side2 A4.out).mono ?_); (case side1 => exact tc13_); (case side2 => exact HC0.out); rintro e w6 ⟨v103, rfl, ho0, hb⟩; refine ⟨_, rfl, ?_⟩; have n0_ := am_ (Kd.R_lower ho0 (below_size tc1_)); have n1_ := am_ (below_step tc1_ hb); clear HB; have HO104 := n0_; have HB := n1_; clear n0_ n1_; (try clear hb ho0)))
  go_ret2
  exact ⟨_, by first | rfl | (simp [errW_none, errW_some] <;> rfl) | (simp [*, errW_none, errW_some] <;> rfl), by (with_reducible repeat (first | apply Kd.R_alloc | apply Kd.R_drewN | apply Kd.R_drew)); exact HO104.out, by repeat (first | (with_reducible first | exact HB.out | apply below_alloc | apply pw_below_drewN | apply below_drew1) | exact HB.out)⟩
 ·replace c3 := Bool.eq_false_iff.mpr c3
  subst c3
  have H1 : (some (([] : List Int), false)) = some (r1, r2) := by rw [if_neg (show ¬ (false = true) by decide)] at H; exact H
  clear H
  have H := H1
  clear H1
  simp only [Option.some.injEq, Prod.mk.injEq] at H
  obtain ⟨rfl, rfl⟩ := H
  go_enter Try.func9, Try.ntmps9
  go_wp2_with (first | ((with_reducible refine gate_callee (f := 13) rfl ?_); refine goesL_ (some 5) rfl rfl Try.func13 (by kernel_rfl) rfl #[.slice A0 l0.length c0] rfl tc0_ ?_; (with_reducible refine (impl_IsSignMatrix.calls k _ _ l0 false _ ?side1 ?side2 A2.out).mono ?_); (case side1 => exact tc8_); (case side2 => exact HC0.out); rintro e w7 ⟨rfl, hb⟩; refine ⟨_, rfl, ?_⟩; have n0_ := am_ (below_step tc1_ hb); clear HB; have HB := n0_; clear n0_; (try clear hb)))
  go_ret2
  exact ⟨_, by first | rfl | (simp [errW_none, errW_some] <;> rfl) | (simp [*, errW_none, errW_some] <;> rfl), by first | exact Kd.R_nil _ _ _ _ _ | exact Kd.N_nil _ _ _ _ _ | exact Kd.V_nil _ _ _ _ _ | exact Kd.Q_nil _ _ _ _ _ | exact Kd.S_nil _ _ _ _ _, by repeat (first | (with_reducible first | exact HB.out | apply below_alloc | apply pw_below_drewN | apply below_drew1) | exact HB.out)⟩

/-! ### spec_weCounts: function 41 -/
mutual
def spec_weCounts.l0 : Nat → List Int → List (List Int) → Int → Int → Option (List Int)
 | 0, _, _, _, _ => none
 | k + 1, x3, x10, x11, x12 => if x12 < x11 then (if 0 ≤ x12 then (if x12 < (x10.length : Int) then (spec_weCounts.l1 k x3 x10 x11 x12 (rd_L3 x10 x12) ((rd_L3 x10 x12).length : Int) 0) else (none)) else (none)) else (some x3)
def spec_weCounts.l1 : Nat → List Int → List (List Int) → Int → Int → List Int → Int → Int → Option (List Int)
 | 0, _, _, _, _, _, _, _ => none
 | k + 1, x3, x10, x11, x12, x16, x17, x18 => if x18 < x17 then (if 0 ≤ x18 then (if x18 < (x16.length : Int) then (if 0 ≤ (rd x16 x18) then (if (rd x16 x18) < (x3.length : Int) then (spec_weCounts.l1 k (x3.set ((rd x16 x18) : Int).toNat (wrap64 ((rd x3 (rd x16 x18)) + 1))) x10 x11 x12 x16 x17 (wrap64 (x18 + 1))) else (none)) else (none)) else (none)) else (none)) else (spec_weCounts.l0 k x3 x10 x11 (wrap64 (x12 + 1)))
end
def spec_weCounts.f (k : Nat) (l0 : List (List Int)) : Option (List Int) := if 6 ≤ 35184372088832 then ((spec_weKinds.f k l0).bind fun t104 => (spec_weCounts.l0 k (List.replicate 6 0) t104 (t104.length : Int) 0)) else (none)
set_option maxHeartbeats 8000000 in
set_option maxRecDepth 100000 in
theorem spec_weCounts.calls (k : Nat) (A0 : Option Addr) (c0 : Nat) (l0 : List (List Int)) (r : List Int) (w : World) (hr0 : Kd.C (Kd.slice 3 (Kd.int .i64)) w A0 l0.length l0) (hc0 : l0.length ≤ c0) (h : spec_weCounts.f k l0 = some r) :
  Calls Try.prog 41 #[.slice A0 l0.length c0] w fun e w' => ∃ v0_ : Value, e = .returned (v0_) ∧ Kd.R (Kd.int .i64) 3 w' w.heap.size (fun _ => True) v0_ r ∧ Below w.heap.size w w' := by
 have HR0 := am_ hr0
 have HC0 := am_ hc0
 clear hr0 hc0
 have HB := am_ (Below.refl w.heap.size w)
 have H : (if 6 ≤ 35184372088832 then ((spec_weKinds.f k l0).bind fun t104 => (spec_weCounts.l0 k (List.replicate 6 0) t104 (t104.length : Int) 0)) else (none)) = some r := h
 clear h
 by_cases c2 : 6 ≤ 35184372088832
 ·rw [if_pos c2] at H
  have c2b0 := eq_true c2
  have c2b1 : decide (6 ≤ 35184372088832) = true := decide_eq_true c2
  clear c2
  obtain ⟨y101, hy101⟩ : ∃ y_ : List Int, y_ = (List.replicate 6 0) := ⟨_, rfl⟩
  replace H : ((spec_weKinds.f k l0).bind fun t104 => (spec_weCounts.l0 k y101 t104 (t104.length : Int) 0)) = some r := by first | (rw [hy101]; with_reducible exact H) | (have H2_ := (Option.bind_some _ _).symm.trans H; rw [hy101]; with_reducible exact H2_) | (have H2_ := (Option.bind_some _ _).symm.trans H; with_reducible exact H2_) | with_reducible exact H | (rw [hy101]; exact H) | exact H
  have Ny101 := am_ hy101
  clear hy101
  replace H := Option.bind_eq_some_iff.mp H
  obtain ⟨t104, A30, H⟩ := H
  replace H : (spec_weCounts.l0 k y101 t104 (t104.length : Int) 0) = some r := H
  have A3 := am_ A30
  clear A30
  have H' := am_ H
  clear H
  go_enter Try.func41, Try.ntmps41
  go_wp2_with (first | ((with_reducible refine gate_dst (N := 8) rfl ?_); refine Kd.R_make (Kd.int .i64) _ 3 rfl (N := 8) rfl 28 _ _ rfl 6 rfl rfl Try.underlying28 (.int .i64 0) 8 info3 rfl (by decide) (by omega) 0 (ok := fun _ => True) (okp := fun _ => True) rfl (fun _ hk => hk) trivial (by omega) (by omega) (Below.refl _ _) (Nat.le_refl _) ?_; intro v102 w4 ho5 hb hg_ hnew_; clear hg_ hnew_; (first | rw [← Ny101.out] at ho5 | (simp only [Int.reduceToNat] at ho5; rw [← Ny101.out] at ho5)); have n0_ := am_ (Kd.R_lower ho5 (below_size tc1_)); have n1_ := am_ (below_step tc1_ hb); clear HB; have HO103 := n0_; have HB := n1_; clear n0_ n1_; clear hb ho5) | ((with_reducible refine gate_callee (f := 39) rfl ?_); refine goesL_ (some 10) rfl rfl Try.func39 (by kernel_rfl) rfl #[.slice A0 l0.length c0] rfl tc0_ ?_; (with_reducible refine (spec_weKinds.calls k _ _ l0 t104 _ ?side1 ?side2 A3.out).mono ?_); (case side1 => exact tc13_); (case side2 => exact HC0.out); rintro e w6 ⟨v105, rfl, ho0, hb⟩; refine ⟨_, rfl, ?_⟩; have n0_ := am_ (Kd.R_below tc46_ hb); have n1_ := am_ (Kd.S_lower (Kd.S_new' ho0 (Kd.R_lt tc46_)) (below_size tc1_)); have n2_ := am_ (below_step tc1_ hb); clear HO103 HB; have HO103 := n0_; have HO106 := n1_; have HB := n2_; clear n0_ n1_ n2_; (try clear hb ho0); obtain ⟨Ao7, co7, eo7⟩ := Kd.S_slice HO106.out; subst eo7))
  go_loopg [12] k (fun kq v12 w' => ∃ (x3_1 : List Int) (x12_1 : Int), v12 = .int .i64 x12_1 ∧ Aside0 (spec_weCounts.l0 kq x3_1 t104 (t104.length : Int) x12_1 = some r) ∧ Aside0 (kq ≤ k) ∧ Aside0 (Kd.R (Kd.int .i64) 3 w' w.heap.size (fun _ => True) v102 x3_1) ∧ Aside0 (Kd.S (Kd.slice 3 (Kd.int .i64)) 28 w' w.heap.size (fun k_ => some k_ ≠ (v102 : Value).ownBlock) (.slice Ao7 t104.length co7) t104) ∧ Aside0 (Below w.heap.size w w'))
  case atStart => exact ⟨(y101), (0), tc6_, H', ⟨Nat.le_refl _⟩, ⟨by (with_reducible repeat (first | apply Kd.R_alloc | apply Kd.R_drewN | apply Kd.R_drew)); exact HO103.out⟩, ⟨by (with_reducible repeat (first | apply Kd.S_alloc | apply Kd.S_drewN | apply Kd.S_drew)); exact Kd.S_mono HO106.out (fun _ hk => hk.2)⟩, ⟨by repeat (first | (with_reducible first | exact HB.out | apply below_alloc | apply pw_below_drewN | apply below_drew1) | exact HB.out)⟩⟩
  case round =>
   clear H'
   try clear c2
   try clear c2b0
   try clear c2b1
   try clear p2
   try clear c3
   try clear c4
   obtain ⟨x3_1, x12_1, rfl, HA, HK1, HO_3, HO_10, HB⟩ := hrel
   cases gk with
   | zero => exact absurd HA.out (by simp [spec_weCounts.l0])
   | succ k1 =>
    have H := HA.out
    clear HA
    simp only [spec_weCounts.l0] at H
    by_cases c8 : x12_1 < (t104.length : Int)
    ·rw [if_pos c8] at H
     have c8b0 : decide (x12_1 < (t104.length : Int)) = true := decide_eq_true c8
     clear c8
     by_cases c9 : 0 ≤ x12_1
     ·rw [if_pos c9] at H
      have c9b0 : decide (0 ≤ x12_1) = true := decide_eq_true c9
      clear c9
      by_cases c10 : x12_1 < (t104.length : Int)
      ·rw [if_pos c10] at H
       have c10b0 : decide (x12_1 < (t104.length : Int)) = true := decide_eq_true c10
       clear c10
       have H' := am_ H
       clear H
       have p107 : 0 ≤ (x12_1 : Int) := of_decide_eq_true tc2_
       have q107 : x12_1 < (t104.length : Int) := of_decide_eq_true tc2_
       obtain ⟨ad107, A107_0, c107_0, e107, hx107_0, hl107_0, hi107_0⟩ := at_L3 (Kd.S_reads' HO_10.out).2.2 x12_1 p107 q107
       cases e107
       obtain ⟨ce107, hce107, hMe107, hcc107⟩ := Kd.S_get HO_10.out [] x12_1 p107 (by first | exact q107 | exact of_decide_eq_true tc2_ | (have e_ := (Kd.S_reads' HO_10.out).1; omega))
       obtain ⟨ve107_0, rfl, ge107_0⟩ := hMe107
       have hv107_0 := hcc107 0 _ rfl
       rw [Nat.add_zero, show ((Kd.slice 3 (Kd.int .i64))).sz = 1 from rfl, Nat.mul_one] at hv107_0
       replace hv107_0 := Option.some.inj (hv107_0.symm.trans hx107_0)
       rw [hv107_0] at ge107_0
       have HL107_0 := am_ (show Kd.R (Kd.int .i64) 3 _ _ _ _ (rd_L3 t104 x12_1) from ge107_0)
       clear hv107_0 ge107_0
       clear hcc107 hce107
       have HR107_0 := am_ hi107_0
       have HC107_0 := am_ hl107_0
       clear hi107_0 hl107_0
       replace p107 := eq_true p107
       replace q107 := eq_true q107
       go_wp2
       go_loopg [18] k1 (fun kq v18 w' => ∃ (x3_2 : List Int) (x18_2 : Int), v18 = .int .i64 x18_2 ∧ Aside0 (spec_weCounts.l1 kq x3_2 t104 (t104.length : Int) x12_1 (rd_L3 t104 x12_1) ((rd_L3 t104 x12_1).length : Int) x18_2 = some r) ∧ Aside0 (kq ≤ k1) ∧ Aside0 (Kd.R (Kd.int .i64) 3 w' w.heap.size (fun _ => True) v102 x3_2) ∧ Aside0 (Kd.S (Kd.slice 3 (Kd.int .i64)) 28 w' w.heap.size (fun k_ => some k_ ≠ (v102 : Value).ownBlock) (.slice (some ad107) t104.length co7) t104) ∧ Aside0 (Kd.R (Kd.int .i64) 3 w' w.heap.size (fun k_ => some k_ ≠ (v102 : Value).ownBlock) (.slice A107_0 (rd_L3 t104 x12_1).length c107_0) (rd_L3 t104 x12_1)) ∧ Aside0 (Below w.heap.size w w'))
       case atStart => exact ⟨(x3_1), (0), tc6_, H', ⟨Nat.le_refl _⟩, ⟨by (with_reducible repeat (first | apply Kd.R_alloc | apply Kd.R_drewN | apply Kd.R_drew)); exact HO_3.out⟩, ⟨by (with_reducible repeat (first | apply Kd.S_alloc | apply Kd.S_drewN | apply Kd.S_drew)); exact HO_10.out⟩, ⟨by (with_reducible repeat (first | apply Kd.R_alloc | apply Kd.R_drewN | apply Kd.R_drew)); exact Kd.R_mono HL107_0.out (fun _ hk => by first | exact hk | exact hk.1 | exact hk.2)⟩, ⟨by repeat (first | (with_reducible first | exact HB.out | apply below_alloc | apply pw_below_drewN | apply below_drew1) | exact HB.out)⟩⟩
       case round =>
        clear H'
        try clear c1
        try clear p1
        try clear q1
        try clear hx1
        try clear c2
        try clear c2b0
        try clear c2b1
        try clear p2
        try clear c3
        try clear c4
        try clear c8
        try clear c8b0
        try clear c9
        try clear c9b0
        try clear c10
        try clear c10b0
        try clear p10
        try clear q10
        try clear hx10
        try clear hx107_0
        try clear p107
        try clear p2
        try clear q107
        obtain ⟨x3_2, x18_2, rfl, HA, HK2, HO_3, HO_10, HS_, HB⟩ := hrel
        cases gk with
        | zero => exact absurd HA.out (by simp [spec_weCounts.l1])
        | succ k2 =>
         have H := HA.out
         clear HA
         simp only [spec_weCounts.l1] at H
         by_cases c11 : x18_2 < ((rd_L3 t104 x12_1).length : Int)
         ·rw [if_pos c11] at H
          have c11b0 : decide (x18_2 < ((rd_L3 t104 x12_1).length : Int)) = true := decide_eq_true c11
          clear c11
          by_cases c12 : 0 ≤ x18_2
          ·rw [if_pos c12] at H
           have c12b0 : decide (0 ≤ x18_2) = true := decide_eq_true c12
           clear c12
           by_cases c13 : x18_2 < ((rd_L3 t104 x12_1).length : Int)
           ·rw [if_pos c13] at H
            have c13b0 : decide (x18_2 < ((rd_L3 t104 x12_1).length : Int)) = true := decide_eq_true c13
            clear c13
            by_cases c14 : 0 ≤ (rd (rd_L3 t104 x12_1) x18_2)
            ·rw [if_pos c14] at H
             have c14b0 : decide (0 ≤ (rd (rd_L3 t104 x12_1) x18_2)) = true := decide_eq_true c14
             clear c14
             by_cases c15 : (rd (rd_L3 t104 x12_1) x18_2) < (x3_2.length : Int)
             ·rw [if_pos c15] at H
              have c15b0 : decide ((rd (rd_L3 t104 x12_1) x18_2) < (x3_2.length : Int)) = true := decide_eq_true c15
              clear c15
              obtain ⟨y110, hy110⟩ : ∃ y_ : List Int, y_ = (x3_2.set ((rd (rd_L3 t104 x12_1) x18_2) : Int).toNat (wrap64 ((rd x3_2 (rd (rd_L3 t104 x12_1) x18_2)) + 1))) := ⟨_, rfl⟩
              replace H : (spec_weCounts.l1 k2 y110 t104 (t104.length : Int) x12_1 (rd_L3 t104 x12_1) ((rd_L3 t104 x12_1).length : Int) (wrap64 (x18_2 + 1))) = some r := by first | (rw [hy110]; with_reducible exact H) | (have H2_ := (Option.bind_some _ _).symm.trans H; rw [hy110]; with_reducible exact H2_) | (have H2_ := (Option.bind_some _ _).symm.trans H; with_reducible exact H2_) | with_reducible exact H | (rw [hy110]; exact H) | exact H
              have Ny110 := am_ hy110
              clear hy110
              have H' := am_ H
              clear H
              have p108 : 0 ≤ (x18_2 : Int) := of_decide_eq_true tc2_
              have q108 : x18_2 < ((rd_L3 t104 x12_1).length : Int) := of_decide_eq_true tc2_
              obtain ⟨ad108, e108, hx108_0⟩ := Kd.at_int (Kd.R_reads' HS_.out).2.2 x18_2 p108 q108
              cases e108
              replace p108 := eq_true p108
              replace q108 := eq_true q108
              obtain ⟨Ao17, co17, eo17⟩ := Kd.R_slice HO_3.out
              subst eo17
              have p109 : 0 ≤ ((rd (rd_L3 t104 x12_1) x18_2) : Int) := of_decide_eq_true tc2_
              have q109 : (rd (rd_L3 t104 x12_1) x18_2) < (x3_2.length : Int) := of_decide_eq_true tc2_
              obtain ⟨ad109, e109, hx109_0⟩ := Kd.at_int (Kd.R_reads' HO_3.out).2.2 (rd (rd_L3 t104 x12_1) x18_2) p109 q109
              cases e109
              replace p109 := eq_true p109
              replace q109 := eq_true q109
              have p16 : 0 ≤ ((rd (rd_L3 t104 x12_1) x18_2) : Int) := of_decide_eq_true tc2_
              have q16 : ((rd (rd_L3 t104 x12_1) x18_2) : Int) < ((x3_2.length : Int) : Int) := of_decide_eq_true tc2_
              obtain ⟨go16, co16, eo16, gb16, gl16, cl16, HG16⟩ := Kd.R_form HO_3.out (by omega)
              (first | cases eo16 | (injection eo16 with ea_ en_ ec_; (first | subst ea_ | (injection ea_ with ea_; subst ea_)); subst ec_; clear en_))
              have GB16 := am_ gb16
              have GG16 := am_ HG16
              clear gb16 gl16 HG16
              (first | simp only [add_plain] at hx109_0 | skip)
              obtain ⟨hx16_0, hf16_0⟩ := Kd.R_celln 0 HO_3.out ((rd (rd_L3 t104 x12_1) x18_2) : Int) p16 q16
              replace p16 := eq_true p16
              replace q16 := eq_true q16
              have HP18 := Kd.R_putg HO_3.out ((rd (rd_L3 t104 x12_1) x18_2) : Int) (wrap64 ((rd x3_2 (rd (rd_L3 t104 x12_1) x18_2)) + 1))
              go_wp2_with (first | ((with_reducible refine gate_store (t := 3) (p := 27) rfl ?_); refine store_event (t := 3) (p := 27) (v := ?vo_w19) (w1 := (wr.setCell ⟨go16, ((rd (rd_L3 t104 x12_1) x18_2) : Int).toNat, none⟩ (.int .i64 (wrap64 ((rd x3_2 (rd (rd_L3 t104 x12_1) x18_2)) + 1))))) ?hg ?ho ?hn ?hr ?_; (case ho => rfl); (case hg => rfl); (case hn => rfl); (case hr => exact tc27_); intro w19 hw; have hg : wr.grownBy w19 (some go16) := (by rw [hw]; exact HP18.2); have hp_ : Kd.R (Kd.int .i64) 3 w19 w.heap.size (fun _ => True) (.slice (some ⟨go16, 0, none⟩) x3_2.length co17) y110 := (by rw [hw, Ny110.out]; exact HP18.1); clear HP18; have n0_ := am_ (hp_); have n1_ := am_ (Kd.S_after (v := (.slice (some ⟨go16, 0, none⟩) x3_2.length co17)) (v1 := (.slice (some ⟨go16, 0, none⟩) x3_2.length co17)) (ok := (fun _ => True)) (by (with_reducible repeat (first | apply Kd.S_alloc | apply Kd.S_drewN | apply Kd.S_drew)); exact Kd.S_mono HO_10.out (fun _ hk => ⟨trivial, hk⟩)) hg (.inl rfl)); have ms_ := am_ (Kd.R_after (v := (.slice (some ⟨go16, 0, none⟩) x3_2.length co17)) (v1 := (.slice (some ⟨go16, 0, none⟩) x3_2.length co17)) (ok := (fun _ => True)) (by (with_reducible repeat (first | apply Kd.R_alloc | apply Kd.R_drewN | apply Kd.R_drew)); exact Kd.R_mono HS_.out (fun _ hk => ⟨trivial, hk⟩)) hg (.inl rfl)); clear HS_; have HS_ := ms_; clear ms_; have n2_ := am_ ((by rw [hw]; exact below_set (HB.out) GB16.out : Below w.heap.size w w19)); clear HO_3 HO_10 HB; have HO_3 := n0_; have HO_10 := n1_; have HB := n2_; clear n0_ n1_ n2_; clear hg hw hp_))
              go_roundg k2
              case measure => have := HK1.out; have := HK2.out; omega
              case rel => exact ⟨(y110), (wrap64 (x18_2 + 1)), tc6_, H', ⟨by have := HK1.out; have := HK2.out; omega⟩, ⟨by (with_reducible repeat (first | apply Kd.R_alloc | apply Kd.R_drewN | apply Kd.R_drew)); exact HO_3.out⟩, ⟨by (with_reducible repeat (first | apply Kd.S_alloc | apply Kd.S_drewN | apply Kd.S_drew)); exact Kd.S_mono HO_10.out (fun _ hk => hk.2)⟩, ⟨by (with_reducible repeat (first | apply Kd.R_alloc | apply Kd.R_drewN | apply Kd.R_drew)); exact Kd.R_mono HS_.out (fun _ hk => hk.2)⟩, ⟨by repeat (first | (with_reducible first | exact HB.out | apply below_alloc | apply pw_below_drewN | apply below_drew1) | exact HB.out)⟩⟩
             ·rw [if_neg c15] at H
              exact absurd H (by simp)
            ·rw [if_neg c14] at H
             exact absurd H (by simp)
           ·rw [if_neg c13] at H
            exact absurd H (by simp)
          ·rw [if_neg c12] at H
           exact absurd H (by simp)
         ·rw [if_neg c11] at H
          have c11b0 : decide (x18_2 < ((rd_L3 t104 x12_1).length : Int)) = false := decide_eq_false c11
          clear c11
          have H' := am_ H
          clear H
          go_wp2
          go_roundg k2
          case measure => have := HK1.out; have := HK2.out; omega
          case rel => exact ⟨(x3_2), (wrap64 (x12_1 + 1)), tc6_, H', ⟨by have := HK1.out; have := HK2.out; omega⟩, ⟨by (with_reducible repeat (first | apply Kd.R_alloc | apply Kd.R_drewN | apply Kd.R_drew)); exact HO_3.out⟩, ⟨by (with_reducible repeat (first | apply Kd.S_alloc | apply Kd.S_drewN | apply Kd.S_drew)); exact HO_10.out⟩, ⟨by repeat (first | (with_reducible first | exact HB.out | apply below_alloc | apply pw_below_drewN | apply below_drew1) | exact HB.out)⟩⟩
      ·rw [if_neg c10] at H
       exact absurd H (by simp)
     ·rw [if_neg c9] at H
      exact absurd H (by simp)
    ·rw [if_neg c8] at H
     have c8b0 : decide (x12_1 < (t104.length : Int)) = false := decide_eq_false c8
     clear c8
     obtain rfl := Option.some.inj H
     go_wp2
     go_ret
     exact ⟨_, by first | rfl | (simp [errW_none, errW_some] <;> rfl) | (simp [*, errW_none, errW_some] <;> rfl), by (with_reducible repeat (first | apply Kd.R_alloc | apply Kd.R_drewN | apply Kd.R_drew)); exact HO_3.out, by repeat (first | (with_reducible first | exact HB.out | apply below_alloc | apply pw_below_drewN | apply below_drew1) | exact HB.out)⟩
 ·rw [if_neg c2] at H
  exact absurd H (by simp)

/-! ### spec_KindCounts: function 10 -/
def spec_KindCounts.f (k : Nat) (l0 : List (List Int)) : Option (List Int × Bool) := (spec_sgGood.f k l0).bind fun t101 => (if t101 = true then ((spec_weCounts.f k l0).bind fun t102 => (some (t102, true))) else (some (([] : List Int), false)))
set_option maxHeartbeats 8000000 in
set_option maxRecDepth 100000 in
theorem spec_KindCounts.calls (k : Nat) (A0 : Option Addr) (c0 : Nat) (l0 : List (List Int)) (r1 : List Int) (r2 : Bool) (w : World) (hr0 : Kd.C (Kd.slice 3 (Kd.int .i64)) w A0 l0.length l0) (hc0 : l0.length ≤ c0) (h : spec_KindCounts.f k l0 = some (r1, r2)) :
  Calls Try.prog 10 #[.slice A0 l0.length c0] w fun e w' => ∃ v0_ : Value, e = .returned (.tuple #[v0_, .bool r2]) ∧ Kd.R (Kd.int .i64) 3 w' w.heap.size (fun _ => True) v0_ r1 ∧ Below w.heap.size w w' := by
 have HR0 := am_ hr0
 have HC0 := am_ hc0
 clear hr0 hc0
 have HB := am_ (Below.refl w.heap.size w)
 have H : ((spec_sgGood.f k l0).bind fun t101 => (if t101 = true then ((spec_weCounts.f k l0).bind fun t102 => (some (t102, true))) else (some (([] : List Int), false)))) = some (r1, r2) := h
 clear h
 replace H := Option.bind_eq_some_iff.mp H
 obtain ⟨t101, A20, H⟩ := H
 replace H : (if t101 = true then ((spec_weCounts.f k l0).bind fun t102 => (some (t102, true))) else (some (([] : List Int), false))) = some (r1, r2) := H
 have A2 := am_ A20
 clear A20
 by_cases c3 : t101 = true
 ·subst c3
  have H1 : ((spec_weCounts.f k l0).bind fun t102 => (some (t102, true))) = some (r1, r2) := by rw [if_pos rfl] at H; exact H
  clear H
  have H := H1
  clear H1
  replace H := Option.bind_eq_some_iff.mp H
  obtain ⟨t102, A40, H⟩ := H
  replace H : (some (t102, true)) = some (r1, r2) := H
  have A4 := am_ A40
  clear A40
  simp only [Option.some.injEq, Prod.mk.injEq] at H
  obtain ⟨rfl, rfl⟩ := H
  go_enter Try.func10, Try.ntmps10
  go_wp2_with (first | ((with_reducible refine gate_callee (f := 38) rfl ?_); refine goesL_ (some 5) rfl rfl Try.func38 (by kernel_rfl) rfl #[.slice A0 l0.length c0] rfl tc0_ ?_; (with_reducible refine (spec_sgGood.calls k _ _ l0 true _ ?side1 ?side2 A2.out).mono ?_); (case side1 => exact tc8_); (case side2 => exact HC0.out); rintro e w5 ⟨rfl, hb⟩; refine ⟨_, rfl, ?_⟩; have n0_ := am_ (below_step tc1_ hb); clear HB; have HB := n0_; clear n0_; (try clear hb)) | ((with_reducible refine gate_callee (f := 41) rfl ?_); refine goesL_ (some 8) rfl rfl Try.func41 (by kernel_rfl) rfl #[.slice A0 l0.length c0] rfl tc0_ ?_; (with_reducible refine (spec_weCounts.calls k _ _ l0 t102 _ ?side1 ?side2 A4.out).mono ?_); (case side1 => exact tc13_); (case side2 => exact HC0.out); rintro e w6 ⟨v103, rfl, ho0, hb⟩; refine ⟨_, rfl, ?_⟩; have n0_ := am_ (Kd.R_lower ho0 (below_size tc1_)); have n1_ := am_ (below_step tc1_ hb); clear HB; have HO104 := n0_; have HB := n1_; clear n0_ n1_; (try clear hb ho0)))
  go_ret2
  exact ⟨_, by first | rfl | (simp [errW_none, errW_some] <;> rfl) | (simp [*, errW_none, errW_some] <;> rfl), by (with_reducible repeat (first | apply Kd.R_alloc | apply Kd.R_drewN | apply Kd.R_drew)); exact HO104.out, by repeat (first | (with_reducible first | exact HB.out | apply below_alloc | apply pw_below_drewN | apply below_drew1) | exact HB.out)⟩
 ·replace c3 := Bool.eq_false_iff.mpr c3
  subst c3
  have H1 : (some (([] : List Int), false)) = some (r1, r2) := by rw [if_neg (show ¬ (false = true) by decide)] at H; exact H
  clear H
  have H := H1
  clear H1
  simp only [Option.some.injEq, Prod.mk.injEq] at H
  obtain ⟨rfl, rfl⟩ := H
  go_enter Try.func10, Try.ntmps10
  go_wp2_with (first | ((with_reducible refine gate_callee (f := 38) rfl ?_); refine goesL_ (some 5) rfl rfl Try.func38 (by kernel_rfl) rfl #[.slice A0 l0.length c0] rfl tc0_ ?_; (with_reducible refine (spec_sgGood.calls k _ _ l0 false _ ?side1 ?side2 A2.out).mono ?_); (case side1 => exact tc8_); (case side2 => exact HC0.out); rintro e w7 ⟨rfl, hb⟩; refine ⟨_, rfl, ?_⟩; have n0_ := am_ (below_step tc1_ hb); clear HB; have HB := n0_; clear n0_; (try clear hb)))
  go_ret2
  exact ⟨_, by first | rfl | (simp [errW_none, errW_some] <;> rfl) | (simp [*, errW_none, errW_some] <;> rfl), by first | exact Kd.R_nil _ _ _ _ _ | exact Kd.N_nil _ _ _ _ _ | exact Kd.V_nil _ _ _ _ _ | exact Kd.Q_nil _ _ _ _ _ | exact Kd.S_nil _ _ _ _ _, by repeat (first | (with_reducible first | exact HB.out | apply below_alloc | apply pw_below_drewN | apply below_drew1) | exact HB.out)⟩

/-! ### laws_uSame: function 12 -/
def laws_uSame.l0 : Nat → List Int → List Int → Int → Int → Option (Bool)
 | 0, _, _, _, _ => none
 | k + 1, x0, x1, x12, x13 => if x13 < x12 then (if 0 ≤ x13 then (if x13 < (x0.length : Int) then (if x13 < (x1.length : Int) then (if (rd x0 x13) = (rd x1 x13) then (laws_uSame.l0 k x0 x1 x12 (wrap64 (x13 + 1))) else (some false)) else (none)) else (none)) else (none)) else (some true)
def laws_uSame.f (k : Nat) (l0 : List Int) (l1 : List Int) : Option (Bool) := if (l0.length : Int) = (l1.length : Int) then (laws_uSame.l0 k l0 l1 (l0.length : Int) 0) else (some false)
set_option maxHeartbeats 8000000 in
set_option maxRecDepth 100000 in
theorem laws_uSame.calls (k : Nat) (A0 : Option Addr) (c0 : Nat) (l0 : List Int) (A1 : Option Addr) (c1 : Nat) (l1 : List Int) (r : Bool) (w : World) (hr0 : Kd.C (Kd.int .i64) w A0 l0.length l0) (hc0 : l0.length ≤ c0) (hr1 : Kd.C (Kd.int .i64) w A1 l1.length l1) (hc1 : l1.length ≤ c1) (h : laws_uSame.f k l0 l1 = some r) :
  Calls Try.prog 12 #[.slice A0 l0.length c0, .slice A1 l1.length c1] w fun e w' => e = .returned (.bool r) ∧ Drawn0 w w' := by
 have HR0 := am_ hr0
 have HC0 := am_ hc0
 clear hr0 hc0
 have HR1 := am_ hr1
 have HC1 := am_ hc1
 clear hr1 hc1
 have H : (if (l0.length : Int) = (l1.length : Int) then (laws_uSame.l0 k l0 l1 (l0.length : Int) 0) else (some false)) = some r := h
 clear h
 by_cases c3 : (l0.length : Int) = (l1.length : Int)
 ·rw [if_pos c3] at H
  have c3b0 : ((l0.length : Int) == (l1.length : Int)) = true := beq_iff_eq.mpr c3
  have c3b1 : ((l0.length : Int) != (l1.length : Int)) = false := bne_eq_false_iff_eq.mpr c3
  have c3b2 : (l0.length == l1.length) = true := by first | simpa using c3 | (simp at c3 ⊢; omega)
  clear c3
  have H' := am_ H
  clear H
  go_enter Try.func12, Try.ntmps12
  go_wp2
  repeat (go_quiet (fail); try go_wp2)
  go_loopg [13] k (fun kq v13 w' => ∃ (x13_1 : Int), v13 = .int .i64 x13_1 ∧ Aside0 (laws_uSame.l0 kq l0 l1 (l0.length : Int) x13_1 = some r) ∧ Aside0 (kq ≤ k) ∧ Drawn0 w w')
  case atStart => exact ⟨(0), tc6_, H', ⟨Nat.le_refl _⟩, by repeat (first | exact Drawn0.refl _ | apply Drawn0.step)⟩
  case round =>
   clear H'
   try clear c1
   try clear p2
   try clear c3
   try clear c3b0
   try clear c3b1
   try clear c3b2
   obtain ⟨x13_1, rfl, HA, HK1, ⟨m1, rfl⟩⟩ := hrel
   cases gk with
   | zero => exact absurd HA.out (by simp [laws_uSame.l0])
   | succ k1 =>
    have H := HA.out
    clear HA
    simp only [laws_uSame.l0] at H
    by_cases c4 : x13_1 < (l0.length : Int)
    ·rw [if_pos c4] at H
     have c4b0 : decide (x13_1 < (l0.length : Int)) = true := decide_eq_true c4
     clear c4
     by_cases c5 : 0 ≤ x13_1
     ·rw [if_pos c5] at H
      have c5b0 : decide (0 ≤ x13_1) = true := decide_eq_true c5
      clear c5
      by_cases c6 : x13_1 < (l0.length : Int)
      ·rw [if_pos c6] at H
       have c6b0 : decide (x13_1 < (l0.length : Int)) = true := decide_eq_true c6
       clear c6
       by_cases c7 : x13_1 < (l1.length : Int)
       ·rw [if_pos c7] at H
        have c7b0 : decide (x13_1 < (l1.length : Int)) = true := decide_eq_true c7
        clear c7
        by_cases c8 : (rd l0 x13_1) = (rd l1 x13_1)
        ·rw [if_pos c8] at H
         have c8b0 : ((rd l0 x13_1) == (rd l1 x13_1)) = true := beq_iff_eq.mpr c8
         have c8b1 : ((rd l0 x13_1) != (rd l1 x13_1)) = false := bne_eq_false_iff_eq.mpr c8
         clear c8
         have H' := am_ H
         clear H
         have p101 : 0 ≤ (x13_1 : Int) := of_decide_eq_true tc2_
         have q101 : x13_1 < (l0.length : Int) := of_decide_eq_true tc2_
         obtain ⟨ad101, e101, hx101_0⟩ := Kd.at_int HR0.out x13_1 p101 q101
         cases e101
         replace p101 := eq_true p101
         replace q101 := eq_true q101
         have p102 : 0 ≤ (x13_1 : Int) := of_decide_eq_true tc2_
         have q102 : x13_1 < (l1.length : Int) := of_decide_eq_true tc2_
         obtain ⟨ad102, e102, hx102_0⟩ := Kd.at_int HR1.out x13_1 p102 q102
         cases e102
         replace p102 := eq_true p102
         replace q102 := eq_true q102
         go_wp2
         repeat (go_quiet (fail); try go_wp2)
         go_roundg k1
         case measure => have := HK1.out; omega
         case rel => exact ⟨(wrap64 (x13_1 + 1)), tc6_, H', ⟨by have := HK1.out; omega⟩, by repeat (first | exact Drawn0.refl _ | apply Drawn0.step)⟩
        ·rw [if_neg c8] at H
         have c8b0 : ((rd l0 x13_1) == (rd l1 x13_1)) = false := beq_eq_false_iff_ne.mpr c8
         have c8b1 : ((rd l0 x13_1) != (rd l1 x13_1)) = true := bne_iff_ne.mpr c8
         obtain rfl := Option.some.inj H
         have p101 : 0 ≤ (x13_1 : Int) := of_decide_eq_true tc2_
         have q101 : x13_1 < (l0.length : Int) := of_decide_eq_true tc2_
         obtain ⟨ad101, e101, hx101_0⟩ := Kd.at_int HR0.out x13_1 p101 q101
         cases e101
         replace p101 := eq_true p101
         replace q101 := eq_true q101
         have p102 : 0 ≤ (x13_1 : Int) := of_decide_eq_true tc2_
         have q102 : x13_1 < (l1.length : Int) := of_decide_eq_true tc2_
         obtain ⟨ad102, e102, hx102_0⟩ := Kd.at_int HR1.out x13_1 p102 q102
         cases e102
         replace p102 := eq_true p102
         replace q102 := eq_true q102
         go_wp2
         repeat (go_quiet (fail); try go_wp2)
         go_ret
         exact ⟨by first | rfl | (simp; done) | (simp [*]; done), by repeat (first | exact Drawn0.refl _ | apply Drawn0.step)⟩
       ·rw [if_neg c7] at H
        exact absurd H (by simp)
      ·rw [if_neg c6] at H
       exact absurd H (by simp)
     ·rw [if_neg c5] at H
      exact absurd H (by simp)
    ·rw [if_neg c4] at H
     have c4b0 : decide (x13_1 < (l0.length : Int)) = false := decide_eq_false c4
     clear c4
     obtain rfl := Option.some.inj H
     go_wp2
     repeat (go_quiet (fail); try go_wp2)
     go_ret
     exact ⟨by first | rfl | (simp; done) | (simp [*]; done), by repeat (first | exact Drawn0.refl _ | apply Drawn0.step)⟩
 ·rw [if_neg c3] at H
  have c3b0 : ((l0.length : Int) == (l1.length : Int)) = false := beq_eq_false_iff_ne.mpr c3
  have c3b1 : ((l0.length : Int) != (l1.length : Int)) = true := bne_iff_ne.mpr c3
  have c3b2 : (l0.length == l1.length) = false := by first | simpa using c3 | (simp at c3 ⊢; omega)
  obtain rfl := Option.some.inj H
  go_enter Try.func12, Try.ntmps12
  go_wp2
  repeat (go_quiet (fail); try go_wp2)
  go_ret
  exact ⟨by first | rfl | (simp; done) | (simp [*]; done), by repeat (first | exact Drawn0.refl _ | apply Drawn0.step)⟩

/-! ### laws_uSameRows: function 11 -/
def laws_uSameRows.l0 : Nat → List (List Int) → List (List Int) → Int → Int → Option (Bool)
 | 0, _, _, _, _ => none
 | k + 1, x0, x1, x12, x13 => if x13 < x12 then (if 0 ≤ x13 then (if x13 < (x0.length : Int) then (if x13 < (x1.length : Int) then ((laws_uSame.f k (rd_L3 x0 x13) (rd_L3 x1 x13)).bind fun t103 => (if t103 = true then (laws_uSameRows.l0 k x0 x1 x12 (wrap64 (x13 + 1))) else (some false))) else (none)) else (none)) else (none)) else (some true)
def laws_uSameRows.f (k : Nat) (l0 : List (List Int)) (l1 : List (List Int)) : Option (Bool) := if (l0.length : Int) = (l1.length : Int) then (laws_uSameRows.l0 k l0 l1 (l0.length : Int) 0) else (some false)
set_option maxHeartbeats 8000000 in
set_option maxRecDepth 100000 in
theorem laws_uSameRows.calls (k : Nat) (A0 : Option Addr) (c0 : Nat) (l0 : List (List Int)) (A1 : Option Addr) (c1 : Nat) (l1 : List (List Int)) (r : Bool) (w : World) (hr0 : Kd.C (Kd.slice 3 (Kd.int .i64)) w A0 l0.length l0) (hc0 : l0.length ≤ c0) (hr1 : Kd.C (Kd.slice 3 (Kd.int .i64)) w A1 l1.length l1) (hc1 : l1.length ≤ c1) (h : laws_uSameRows.f k l0 l1 = some r) :
  Calls Try.prog 11 #[.slice A0 l0.length c0, .slice A1 l1.length c1] w fun e w' => e = .returned (.bool r) ∧ Drawn0 w w' := by
 have HR0 := am_ hr0
 have HC0 := am_ hc0
 clear hr0 hc0
 have HR1 := am_ hr1
 have HC1 := am_ hc1
 clear hr1 hc1
 have H : (if (l0.length : Int) = (l1.length : Int) then (laws_uSameRows.l0 k l0 l1 (l0.length : Int) 0) else (some false)) = some r := h
 clear h
 by_cases c3 : (l0.length : Int) = (l1.length : Int)
 ·rw [if_pos c3] at H
  have c3b0 : ((l0.length : Int) == (l1.length : Int)) = true := beq_iff_eq.mpr c3
  have c3b1 : ((l0.length : Int) != (l1.length : Int)) = false := bne_eq_false_iff_eq.mpr c3
  have c3b2 : (l0.length == l1.length) = true := by first | simpa using c3 | (simp at c3 ⊢; omega)
  clear c3
  have H' := am_ H
  clear H
  go_enter Try.func11, Try.ntmps11
  go_wp2
  repeat (go_quiet (fail); try go_wp2)
  go_loopg [13] k (fun kq v13 w' => ∃ (x13_1 : Int), v13 = .int .i64 x13_1 ∧ Aside0 (laws_uSameRows.l0 kq l0 l1 (l0.length : Int) x13_1 = some r) ∧ Aside0 (kq ≤ k) ∧ Drawn0 w w')
  case atStart => exact ⟨(0), tc6_, H', ⟨Nat.le_refl _⟩, by repeat (first | exact Drawn0.refl _ | apply Drawn0.step)⟩
  case round =>
   clear H'
   try clear c1
   try clear p2
   try clear c3
   try clear c3b0
   try clear c3b1
   try clear c3b2
   obtain ⟨x13_1, rfl, HA, HK1, ⟨m1, rfl⟩⟩ := hrel
   cases gk with
   | zero => exact absurd HA.out (by simp [laws_uSameRows.l0])
   | succ k1 =>
    have H := HA.out
    clear HA
    simp only [laws_uSameRows.l0] at H
    by_cases c4 : x13_1 < (l0.length : Int)
    ·rw [if_pos c4] at H
     have c4b0 : decide (x13_1 < (l0.length : Int)) = true := decide_eq_true c4
     clear c4
     by_cases c5 : 0 ≤ x13_1
     ·rw [if_pos c5] at H
      have c5b0 : decide (0 ≤ x13_1) = true := decide_eq_true c5
      clear c5
      by_cases c6 : x13_1 < (l0.length : Int)
      ·rw [if_pos c6] at H
       have c6b0 : decide (x13_1 < (l0.length : Int)) = true := decide_eq_true c6
       clear c6
       by_cases c7 : x13_1 < (l1.length : Int)
       ·rw [if_pos c7] at H
        have c7b0 : decide (x13_1 < (l1.length : Int)) = true := decide_eq_true c7
        clear c7
        replace H := Option.bind_eq_some_iff.mp H
        obtain ⟨t103, A80, H⟩ := H
        replace H : (if t103 = true then (laws_uSameRows.l0 k1 l0 l1 (l0.length : Int) (wrap64 (x13_1 + 1))) else (some false)) = some r := H
        have A8 := am_ A80
        clear A80
        by_cases c9 : t103 = true
        ·subst c9
         have H1 : (laws_uSameRows.l0 k1 l0 l1 (l0.length : Int) (wrap64 (x13_1 + 1))) = some r := by rw [if_pos rfl] at H; exact H
         clear H
         have H := H1
         clear H1
         have H' := am_ H
         clear H
         have p101 : 0 ≤ (x13_1 : Int) := of_decide_eq_true tc2_
         have q101 : x13_1 < (l0.length : Int) := of_decide_eq_true tc2_
         obtain ⟨ad101, A101_0, c101_0, e101, hx101_0, hl101_0, hi101_0⟩ := at_L3 HR0.out x13_1 p101 q101
         cases e101
         have HR101_0 := am_ hi101_0
         have HC101_0 := am_ hl101_0
         clear hi101_0 hl101_0
         replace p101 := eq_true p101
         replace q101 := eq_true q101
         have p102 : 0 ≤ (x13_1 : Int) := of_decide_eq_true tc2_
         have q102 : x13_1 < (l1.length : Int) := of_decide_eq_true tc2_
         obtain ⟨ad102, A102_0, c102_0, e102, hx102_0, hl102_0, hi102_0⟩ := at_L3 HR1.out x13_1 p102 q102
         cases e102
         have HR102_0 := am_ hi102_0
         have HC102_0 := am_ hl102_0
         clear hi102_0 hl102_0
         replace p102 := eq_true p102
         replace q102 := eq_true q102
         go_wp2_with (first | (go_at_call 12; (with_reducible refine (laws_uSame.calls k1 _ _ (rd_L3 l0 x13_1) _ _ (rd_L3 l1 x13_1) true _ ?side1 ?side2 ?side3 ?side4 A8.out).mono ?_); (case side1 => exact tc21_); (case side2 => exact HC101_0.out); (case side3 => exact tc22_); (case side4 => exact HC102_0.out); rintro e w' ⟨rfl, ⟨nd, rfl⟩⟩; (try first | exact ⟨rfl, _, World.drewN_drewN _ _ _⟩ | exact ⟨rfl, _, Eq.trans (World.drewN_drewN _ _ _) (congrArg (World.drewN _) (Nat.add_assoc _ _ _))⟩)))
         repeat (go_quiet (first | (go_at_call 12; (with_reducible refine (laws_uSame.calls k1 _ _ (rd_L3 l0 x13_1) _ _ (rd_L3 l1 x13_1) true _ ?side1 ?side2 ?side3 ?side4 A8.out).mono ?_); (case side1 => exact tc21_); (case side2 => exact HC101_0.out); (case side3 => exact tc22_); (case side4 => exact HC102_0.out); rintro e w' ⟨rfl, ⟨nd, rfl⟩⟩; (try first | exact ⟨rfl, _, World.drewN_drewN _ _ _⟩ | exact ⟨rfl, _, Eq.trans (World.drewN_drewN _ _ _) (congrArg (World.drewN _) (Nat.add_assoc _ _ _))⟩))); try go_wp2_with (first | (go_at_call 12; (with_reducible refine (laws_uSame.calls k1 _ _ (rd_L3 l0 x13_1) _ _ (rd_L3 l1 x13_1) true _ ?side1 ?side2 ?side3 ?side4 A8.out).mono ?_); (case side1 => exact tc21_); (case side2 => exact HC101_0.out); (case side3 => exact tc22_); (case side4 => exact HC102_0.out); rintro e w' ⟨rfl, ⟨nd, rfl⟩⟩; (try first | exact ⟨rfl, _, World.drewN_drewN _ _ _⟩ | exact ⟨rfl, _, Eq.trans (World.drewN_drewN _ _ _) (congrArg (World.drewN _) (Nat.add_assoc _ _ _))⟩))))
         go_roundg k1
         case measure => have := HK1.out; omega
         case rel => exact ⟨(wrap64 (x13_1 + 1)), tc6_, H', ⟨by have := HK1.out; omega⟩, by repeat (first | exact Drawn0.refl _ | apply Drawn0.step)⟩
        ·replace c9 := Bool.eq_false_iff.mpr c9
         subst c9
         have H1 : (some false) = some r := by rw [if_neg (show ¬ (false = true) by decide)] at H; exact H
         clear H
         have H := H1
         clear H1
         obtain rfl := Option.some.inj H
         have p101 : 0 ≤ (x13_1 : Int) := of_decide_eq_true tc2_
         have q101 : x13_1 < (l0.length : Int) := of_decide_eq_true tc2_
         obtain ⟨ad101, A101_0, c101_0, e101, hx101_0, hl101_0, hi101_0⟩ := at_L3 HR0.out x13_1 p101 q101
         cases e101
         have HR101_0 := am_ hi101_0
         have HC101_0 := am_ hl101_0
         clear hi101_0 hl101_0
         replace p101 := eq_true p101
         replace q101 := eq_true q101
         have p102 : 0 ≤ (x13_1 : Int) := of_decide_eq_true tc2_
         have q102 : x13_1 < (l1.length : Int) := of_decide_eq_true tc2_
         obtain ⟨ad102, A102_0, c102_0, e102, hx102_0, hl102_0, hi102_0⟩ := at_L3 HR1.out x13_1 p102 q102
         cases e102
         have HR102_0 := am_ hi102_0
         have HC102_0 := am_ hl102_0
         clear hi102_0 hl102_0
         replace p102 := eq_true p102
         replace q102 := eq_true q102
         go_wp2_with (first | (go_at_call 12; (with_reducible refine (laws_uSame.calls k1 _ _ (rd_L3 l0 x13_1) _ _ (rd_L3 l1 x13_1) false _ ?side1 ?side2 ?side3 ?side4 A8.out).mono ?_); (case side1 => exact tc21_); (case side2 => exact HC101_0.out); (case side3 => exact tc22_); (case side4 => exact HC102_0.out); rintro e w' ⟨rfl, ⟨nd, rfl⟩⟩; (try first | exact ⟨rfl, _, World.drewN_drewN _ _ _⟩ | exact ⟨rfl, _, Eq.trans (World.drewN_drewN _ _ _) (congrArg (World.drewN _) (Nat.add_assoc _ _ _))⟩)))
         repeat (go_quiet (first | (go_at_call 12; (with_reducible refine (laws_uSame.calls k1 _ _ (rd_L3 l0 x13_1) _ _ (rd_L3 l1 x13_1) false _ ?side1 ?side2 ?side3 ?side4 A8.out).mono ?_); (case side1 => exact tc21_); (case side2 => exact HC101_0.out); (case side3 => exact tc22_); (case side4 => exact HC102_0.out); rintro e w' ⟨rfl, ⟨nd, rfl⟩⟩; (try first | exact ⟨rfl, _, World.drewN_drewN _ _ _⟩ | exact ⟨rfl, _, Eq.trans (World.drewN_drewN _ _ _) (congrArg (World.drewN _) (Nat.add_assoc _ _ _))⟩))); try go_wp2_with (first | (go_at_call 12; (with_reducible refine (laws_uSame.calls k1 _ _ (rd_L3 l0 x13_1) _ _ (rd_L3 l1 x13_1) false _ ?side1 ?side2 ?side3 ?side4 A8.out).mono ?_); (case side1 => exact tc21_); (case side2 => exact HC101_0.out); (case side3 => exact tc22_); (case side4 => exact HC102_0.out); rintro e w' ⟨rfl, ⟨nd, rfl⟩⟩; (try first | exact ⟨rfl, _, World.drewN_drewN _ _ _⟩ | exact ⟨rfl, _, Eq.trans (World.drewN_drewN _ _ _) (congrArg (World.drewN _) (Nat.add_assoc _ _ _))⟩))))
         go_ret
         exact ⟨by first | rfl | (simp; done) | (simp [*]; done), by repeat (first | exact Drawn0.refl _ | apply Drawn0.step)⟩
       ·rw [if_neg c7] at H
        exact absurd H (by simp)
      ·rw [if_neg c6] at H
       exact absurd H (by simp)
     ·rw [if_neg c5] at H
      exact absurd H (by simp)
    ·rw [if_neg c4] at H
     have c4b0 : decide (x13_1 < (l0.length : Int)) = false := decide_eq_false c4
     clear c4
     obtain rfl := Option.some.inj H
     go_wp2
     repeat (go_quiet (fail); try go_wp2)
     go_ret
     exact ⟨by first | rfl | (simp; done) | (simp [*]; done), by repeat (first | exact Drawn0.refl _ | apply Drawn0.step)⟩
 ·rw [if_neg c3] at H
  have c3b0 : ((l0.length : Int) == (l1.length : Int)) = false := beq_eq_false_iff_ne.mpr c3
  have c3b1 : ((l0.length : Int) != (l1.length : Int)) = true := bne_iff_ne.mpr c3
  have c3b2 : (l0.length == l1.length) = false := by first | simpa using c3 | (simp at c3 ⊢; omega)
  obtain rfl := Option.some.inj H
  go_enter Try.func11, Try.ntmps11
  go_wp2
  repeat (go_quiet (fail); try go_wp2)
  go_ret
  exact ⟨by first | rfl | (simp; done) | (simp [*]; done), by repeat (first | exact Drawn0.refl _ | apply Drawn0.step)⟩

/-! ### spec_DrawFromKinds: function 14 -/
def spec_DrawFromKinds.f (k : Nat) (l0 : List Int) : Option ((List (List Int))) := (spec_l1Cur_signs.f k l0 0 0 5).bind fun bt102 => ((spec_sgGood.f k bt102.1).bind fun t107 => (if t107 = true then ((spec_weKinds.f k bt102.1).bind fun t108 => ((spec_l1Cur_one.f l0 bt102.2.1 bt102.2.2 4).bind fun bt111 => (if bt111.1 = true then ((spec_l1Cur_pick.f l0 bt111.2.1 bt111.2.2 (t108.length : Int)).bind fun bt114 => (if 0 ≤ bt114.1 then (if bt114.1 < (t108.length : Int) then ((spec_l1Cur_pick.f l0 bt114.2.1 bt114.2.2 (t108.length : Int)).bind fun bt118 => ((spec_l1Cur_pick.f l0 bt118.2.1 bt118.2.2 8).bind fun bt121 => (if 0 ≤ bt118.1 then (if bt118.1 < ((rd_L3 t108 bt114.1).length : Int) then (some (t108.set (bt114.1 : Int).toNat ((rd_L3 t108 bt114.1).set (bt118.1 : Int).toNat (wrap64 (bt121.1 - 1))))) else (none)) else (none)))) else (none)) else (none))) else (some t108)))) else (some bt102.1)))
def spec_DrawFromKinds.T7 : Bool × List (List Nat × List Nat) := (true, [([], []), ([], []), ([], []), ([2], [2]), ([1, 3], [1, 3]), ([0, 4], [0, 4]), ([5], [5]), ([], []), ([], []), ([8], [8]), ([7, 9, 4], [7, 9]), ([], []), ([11, 10], [11]), ([12], [12]), ([6, 10, 0, 1, 2, 3, 4, 5, 6, 7, 8, 9, 10, 11, 12, 13], [6, 10]), ([14, 13, 12, 0, 1, 2, 3, 4, 5, 6, 7, 8, 9, 10, 11, 12, 13], [13, 14])])
def spec_DrawFromKinds.B7 : List Nat := [0, 0, 0, 4, 14, 31, 63, 0, 0, 256, 926, 0, 3998, 8094, 16383, 32767]
theorem spec_DrawFromKinds.tab7 : rtab .any (opsOf Try.f14 7) = spec_DrawFromKinds.T7 := by kernel_rfl
theorem spec_DrawFromKinds.bits7 : waitsOk spec_DrawFromKinds.T7.2 spec_DrawFromKinds.B7 = true := by kernel_rfl
set_option maxHeartbeats 8000000 in
set_option maxRecDepth 100000 in
theorem spec_DrawFromKinds.calls (k : Nat) (A0 : Option Addr) (c0 : Nat) (l0 : List Int) (r : List (List Int)) (w : World) (hr0 : Kd.C (Kd.int .u8) w A0 l0.length l0) (hc0 : l0.length ≤ c0) (h : spec_DrawFromKinds.f k l0 = some r) :
  Calls Try.prog 14 #[.slice A0 l0.length c0] w fun e w' => ∃ v0_ : Value, e = .returned (v0_) ∧ Kd.S (Kd.slice 3 (Kd.int .i64)) 28 w' w.heap.size (fun _ => True) v0_ r ∧ Below w.heap.size w w' := by
 have hu44 := Try.underlying44
 have HR0 := am_ hr0
 have HC0 := am_ hc0
 clear hr0 hc0
 have HB := am_ (Below.refl w.heap.size w)
 have H : ((spec_l1Cur_signs.f k l0 0 0 5).bind fun bt102 => ((spec_sgGood.f k bt102.1).bind fun t107 => (if t107 = true then ((spec_weKinds.f k bt102.1).bind fun t108 => ((spec_l1Cur_one.f l0 bt102.2.1 bt102.2.2 4).bind fun bt111 => (if bt111.1 = true then ((spec_l1Cur_pick.f l0 bt111.2.1 bt111.2.2 (t108.length : Int)).bind fun bt114 => (if 0 ≤ bt114.1 then (if bt114.1 < (t108.length : Int) then ((spec_l1Cur_pick.f l0 bt114.2.1 bt114.2.2 (t108.length : Int)).bind fun bt118 => ((spec_l1Cur_pick.f l0 bt118.2.1 bt118.2.2 8).bind fun bt121 => (if 0 ≤ bt118.1 then (if bt118.1 < ((rd_L3 t108 bt114.1).length : Int) then (some (t108.set (bt114.1 : Int).toNat ((rd_L3 t108 bt114.1).set (bt118.1 : Int).toNat (wrap64 (bt121.1 - 1))))) else (none)) else (none)))) else (none)) else (none))) else (some t108)))) else (some bt102.1)))) = some r := h
 clear h
 replace H := Option.bind_eq_some_iff.mp H
 obtain ⟨⟨t102, t105, t106⟩, A20, H⟩ := H
 replace H : ((spec_sgGood.f k t102).bind fun t107 => (if t107 = true then ((spec_weKinds.f k t102).bind fun t108 => ((spec_l1Cur_one.f l0 t105 t106 4).bind fun bt111 => (if bt111.1 = true then ((spec_l1Cur_pick.f l0 bt111.2.1 bt111.2.2 (t108.length : Int)).bind fun bt114 => (if 0 ≤ bt114.1 then (if bt114.1 < (t108.length : Int) then ((spec_l1Cur_pick.f l0 bt114.2.1 bt114.2.2 (t108.length : Int)).bind fun bt118 => ((spec_l1Cur_pick.f l0 bt118.2.1 bt118.2.2 8).bind fun bt121 => (if 0 ≤ bt118.1 then (if bt118.1 < ((rd_L3 t108 bt114.1).length : Int) then (some (t108.set (bt114.1 : Int).toNat ((rd_L3 t108 bt114.1).set (bt118.1 : Int).toNat (wrap64 (bt121.1 - 1))))) else (none)) else (none)))) else (none)) else (none))) else (some t108)))) else (some t102))) = some r := H
 have A2 := am_ A20
 clear A20
 replace H := Option.bind_eq_some_iff.mp H
 obtain ⟨t107, A30, H⟩ := H
 replace H : (if t107 = true then ((spec_weKinds.f k t102).bind fun t108 => ((spec_l1Cur_one.f l0 t105 t106 4).bind fun bt111 => (if bt111.1 = true then ((spec_l1Cur_pick.f l0 bt111.2.1 bt111.2.2 (t108.length : Int)).bind fun bt114 => (if 0 ≤ bt114.1 then (if bt114.1 < (t108.length : Int) then ((spec_l1Cur_pick.f l0 bt114.2.1 bt114.2.2 (t108.length : Int)).bind fun bt118 => ((spec_l1Cur_pick.f l0 bt118.2.1 bt118.2.2 8).bind fun bt121 => (if 0 ≤ bt118.1 then (if bt118.1 < ((rd_L3 t108 bt114.1).length : Int) then (some (t108.set (bt114.1 : Int).toNat ((rd_L3 t108 bt114.1).set (bt118.1 : Int).toNat (wrap64 (bt121.1 - 1))))) else (none)) else (none)))) else (none)) else (none))) else (some t108)))) else (some t102)) = some r := H
 have A3 := am_ A30
 clear A30
 by_cases c4 : t107 = true
 ·subst c4
  have H1 : ((spec_weKinds.f k t102).bind fun t108 => ((spec_l1Cur_one.f l0 t105 t106 4).bind fun bt111 => (if bt111.1 = true then ((spec_l1Cur_pick.f l0 bt111.2.1 bt111.2.2 (t108.length : Int)).bind fun bt114 => (if 0 ≤ bt114.1 then (if bt114.1 < (t108.length : Int) then ((spec_l1Cur_pick.f l0 bt114.2.1 bt114.2.2 (t108.length : Int)).bind fun bt118 => ((spec_l1Cur_pick.f l0 bt118.2.1 bt118.2.2 8).bind fun bt121 => (if 0 ≤ bt118.1 then (if bt118.1 < ((rd_L3 t108 bt114.1).length : Int) then (some (t108.set (bt114.1 : Int).toNat ((rd_L3 t108 bt114.1).set (bt118.1 : Int).toNat (wrap64 (bt121.1 - 1))))) else (none)) else (none)))) else (none)) else (none))) else (some t108)))) = some r := by rw [if_pos rfl] at H; exact H
  clear H
  have H := H1
  clear H1
  replace H := Option.bind_eq_some_iff.mp H
  obtain ⟨t108, A50, H⟩ := H
  replace H : ((spec_l1Cur_one.f l0 t105 t106 4).bind fun bt111 => (if bt111.1 = true then ((spec_l1Cur_pick.f l0 bt111.2.1 bt111.2.2 (t108.length : Int)).bind fun bt114 => (if 0 ≤ bt114.1 then (if bt114.1 < (t108.length : Int) then ((spec_l1Cur_pick.f l0 bt114.2.1 bt114.2.2 (t108.length : Int)).bind fun bt118 => ((spec_l1Cur_pick.f l0 bt118.2.1 bt118.2.2 8).bind fun bt121 => (if 0 ≤ bt118.1 then (if bt118.1 < ((rd_L3 t108 bt114.1).length : Int) then (some (t108.set (bt114.1 : Int).toNat ((rd_L3 t108 bt114.1).set (bt118.1 : Int).toNat (wrap64 (bt121.1 - 1))))) else (none)) else (none)))) else (none)) else (none))) else (some t108))) = some r := H
  have A5 := am_ A50
  clear A50
  replace H := Option.bind_eq_some_iff.mp H
  obtain ⟨⟨t111, t112, t113⟩, A60, H⟩ := H
  replace H : (if t111 = true then ((spec_l1Cur_pick.f l0 t112 t113 (t108.length : Int)).bind fun bt114 => (if 0 ≤ bt114.1 then (if bt114.1 < (t108.length : Int) then ((spec_l1Cur_pick.f l0 bt114.2.1 bt114.2.2 (t108.length : Int)).bind fun bt118 => ((spec_l1Cur_pick.f l0 bt118.2.1 bt118.2.2 8).bind fun bt121 => (if 0 ≤ bt118.1 then (if bt118.1 < ((rd_L3 t108 bt114.1).length : Int) then (some (t108.set (bt114.1 : Int).toNat ((rd_L3 t108 bt114.1).set (bt118.1 : Int).toNat (wrap64 (bt121.1 - 1))))) else (none)) else (none)))) else (none)) else (none))) else (some t108)) = some r := H
  have A6 := am_ A60
  clear A60
  by_cases c7 : t111 = true
  ·subst c7
   have H1 : ((spec_l1Cur_pick.f l0 t112 t113 (t108.length : Int)).bind fun bt114 => (if 0 ≤ bt114.1 then (if bt114.1 < (t108.length : Int) then ((spec_l1Cur_pick.f l0 bt114.2.1 bt114.2.2 (t108.length : Int)).bind fun bt118 => ((spec_l1Cur_pick.f l0 bt118.2.1 bt118.2.2 8).bind fun bt121 => (if 0 ≤ bt118.1 then (if bt118.1 < ((rd_L3 t108 bt114.1).length : Int) then (some (t108.set (bt114.1 : Int).toNat ((rd_L3 t108 bt114.1).set (bt118.1 : Int).toNat (wrap64 (bt121.1 - 1))))) else (none)) else (none)))) else (none)) else (none))) = some r := by rw [if_pos rfl] at H; exact H
   clear H
   have H := H1
   clear H1
   replace H := Option.bind_eq_some_iff.mp H
   obtain ⟨⟨t114, t115, t116⟩, A80, H⟩ := H
   replace H : (if 0 ≤ t114 then (if t114 < (t108.length : Int) then ((spec_l1Cur_pick.f l0 t115 t116 (t108.length : Int)).bind fun bt118 => ((spec_l1Cur_pick.f l0 bt118.2.1 bt118.2.2 8).bind fun bt121 => (if 0 ≤ bt118.1 then (if bt118.1 < ((rd_L3 t108 t114).length : Int) then (some (t108.set (t114 : Int).toNat ((rd_L3 t108 t114).set (bt118.1 : Int).toNat (wrap64 (bt121.1 - 1))))) else (none)) else (none)))) else (none)) else (none)) = some r := H
   have A8 := am_ A80
   clear A80
   by_cases c9 : 0 ≤ t114
   ·rw [if_pos c9] at H
    have c9b0 : decide (0 ≤ t114) = true := decide_eq_true c9
    clear c9
    by_cases c10 : t114 < (t108.length : Int)
    ·rw [if_pos c10] at H
     have c10b0 : decide (t114 < (t108.length : Int)) = true := decide_eq_true c10
     clear c10
     replace H := Option.bind_eq_some_iff.mp H
     obtain ⟨⟨t118, t119, t120⟩, A110, H⟩ := H
     replace H : ((spec_l1Cur_pick.f l0 t119 t120 8).bind fun bt121 => (if 0 ≤ t118 then (if t118 < ((rd_L3 t108 t114).length : Int) then (some (t108.set (t114 : Int).toNat ((rd_L3 t108 t114).set (t118 : Int).toNat (wrap64 (bt121.1 - 1))))) else (none)) else (none))) = some r := H
     have A11 := am_ A110
     clear A110
     replace H := Option.bind_eq_some_iff.mp H
     obtain ⟨⟨t121, t122, t123⟩, A120, H⟩ := H
     replace H : (if 0 ≤ t118 then (if t118 < ((rd_L3 t108 t114).length : Int) then (some (t108.set (t114 : Int).toNat ((rd_L3 t108 t114).set (t118 : Int).toNat (wrap64 (t121 - 1))))) else (none)) else (none)) = some r := H
     have A12 := am_ A120
     clear A120
     by_cases c13 : 0 ≤ t118
     ·rw [if_pos c13] at H
      have c13b0 : decide (0 ≤ t118) = true := decide_eq_true c13
      clear c13
      by_cases c14 : t118 < ((rd_L3 t108 t114).length : Int)
      ·rw [if_pos c14] at H
       have c14b0 : decide (t118 < ((rd_L3 t108 t114).length : Int)) = true := decide_eq_true c14
       clear c14
       obtain ⟨y124, hy124⟩ : ∃ y_ : List Int, y_ = ((rd_L3 t108 t114).set (t118 : Int).toNat (wrap64 (t121 - 1))) := ⟨_, rfl⟩
       replace H : (some (t108.set (t114 : Int).toNat y124)) = some r := by first | (rw [hy124]; with_reducible exact H) | (have H2_ := (Option.bind_some _ _).symm.trans H; rw [hy124]; with_reducible exact H2_) | (have H2_ := (Option.bind_some _ _).symm.trans H; with_reducible exact H2_) | with_reducible exact H | (rw [hy124]; exact H) | exact H
       have Ny124 := am_ hy124
       clear hy124
       obtain ⟨y126, hy126⟩ : ∃ y_ : List (List Int), y_ = (t108.set (t114 : Int).toNat y124) := ⟨_, rfl⟩
       replace H : (some y126) = some r := by first | (rw [hy126]; with_reducible exact H) | (have H2_ := (Option.bind_some _ _).symm.trans H; rw [hy126]; with_reducible exact H2_) | (have H2_ := (Option.bind_some _ _).symm.trans H; with_reducible exact H2_) | with_reducible exact H | (rw [hy126]; exact H) | exact H
       have Ny126 := am_ hy126
       clear hy126
       obtain rfl := Option.some.inj H
       go_enter Try.func14, Try.ntmps14
       try go_wp2_with (first | ((with_reducible refine gate_dst (N := 8) rfl ?_); refine box_event ?hg (N := 8) ?hd (cs := #[.slice A0 l0.length c0, .int .i64 0, .int .u64 0]) (t := 44) ?hr ?_; (case hd => rfl); (case hg => rfl); (case hr => exact tc27_); intro gb101 hg w16 hbox hb; have n0_ := am_ (below_step tc1_ hb); have n1_ := am_ ((by rw [hg]; exact (below_size tc1_) : w.heap.size ≤ gb101)); have n2_ := am_ ((by rw [hg]; exact (below_size tc1_) : w.heap.size ≤ gb101)); have n3_ := am_ ((show IsS44 w w16 gb101 l0 0 0 from ⟨A0, c0, hbox, (by rw [hg]; exact (below_size tc1_) : w.heap.size ≤ gb101), HR0.out⟩)); clear HB; have HB := n0_; have GW101 := n1_; have GE101 := n2_; have HI101 := n3_; clear n0_ n1_ n2_ n3_; clear hb hbox hg) | ((with_reducible refine gate_callee (f := 35) rfl ?_); refine goesL_ (some 10) rfl rfl Try.func35 (by kernel_rfl) rfl #[.pointer (some ⟨gb101, 0, none⟩), .int .i64 5] rfl tc0_ ?_; (with_reducible refine (spec_l1Cur_signs.calls k gb101 l0 0 0 5 t102 t105 t106 w _ ?side1 ?side2 A2.out).mono ?_); (case side1 => exact tc7_); (case side2 => exact tc9_); rintro e w17 ⟨v103, rfl, ho0, hi, hb, hk⟩; refine ⟨_, rfl, ?_⟩; have n0_ := am_ (Kd.S_lower ho0 (below_size tc9_)); have n1_ := am_ (hb); have n2_ := am_ (hi); clear HB HI101; have HO104 := n0_; have HB := n1_; have HI101 := n2_; clear n0_ n1_ n2_; (try clear hb hk hi ho0); obtain ⟨Ao18, co18, eo18⟩ := Kd.S_slice HO104.out; subst eo18) | ((with_reducible refine gate_callee (f := 38) rfl ?_); refine goesL_ (some 12) rfl rfl Try.func38 (by kernel_rfl) rfl #[.slice Ao18 t102.length co18] rfl tc0_ ?_; (with_reducible refine (spec_sgGood.calls k _ _ t102 true _ ?side1 ?side2 A3.out).mono ?_); (case side1 => exact tc18_); (case side2 => exact tc49_); rintro e w19 ⟨rfl, hb⟩; refine ⟨_, rfl, ?_⟩; have n0_ := am_ (Kd.S_below tc15_ hb); have n1_ := am_ (IsS44.below tc7_ hb); have n2_ := am_ (below_step tc9_ hb); clear HO104 HI101 HB; have HO104 := n0_; have HI101 := n1_; have HB := n2_; clear n0_ n1_ n2_; (try clear hb)) | ((with_reducible refine gate_callee (f := 39) rfl ?_); refine goesL_ (some 16) rfl rfl Try.func39 (by kernel_rfl) rfl #[.slice Ao18 t102.length co18] rfl tc0_ ?_; (with_reducible refine (spec_weKinds.calls k _ _ t102 t108 _ ?side1 ?side2 A5.out).mono ?_); (case side1 => exact tc18_); (case side2 => exact tc49_); rintro e w20 ⟨v109, rfl, ho0, hb⟩; refine ⟨_, rfl, ?_⟩; have n0_ := am_ (Kd.S_elder' tc15_ (Kd.S_base ho0) hb); have n1_ := am_ (Kd.S_lower (Kd.S_new' ho0 (Kd.S_lt tc15_)) (below_size tc9_)); have n2_ := am_ (IsS44.below tc7_ hb); have n3_ := am_ (below_step tc9_ hb); clear HO104 HI101 HB; have HO104 := n0_; have HO110 := n1_; have HI101 := n2_; have HB := n3_; clear n0_ n1_ n2_ n3_; (try clear hb ho0)) | ((with_reducible refine gate_callee (f := 46) rfl ?_); refine goesL_ (some 18) rfl rfl Try.func46 (by kernel_rfl) rfl #[.pointer (some ⟨gb101, 0, none⟩), .int .i64 4] rfl tc0_ ?_; (with_reducible refine (spec_l1Cur_one.calls gb101 l0 t105 t106 4 true t112 t113 w _ ?side1 ?side2 A6.out).mono ?_); (case side1 => exact tc7_); (case side2 => exact tc9_); rintro e w21 ⟨rfl, hi, hb, hk⟩; refine ⟨_, rfl, ?_⟩; have n0_ := am_ (Kd.S_mono (Kd.S_keep (IsS44.apartS (show IsS44 w _ gb101 l0 t105 t106 from tc7_) tc15_ (by decide)) hk (fun _ h => h.2)) (fun _ h => h.1)); have n1_ := am_ (Kd.S_mono (Kd.S_keep (IsS44.apartS (show IsS44 w _ gb101 l0 t105 t106 from tc7_) tc31_ (by decide)) hk (fun _ h => h.2)) (fun _ h => h.1)); have n2_ := am_ (hb); have n3_ := am_ (hi); clear HO104 HO110; clear HB HI101; have HO104 := n0_; have HO110 := n1_; have HB := n2_; have HI101 := n3_; clear n0_ n1_ n2_ n3_; (try clear hb hk hi)))
       have n0_ := am_ (Kd.S_drew HO104.out)
       have n1_ := am_ (Kd.S_drew HO110.out)
       have n2_ := am_ (IsS44.drew HI101.out)
       have n3_ := am_ (below_drew1 HB.out)
       clear HO104
       clear HO110
       clear HI101
       clear HB
       have HO104 := n0_
       have HO110 := n1_
       have HI101 := n2_
       have HB := n3_
       clear n0_ n1_ n2_ n3_
       obtain ⟨Ao23, co23, eo23⟩ := Kd.S_slice HO110.out
       (first | subst eo23 | (injection eo23 with f1_ f2_ f3_; have f4_ := f1_.symm; have f5_ := f3_.symm; clear f1_ f2_ f3_; subst f4_; subst f5_))
       have p117 : 0 ≤ (t114 : Int) := of_decide_eq_true tc2_
       have q117 : t114 < (t108.length : Int) := of_decide_eq_true tc2_
       obtain ⟨ad117, A117_0, c117_0, e117, hx117_0, hl117_0, hi117_0⟩ := at_L3 (Kd.S_reads' HO110.out).2.2 t114 p117 q117
       cases e117
       obtain ⟨ce117, hce117, hMe117, hcc117⟩ := Kd.S_get HO110.out [] t114 p117 (by first | exact q117 | exact of_decide_eq_true tc2_ | (have e_ := (Kd.S_reads' HO110.out).1; omega))
       obtain ⟨ve117_0, rfl, ge117_0⟩ := hMe117
       have hv117_0 := hcc117 0 _ rfl
       rw [Nat.add_zero, show ((Kd.slice 3 (Kd.int .i64))).sz = 1 from rfl, Nat.mul_one] at hv117_0
       replace hv117_0 := Option.some.inj (hv117_0.symm.trans hx117_0)
       rw [hv117_0] at ge117_0
       have HL117_0 := am_ (show Kd.R (Kd.int .i64) 3 _ _ _ _ (rd_L3 t108 t114) from ge117_0)
       clear hv117_0 ge117_0
       have HX117_0 := am_ hx117_0
       clear hcc117 hce117
       have HR117_0 := am_ hi117_0
       have HC117_0 := am_ hl117_0
       clear hi117_0 hl117_0
       replace p117 := eq_true p117
       replace q117 := eq_true q117
       refine start_ (n := 16) (S := fun w' => w'.cell? (ad117.add (t114).toNat) = some (.slice A117_0 (rd_L3 t108 t114).length c117_0)) (ds := [15]) #[false, false, false, false, false, false, false, false, false, false, false, false, false, false, false, false] (by kernel_rfl) rfl rfl (hx117_0) (fun hHeld => ?_); refine with_tabW spec_DrawFromKinds.tab7 spec_DrawFromKinds.bits7 (fun HT_ HW_ => ?_)
       generalize w21.drew = w22 at HO104 HO110 HI101 HB HL117_0 HR117_0 HX117_0 hx117_0 hHeld ⊢
       refine pure_ (i := 0) (N := some 19) (v := ?_) (a' := ?_) #[true, false, false, false, false, false, false, false, false, false, false, false, false, false, false, false] rfl rfl (any_of HT_.out (by kernel_rfl)) (fun _ _ _ h => h) (Or.inl ⟨by rfl, ?_⟩) ?_ ?_
       rotate_left
       ·intro w'
        go_simp
        with_reducible rfl
       rotate_left
       ·simp only [Act.put, List.setIfInBounds_toArray, List.set_cons_zero, List.set_cons_succ, i64_w, i32_w]
        rfl
       refine pure_ (i := 1) (N := some 20) (v := ?_) (a' := ?_) #[true, true, false, false, false, false, false, false, false, false, false, false, false, false, false, false] rfl rfl (any_of HT_.out (by kernel_rfl)) (fun _ _ _ h => h) (Or.inl ⟨by rfl, ?_⟩) ?_ ?_
       rotate_left
       ·intro w'
        go_simp
        with_reducible rfl
       rotate_left
       ·simp only [Act.put, List.setIfInBounds_toArray, List.set_cons_zero, List.set_cons_succ, i64_w, i32_w]
        rfl
       refine pure_ (i := 2) (N := some 21) (v := ?_) (a' := ?_) #[true, true, true, false, false, false, false, false, false, false, false, false, false, false, false, false] rfl rfl (any_of HT_.out (by kernel_rfl)) (fun _ _ _ h => h) (Or.inl ⟨by rfl, ?_⟩) ?_ ?_
       rotate_left
       ·intro w'
        go_simp
        with_reducible rfl
       rotate_left
       ·simp only [Act.put, List.setIfInBounds_toArray, List.set_cons_zero, List.set_cons_succ, i64_w, i32_w]
        rfl
       refine pure_ (i := 3) (N := some 22) (v := ?_) (a' := ?_) #[true, true, true, true, false, false, false, false, false, false, false, false, false, false, false, false] rfl rfl (any_of HT_.out (by kernel_rfl)) (fun _ _ _ h => h) (Or.inl ⟨by rfl, ?_⟩) ?_ ?_
       rotate_left
       ·intro w'
        go_simp
        with_reducible rfl
       rotate_left
       ·simp only [Act.put, List.setIfInBounds_toArray, List.set_cons_zero, List.set_cons_succ, i64_w, i32_w]
        rfl
       refine pure_ (i := 7) (N := some 26) (v := ?_) (a' := ?_) #[true, true, true, true, false, false, false, true, false, false, false, false, false, false, false, false] rfl rfl (any_of HT_.out (by kernel_rfl)) (fun _ _ _ h => h) (Or.inl ⟨by rfl, ?_⟩) ?_ ?_
       rotate_left
       ·intro w'
        go_simp
        with_reducible rfl
       rotate_left
       ·simp only [Act.put, List.setIfInBounds_toArray, List.set_cons_zero, List.set_cons_succ, i64_w, i32_w]
        rfl
       refine pure_ (i := 8) (N := some 27) (v := ?_) (a' := ?_) #[true, true, true, true, false, false, false, true, true, false, false, false, false, false, false, false] rfl rfl (any_of HT_.out (by kernel_rfl)) (fun _ _ _ h => h) (Or.inl ⟨by rfl, ?_⟩) ?_ ?_
       rotate_left
       ·intro w'
        go_simp
        with_reducible rfl
       rotate_left
       ·simp only [Act.put, List.setIfInBounds_toArray, List.set_cons_zero, List.set_cons_succ, i64_w, i32_w]
        rfl
       refine pure_ (i := 9) (N := some 28) (v := ?_) (a' := ?_) #[true, true, true, true, false, false, false, true, true, true, false, false, false, false, false, false] rfl rfl (any_of HT_.out (by kernel_rfl)) (fun _ _ _ h => h) (Or.inl ⟨by rfl, ?_⟩) ?_ ?_
       rotate_left
       ·intro w'
        go_simp
        with_reducible rfl
       rotate_left
       ·simp only [Act.put, List.setIfInBounds_toArray, List.set_cons_zero, List.set_cons_succ, i64_w, i32_w]
        rfl
       refine pure_ (i := 11) (N := some 30) (v := ?_) (a' := ?_) #[true, true, true, true, false, false, false, true, true, true, false, true, false, false, false, false] rfl rfl (any_of HT_.out (by kernel_rfl)) (fun _ _ _ h => h) (Or.inl ⟨by rfl, ?_⟩) ?_ ?_
       rotate_left
       ·intro w'
        go_simp
        with_reducible rfl
       rotate_left
       ·simp only [Act.put, List.setIfInBounds_toArray, List.set_cons_zero, List.set_cons_succ, i64_w, i32_w]
        rfl
       refine one_ (i := 4) (N := some 23) #[true, true, true, true, true, false, false, true, true, true, false, true, false, false, false, false] rfl rfl (one_of HT_.out (by kernel_rfl)) (by decide) (fun K hK => ?_)
       refine goes_ Try.func47 (by kernel_rfl) rfl #[.pointer (some ⟨gb101, 0, none⟩), .int .i64 (t108.length : Int)] (by rfl) rfl rfl tc0_ ?_
       with_reducible refine (spec_l1Cur_pick.calls gb101 l0 t112 t113 (t108.length : Int) t114 t115 t116 w _ ?side1 ?side2 A8.out).mono ?_
       (case side1 => exact tc7_)
       (case side2 => exact tc9_)
       rintro e w24 ⟨rfl, hi, hb, hk⟩
       have HS0_ := keep_cell hk (hHeld) tc30_
       refine ⟨_, rfl, ?_⟩
       have n0_ := am_ (Kd.S_mono (Kd.S_keep (IsS44.apartS (show IsS44 w _ gb101 l0 t112 t113 from tc7_) tc15_ (by decide)) hk (fun _ h => h.2)) (fun _ h => h.1))
       have n1_ := am_ (Kd.S_mono (Kd.S_keep (IsS44.apartS (show IsS44 w _ gb101 l0 t112 t113 from tc7_) tc31_ (by decide)) hk (fun _ h => h.2)) (fun _ h => h.1))
       have n2_ := am_ (hb)
       have n3_ := am_ (hi)
       have ma_ := am_ (Kd.R_mono (Kd.R_keep (IsS44.apart (show IsS44 w _ gb101 l0 t112 t113 from tc7_) tc51_ (by decide)) hk (fun _ h => h.2)) (fun _ h => h.1))
       have mb_ := am_ (keep_cell hk HX117_0.out tc24_)
       clear HL117_0 HX117_0
       have HL117_0 := ma_
       have HX117_0 := mb_
       clear ma_ mb_
       clear HO104
       clear HO110
       clear HB
       clear HI101
       have HO104 := n0_
       have HO110 := n1_
       have HB := n2_
       have HI101 := n3_
       clear n0_ n1_ n2_ n3_
       (try clear hb)
       (try clear hb2)
       (try clear hk)
       (try clear hi)
       refine hK.out _ _ (HS0_) (fun hHeld => ?_)
       clear hK K
       refine norm_ (a' := ?_) ?_ ?_
       rotate_left
       ·show Act.put _ (some 23) _ = _
        simp only [Act.put, List.setIfInBounds_toArray, List.set_cons_zero, List.set_cons_succ, i64_w, i32_w]
        rfl
       refine pure_ (i := 5) (N := some 24) (v := ?_) (a' := ?_) #[true, true, true, true, true, true, false, true, true, true, false, true, false, false, false, false] rfl rfl (any_of HT_.out (by kernel_rfl)) (fun _ _ _ h => h) (Or.inl ⟨by rfl, ?_⟩) ?_ ?_
       rotate_left
       ·intro w'
        go_simp
        with_reducible rfl
       rotate_left
       ·simp only [Act.put, List.setIfInBounds_toArray, List.set_cons_zero, List.set_cons_succ, i64_w, i32_w]
        rfl
       refine take_ (i := 6) (N := some 25) (v := ?_) (a' := ?_) #[true, true, true, true, true, true, true, true, true, true, false, true, false, false, false, false] rfl rfl (take_ofW HT_.out HW_.out (by kernel_rfl)) (fun _ _ _ h => h) (Or.inl ⟨by rfl, ?_⟩) hHeld ?_ ?_
       rotate_left
       ·intro w' s0
        go_simp
        with_reducible rfl
       rotate_left
       ·simp only [Act.put, List.setIfInBounds_toArray, List.set_cons_zero, List.set_cons_succ, i64_w, i32_w]
        rfl
       refine one_ (i := 10) (N := some 29) #[true, true, true, true, true, true, true, true, true, true, true, true, false, false, false, false] rfl rfl (one_of HT_.out (by kernel_rfl)) (by decide) (fun K hK => ?_)
       refine goes_ Try.func47 (by kernel_rfl) rfl #[.pointer (some ⟨gb101, 0, none⟩), .int .i64 (t108.length : Int)] (by rfl) rfl rfl tc0_ ?_
       with_reducible refine (spec_l1Cur_pick.calls gb101 l0 t115 t116 (t108.length : Int) t118 t119 t120 w _ ?side1 ?side2 A11.out).mono ?_
       (case side1 => exact tc7_)
       (case side2 => exact tc9_)
       rintro e w25 ⟨rfl, hi, hb, hk⟩
       have HS0_ := keep_cell hk (hHeld) tc30_
       refine ⟨_, rfl, ?_⟩
       have n0_ := am_ (Kd.S_mono (Kd.S_keep (IsS44.apartS (show IsS44 w _ gb101 l0 t115 t116 from tc7_) tc15_ (by decide)) hk (fun _ h => h.2)) (fun _ h => h.1))
       have n1_ := am_ (Kd.S_mono (Kd.S_keep (IsS44.apartS (show IsS44 w _ gb101 l0 t115 t116 from tc7_) tc31_ (by decide)) hk (fun _ h => h.2)) (fun _ h => h.1))
       have n2_ := am_ (Kd.R_mono (Kd.R_keep (IsS44.apart (show IsS44 w _ gb101 l0 t115 t116 from tc7_) tc51_ (by decide)) hk (fun _ h => h.2)) (fun _ h => h.1))
       have n3_ := am_ (keep_cell hk HX117_0.out tc24_)
       have n4_ := am_ (hb)
       have n5_ := am_ (hi)
       clear HO104
       clear HO110
       clear HL117_0
       clear HX117_0
       clear HB
       clear HI101
       have HO104 := n0_
       have HO110 := n1_
       have HL117_0 := n2_
       have HX117_0 := n3_
       have HB := n4_
       have HI101 := n5_
       clear n0_ n1_ n2_ n3_ n4_ n5_
       (try clear hb)
       (try clear hb2)
       (try clear hk)
       (try clear hi)
       refine hK.out _ _ (HS0_) (fun hHeld => ?_)
       clear hK K
       refine norm_ (a' := ?_) ?_ ?_
       rotate_left
       ·show Act.put _ (some 29) _ = _
        simp only [Act.put, List.setIfInBounds_toArray, List.set_cons_zero, List.set_cons_succ, i64_w, i32_w]
        rfl
       refine one_ (i := 12) (N := some 31) #[true, true, true, true, true, true, true, true, true, true, true, true, true, false, false, false] rfl rfl (one_of HT_.out (by kernel_rfl)) (by decide) (fun K hK => ?_)
       refine goes_ Try.func47 (by kernel_rfl) rfl #[.pointer (some ⟨gb101, 0, none⟩), .int .i64 8] (by rfl) rfl rfl tc0_ ?_
       with_reducible refine (spec_l1Cur_pick.calls gb101 l0 t119 t120 8 t121 t122 t123 w _ ?side1 ?side2 A12.out).mono ?_
       (case side1 => exact tc7_)
       (case side2 => exact tc9_)
       rintro e w26 ⟨rfl, hi, hb, hk⟩
       have HS0_ := keep_cell hk (hHeld) tc30_
       refine ⟨_, rfl, ?_⟩
       have n0_ := am_ (Kd.S_mono (Kd.S_keep (IsS44.apartS (show IsS44 w _ gb101 l0 t119 t120 from tc7_) tc15_ (by decide)) hk (fun _ h => h.2)) (fun _ h => h.1))
       have n1_ := am_ (Kd.S_mono (Kd.S_keep (IsS44.apartS (show IsS44 w _ gb101 l0 t119 t120 from tc7_) tc31_ (by decide)) hk (fun _ h => h.2)) (fun _ h => h.1))
       have n2_ := am_ (Kd.R_mono (Kd.R_keep (IsS44.apart (show IsS44 w _ gb101 l0 t119 t120 from tc7_) tc51_ (by decide)) hk (fun _ h => h.2)) (fun _ h => h.1))
       have n3_ := am_ (keep_cell hk HX117_0.out tc24_)
       have n4_ := am_ (hb)
       have n5_ := am_ (hi)
       clear HO104
       clear HO110
       clear HL117_0
       clear HX117_0
       clear HB
       clear HI101
       have HO104 := n0_
       have HO110 := n1_
       have HL117_0 := n2_
       have HX117_0 := n3_
       have HB := n4_
       have HI101 := n5_
       clear n0_ n1_ n2_ n3_ n4_ n5_
       (try clear hb)
       (try clear hb2)
       (try clear hk)
       (try clear hi)
       have p15 : 0 ≤ (t118 : Int) := of_decide_eq_true tc2_
       have q15 : (t118 : Int) < (((rd_L3 t108 t114).length : Int) : Int) := of_decide_eq_true tc2_
       obtain ⟨go15, co15, eo15, gb15, gl15, cl15, HG15⟩ := Kd.R_form HL117_0.out (by omega)
       (first | cases eo15 | (injection eo15 with ea_ en_ ec_; (first | subst ea_ | (injection ea_ with ea_; subst ea_)); subst ec_; clear en_))
       have GB15 := am_ gb15
       have GG15 := am_ HG15
       clear gb15 gl15 HG15
       obtain ⟨hx15_0, hf15_0⟩ := Kd.R_celln 0 HL117_0.out (t118 : Int) p15 q15
       replace p15 := eq_true p15
       replace q15 := eq_true q15
       have n_ := am_ (Kd.S_mono (ok' := (fun k_ => some k_ ≠ (.slice Ao18 t102.length co18 : Value).ownBlock)) HO110.out (fun k_ hk => hk.2))
       clear HO110
       have HO110 := n_
       clear n_
       have hq27 : (t114 : Int) < (t108.length : Int) := (by have h_ : (t114 : Int) < ((t108.length : Int) : Int) := of_decide_eq_true tc2_; first | exact h_ | (have e_ := (Kd.S_reads' HO110.out).1; omega) | simpa only [List.length_set, List.length_set] using h_)
       obtain ⟨oki27, ce27, hcl27, hM27, hcc27, hok27, hbk27⟩ := Kd.S_borrow HO110.out [] (t114 : Int) (of_decide_eq_true tc2_) hq27
       obtain ⟨ve27_0, rfl, ge27_0⟩ := hM27
       have hv27 := hcc27 0 _ rfl
       rw [Nat.add_zero, show ((Kd.slice 3 (Kd.int .i64))).sz = 1 from rfl, Nat.mul_one] at hv27
       replace hv27 := Option.some.inj (hv27.symm.trans HX117_0.out)
       subst hv27
       clear hcc27 hcl27
       replace ge27_0 := (show Kd.R (Kd.int .i64) 3 _ _ _ _ (rd_L3 t108 t114) from ge27_0)
       have HP27 := Kd.R_putg ge27_0 (t118 : Int) (wrap64 (t121 - 1))
       have HN101_go15 := am_ (show gb101 ≠ go15 from (by have h_ := IsS44.own_ne HI101.out HL117_0.out (by decide); intro e_; exact h_ (by rw [e_]; rfl)))
       rw [← Ny124.out] at HP27
       have HS27 := hbk27 HP27.2 (fun k_ e_ => by injection e_ with e_; subst e_; exact ge27_0.1 _ rfl) (x' := y124) (Kd.M_row HP27.1)
       rw [← Ny126.out] at HS27
       have HQ27 := am_ HS27
       clear HP27 HS27 hbk27 hok27
       refine hK.out _ _ (HS0_) (fun hHeld => ?_)
       clear hK K
       refine norm_ (a' := ?_) ?_ ?_
       rotate_left
       ·show Act.put _ (some 31) _ = _
        simp only [Act.put, List.setIfInBounds_toArray, List.set_cons_zero, List.set_cons_succ, i64_w, i32_w]
        rfl
       refine pure_ (i := 13) (N := some 32) (v := ?_) (a' := ?_) #[true, true, true, true, true, true, true, true, true, true, true, true, true, true, false, false] rfl rfl (any_of HT_.out (by kernel_rfl)) (fun _ _ _ h => h) (Or.inl ⟨by rfl, ?_⟩) ?_ ?_
       rotate_left
       ·intro w'
        go_simp
        with_reducible rfl
       rotate_left
       ·simp only [Act.put, List.setIfInBounds_toArray, List.set_cons_zero, List.set_cons_succ, i64_w, i32_w]
        rfl
       refine pure_ (i := 14) (N := some 33) (v := ?_) (a' := ?_) #[true, true, true, true, true, true, true, true, true, true, true, true, true, true, true, false] rfl rfl (any_of HT_.out (by kernel_rfl)) (fun _ _ _ h => h) (Or.inl ⟨by rfl, ?_⟩) ?_ ?_
       rotate_left
       ·intro w'
        go_simp
        with_reducible rfl
       rotate_left
       ·simp only [Act.put, List.setIfInBounds_toArray, List.set_cons_zero, List.set_cons_succ, i64_w, i32_w]
        rfl
       refine last_ (i := 15) (N := none) #[true, true, true, true, true, true, true, true, true, true, true, true, true, true, true, true] rfl rfl (one_of HT_.out (by kernel_rfl)) (by decide) (fun K hK => ?_)
       refine skip_ (w1 := ?_) (by rfl) rfl ?_ ?_
       rotate_left
       ·go_simp
        rfl
       refine hK.out _ _ ?_
       clear hK K
       refine done_ (done_of HT_.out (by kernel_rfl)) ?_
       try go_wp2
       go_ret
       exact ⟨_, by first | rfl | (simp [errW_none, errW_some] <;> rfl) | (simp [*, errW_none, errW_some] <;> rfl), by (with_reducible repeat (first | apply Kd.S_alloc | apply Kd.S_drewN | apply Kd.S_drew)); exact Kd.S_mono HQ27.out (fun _ hk => trivial), by repeat (first | (with_reducible first | exact HB.out | apply below_alloc | apply pw_below_drewN | apply below_drew1 | refine below_set ?_ GB15.out | refine below_set ?_ (IsS44.ge HI101.out)) | exact HB.out)⟩
      ·rw [if_neg c14] at H
       exact absurd H (by simp)
     ·rw [if_neg c13] at H
      exact absurd H (by simp)
    ·rw [if_neg c10] at H
     exact absurd H (by simp)
   ·rw [if_neg c9] at H
    exact absurd H (by simp)
  ·replace c7 := Bool.eq_false_iff.mpr c7
   subst c7
   have H1 : (some t108) = some r := by rw [if_neg (show ¬ (false = true) by decide)] at H; exact H
   clear H
   have H := H1
   clear H1
   obtain rfl := Option.some.inj H
   go_enter Try.func14, Try.ntmps14
   go_wp2_with (first | ((with_reducible refine gate_dst (N := 8) rfl ?_); refine box_event ?hg (N := 8) ?hd (cs := #[.slice A0 l0.length c0, .int .i64 0, .int .u64 0]) (t := 44) ?hr ?_; (case hd => rfl); (case hg => rfl); (case hr => exact tc27_); intro gb101 hg w29 hbox hb; have n0_ := am_ (below_step tc1_ hb); have n1_ := am_ ((by rw [hg]; exact (below_size tc1_) : w.heap.size ≤ gb101)); have n2_ := am_ ((by rw [hg]; exact (below_size tc1_) : w.heap.size ≤ gb101)); have n3_ := am_ ((show IsS44 w w29 gb101 l0 0 0 from ⟨A0, c0, hbox, (by rw [hg]; exact (below_size tc1_) : w.heap.size ≤ gb101), HR0.out⟩)); clear HB; have HB := n0_; have GW101 := n1_; have GE101 := n2_; have HI101 := n3_; clear n0_ n1_ n2_ n3_; clear hb hbox hg) | ((with_reducible refine gate_callee (f := 35) rfl ?_); refine goesL_ (some 10) rfl rfl Try.func35 (by kernel_rfl) rfl #[.pointer (some ⟨gb101, 0, none⟩), .int .i64 5] rfl tc0_ ?_; (with_reducible refine (spec_l1Cur_signs.calls k gb101 l0 0 0 5 t102 t105 t106 w _ ?side1 ?side2 A2.out).mono ?_); (case side1 => exact tc7_); (case side2 => exact tc9_); rintro e w30 ⟨v103, rfl, ho0, hi, hb, hk⟩; refine ⟨_, rfl, ?_⟩; have n0_ := am_ (Kd.S_lower ho0 (below_size tc9_)); have n1_ := am_ (hb); have n2_ := am_ (hi); clear HB HI101; have HO104 := n0_; have HB := n1_; have HI101 := n2_; clear n0_ n1_ n2_; (try clear hb hk hi ho0); obtain ⟨Ao31, co31, eo31⟩ := Kd.S_slice HO104.out; subst eo31) | ((with_reducible refine gate_callee (f := 38) rfl ?_); refine goesL_ (some 12) rfl rfl Try.func38 (by kernel_rfl) rfl #[.slice Ao31 t102.length co31] rfl tc0_ ?_; (with_reducible refine (spec_sgGood.calls k _ _ t102 true _ ?side1 ?side2 A3.out).mono ?_); (case side1 => exact tc18_); (case side2 => exact tc49_); rintro e w32 ⟨rfl, hb⟩; refine ⟨_, rfl, ?_⟩; have n0_ := am_ (Kd.S_below tc15_ hb); have n1_ := am_ (IsS44.below tc7_ hb); have n2_ := am_ (below_step tc9_ hb); clear HO104 HI101 HB; have HO104 := n0_; have HI101 := n1_; have HB := n2_; clear n0_ n1_ n2_; (try clear hb)) | ((with_reducible refine gate_callee (f := 39) rfl ?_); refine goesL_ (some 16) rfl rfl Try.func39 (by kernel_rfl) rfl #[.slice Ao31 t102.length co31] rfl tc0_ ?_; (with_reducible refine (spec_weKinds.calls k _ _ t102 t108 _ ?side1 ?side2 A5.out).mono ?_); (case side1 => exact tc18_); (case side2 => exact tc49_); rintro e w33 ⟨v109, rfl, ho0, hb⟩; refine ⟨_, rfl, ?_⟩; have n0_ := am_ (Kd.S_elder' tc15_ (Kd.S_base ho0) hb); have n1_ := am_ (Kd.S_lower (Kd.S_new' ho0 (Kd.S_lt tc15_)) (below_size tc9_)); have n2_ := am_ (IsS44.below tc7_ hb); have n3_ := am_ (below_step tc9_ hb); clear HO104 HI101 HB; have HO104 := n0_; have HO110 := n1_; have HI101 := n2_; have HB := n3_; clear n0_ n1_ n2_ n3_; (try clear hb ho0)) | ((with_reducible refine gate_callee (f := 46) rfl ?_); refine goesL_ (some 18) rfl rfl Try.func46 (by kernel_rfl) rfl #[.pointer (some ⟨gb101, 0, none⟩), .int .i64 4] rfl tc0_ ?_; (with_reducible refine (spec_l1Cur_one.calls gb101 l0 t105 t106 4 false t112 t113 w _ ?side1 ?side2 A6.out).mono ?_); (case side1 => exact tc7_); (case side2 => exact tc9_); rintro e w34 ⟨rfl, hi, hb, hk⟩; refine ⟨_, rfl, ?_⟩; have n0_ := am_ (Kd.S_mono (Kd.S_keep (IsS44.apartS (show IsS44 w _ gb101 l0 t105 t106 from tc7_) tc15_ (by decide)) hk (fun _ h => h.2)) (fun _ h => h.1)); have n1_ := am_ (Kd.S_mono (Kd.S_keep (IsS44.apartS (show IsS44 w _ gb101 l0 t105 t106 from tc7_) tc31_ (by decide)) hk (fun _ h => h.2)) (fun _ h => h.1)); have n2_ := am_ (hb); have n3_ := am_ (hi); clear HO104 HO110; clear HB HI101; have HO104 := n0_; have HO110 := n1_; have HB := n2_; have HI101 := n3_; clear n0_ n1_ n2_ n3_; (try clear hb hk hi)))
   go_ret
   exact ⟨_, by first | rfl | (simp [errW_none, errW_some] <;> rfl) | (simp [*, errW_none, errW_some] <;> rfl), by (with_reducible repeat (first | apply Kd.S_alloc | apply Kd.S_drewN | apply Kd.S_drew)); exact Kd.S_mono HO110.out (fun _ hk => trivial), by repeat (first | (with_reducible first | exact HB.out | apply below_alloc | apply pw_below_drewN | apply below_drew1 | refine below_set ?_ (IsS44.ge HI101.out)) | exact HB.out)⟩
 ·replace c4 := Bool.eq_false_iff.mpr c4
  subst c4
  have H1 : (some t102) = some r := by rw [if_neg (show ¬ (false = true) by decide)] at H; exact H
  clear H
  have H := H1
  clear H1
  obtain rfl := Option.some.inj H
  go_enter Try.func14, Try.ntmps14
  go_wp2_with (first | ((with_reducible refine gate_dst (N := 8) rfl ?_); refine box_event ?hg (N := 8) ?hd (cs := #[.slice A0 l0.length c0, .int .i64 0, .int .u64 0]) (t := 44) ?hr ?_; (case hd => rfl); (case hg => rfl); (case hr => exact tc27_); intro gb101 hg w35 hbox hb; have n0_ := am_ (below_step tc1_ hb); have n1_ := am_ ((by rw [hg]; exact (below_size tc1_) : w.heap.size ≤ gb101)); have n2_ := am_ ((by rw [hg]; exact (below_size tc1_) : w.heap.size ≤ gb101)); have n3_ := am_ ((show IsS44 w w35 gb101 l0 0 0 from ⟨A0, c0, hbox, (by rw [hg]; exact (below_size tc1_) : w.heap.size ≤ gb101), HR0.out⟩)); clear HB; have HB := n0_; have GW101 := n1_; have GE101 := n2_; have HI101 := n3_; clear n0_ n1_ n2_ n3_; clear hb hbox hg) | ((with_reducible refine gate_callee (f := 35) rfl ?_); refine goesL_ (some 10) rfl rfl Try.func35 (by kernel_rfl) rfl #[.pointer (some ⟨gb101, 0, none⟩), .int .i64 5] rfl tc0_ ?_; (with_reducible refine (spec_l1Cur_signs.calls k gb101 l0 0 0 5 t102 t105 t106 w _ ?side1 ?side2 A2.out).mono ?_); (case side1 => exact tc7_); (case side2 => exact tc9_); rintro e w36 ⟨v103, rfl, ho0, hi, hb, hk⟩; refine ⟨_, rfl, ?_⟩; have n0_ := am_ (Kd.S_lower ho0 (below_size tc9_)); have n1_ := am_ (hb); have n2_ := am_ (hi); clear HB HI101; have HO104 := n0_; have HB := n1_; have HI101 := n2_; clear n0_ n1_ n2_; (try clear hb hk hi ho0); obtain ⟨Ao37, co37, eo37⟩ := Kd.S_slice HO104.out; subst eo37) | ((with_reducible refine gate_callee (f := 38) rfl ?_); refine goesL_ (some 12) rfl rfl Try.func38 (by kernel_rfl) rfl #[.slice Ao37 t102.length co37] rfl tc0_ ?_; (with_reducible refine (spec_sgGood.calls k _ _ t102 false _ ?side1 ?side2 A3.out).mono ?_); (case side1 => exact tc18_); (case side2 => exact tc49_); rintro e w38 ⟨rfl, hb⟩; refine ⟨_, rfl, ?_⟩; have n0_ := am_ (Kd.S_below tc15_ hb); have n1_ := am_ (IsS44.below tc7_ hb); have n2_ := am_ (below_step tc9_ hb); clear HO104 HI101 HB; have HO104 := n0_; have HI101 := n1_; have HB := n2_; clear n0_ n1_ n2_; (try clear hb)))
  go_ret
  exact ⟨_, by first | rfl | (simp [errW_none, errW_some] <;> rfl) | (simp [*, errW_none, errW_some] <;> rfl), by (with_reducible repeat (first | apply Kd.S_alloc | apply Kd.S_drewN | apply Kd.S_drew)); exact HO104.out, by repeat (first | (with_reducible first | exact HB.out | apply below_alloc | apply pw_below_drewN | apply below_drew1 | refine below_set ?_ (IsS44.ge HI101.out)) | exact HB.out)⟩

/-! ### impl_bit: function 50 -/
def impl_bit.f (a0 : Bool) : Option (Int) := if a0 = true then (some 1) else (some 0)
set_option maxHeartbeats 8000000 in
set_option maxRecDepth 100000 in
theorem impl_bit.calls (a0 : Bool) (r : Int) (w : World) (h : impl_bit.f a0 = some r) :
  Calls Try.prog 50 #[.bool a0] w fun e w' => e = .returned (.int .i64 r) ∧ Drawn0 w w' := by
 have H : (if a0 = true then (some 1) else (some 0)) = some r := h
 clear h
 by_cases c2 : a0 = true
 ·subst c2
  have H1 : (some 1) = some r := by rw [if_pos rfl] at H; exact H
  clear H
  have H := H1
  clear H1
  obtain rfl := Option.some.inj H
  go_enter Try.func50, Try.ntmps50
  go_wp2
  go_ret
  exact ⟨by first | rfl | (simp; done) | (simp [*]; done), by repeat (first | exact Drawn0.refl _ | apply Drawn0.step)⟩
 ·replace c2 := Bool.eq_false_iff.mpr c2
  subst c2
  have H1 : (some 0) = some r := by rw [if_neg (show ¬ (false = true) by decide)] at H; exact H
  clear H
  have H := H1
  clear H1
  obtain rfl := Option.some.inj H
  go_enter Try.func50, Try.ntmps50
  go_wp2
  go_ret
  exact ⟨by first | rfl | (simp; done) | (simp [*]; done), by repeat (first | exact Drawn0.refl _ | apply Drawn0.step)⟩

/-! ### impl_FromKinds_1: function 49 -/
def impl_FromKinds_1.f (a0 : Int) (a1 : Int) (l2_0 : List (List Int)) : Option (Int) := if 0 ≤ a0 then (if a0 < (l2_0.length : Int) then (if 0 ≤ a1 then (if a1 < ((rd_L3 l2_0 a0).length : Int) then ((impl_bit.f ((rd (rd_L3 l2_0 a0) a1) == 4)).bind fun t103 => ((impl_bit.f ((rd (rd_L3 l2_0 a0) a1) == 5)).bind fun t106 => (some (wrap64 (t103 - t106))))) else (none)) else (none)) else (none)) else (none)
set_option maxHeartbeats 8000000 in
set_option maxRecDepth 100000 in
theorem impl_FromKinds_1.calls (a0 : Int) (a1 : Int) (B2 : Nat) (A2_0 : Option Addr) (c2_0 : Nat) (l2_0 : List (List Int)) (r : Int) (w : World) (hb2 : w.heap[B2]? = some (.cells #[.slice A2_0 l2_0.length c2_0] 24 (0, 0))) (hr2_0 : Kd.C (Kd.slice 3 (Kd.int .i64)) w A2_0 l2_0.length l2_0) (hc2_0 : l2_0.length ≤ c2_0) (h : impl_FromKinds_1.f a0 a1 l2_0 = some r) :
  Calls Try.prog 49 #[.int .i64 a0, .int .i64 a1, .pointer (some ⟨B2, 0, none⟩)] w fun e w' => e = .returned (.int .i64 r) ∧ Drawn0 w w' := by
 have HR2_0 := am_ hr2_0
 have HC2_0 := am_ hc2_0
 clear hr2_0 hc2_0
 have BK62 := am_ hb2
 clear hb2
 have H : (if 0 ≤ a0 then (if a0 < (l2_0.length : Int) then (if 0 ≤ a1 then (if a1 < ((rd_L3 l2_0 a0).length : Int) then ((impl_bit.f ((rd (rd_L3 l2_0 a0) a1) == 4)).bind fun t103 => ((impl_bit.f ((rd (rd_L3 l2_0 a0) a1) == 5)).bind fun t106 => (some (wrap64 (t103 - t106))))) else (none)) else (none)) else (none)) else (none)) = some r := h
 clear h
 by_cases c4 : 0 ≤ a0
 ·rw [if_pos c4] at H
  have c4b0 : decide (0 ≤ a0) = true := decide_eq_true c4
  clear c4
  by_cases c5 : a0 < (l2_0.length : Int)
  ·rw [if_pos c5] at H
   have c5b0 : decide (a0 < (l2_0.length : Int)) = true := decide_eq_true c5
   clear c5
   by_cases c6 : 0 ≤ a1
   ·rw [if_pos c6] at H
    have c6b0 : decide (0 ≤ a1) = true := decide_eq_true c6
    clear c6
    by_cases c7 : a1 < ((rd_L3 l2_0 a0).length : Int)
    ·rw [if_pos c7] at H
     have c7b0 : decide (a1 < ((rd_L3 l2_0 a0).length : Int)) = true := decide_eq_true c7
     clear c7
     replace H := Option.bind_eq_some_iff.mp H
     obtain ⟨t103, A80, H⟩ := H
     replace H : ((impl_bit.f ((rd (rd_L3 l2_0 a0) a1) == 5)).bind fun t106 => (some (wrap64 (t103 - t106)))) = some r := H
     have A8 := am_ A80
     clear A80
     replace H := Option.bind_eq_some_iff.mp H
     obtain ⟨t106, A90, H⟩ := H
     replace H : (some (wrap64 (t103 - t106))) = some r := H
     have A9 := am_ A90
     clear A90
     obtain rfl := Option.some.inj H
     have hcz10_0 : w.cell? ⟨B2, 0, none⟩ = some (.slice A2_0 l2_0.length c2_0) := (blk_cell BK62.out 0).trans rfl
     have hfz10_0 := blk_frozen BK62.out 0
     have p101 : 0 ≤ (a0 : Int) := of_decide_eq_true tc2_
     have q101 : a0 < (l2_0.length : Int) := of_decide_eq_true tc2_
     obtain ⟨ad101, A101_0, c101_0, e101, hx101_0, hl101_0, hi101_0⟩ := at_L3 HR2_0.out a0 p101 q101
     cases e101
     have HR101_0 := am_ hi101_0
     have HC101_0 := am_ hl101_0
     clear hi101_0 hl101_0
     replace p101 := eq_true p101
     replace q101 := eq_true q101
     have p102 : 0 ≤ (a1 : Int) := of_decide_eq_true tc2_
     have q102 : a1 < ((rd_L3 l2_0 a0).length : Int) := of_decide_eq_true tc2_
     obtain ⟨ad102, e102, hx102_0⟩ := Kd.at_int HR101_0.out a1 p102 q102
     cases e102
     replace p102 := eq_true p102
     replace q102 := eq_true q102
     go_enter Try.func49, Try.ntmps49
     go_wp2_with (first | (go_at_call 50; (with_reducible refine (impl_bit.calls ((rd (rd_L3 l2_0 a0) a1) == 4) t103 _ A8.out).mono ?_); rintro e w' ⟨rfl, ⟨nd, rfl⟩⟩; (try first | exact ⟨rfl, _, World.drewN_drewN _ _ _⟩ | exact ⟨rfl, _, Eq.trans (World.drewN_drewN _ _ _) (congrArg (World.drewN _) (Nat.add_assoc _ _ _))⟩); have p104 : 0 ≤ (a0 : Int) := of_decide_eq_true tc2_; have q104 : a0 < (l2_0.length : Int) := of_decide_eq_true tc2_; obtain ⟨ad104, A104_0, c104_0, e104, hx104_0, hl104_0, hi104_0⟩ := at_L3 HR2_0.out a0 p104 q104; obtain rfl : ad101 = ad104 := (by injection e104); have HR104_0 := am_ hi104_0; have HC104_0 := am_ hl104_0; clear hi104_0 hl104_0; replace p104 := eq_true p104; replace q104 := eq_true q104; have ea_ := Option.some.inj (hx101_0.symm.trans hx104_0); injection ea_ with ea_ en_ ec_; subst ea_; subst ec_; clear en_; have p105 : 0 ≤ (a1 : Int) := of_decide_eq_true tc2_; have q105 : a1 < ((rd_L3 l2_0 a0).length : Int) := of_decide_eq_true tc2_; obtain ⟨ad105, e105, hx105_0⟩ := Kd.at_int HR104_0.out a1 p105 q105; cases e105; replace p105 := eq_true p105; replace q105 := eq_true q105) | (go_at_call 50; (with_reducible refine (impl_bit.calls ((rd (rd_L3 l2_0 a0) a1) == 5) t106 _ A9.out).mono ?_); rintro e w' ⟨rfl, ⟨nd, rfl⟩⟩; (try first | exact ⟨rfl, _, World.drewN_drewN _ _ _⟩ | exact ⟨rfl, _, Eq.trans (World.drewN_drewN _ _ _) (congrArg (World.drewN _) (Nat.add_assoc _ _ _))⟩)))
     repeat (go_quiet (first | (go_at_call 50; (with_reducible refine (impl_bit.calls ((rd (rd_L3 l2_0 a0) a1) == 4) t103 _ A8.out).mono ?_); rintro e w' ⟨rfl, ⟨nd, rfl⟩⟩; (try first | exact ⟨rfl, _, World.drewN_drewN _ _ _⟩ | exact ⟨rfl, _, Eq.trans (World.drewN_drewN _ _ _) (congrArg (World.drewN _) (Nat.add_assoc _ _ _))⟩); have p104 : 0 ≤ (a0 : Int) := of_decide_eq_true tc2_; have q104 : a0 < (l2_0.length : Int) := of_decide_eq_true tc2_; obtain ⟨ad104, A104_0, c104_0, e104, hx104_0, hl104_0, hi104_0⟩ := at_L3 HR2_0.out a0 p104 q104; obtain rfl : ad101 = ad104 := (by injection e104); have HR104_0 := am_ hi104_0; have HC104_0 := am_ hl104_0; clear hi104_0 hl104_0; replace p104 := eq_true p104; replace q104 := eq_true q104; have ea_ := Option.some.inj (hx101_0.symm.trans hx104_0); injection ea_ with ea_ en_ ec_; subst ea_; subst ec_; clear en_; have p105 : 0 ≤ (a1 : Int) := of_decide_eq_true tc2_; have q105 : a1 < ((rd_L3 l2_0 a0).length : Int) := of_decide_eq_true tc2_; obtain ⟨ad105, e105, hx105_0⟩ := Kd.at_int HR104_0.out a1 p105 q105; cases e105; replace p105 := eq_true p105; replace q105 := eq_true q105) | (go_at_call 50; (with_reducible refine (impl_bit.calls ((rd (rd_L3 l2_0 a0) a1) == 5) t106 _ A9.out).mono ?_); rintro e w' ⟨rfl, ⟨nd, rfl⟩⟩; (try first | exact ⟨rfl, _, World.drewN_drewN _ _ _⟩ | exact ⟨rfl, _, Eq.trans (World.drewN_drewN _ _ _) (congrArg (World.drewN _) (Nat.add_assoc _ _ _))⟩))); try go_wp2_with (first | (go_at_call 50; (with_reducible refine (impl_bit.calls ((rd (rd_L3 l2_0 a0) a1) == 4) t103 _ A8.out).mono ?_); rintro e w' ⟨rfl, ⟨nd, rfl⟩⟩; (try first | exact ⟨rfl, _, World.drewN_drewN _ _ _⟩ | exact ⟨rfl, _, Eq.trans (World.drewN_drewN _ _ _) (congrArg (World.drewN _) (Nat.add_assoc _ _ _))⟩); have p104 : 0 ≤ (a0 : Int) := of_decide_eq_true tc2_; have q104 : a0 < (l2_0.length : Int) := of_decide_eq_true tc2_; obtain ⟨ad104, A104_0, c104_0, e104, hx104_0, hl104_0, hi104_0⟩ := at_L3 HR2_0.out a0 p104 q104; obtain rfl : ad101 = ad104 := (by injection e104); have HR104_0 := am_ hi104_0; have HC104_0 := am_ hl104_0; clear hi104_0 hl104_0; replace p104 := eq_true p104; replace q104 := eq_true q104; have ea_ := Option.some.inj (hx101_0.symm.trans hx104_0); injection ea_ with ea_ en_ ec_; subst ea_; subst ec_; clear en_; have p105 : 0 ≤ (a1 : Int) := of_decide_eq_true tc2_; have q105 : a1 < ((rd_L3 l2_0 a0).length : Int) := of_decide_eq_true tc2_; obtain ⟨ad105, e105, hx105_0⟩ := Kd.at_int HR104_0.out a1 p105 q105; cases e105; replace p105 := eq_true p105; replace q105 := eq_true q105) | (go_at_call 50; (with_reducible refine (impl_bit.calls ((rd (rd_L3 l2_0 a0) a1) == 5) t106 _ A9.out).mono ?_); rintro e w' ⟨rfl, ⟨nd, rfl⟩⟩; (try first | exact ⟨rfl, _, World.drewN_drewN _ _ _⟩ | exact ⟨rfl, _, Eq.trans (World.drewN_drewN _ _ _) (congrArg (World.drewN _) (Nat.add_assoc _ _ _))⟩))))
     go_ret
     exact ⟨by first | rfl | (simp; done) | (simp [i64_w]; done) | (simp [*]; done), by repeat (first | exact Drawn0.refl _ | apply Drawn0.step)⟩
    ·rw [if_neg c7] at H
     exact absurd H (by simp)
   ·rw [if_neg c6] at H
    exact absurd H (by simp)
  ·rw [if_neg c5] at H
   exact absurd H (by simp)
 ·rw [if_neg c4] at H
  exact absurd H (by simp)

/-! ### slices_CompareFunc_int_int_int_int: function 85 -/
def slices_CompareFunc_int_int_int_int.l0 : Nat → List (List Int) → List (List Int) → ((List Int) → (List Int) → Option Int) → List (List Int) → Int → Int → Option (Int)
 | 0, _, _, _, _, _, _ => none
 | k + 1, x0, x1, x2, x11, x12, x13 => if x13 < x12 then (if 0 ≤ x13 then (if x13 < (x11.length : Int) then (if x13 ≥ (x1.length : Int) then (some 1) else (if x13 < (x1.length : Int) then ((x2 (rd_L3 x11 x13) (rd_L3 x1 x13)).bind fun t103 => (if t103 = 0 then (slices_CompareFunc_int_int_int_int.l0 k x0 x1 x2 x11 x12 (wrap64 (x13 + 1))) else (some t103))) else (none))) else (none)) else (none)) else (if (x0.length : Int) < (x1.length : Int) then (some (-1)) else (some 0))
def slices_CompareFunc_int_int_int_int.f (k : Nat) (l0 : List (List Int)) (l1 : List (List Int)) (a2 : ((List Int) → (List Int) → Option Int)) : Option (Int) := slices_CompareFunc_int_int_int_int.l0 k l0 l1 a2 l0 (l0.length : Int) 0
set_option maxHeartbeats 8000000 in
set_option maxRecDepth 100000 in
theorem slices_CompareFunc_int_int_int_int.calls (k : Nat) (A0 : Option Addr) (c0 : Nat) (l0 : List (List Int)) (A1 : Option Addr) (c1 : Nat) (l1 : List (List Int)) (g2 : Nat) (b2 : Array Value) (a2 : ((List Int) → (List Int) → Option Int)) (r : Int) (w : World) (hr0 : Kd.C (Kd.slice 3 (Kd.int .i64)) w A0 l0.length l0) (hc0 : l0.length ≤ c0) (hr1 : Kd.C (Kd.slice 3 (Kd.int .i64)) w A1 l1.length l1) (hc1 : l1.length ≤ c1) (hf2 : Fn2 (Kd.slice 3 (Kd.int .i64)) (Kd.slice 3 (Kd.int .i64)) (Value.int .i64) Try.prog g2 b2 a2 w) (h : slices_CompareFunc_int_int_int_int.f k l0 l1 a2 = some r) :
  Calls Try.prog 85 #[.slice A0 l0.length c0, .slice A1 l1.length c1, .func (.func g2) #[] b2] w fun e w' => e = .returned (.int .i64 r) ∧ Below w.heap.size w w' := by
 have HR0 := am_ hr0
 have HC0 := am_ hc0
 clear hr0 hc0
 have HR1 := am_ hr1
 have HC1 := am_ hc1
 clear hr1 hc1
 have HF2 := am_ hf2.cl
 have eg2 := hf2.eg
 clear hf2
 have HB := am_ (Below.refl w.heap.size w)
 have H : (slices_CompareFunc_int_int_int_int.l0 k l0 l1 a2 l0 (l0.length : Int) 0) = some r := h
 clear h
 have H' := am_ H
 clear H
 go_enter Try.func85, Try.ntmps85
 go_wp2
 go_loopg [13] k (fun kq v13 w' => ∃ (x13_1 : Int), v13 = .int .i64 x13_1 ∧ Aside0 (slices_CompareFunc_int_int_int_int.l0 kq l0 l1 a2 l0 (l0.length : Int) x13_1 = some r) ∧ Aside0 (kq ≤ k) ∧ Aside0 (Below w.heap.size w w'))
 case atStart => exact ⟨(0), tc6_, H', ⟨Nat.le_refl _⟩, ⟨by repeat (first | (with_reducible first | exact HB.out | apply below_alloc | apply pw_below_drewN | apply below_drew1) | exact HB.out)⟩⟩
 case round =>
  clear H'
  try clear c1
  try clear p2
  obtain ⟨x13_1, rfl, HA, HK1, HB⟩ := hrel
  cases gk with
  | zero => exact absurd HA.out (by simp [slices_CompareFunc_int_int_int_int.l0])
  | succ k1 =>
   have H := HA.out
   clear HA
   simp only [slices_CompareFunc_int_int_int_int.l0] at H
   by_cases c4 : x13_1 < (l0.length : Int)
   ·rw [if_pos c4] at H
    have c4b0 : decide (x13_1 < (l0.length : Int)) = true := decide_eq_true c4
    clear c4
    by_cases c5 : 0 ≤ x13_1
    ·rw [if_pos c5] at H
     have c5b0 : decide (0 ≤ x13_1) = true := decide_eq_true c5
     clear c5
     by_cases c6 : x13_1 < (l0.length : Int)
     ·rw [if_pos c6] at H
      have c6b0 : decide (x13_1 < (l0.length : Int)) = true := decide_eq_true c6
      clear c6
      by_cases c7 : x13_1 ≥ (l1.length : Int)
      ·rw [if_pos c7] at H
       have c7b0 : decide ((l1.length : Int) ≤ x13_1) = true := decide_eq_true c7
       clear c7
       obtain rfl := Option.some.inj H
       have p101 : 0 ≤ (x13_1 : Int) := of_decide_eq_true tc2_
       have q101 : x13_1 < (l0.length : Int) := of_decide_eq_true tc2_
       obtain ⟨ad101, A101_0, c101_0, e101, hx101_0, hl101_0, hi101_0⟩ := at_L3 HR0.out x13_1 p101 q101
       cases e101
       replace hx101_0 := (HB.out.cell (World.block_lt_of_cell? w _ hx101_0)).trans hx101_0
       have HR101_0 := am_ hi101_0
       have HC101_0 := am_ hl101_0
       clear hi101_0 hl101_0
       replace p101 := eq_true p101
       replace q101 := eq_true q101
       go_wp2
       go_ret
       exact ⟨by first | rfl | (simp [errW_none, errW_some] <;> rfl) | (simp [*, errW_none, errW_some] <;> rfl), by repeat (first | (with_reducible first | exact HB.out | apply below_alloc | apply pw_below_drewN | apply below_drew1) | exact HB.out)⟩
      ·rw [if_neg c7] at H
       have c7b0 : decide ((l1.length : Int) ≤ x13_1) = false := decide_eq_false c7
       clear c7
       by_cases c8 : x13_1 < (l1.length : Int)
       ·rw [if_pos c8] at H
        have c8b0 : decide (x13_1 < (l1.length : Int)) = true := decide_eq_true c8
        clear c8
        replace H := Option.bind_eq_some_iff.mp H
        obtain ⟨t103, A90, H⟩ := H
        replace H : (if t103 = 0 then (slices_CompareFunc_int_int_int_int.l0 k1 l0 l1 a2 l0 (l0.length : Int) (wrap64 (x13_1 + 1))) else (some t103)) = some r := H
        have A9 := am_ A90
        clear A90
        by_cases c10 : t103 = 0
        ·rw [if_pos c10] at H
         have c10b0 : (t103 == 0) = true := beq_iff_eq.mpr c10
         have c10b1 : (t103 != 0) = false := bne_eq_false_iff_eq.mpr c10
         clear c10
         have H' := am_ H
         clear H
         have p101 : 0 ≤ (x13_1 : Int) := of_decide_eq_true tc2_
         have q101 : x13_1 < (l0.length : Int) := of_decide_eq_true tc2_
         obtain ⟨ad101, A101_0, c101_0, e101, hx101_0, hl101_0, hi101_0⟩ := at_L3 HR0.out x13_1 p101 q101
         cases e101
         replace hx101_0 := (HB.out.cell (World.block_lt_of_cell? w _ hx101_0)).trans hx101_0
         have HR101_0 := am_ hi101_0
         have HC101_0 := am_ hl101_0
         clear hi101_0 hl101_0
         replace p101 := eq_true p101
         replace q101 := eq_true q101
         have p102 : 0 ≤ (x13_1 : Int) := of_decide_eq_true tc2_
         have q102 : x13_1 < (l1.length : Int) := of_decide_eq_true tc2_
         obtain ⟨ad102, A102_0, c102_0, e102, hx102_0, hl102_0, hi102_0⟩ := at_L3 HR1.out x13_1 p102 q102
         cases e102
         replace hx102_0 := (HB.out.cell (World.block_lt_of_cell? w _ hx102_0)).trans hx102_0
         have HR102_0 := am_ hi102_0
         have HC102_0 := am_ hl102_0
         clear hi102_0 hl102_0
         replace p102 := eq_true p102
         replace q102 := eq_true q102
         go_wp2_with (first | (go_at_fn g2; (refine (HF2.out _ ?side1 (rd_L3 l0 x13_1) _ (K_slice ?side2 ?side3) (rd_L3 l1 x13_1) _ (K_slice ?side4 ?side5) t103 A9.out).mono ?_); (case side1 => exact tc16_); (case side2 => exact HC101_0.out); (case side3 => exact tc34_); (case side4 => exact HC102_0.out); (case side5 => repeat (first | exact (Kd.C_below HR102_0.out HB.out) | (with_reducible refine Kd.C_alloc ?_ _) | (with_reducible refine Kd.C_drewN ?_ _) | (with_reducible refine Kd.C_drew ?_))); rintro e w11 ⟨rfl, hb⟩; have n0_ := am_ (below_step tc1_ hb); clear HB; have HB := n0_; clear n0_; (try clear hb)))
         go_roundg k1
         case measure => have := HK1.out; omega
         case rel => exact ⟨(wrap64 (x13_1 + 1)), tc6_, H', ⟨by have := HK1.out; omega⟩, ⟨by repeat (first | (with_reducible first | exact HB.out | apply below_alloc | apply pw_below_drewN | apply below_drew1) | exact HB.out)⟩⟩
        ·rw [if_neg c10] at H
         have c10b0 : (t103 == 0) = false := beq_eq_false_iff_ne.mpr c10
         have c10b1 : (t103 != 0) = true := bne_iff_ne.mpr c10
         obtain rfl := Option.some.inj H
         have p101 : 0 ≤ (x13_1 : Int) := of_decide_eq_true tc2_
         have q101 : x13_1 < (l0.length : Int) := of_decide_eq_true tc2_
         obtain ⟨ad101, A101_0, c101_0, e101, hx101_0, hl101_0, hi101_0⟩ := at_L3 HR0.out x13_1 p101 q101
         cases e101
         replace hx101_0 := (HB.out.cell (World.block_lt_of_cell? w _ hx101_0)).trans hx101_0
         have HR101_0 := am_ hi101_0
         have HC101_0 := am_ hl101_0
         clear hi101_0 hl101_0
         replace p101 := eq_true p101
         replace q101 := eq_true q101
         have p102 : 0 ≤ (x13_1 : Int) := of_decide_eq_true tc2_
         have q102 : x13_1 < (l1.length : Int) := of_decide_eq_true tc2_
         obtain ⟨ad102, A102_0, c102_0, e102, hx102_0, hl102_0, hi102_0⟩ := at_L3 HR1.out x13_1 p102 q102
         cases e102
         replace hx102_0 := (HB.out.cell (World.block_lt_of_cell? w _ hx102_0)).trans hx102_0
         have HR102_0 := am_ hi102_0
         have HC102_0 := am_ hl102_0
         clear hi102_0 hl102_0
         replace p102 := eq_true p102
         replace q102 := eq_true q102
         go_wp2_with (first | (go_at_fn g2; (refine (HF2.out _ ?side1 (rd_L3 l0 x13_1) _ (K_slice ?side2 ?side3) (rd_L3 l1 x13_1) _ (K_slice ?side4 ?side5) t103 A9.out).mono ?_); (case side1 => exact tc16_); (case side2 => exact HC101_0.out); (case side3 => exact tc34_); (case side4 => exact HC102_0.out); (case side5 => repeat (first | exact (Kd.C_below HR102_0.out HB.out) | (with_reducible refine Kd.C_alloc ?_ _) | (with_reducible refine Kd.C_drewN ?_ _) | (with_reducible refine Kd.C_drew ?_))); rintro e w12 ⟨rfl, hb⟩; have n0_ := am_ (below_step tc1_ hb); clear HB; have HB := n0_; clear n0_; (try clear hb)))
         go_ret
         exact ⟨by first | rfl | (simp [errW_none, errW_some] <;> rfl) | (simp [*, errW_none, errW_some] <;> rfl), by repeat (first | (with_reducible first | exact HB.out | apply below_alloc | apply pw_below_drewN | apply below_drew1) | exact HB.out)⟩
       ·rw [if_neg c8] at H
        exact absurd H (by simp)
     ·rw [if_neg c6] at H
      exact absurd H (by simp)
    ·rw [if_neg c5] at H
     exact absurd H (by simp)
   ·rw [if_neg c4] at H
    have c4b0 : decide (x13_1 < (l0.length : Int)) = false := decide_eq_false c4
    clear c4
    by_cases c13 : (l0.length : Int) < (l1.length : Int)
    ·rw [if_pos c13] at H
     have c13b0 : decide ((l0.length : Int) < (l1.length : Int)) = true := decide_eq_true c13
     have c13b1 : decide (l0.length < l1.length) = true := decide_eq_true (Int.ofNat_lt.mp c13)
     clear c13
     obtain rfl := Option.some.inj H
     go_wp2
     go_ret
     exact ⟨by first | rfl | (simp [errW_none, errW_some] <;> rfl) | (simp [*, errW_none, errW_some] <;> rfl), by repeat (first | (with_reducible first | exact HB.out | apply below_alloc | apply pw_below_drewN | apply below_drew1) | exact HB.out)⟩
    ·rw [if_neg c13] at H
     have c13b0 : decide ((l0.length : Int) < (l1.length : Int)) = false := decide_eq_false c13
     have c13b1 : decide (l0.length < l1.length) = false := decide_eq_false (fun h => c13 (Int.ofNat_lt.mpr h))
     clear c13
     obtain rfl := Option.some.inj H
     go_wp2
     go_ret
     exact ⟨by first | rfl | (simp [errW_none, errW_some] <;> rfl) | (simp [*, errW_none, errW_some] <;> rfl), by repeat (first | (with_reducible first | exact HB.out | apply below_alloc | apply pw_below_drewN | apply below_drew1) | exact HB.out)⟩

/-! ### cmp_isNaN_int: function 100 -/
def cmp_isNaN_int.f (a0 : Int) : Option (Bool) := some (a0 != a0)
set_option maxHeartbeats 8000000 in
set_option maxRecDepth 100000 in
theorem cmp_isNaN_int.calls (a0 : Int) (r : Bool) (w : World) (h : cmp_isNaN_int.f a0 = some r) :
  Calls Try.prog 100 #[.int .i64 a0] w fun e w' => e = .returned (.bool r) ∧ Drawn0 w w' := by
 have H : (some (a0 != a0)) = some r := h
 clear h
 obtain rfl := Option.some.inj H
 go_enter Try.func100, Try.ntmps100
 go_wp2
 go_ret
 exact ⟨by first | rfl | (simp; done) | (simp [*]; done), by repeat (first | exact Drawn0.refl _ | apply Drawn0.step)⟩

/-! ### cmp_Compare_int: function 96 -/
def cmp_Compare_int.f (a0 : Int) (a1 : Int) : Option (Int) := (cmp_isNaN_int.f a0).bind fun t101 => ((cmp_isNaN_int.f a1).bind fun t102 => (if t101 = true then (if t102 = true then (some 0) else (some (-1))) else (if t102 = true then (some 1) else (if a0 < a1 then (some (-1)) else (if a0 > a1 then (some 1) else (some 0))))))
set_option maxHeartbeats 8000000 in
set_option maxRecDepth 100000 in
theorem cmp_Compare_int.calls (a0 : Int) (a1 : Int) (r : Int) (w : World) (h : cmp_Compare_int.f a0 a1 = some r) :
  Calls Try.prog 96 #[.int .i64 a0, .int .i64 a1] w fun e w' => e = .returned (.int .i64 r) ∧ Drawn0 w w' := by
 have H : ((cmp_isNaN_int.f a0).bind fun t101 => ((cmp_isNaN_int.f a1).bind fun t102 => (if t101 = true then (if t102 = true then (some 0) else (some (-1))) else (if t102 = true then (some 1) else (if a0 < a1 then (some (-1)) else (if a0 > a1 then (some 1) else (some 0))))))) = some r := h
 clear h
 replace H := Option.bind_eq_some_iff.mp H
 obtain ⟨t101, A30, H⟩ := H
 replace H : ((cmp_isNaN_int.f a1).bind fun t102 => (if t101 = true then (if t102 = true then (some 0) else (some (-1))) else (if t102 = true then (some 1) else (if a0 < a1 then (some (-1)) else (if a0 > a1 then (some 1) else (some 0)))))) = some r := H
 have A3 := am_ A30
 clear A30
 replace H := Option.bind_eq_some_iff.mp H
 obtain ⟨t102, A40, H⟩ := H
 replace H : (if t101 = true then (if t102 = true then (some 0) else (some (-1))) else (if t102 = true then (some 1) else (if a0 < a1 then (some (-1)) else (if a0 > a1 then (some 1) else (some 0))))) = some r := H
 have A4 := am_ A40
 clear A40
 by_cases c5 : t101 = true
 ·subst c5
  have H1 : (if t102 = true then (some 0) else (some (-1))) = some r := by rw [if_pos rfl] at H; exact H
  clear H
  have H := H1
  clear H1
  by_cases c6 : t102 = true
  ·subst c6
   have H1 : (some 0) = some r := by rw [if_pos rfl] at H; exact H
   clear H
   have H := H1
   clear H1
   obtain rfl := Option.some.inj H
   go_enter Try.func96, Try.ntmps96
   go_wp2_with (first | ((with_reducible refine gate_callee (f := 100) rfl ?_); refine goesL_ (some 8) rfl rfl Try.func100 (by kernel_rfl) rfl #[.int .i64 a0] rfl tc0_ ?_; (with_reducible refine (cmp_isNaN_int.calls a0 true _ A3.out).mono ?_); rintro e w' ⟨rfl, ⟨nd, rfl⟩⟩; refine ⟨_, rfl, ?_⟩) | ((with_reducible refine gate_callee (f := 100) rfl ?_); refine goesL_ (some 10) rfl rfl Try.func100 (by kernel_rfl) rfl #[.int .i64 a1] rfl tc0_ ?_; (with_reducible refine (cmp_isNaN_int.calls a1 true _ A4.out).mono ?_); rintro e w' ⟨rfl, ⟨nd, rfl⟩⟩; refine ⟨_, rfl, ?_⟩))
   go_ret
   exact ⟨by first | rfl | (simp; done) | (simp [*]; done), by repeat (first | exact Drawn0.refl _ | apply Drawn0.step)⟩
  ·replace c6 := Bool.eq_false_iff.mpr c6
   subst c6
   have H1 : (some (-1)) = some r := by rw [if_neg (show ¬ (false = true) by decide)] at H; exact H
   clear H
   have H := H1
   clear H1
   obtain rfl := Option.some.inj H
   go_enter Try.func96, Try.ntmps96
   go_wp2_with (first | ((with_reducible refine gate_callee (f := 100) rfl ?_); refine goesL_ (some 8) rfl rfl Try.func100 (by kernel_rfl) rfl #[.int .i64 a0] rfl tc0_ ?_; (with_reducible refine (cmp_isNaN_int.calls a0 true _ A3.out).mono ?_); rintro e w' ⟨rfl, ⟨nd, rfl⟩⟩; refine ⟨_, rfl, ?_⟩) | ((with_reducible refine gate_callee (f := 100) rfl ?_); refine goesL_ (some 10) rfl rfl Try.func100 (by kernel_rfl) rfl #[.int .i64 a1] rfl tc0_ ?_; (with_reducible refine (cmp_isNaN_int.calls a1 false _ A4.out).mono ?_); rintro e w' ⟨rfl, ⟨nd, rfl⟩⟩; refine ⟨_, rfl, ?_⟩))
   go_ret
   exact ⟨by first | rfl | (simp; done) | (simp [*]; done), by repeat (first | exact Drawn0.refl _ | apply Drawn0.step)⟩
 ·replace c5 := Bool.eq_false_iff.mpr c5
  subst c5
  have H1 : (if t102 = true then (some 1) else (if a0 < a1 then (some (-1)) else (if a0 > a1 then (some 1) else (some 0)))) = some r := by rw [if_neg (show ¬ (false = true) by decide)] at H; exact H
  clear H
  have H := H1
  clear H1
  by_cases c7 : t102 = true
  ·subst c7
   have H1 : (some 1) = some r := by rw [if_pos rfl] at H; exact H
   clear H
   have H := H1
   clear H1
   obtain rfl := Option.some.inj H
   go_enter Try.func96, Try.ntmps96
   go_wp2_with (first | ((with_reducible refine gate_callee (f := 100) rfl ?_); refine goesL_ (some 8) rfl rfl Try.func100 (by kernel_rfl) rfl #[.int .i64 a0] rfl tc0_ ?_; (with_reducible refine (cmp_isNaN_int.calls a0 false _ A3.out).mono ?_); rintro e w' ⟨rfl, ⟨nd, rfl⟩⟩; refine ⟨_, rfl, ?_⟩) | ((with_reducible refine gate_callee (f := 100) rfl ?_); refine goesL_ (some 10) rfl rfl Try.func100 (by kernel_rfl) rfl #[.int .i64 a1] rfl tc0_ ?_; (with_reducible refine (cmp_isNaN_int.calls a1 true _ A4.out).mono ?_); rintro e w' ⟨rfl, ⟨nd, rfl⟩⟩; refine ⟨_, rfl, ?_⟩))
   go_ret
   exact ⟨by first | rfl | (simp; done) | (simp [*]; done), by repeat (first | exact Drawn0.refl _ | apply Drawn0.step)⟩
  ·replace c7 := Bool.eq_false_iff.mpr c7
   subst c7
   have H1 : (if a0 < a1 then (some (-1)) else (if a0 > a1 then (some 1) else (some 0))) = some r := by rw [if_neg (show ¬ (false = true) by decide)] at H; exact H
   clear H
   have H := H1
   clear H1
   by_cases c8 : a0 < a1
   ·rw [if_pos c8] at H
    have c8b0 : decide (a0 < a1) = true := decide_eq_true c8
    clear c8
    obtain rfl := Option.some.inj H
    go_enter Try.func96, Try.ntmps96
    go_wp2_with (first | ((with_reducible refine gate_callee (f := 100) rfl ?_); refine goesL_ (some 8) rfl rfl Try.func100 (by kernel_rfl) rfl #[.int .i64 a0] rfl tc0_ ?_; (with_reducible refine (cmp_isNaN_int.calls a0 false _ A3.out).mono ?_); rintro e w' ⟨rfl, ⟨nd, rfl⟩⟩; refine ⟨_, rfl, ?_⟩) | ((with_reducible refine gate_callee (f := 100) rfl ?_); refine goesL_ (some 10) rfl rfl Try.func100 (by kernel_rfl) rfl #[.int .i64 a1] rfl tc0_ ?_; (with_reducible refine (cmp_isNaN_int.calls a1 false _ A4.out).mono ?_); rintro e w' ⟨rfl, ⟨nd, rfl⟩⟩; refine ⟨_, rfl, ?_⟩))
    go_ret
    exact ⟨by first | rfl | (simp; done) | (simp [*]; done), by repeat (first | exact Drawn0.refl _ | apply Drawn0.step)⟩
   ·rw [if_neg c8] at H
    have c8b0 : decide (a0 < a1) = false := decide_eq_false c8
    clear c8
    by_cases c9 : a0 > a1
    ·rw [if_pos c9] at H
     have c9b0 : decide (a1 < a0) = true := decide_eq_true c9
     clear c9
     obtain rfl := Option.some.inj H
     go_enter Try.func96, Try.ntmps96
     go_wp2_with (first | ((with_reducible refine gate_callee (f := 100) rfl ?_); refine goesL_ (some 8) rfl rfl Try.func100 (by kernel_rfl) rfl #[.int .i64 a0] rfl tc0_ ?_; (with_reducible refine (cmp_isNaN_int.calls a0 false _ A3.out).mono ?_); rintro e w' ⟨rfl, ⟨nd, rfl⟩⟩; refine ⟨_, rfl, ?_⟩) | ((with_reducible refine gate_callee (f := 100) rfl ?_); refine goesL_ (some 10) rfl rfl Try.func100 (by kernel_rfl) rfl #[.int .i64 a1] rfl tc0_ ?_; (with_reducible refine (cmp_isNaN_int.calls a1 false _ A4.out).mono ?_); rintro e w' ⟨rfl, ⟨nd, rfl⟩⟩; refine ⟨_, rfl, ?_⟩))
     go_ret
     exact ⟨by first | rfl | (simp; done) | (simp [*]; done), by repeat (first | exact Drawn0.refl _ | apply Drawn0.step)⟩
    ·rw [if_neg c9] at H
     have c9b0 : decide (a1 < a0) = false := decide_eq_false c9
     clear c9
     obtain rfl := Option.some.inj H
     go_enter Try.func96, Try.ntmps96
     go_wp2_with (first | ((with_reducible refine gate_callee (f := 100) rfl ?_); refine goesL_ (some 8) rfl rfl Try.func100 (by kernel_rfl) rfl #[.int .i64 a0] rfl tc0_ ?_; (with_reducible refine (cmp_isNaN_int.calls a0 false _ A3.out).mono ?_); rintro e w' ⟨rfl, ⟨nd, rfl⟩⟩; refine ⟨_, rfl, ?_⟩) | ((with_reducible refine gate_callee (f := 100) rfl ?_); refine goesL_ (some 10) rfl rfl Try.func100 (by kernel_rfl) rfl #[.int .i64 a1] rfl tc0_ ?_; (with_reducible refine (cmp_isNaN_int.calls a1 false _ A4.out).mono ?_); rintro e w' ⟨rfl, ⟨nd, rfl⟩⟩; refine ⟨_, rfl, ?_⟩))
     go_ret
     exact ⟨by first | rfl | (simp; done) | (simp [*]; done), by repeat (first | exact Drawn0.refl _ | apply Drawn0.step)⟩

/-! ### slices_Compare_int_int: function 87 -/
def slices_Compare_int_int.l0 : Nat → List Int → List Int → List Int → Int → Int → Option (Int)
 | 0, _, _, _, _, _ => none
 | k + 1, x0, x1, x9, x10, x11 => if x11 < x10 then (if 0 ≤ x11 then (if x11 < (x9.length : Int) then (if x11 ≥ (x1.length : Int) then (some 1) else (if x11 < (x1.length : Int) then ((cmp_Compare_int.f (rd x9 x11) (rd x1 x11)).bind fun t103 => (if t103 = 0 then (slices_Compare_int_int.l0 k x0 x1 x9 x10 (wrap64 (x11 + 1))) else (some t103))) else (none))) else (none)) else (none)) else (if (x0.length : Int) < (x1.length : Int) then (some (-1)) else (some 0))
def slices_Compare_int_int.f (k : Nat) (l0 : List Int) (l1 : List Int) : Option (Int) := slices_Compare_int_int.l0 k l0 l1 l0 (l0.length : Int) 0
set_option maxHeartbeats 8000000 in
set_option maxRecDepth 100000 in
theorem slices_Compare_int_int.calls (k : Nat) (A0 : Option Addr) (c0 : Nat) (l0 : List Int) (A1 : Option Addr) (c1 : Nat) (l1 : List Int) (r : Int) (w : World) (hr0 : Kd.C (Kd.int .i64) w A0 l0.length l0) (hc0 : l0.length ≤ c0) (hr1 : Kd.C (Kd.int .i64) w A1 l1.length l1) (hc1 : l1.length ≤ c1) (h : slices_Compare_int_int.f k l0 l1 = some r) :
  Calls Try.prog 87 #[.slice A0 l0.length c0, .slice A1 l1.length c1] w fun e w' => e = .returned (.int .i64 r) ∧ Drawn0 w w' := by
 have HR0 := am_ hr0
 have HC0 := am_ hc0
 clear hr0 hc0
 have HR1 := am_ hr1
 have HC1 := am_ hc1
 clear hr1 hc1
 have H : (slices_Compare_int_int.l0 k l0 l1 l0 (l0.length : Int) 0) = some r := h
 clear h
 have H' := am_ H
 clear H
 go_enter Try.func87, Try.ntmps87
 go_wp2
 go_loopg [11] k (fun kq v11 w' => ∃ (x11_1 : Int), v11 = .int .i64 x11_1 ∧ Aside0 (slices_Compare_int_int.l0 kq l0 l1 l0 (l0.length : Int) x11_1 = some r) ∧ Aside0 (kq ≤ k) ∧ Drawn0 w w')
 case atStart => exact ⟨(0), tc6_, H', ⟨Nat.le_refl _⟩, by repeat (first | exact Drawn0.refl _ | apply Drawn0.step)⟩
 case round =>
  clear H'
  try clear c1
  try clear p2
  obtain ⟨x11_1, rfl, HA, HK1, ⟨m1, rfl⟩⟩ := hrel
  cases gk with
  | zero => exact absurd HA.out (by simp [slices_Compare_int_int.l0])
  | succ k1 =>
   have H := HA.out
   clear HA
   simp only [slices_Compare_int_int.l0] at H
   by_cases c3 : x11_1 < (l0.length : Int)
   ·rw [if_pos c3] at H
    have c3b0 : decide (x11_1 < (l0.length : Int)) = true := decide_eq_true c3
    clear c3
    by_cases c4 : 0 ≤ x11_1
    ·rw [if_pos c4] at H
     have c4b0 : decide (0 ≤ x11_1) = true := decide_eq_true c4
     clear c4
     by_cases c5 : x11_1 < (l0.length : Int)
     ·rw [if_pos c5] at H
      have c5b0 : decide (x11_1 < (l0.length : Int)) = true := decide_eq_true c5
      clear c5
      by_cases c6 : x11_1 ≥ (l1.length : Int)
      ·rw [if_pos c6] at H
       have c6b0 : decide ((l1.length : Int) ≤ x11_1) = true := decide_eq_true c6
       clear c6
       obtain rfl := Option.some.inj H
       have p101 : 0 ≤ (x11_1 : Int) := of_decide_eq_true tc2_
       have q101 : x11_1 < (l0.length : Int) := of_decide_eq_true tc2_
       obtain ⟨ad101, e101, hx101_0⟩ := Kd.at_int HR0.out x11_1 p101 q101
       cases e101
       replace p101 := eq_true p101
       replace q101 := eq_true q101
       go_wp2
       go_ret
       exact ⟨by first | rfl | (simp; done) | (simp [*]; done), by repeat (first | exact Drawn0.refl _ | apply Drawn0.step)⟩
      ·rw [if_neg c6] at H
       have c6b0 : decide ((l1.length : Int) ≤ x11_1) = false := decide_eq_false c6
       clear c6
       by_cases c7 : x11_1 < (l1.length : Int)
       ·rw [if_pos c7] at H
        have c7b0 : decide (x11_1 < (l1.length : Int)) = true := decide_eq_true c7
        clear c7
        replace H := Option.bind_eq_some_iff.mp H
        obtain ⟨t103, A80, H⟩ := H
        replace H : (if t103 = 0 then (slices_Compare_int_int.l0 k1 l0 l1 l0 (l0.length : Int) (wrap64 (x11_1 + 1))) else (some t103)) = some r := H
        have A8 := am_ A80
        clear A80
        by_cases c9 : t103 = 0
        ·rw [if_pos c9] at H
         have c9b0 : (t103 == 0) = true := beq_iff_eq.mpr c9
         have c9b1 : (t103 != 0) = false := bne_eq_false_iff_eq.mpr c9
         clear c9
         have H' := am_ H
         clear H
         have p101 : 0 ≤ (x11_1 : Int) := of_decide_eq_true tc2_
         have q101 : x11_1 < (l0.length : Int) := of_decide_eq_true tc2_
         obtain ⟨ad101, e101, hx101_0⟩ := Kd.at_int HR0.out x11_1 p101 q101
         cases e101
         replace p101 := eq_true p101
         replace q101 := eq_true q101
         have p102 : 0 ≤ (x11_1 : Int) := of_decide_eq_true tc2_
         have q102 : x11_1 < (l1.length : Int) := of_decide_eq_true tc2_
         obtain ⟨ad102, e102, hx102_0⟩ := Kd.at_int HR1.out x11_1 p102 q102
         cases e102
         replace p102 := eq_true p102
         replace q102 := eq_true q102
         go_wp2_with (first | ((with_reducible refine gate_callee (f := 96) rfl ?_); refine goesL_ (some 26) rfl rfl Try.func96 (by kernel_rfl) rfl #[.int .i64 (rd l0 x11_1), .int .i64 (rd l1 x11_1)] rfl tc0_ ?_; (with_reducible refine (cmp_Compare_int.calls (rd l0 x11_1) (rd l1 x11_1) t103 _ A8.out).mono ?_); rintro e w' ⟨rfl, ⟨nd, rfl⟩⟩; refine ⟨_, rfl, ?_⟩))
         go_roundg k1
         case measure => have := HK1.out; omega
         case rel => exact ⟨(wrap64 (x11_1 + 1)), tc6_, H', ⟨by have := HK1.out; omega⟩, by repeat (first | exact Drawn0.refl _ | apply Drawn0.step)⟩
        ·rw [if_neg c9] at H
         have c9b0 : (t103 == 0) = false := beq_eq_false_iff_ne.mpr c9
         have c9b1 : (t103 != 0) = true := bne_iff_ne.mpr c9
         obtain rfl := Option.some.inj H
         have p101 : 0 ≤ (x11_1 : Int) := of_decide_eq_true tc2_
         have q101 : x11_1 < (l0.length : Int) := of_decide_eq_true tc2_
         obtain ⟨ad101, e101, hx101_0⟩ := Kd.at_int HR0.out x11_1 p101 q101
         cases e101
         replace p101 := eq_true p101
         replace q101 := eq_true q101
         have p102 : 0 ≤ (x11_1 : Int) := of_decide_eq_true tc2_
         have q102 : x11_1 < (l1.length : Int) := of_decide_eq_true tc2_
         obtain ⟨ad102, e102, hx102_0⟩ := Kd.at_int HR1.out x11_1 p102 q102
         cases e102
         replace p102 := eq_true p102
         replace q102 := eq_true q102
         go_wp2_with (first | ((with_reducible refine gate_callee (f := 96) rfl ?_); refine goesL_ (some 26) rfl rfl Try.func96 (by kernel_rfl) rfl #[.int .i64 (rd l0 x11_1), .int .i64 (rd l1 x11_1)] rfl tc0_ ?_; (with_reducible refine (cmp_Compare_int.calls (rd l0 x11_1) (rd l1 x11_1) t103 _ A8.out).mono ?_); rintro e w' ⟨rfl, ⟨nd, rfl⟩⟩; refine ⟨_, rfl, ?_⟩))
         go_ret
         exact ⟨by first | rfl | (simp; done) | (simp [*]; done), by repeat (first | exact Drawn0.refl _ | apply Drawn0.step)⟩
       ·rw [if_neg c7] at H
        exact absurd H (by simp)
     ·rw [if_neg c5] at H
      exact absurd H (by simp)
    ·rw [if_neg c4] at H
     exact absurd H (by simp)
   ·rw [if_neg c3] at H
    have c3b0 : decide (x11_1 < (l0.length : Int)) = false := decide_eq_false c3
    clear c3
    by_cases c10 : (l0.length : Int) < (l1.length : Int)
    ·rw [if_pos c10] at H
     have c10b0 : decide ((l0.length : Int) < (l1.length : Int)) = true := decide_eq_true c10
     have c10b1 : decide (l0.length < l1.length) = true := decide_eq_true (Int.ofNat_lt.mp c10)
     clear c10
     obtain rfl := Option.some.inj H
     go_wp2
     go_ret
     exact ⟨by first | rfl | (simp; done) | (simp [*]; done), by repeat (first | exact Drawn0.refl _ | apply Drawn0.step)⟩
    ·rw [if_neg c10] at H
     have c10b0 : decide ((l0.length : Int) < (l1.length : Int)) = false := decide_eq_false c10
     have c10b1 : decide (l0.length < l1.length) = false := decide_eq_false (fun h => c10 (Int.ofNat_lt.mpr h))
     clear c10
     obtain rfl := Option.some.inj H
     go_wp2
     go_ret
     exact ⟨by first | rfl | (simp; done) | (simp [*]; done), by repeat (first | exact Drawn0.refl _ | apply Drawn0.step)⟩

/-! ### impl_compareTables_1: function 86 -/
def impl_compareTables_1.f (k : Nat) (l0 : List Int) (l1 : List Int) : Option (Int) := (slices_Compare_int_int.f k l0 l1).bind fun t101 => (some t101)
set_option maxHeartbeats 8000000 in
set_option maxRecDepth 100000 in
theorem impl_compareTables_1.calls (k : Nat) (A0 : Option Addr) (c0 : Nat) (l0 : List Int) (A1 : Option Addr) (c1 : Nat) (l1 : List Int) (r : Int) (w : World) (hr0 : Kd.C (Kd.int .i64) w A0 l0.length l0) (hc0 : l0.length ≤ c0) (hr1 : Kd.C (Kd.int .i64) w A1 l1.length l1) (hc1 : l1.length ≤ c1) (h : impl_compareTables_1.f k l0 l1 = some r) :
  Calls Try.prog 86 #[.slice A0 l0.length c0, .slice A1 l1.length c1] w fun e w' => e = .returned (.int .i64 r) ∧ Drawn0 w w' := by
 have HR0 := am_ hr0
 have HC0 := am_ hc0
 clear hr0 hc0
 have HR1 := am_ hr1
 have HC1 := am_ hc1
 clear hr1 hc1
 have H : ((slices_Compare_int_int.f k l0 l1).bind fun t101 => (some t101)) = some r := h
 clear h
 replace H := Option.bind_eq_some_iff.mp H
 obtain ⟨t101, A30, H⟩ := H
 replace H : (some t101) = some r := H
 have A3 := am_ A30
 clear A30
 obtain rfl := Option.some.inj H
 go_enter Try.func86, Try.ntmps86
 go_wp2_with (first | ((with_reducible refine gate_callee (f := 87) rfl ?_); refine goesL_ (some 7) rfl rfl Try.func87 (by kernel_rfl) rfl #[.slice A0 l0.length c0, .slice A1 l1.length c1] rfl tc0_ ?_; (with_reducible refine (slices_Compare_int_int.calls k _ _ l0 _ _ l1 t101 _ ?side1 ?side2 ?side3 ?side4 A3.out).mono ?_); (case side1 => exact tc8_); (case side2 => exact HC0.out); (case side3 => exact tc36_); (case side4 => exact HC1.out); rintro e w' ⟨rfl, ⟨nd, rfl⟩⟩; refine ⟨_, rfl, ?_⟩))
 go_ret
 exact ⟨by first | rfl | (simp; done) | (simp [*]; done), by repeat (first | exact Drawn0.refl _ | apply Drawn0.step)⟩

/-! ### impl_compareTables: function 51 -/
def impl_compareTables.f (k : Nat) (l0 : List (List Int)) (l1 : List (List Int)) : Option (Int) := (slices_CompareFunc_int_int_int_int.f k l0 l1 (fun x0_ x1_ => impl_compareTables_1.f k x0_ x1_)).bind fun t101 => (some t101)
set_option maxHeartbeats 8000000 in
set_option maxRecDepth 100000 in
theorem impl_compareTables.calls (k : Nat) (A0 : Option Addr) (c0 : Nat) (l0 : List (List Int)) (A1 : Option Addr) (c1 : Nat) (l1 : List (List Int)) (r : Int) (w : World) (hr0 : Kd.C (Kd.slice 3 (Kd.int .i64)) w A0 l0.length l0) (hc0 : l0.length ≤ c0) (hr1 : Kd.C (Kd.slice 3 (Kd.int .i64)) w A1 l1.length l1) (hc1 : l1.length ≤ c1) (h : impl_compareTables.f k l0 l1 = some r) :
  Calls Try.prog 51 #[.slice A0 l0.length c0, .slice A1 l1.length c1] w fun e w' => e = .returned (.int .i64 r) ∧ Below w.heap.size w w' := by
 have HR0 := am_ hr0
 have HC0 := am_ hc0
 clear hr0 hc0
 have HR1 := am_ hr1
 have HC1 := am_ hc1
 clear hr1 hc1
 have HB := am_ (Below.refl w.heap.size w)
 have H : ((slices_CompareFunc_int_int_int_int.f k l0 l1 (fun x0_ x1_ => impl_compareTables_1.f k x0_ x1_)).bind fun t101 => (some t101)) = some r := h
 clear h
 replace H := Option.bind_eq_some_iff.mp H
 obtain ⟨t101, A30, H⟩ := H
 replace H : (some t101) = some r := H
 have A3 := am_ A30
 clear A30
 obtain rfl := Option.some.inj H
 go_enter Try.func51, Try.ntmps51
 go_wp2_with (first | ((with_reducible refine gate_callee (f := 85) rfl ?_); refine goesL_ (some 7) rfl rfl Try.func85 (by kernel_rfl) rfl #[.slice A0 l0.length c0, .slice A1 l1.length c1, .func (.func 86) #[] #[]] rfl tc0_ ?_; (with_reducible refine (slices_CompareFunc_int_int_int_int.calls k _ _ l0 _ _ l1 _ _ (fun x0_ x1_ => impl_compareTables_1.f k x0_ x1_) t101 _ ?side1 ?side2 ?side3 ?side4 ?side5 A3.out).mono ?_); (case side1 => exact tc8_); (case side2 => exact HC0.out); (case side3 => exact tc36_); (case side4 => exact HC1.out); (case side5 => refine ⟨enters_of Try.func86 (by kernel_rfl) rfl, fun W_ hW_ x0_ v0_ hK0_ x1_ v1_ hK1_ r_ hr_ => ?_⟩; obtain ⟨A0_, c0_, e0_, hl0_, hC0_⟩ := hK0_; cases e0_; obtain ⟨A1_, c1_, e1_, hl1_, hC1_⟩ := hK1_; cases e1_; refine (impl_compareTables_1.calls k A0_ c0_ x0_ A1_ c1_ x1_ r_ W_ hC0_ hl0_ hC1_ hl1_ hr_).mono ?_; exact fun _ _ h_ => ⟨h_.1, h_.2.below⟩); rintro e w4 ⟨rfl, hb⟩; refine ⟨_, rfl, ?_⟩; have n0_ := am_ (below_step tc1_ hb); clear HB; have HB := n0_; clear n0_; (try clear hb)))
 go_ret
 exact ⟨by first | rfl | (simp [errW_none, errW_some] <;> rfl) | (simp [*, errW_none, errW_some] <;> rfl), by repeat (first | (with_reducible first | exact HB.out | apply below_alloc | apply pw_below_drewN | apply below_drew1) | exact HB.out)⟩

end Go.Proofs.Ytkfoockclldieaa.X
