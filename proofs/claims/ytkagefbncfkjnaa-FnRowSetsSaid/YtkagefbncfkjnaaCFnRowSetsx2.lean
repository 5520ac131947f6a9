-- Written by a program of this session (wip/xprint.py) that drives the kit's print; the contracts of what it does not take are this session's own.
import Derived.Test.YtkagefbncfkjnaaCFnRowSetsx0
import Derived.Test.YtkagefbncfkjnaaCFnRowSetsx1
namespace Go.Proofs.Ytkagefbncfkjnaa.X
open Go.RowKit Go.Proofs.YtkagefbncfkjnaaW.PrintWords Go.Proofs.YtkagefbncfkjnaaW.PrintLast Go.Proofs.YtkagefbncfkjnaaW.PrintMore
attribute [local go_sem] max2_int min2_int max_two min_two max_three min_three max_four min_four   -- for this text's walks alone
set_option linter.unusedVariables false
set_option linter.unusedSimpArgs false

/-! ### spec_l1Cur_sure: function 91 -/
mutual
def spec_l1Cur_sure.l0 : Nat → Int → List (List Int) → Int → Int → List Int → Int → Int → Option ((List (List Int)) × Int × Int)
 | 0, _, _, _, _, _, _, _ => none
 | k + 1, x1, x5, x15, x16, x1000, x1001, x1002 => if x16 < x15 then (spec_l1Cur_sure.l1 k x1 x5 x16 x15 x16 (x5.length : Int) 0 x1000 x1001 x1002) else ((spec_l1Cur_pick.f x1000 x1001 x1002 (wrap64 ((wrap64 (3 * x1)) * x1))).bind fun bt109 => (spec_l1Cur_sure.l2 k x1 x5 bt109.1 x1000 bt109.2.1 bt109.2.2))
def spec_l1Cur_sure.l1 : Nat → Int → List (List Int) → Int → Int → Int → Int → Int → List Int → Int → Int → Option ((List (List Int)) × Int × Int)
 | 0, _, _, _, _, _, _, _, _, _, _ => none
 | k + 1, x1, x5, x6, x15, x16, x20, x21, x1000, x1001, x1002 => if x21 < x20 then (if 0 ≤ x6 then (if x6 < (x5.length : Int) then ((spec_l1Least.f x6 x21).bind fun t105 => (if 0 ≤ x21 then (if x21 < ((rd_L3 x5 x6).length : Int) then (spec_l1Cur_sure.l1 k x1 (x5.set (x6 : Int).toNat ((rd_L3 x5 x6).set (x21 : Int).toNat (wrap64 (t105 + 1)))) x6 x15 x16 x20 (wrap64 (x21 + 1)) x1000 x1001 x1002) else (none)) else (none))) else (none)) else (none)) else (spec_l1Cur_sure.l0 k x1 x5 x15 (wrap64 (x16 + 1)) x1000 x1001 x1002)
def spec_l1Cur_sure.l2 : Nat → Int → List (List Int) → Int → List Int → Int → Int → Option ((List (List Int)) × Int × Int)
 | 0, _, _, _, _, _, _ => none
 | k + 1, x1, x5, x8, x1000, x1001, x1002 => if x8 > 0 then (spec_l1Cur_sure.j3 k x1 x5 x8 (decide (x1 > 1)) x1000 x1001 x1002) else (spec_l1Cur_sure.j3 k x1 x5 x8 false x1000 x1001 x1002)
def spec_l1Cur_sure.j3 : Nat → Int → List (List Int) → Int → Bool → List Int → Int → Int → Option ((List (List Int)) × Int × Int)
 | 0, _, _, _, _, _, _, _ => none
 | k + 1, x1, x5, x8, x47, x1000, x1001, x1002 => if x47 = true then ((spec_l1Cur_pick.f x1000 x1001 x1002 (wrap64 (x1 - 1))).bind fun bt115 => ((spec_l1Cur_pick.f x1000 bt115.2.1 bt115.2.2 (wrap64 (x1 - 1))).bind fun bt118 => ((spec_l1Cur_pick.f x1000 bt118.2.1 bt118.2.2 2).bind fun bt121 => (if 0 ≤ bt115.1 then (if bt115.1 < (x5.length : Int) then (if 0 ≤ bt118.1 then (if bt118.1 < ((rd_L3 x5 bt115.1).length : Int) then ((some (x5.set (bt115.1 : Int).toNat ((rd_L3 x5 bt115.1).set (bt118.1 : Int).toNat (wrap64 ((rd (rd_L3 x5 bt115.1) bt118.1) + (wrap64 ((wrap64 (2 * bt121.1)) - 1))))) : List (List Int))).bind fun y128 => ((spec_sgFrom.f k y128).bind fun t129 => ((spec_sgGood.f k t129).bind fun t132 => (if t132 = true then (spec_l1Cur_sure.l2 k x1 y128 (wrap64 (x8 - 1)) x1000 bt121.2.1 bt121.2.2) else (if bt118.1 < ((rd_L3 y128 bt115.1).length : Int) then (spec_l1Cur_sure.l2 k x1 (y128.set (bt115.1 : Int).toNat ((rd_L3 y128 bt115.1).set (bt118.1 : Int).toNat (wrap64 ((rd (rd_L3 y128 bt115.1) bt118.1) - (wrap64 ((wrap64 (2 * bt121.1)) - 1)))))) (wrap64 (x8 - 1)) x1000 bt121.2.1 bt121.2.2) else (none)))))) else (none)) else (none)) else (none)) else (none))))) else ((spec_sgFrom.f k x5).bind fun t112 => (some (t112, x1001, x1002)))
end
def spec_l1Cur_sure.f (k : Nat) (s0_0 : List Int) (s0_1 : Int) (s0_2 : Int) (a1 : Int) : Option ((List (List Int)) × Int × Int) := (spec_sgZero.f k a1).bind fun t101 => (spec_l1Cur_sure.l0 k a1 t101 (t101.length : Int) 0 s0_0 s0_1 s0_2)
def spec_l1Cur_sure.T8 : Bool × List (List Nat × List Nat) := (true, [([], []), ([], []), ([0, 1], [0, 1]), ([2], [2]), ([], []), ([], []), ([], []), ([5, 6], [5, 6]), ([7], [7]), ([3, 4, 0, 1, 2, 3, 4, 5, 6, 7, 8], [3, 4]), ([9, 8, 7, 0, 1, 2, 3, 4, 5, 6, 7, 8], [8, 9])])
def spec_l1Cur_sure.B8 : List Nat := [0, 0, 3, 7, 0, 0, 0, 96, 224, 511, 1023]
theorem spec_l1Cur_sure.tab8 : rtab .any (opsOf Try.f91 8) = spec_l1Cur_sure.T8 := by kernel_rfl
theorem spec_l1Cur_sure.bits8 : waitsOk spec_l1Cur_sure.T8.2 spec_l1Cur_sure.B8 = true := by kernel_rfl
set_option maxHeartbeats 8000000 in
set_option maxRecDepth 100000 in
theorem spec_l1Cur_sure.calls (k : Nat) (g : Nat) (s0_0 : List Int) (s0_1 : Int) (s0_2 : Int) (a1 : Int) (r1 : List (List Int)) (r2 : Int) (r3 : Int) (w0 w : World) (hI : IsS74 w0 w g s0_0 s0_1 s0_2) (hB : Below w0.heap.size w0 w) (h : spec_l1Cur_sure.f k s0_0 s0_1 s0_2 a1 = some (r1, r2, r3)) :
  Calls Try.prog 91 #[.pointer (some ⟨g, 0, none⟩), .int .i64 a1] w fun e w' => ∃ v0_ : Value, e = .returned (v0_) ∧ Kd.S (Kd.slice 3 (Kd.int .i64)) 28 w' w.heap.size (fun _ => True) v0_ r1 ∧ IsS74 w0 w' g s0_0 r2 r3 ∧ Below w0.heap.size w0 w' ∧ KeepBut w w' g none := by
 have HI0 := am_ hI
 have HK := am_ (KeepBut.refl w g none)
 have HL := am_ hB.size
 clear hI
 have HW0 := am_ hB.size
 have HB := am_ hB
 clear hB
 have H : ((spec_sgZero.f k a1).bind fun t101 => (spec_l1Cur_sure.l0 k a1 t101 (t101.length : Int) 0 s0_0 s0_1 s0_2)) = some (r1, r2, r3) := h
 clear h
 replace H := Option.bind_eq_some_iff.mp H
 obtain ⟨t101, A30, H⟩ := H
 replace H : (spec_l1Cur_sure.l0 k a1 t101 (t101.length : Int) 0 s0_0 s0_1 s0_2) = some (r1, r2, r3) := H
 have A3 := am_ A30
 clear A30
 have H' := am_ H
 clear H
 go_enter Try.func91, Try.ntmps91
 go_wp2_with (first | ((with_reducible refine gate_callee (f := 125) rfl ?_); refine goesL_ (some 13) rfl rfl Try.func125 (by kernel_rfl) rfl #[.int .i64 a1] rfl tc2_ ?_; (with_reducible refine (spec_sgZero.calls k a1 t101 _ A3.out).mono ?_); rintro e w4 ⟨v102, rfl, ho0, hb⟩; refine ⟨_, rfl, ?_⟩; have n0_ := am_ (Kd.S_lower ho0 (keep_size (w := w) (g := g) (row := none) tc4_)); have n1_ := am_ (IsS74.below tc3_ hb); have n2_ := am_ (KeepBut.trans tc4_ (KeepBut.of_below hb g none) (.inl rfl)); have n3_ := am_ (below_step tc5_ hb); clear HI0 HK HB; have HO103 := n0_; have HI0 := n1_; have HK := n2_; have HB := n3_; clear n0_ n1_ n2_ n3_; (try clear hb ho0); obtain ⟨Ao5, co5, eo5⟩ := Kd.S_slice HO103.out; subst eo5))
 go_loopg [16] k (fun kq v16 w' => ∃ (x5_1 : List (List Int)) (x16_1 : Int), v16 = .int .i64 x16_1 ∧ Aside0 (spec_l1Cur_sure.l0 kq a1 x5_1 (t101.length : Int) x16_1 s0_0 s0_1 s0_2 = some (r1, r2, r3)) ∧ Aside0 (kq ≤ k) ∧ Aside0 (Kd.S (Kd.slice 3 (Kd.int .i64)) 28 w' w.heap.size (fun _ => True) (.slice Ao5 t101.length co5) x5_1) ∧ Aside0 (IsS74 w0 w' g s0_0 s0_1 s0_2) ∧ Aside0 (KeepBut w w' g none) ∧ Aside0 (Below w0.heap.size w0 w'))
 case atStart => exact ⟨(t101), (0), tc6_, H', ⟨Nat.le_refl _⟩, ⟨by (with_reducible repeat (first | apply Kd.S_alloc | apply Kd.S_drewN | apply Kd.S_drew)); exact HO103.out⟩, ⟨by repeat (first | (with_reducible first | exact HI0.out | apply IsS74.alloc | apply IsS74.drewN | apply IsS74.drew | apply IsS74.set_1 | apply IsS74.set_2) | exact HI0.out)⟩, ⟨by repeat (first | (with_reducible first | exact HK.out | apply KeepBut.set_ | apply keep_drewN | apply keep_drew | apply keep_alloc) | exact HK.out)⟩, ⟨by repeat (first | (with_reducible first | exact HB.out | apply below_alloc | apply pw_below_drewN | apply below_drew1 | refine below_set ?_ (IsS74.ge HI0.out)) | exact HB.out)⟩⟩
 case round =>
  clear H'
  try clear c1
  try clear p2
  obtain ⟨x5_1, x16_1, rfl, HA, HK1, HO_5, HI0, HK, HB⟩ := hrel
  have hl5_1 := (Kd.S_reads' HO_5.out).1
  rw [hl5_1] at HO_5
  (try simp only [hl5_1])
  cases gk with
  | zero => exact absurd HA.out (by simp [spec_l1Cur_sure.l0])
  | succ k1 =>
   have H := HA.out
   clear HA
   simp only [spec_l1Cur_sure.l0] at H
   by_cases c6 : x16_1 < (t101.length : Int)
   ·rw [if_pos c6] at H
    have c6b0 : decide (x16_1 < (t101.length : Int)) = true := decide_eq_true c6
    (try simp only [hl5_1] at c6b0)
    clear c6
    have H' := am_ H
    clear H
    go_wp2
    go_loopg [21] k1 (fun kq v21 w' => ∃ (x5_2 : List (List Int)) (x21_2 : Int), v21 = .int .i64 x21_2 ∧ Aside0 (spec_l1Cur_sure.l1 kq a1 x5_2 x16_1 (t101.length : Int) x16_1 (x5_1.length : Int) x21_2 s0_0 s0_1 s0_2 = some (r1, r2, r3)) ∧ Aside0 (kq ≤ k1) ∧ Aside0 (Kd.S (Kd.slice 3 (Kd.int .i64)) 28 w' w.heap.size (fun _ => True) (.slice Ao5 x5_1.length co5) x5_2) ∧ Aside0 (IsS74 w0 w' g s0_0 s0_1 s0_2) ∧ Aside0 (KeepBut w w' g none) ∧ Aside0 (Below w0.heap.size w0 w'))
    case atStart => exact ⟨(x5_1), (0), tc6_, H', ⟨Nat.le_refl _⟩, ⟨by (try simp only [hl5_1]); (with_reducible repeat (first | apply Kd.S_alloc | apply Kd.S_drewN | apply Kd.S_drew)); exact HO_5.out⟩, ⟨by repeat (first | (with_reducible first | exact HI0.out | apply IsS74.alloc | apply IsS74.drewN | apply IsS74.drew | apply IsS74.set_1 | apply IsS74.set_2) | exact HI0.out)⟩, ⟨by repeat (first | (with_reducible first | exact HK.out | apply KeepBut.set_ | apply keep_drewN | apply keep_drew | apply keep_alloc) | exact HK.out)⟩, ⟨by repeat (first | (with_reducible first | exact HB.out | apply below_alloc | apply pw_below_drewN | apply below_drew1 | refine below_set ?_ (IsS74.ge HI0.out)) | exact HB.out)⟩⟩
    case round =>
     clear H'
     try clear c1
     try clear p2
     try clear c6
     try clear c6b0
     try clear p2
     obtain ⟨x5_2, x21_2, rfl, HA, HK2, HO_5, HI0, HK, HB⟩ := hrel
     have hl5_2 := (Kd.S_reads' HO_5.out).1
     rw [hl5_2] at HO_5
     (try simp only [hl5_2])
     cases gk with
     | zero => exact absurd HA.out (by simp [spec_l1Cur_sure.l1])
     | succ k2 =>
      have H := HA.out
      clear HA
      simp only [spec_l1Cur_sure.l1] at H
      by_cases c7 : x21_2 < (x5_1.length : Int)
      ·rw [if_pos c7] at H
       have c7b0 : decide (x21_2 < (x5_1.length : Int)) = true := decide_eq_true c7
       (try simp only [hl5_1, hl5_2] at c7b0)
       clear c7
       by_cases c8 : 0 ≤ x16_1
       ·rw [if_pos c8] at H
        have c8b0 : decide (0 ≤ x16_1) = true := decide_eq_true c8
        clear c8
        by_cases c9 : x16_1 < (x5_2.length : Int)
        ·rw [if_pos c9] at H
         have c9b0 : decide (x16_1 < (x5_2.length : Int)) = true := decide_eq_true c9
         (try simp only [hl5_1, hl5_2] at c9b0)
         clear c9
         replace H := Option.bind_eq_some_iff.mp H
         obtain ⟨t105, A100, H⟩ := H
         replace H : (if 0 ≤ x21_2 then (if x21_2 < ((rd_L3 x5_2 x16_1).length : Int) then (spec_l1Cur_sure.l1 k2 a1 (x5_2.set (x16_1 : Int).toNat ((rd_L3 x5_2 x16_1).set (x21_2 : Int).toNat (wrap64 (t105 + 1)))) x16_1 (t101.length : Int) x16_1 (x5_1.length : Int) (wrap64 (x21_2 + 1)) s0_0 s0_1 s0_2) else (none)) else (none)) = some (r1, r2, r3) := H
         have A10 := am_ A100
         clear A100
         by_cases c11 : 0 ≤ x21_2
         ·rw [if_pos c11] at H
          have c11b0 : decide (0 ≤ x21_2) = true := decide_eq_true c11
          clear c11
          by_cases c12 : x21_2 < ((rd_L3 x5_2 x16_1).length : Int)
          ·rw [if_pos c12] at H
           have c12b0 : decide (x21_2 < ((rd_L3 x5_2 x16_1).length : Int)) = true := decide_eq_true c12
           (try simp only [hl5_1, hl5_2] at c12b0)
           clear c12
           obtain ⟨y106, hy106⟩ : ∃ y_ : List Int, y_ = ((rd_L3 x5_2 x16_1).set (x21_2 : Int).toNat (wrap64 (t105 + 1))) := ⟨_, rfl⟩
           replace H : (spec_l1Cur_sure.l1 k2 a1 (x5_2.set (x16_1 : Int).toNat y106) x16_1 (t101.length : Int) x16_1 (x5_1.length : Int) (wrap64 (x21_2 + 1)) s0_0 s0_1 s0_2) = some (r1, r2, r3) := by first | (rw [hy106]; with_reducible exact H) | (have H2_ := (Option.bind_some _ _).symm.trans H; rw [hy106]; with_reducible exact H2_) | (have H2_ := (Option.bind_some _ _).symm.trans H; with_reducible exact H2_) | with_reducible exact H | (rw [hy106]; exact H) | exact H
           have Ny106 := am_ hy106
           clear hy106
           obtain ⟨y108, hy108⟩ : ∃ y_ : List (List Int), y_ = (x5_2.set (x16_1 : Int).toNat y106) := ⟨_, rfl⟩
           replace H : (spec_l1Cur_sure.l1 k2 a1 y108 x16_1 (t101.length : Int) x16_1 (x5_1.length : Int) (wrap64 (x21_2 + 1)) s0_0 s0_1 s0_2) = some (r1, r2, r3) := by first | (rw [hy108]; with_reducible exact H) | (have H2_ := (Option.bind_some _ _).symm.trans H; rw [hy108]; with_reducible exact H2_) | (have H2_ := (Option.bind_some _ _).symm.trans H; with_reducible exact H2_) | with_reducible exact H | (rw [hy108]; exact H) | exact H
           have Ny108 := am_ hy108
           clear hy108
           have H' := am_ H
           clear H
           try go_wp2
           have n0_ := am_ (Kd.S_drew HO_5.out)
           have n1_ := am_ (IsS74.drew HI0.out)
           have n2_ := am_ (keep_drew HK.out)
           have n3_ := am_ (below_drew1 HB.out)
           clear HO_5
           clear HI0
           clear HK
           clear HB
           have HO_5 := n0_
           have HI0 := n1_
           have HK := n2_
           have HB := n3_
           clear n0_ n1_ n2_ n3_
           have p104 : 0 ≤ (x16_1 : Int) := of_decide_eq_true tc1_
           have q104 : x16_1 < (x5_2.length : Int) := of_decide_eq_true tc1_
           obtain ⟨ad104, A104_0, c104_0, e104, hx104_0, hl104_0, hi104_0⟩ := at_L3 (Kd.S_reads' HO_5.out).2.2 x16_1 p104 q104
           cases e104
           obtain ⟨ce104, hce104, hMe104, hcc104⟩ := Kd.S_get HO_5.out [] x16_1 p104 (by first | exact q104 | exact of_decide_eq_true tc1_ | (have e_ := (Kd.S_reads' HO_5.out).1; omega))
           obtain ⟨ve104_0, rfl, ge104_0⟩ := hMe104
           have hv104_0 := hcc104 0 _ rfl
           rw [Nat.add_zero, show ((Kd.slice 3 (Kd.int .i64))).sz = 1 from rfl, Nat.mul_one] at hv104_0
           replace hv104_0 := Option.some.inj (hv104_0.symm.trans hx104_0)
           rw [hv104_0] at ge104_0
           have HL104_0 := am_ (show Kd.R (Kd.int .i64) 3 _ _ _ _ (rd_L3 x5_2 x16_1) from ge104_0)
           clear hv104_0 ge104_0
           have HX104_0 := am_ hx104_0
           clear hcc104 hce104
           have HR104_0 := am_ hi104_0
           have HC104_0 := am_ hl104_0
           clear hi104_0 hl104_0
           replace p104 := eq_true p104
           replace q104 := eq_true q104
           refine start_ (n := 11) (S := fun w' => w'.cell? (ad104.add (x16_1).toNat) = some (.slice A104_0 (rd_L3 x5_2 x16_1).length c104_0)) (ds := [10]) #[false, false, false, false, false, false, false, false, false, false, false] (by kernel_rfl) rfl rfl (hx104_0) (fun hHeld => ?_); refine with_tabW spec_l1Cur_sure.tab8 spec_l1Cur_sure.bits8 (fun HT_ HW_ => ?_)
           generalize wr.drew = w14 at HO_5 HI0 HK HB HL104_0 HR104_0 HX104_0 hx104_0 hHeld ⊢
           refine pure_ (i := 0) (N := some 24) (v := ?_) (a' := ?_) #[true, false, false, false, false, false, false, false, false, false, false] rfl rfl (any_of HT_.out (by kernel_rfl)) (fun _ _ _ h => h) (Or.inl ⟨by rfl, ?_⟩) ?_ ?_
           rotate_left
           ·intro w'
            go_simp
            with_reducible rfl
           rotate_left
           ·simp only [Act.put, List.setIfInBounds_toArray, List.set_cons_zero, List.set_cons_succ, i64_w, i32_w]
            rfl
           refine pure_ (i := 1) (N := some 25) (v := ?_) (a' := ?_) #[true, true, false, false, false, false, false, false, false, false, false] rfl rfl (any_of HT_.out (by kernel_rfl)) (fun _ _ _ h => h) (Or.inl ⟨by rfl, ?_⟩) ?_ ?_
           rotate_left
           ·intro w'
            go_simp
            with_reducible rfl
           rotate_left
           ·simp only [Act.put, List.setIfInBounds_toArray, List.set_cons_zero, List.set_cons_succ, i64_w, i32_w]
            rfl
           refine pure_ (i := 2) (N := some 26) (v := ?_) (a' := ?_) #[true, true, true, false, false, false, false, false, false, false, false] rfl rfl (any_of HT_.out (by kernel_rfl)) (fun _ _ _ h => h) (Or.inl ⟨by rfl, ?_⟩) ?_ ?_
           rotate_left
           ·intro w'
            go_simp
            with_reducible rfl
           rotate_left
           ·simp only [Act.put, List.setIfInBounds_toArray, List.set_cons_zero, List.set_cons_succ, i64_w, i32_w]
            rfl
           refine pure_ (i := 4) (N := some 28) (v := ?_) (a' := ?_) #[true, true, true, false, true, false, false, false, false, false, false] rfl rfl (any_of HT_.out (by kernel_rfl)) (fun _ _ _ h => h) (Or.inl ⟨by rfl, ?_⟩) ?_ ?_
           rotate_left
           ·intro w'
            go_simp
            with_reducible rfl
           rotate_left
           ·simp only [Act.put, List.setIfInBounds_toArray, List.set_cons_zero, List.set_cons_succ, i64_w, i32_w]
            rfl
           refine pure_ (i := 5) (N := some 29) (v := ?_) (a' := ?_) #[true, true, true, false, true, true, false, false, false, false, false] rfl rfl (any_of HT_.out (by kernel_rfl)) (fun _ _ _ h => h) (Or.inl ⟨by rfl, ?_⟩) ?_ ?_
           rotate_left
           ·intro w'
            go_simp
            with_reducible rfl
           rotate_left
           ·simp only [Act.put, List.setIfInBounds_toArray, List.set_cons_zero, List.set_cons_succ, i64_w, i32_w]
            rfl
           refine pure_ (i := 6) (N := some 30) (v := ?_) (a' := ?_) #[true, true, true, false, true, true, true, false, false, false, false] rfl rfl (any_of HT_.out (by kernel_rfl)) (fun _ _ _ h => h) (Or.inl ⟨by rfl, ?_⟩) ?_ ?_
           rotate_left
           ·intro w'
            go_simp
            with_reducible rfl
           rotate_left
           ·simp only [Act.put, List.setIfInBounds_toArray, List.set_cons_zero, List.set_cons_succ, i64_w, i32_w]
            rfl
           refine take_ (i := 3) (N := some 27) (v := ?_) (a' := ?_) #[true, true, true, true, true, true, true, false, false, false, false] rfl rfl (take_ofW HT_.out HW_.out (by kernel_rfl)) (fun _ _ _ h => h) (Or.inl ⟨by rfl, ?_⟩) hHeld ?_ ?_
           rotate_left
           ·intro w' s0
            go_simp
            with_reducible rfl
           rotate_left
           ·simp only [Act.put, List.setIfInBounds_toArray, List.set_cons_zero, List.set_cons_succ, i64_w, i32_w]
            rfl
           refine one_ (i := 7) (N := some 31) #[true, true, true, true, true, true, true, true, false, false, false] rfl rfl (one_of HT_.out (by kernel_rfl)) (by decide) (fun K hK => ?_)
           refine goes_ Try.func126 (by kernel_rfl) rfl #[.int .i64 x16_1, .int .i64 x21_2] (by rfl) rfl rfl tc2_ ?_
           with_reducible refine (spec_l1Least.calls x16_1 x21_2 t105 _ A10.out).mono ?_
           rintro e w' ⟨rfl, ⟨nd, rfl⟩⟩
           refine ⟨_, rfl, ?_⟩
           have p13 : 0 ≤ (x21_2 : Int) := of_decide_eq_true tc1_
           have q13 : (x21_2 : Int) < (((rd_L3 x5_2 x16_1).length : Int) : Int) := of_decide_eq_true tc1_
           obtain ⟨go13, co13, eo13, gb13, gl13, cl13, HG13⟩ := Kd.R_form HL104_0.out (by omega)
           (first | cases eo13 | (injection eo13 with ea_ en_ ec_; (first | subst ea_ | (injection ea_ with ea_; subst ea_)); subst ec_; clear en_))
           have GB13 := am_ gb13
           have GG13 := am_ HG13
           clear gb13 gl13 HG13
           obtain ⟨hx13_0, hf13_0⟩ := Kd.R_celln 0 HL104_0.out (x21_2 : Int) p13 q13
           replace p13 := eq_true p13
           replace q13 := eq_true q13
           have hq15 : (x16_1 : Int) < (x5_2.length : Int) := (by have h_ : (x16_1 : Int) < ((x5_2.length : Int) : Int) := of_decide_eq_true tc1_; first | exact h_ | (have e_ := (Kd.S_reads' HO_5.out).1; omega) | simpa only [List.length_set, List.length_set] using h_)
           obtain ⟨oki15, ce15, hcl15, hM15, hcc15, hok15, hbk15⟩ := Kd.S_borrow HO_5.out [] (x16_1 : Int) (of_decide_eq_true tc1_) (by first | exact hq15 | (have e_ := (Kd.S_reads' HO_5.out).1; omega))
           obtain ⟨ve15_0, rfl, ge15_0⟩ := hM15
           have hv15 := hcc15 0 _ rfl
           rw [Nat.add_zero, show ((Kd.slice 3 (Kd.int .i64))).sz = 1 from rfl, Nat.mul_one] at hv15
           replace hv15 := Option.some.inj (hv15.symm.trans HX104_0.out)
           subst hv15
           clear hcc15 hcl15
           replace ge15_0 := (show Kd.R (Kd.int .i64) 3 _ _ _ _ (rd_L3 x5_2 x16_1) from ge15_0)
           have HP15 := Kd.R_putg ge15_0 (x21_2 : Int) (wrap64 (t105 + 1))
           have HN0_go13 := am_ (show g ≠ go13 from (by have h_ := IsS74.own_ne HI0.out HL104_0.out (by decide); intro e_; exact h_ (by rw [e_]; rfl)))
           rw [← Ny106.out] at HP15
           have HS15 := hbk15 HP15.2 (fun k_ e_ => by injection e_ with e_; subst e_; exact ge15_0.1 _ rfl) (x' := y106) (Kd.M_row HP15.1)
           rw [← Ny108.out] at HS15
           have HQ15 := am_ HS15
           clear HP15 HS15 hbk15 hok15
           refine hK.out _ _ (hHeld) (fun hHeld => ?_)
           clear hK K
           refine norm_ (a' := ?_) ?_ ?_
           rotate_left
           ·show Act.put _ (some 31) _ = _
            simp only [Act.put, List.setIfInBounds_toArray, List.set_cons_zero, List.set_cons_succ, i64_w, i32_w]
            rfl
           refine pure_ (i := 8) (N := some 32) (v := ?_) (a' := ?_) #[true, true, true, true, true, true, true, true, true, false, false] rfl rfl (any_of HT_.out (by kernel_rfl)) (fun _ _ _ h => h) (Or.inl ⟨by rfl, ?_⟩) ?_ ?_
           rotate_left
           ·intro w'
            go_simp
            with_reducible rfl
           rotate_left
           ·simp only [Act.put, List.setIfInBounds_toArray, List.set_cons_zero, List.set_cons_succ, i64_w, i32_w]
            rfl
           refine pure_ (i := 9) (N := some 33) (v := ?_) (a' := ?_) #[true, true, true, true, true, true, true, true, true, true, false] rfl rfl (any_of HT_.out (by kernel_rfl)) (fun _ _ _ h => h) (Or.inl ⟨by rfl, ?_⟩) ?_ ?_
           rotate_left
           ·intro w'
            go_simp
            with_reducible rfl
           rotate_left
           ·simp only [Act.put, List.setIfInBounds_toArray, List.set_cons_zero, List.set_cons_succ, i64_w, i32_w]
            rfl
           refine last_ (i := 10) (N := none) #[true, true, true, true, true, true, true, true, true, true, true] rfl rfl (one_of HT_.out (by kernel_rfl)) (by decide) (fun K hK => ?_)
           refine skip_ (w1 := ?_) (by rfl) rfl ?_ ?_
           rotate_left
           ·go_simp
            rfl
           refine hK.out _ _ ?_
           clear hK K
           refine done_ (done_of HT_.out (by kernel_rfl)) ?_
           try go_wp2
           (try simp only [← hl5_2])
           go_roundg k2
           case measure => have := HK1.out; have := HK2.out; omega
           case rel => exact ⟨(y108), (wrap64 (x21_2 + 1)), tc6_, H', ⟨by have := HK1.out; have := HK2.out; omega⟩, ⟨by (try simp only [hl5_1]); (try simp only [hl5_2]); (with_reducible repeat (first | apply Kd.S_alloc | apply Kd.S_drewN | apply Kd.S_drew)); exact HQ15.out⟩, ⟨by repeat (first | (with_reducible first | exact HI0.out | apply IsS74.alloc | apply IsS74.drewN | apply IsS74.drew | apply IsS74.set_1 | apply IsS74.set_2 | refine IsS74.far ?_ HN0_go13.out _) | exact HI0.out)⟩, ⟨by repeat (first | (with_reducible first | exact HK.out | apply KeepBut.set_ | apply keep_drewN | apply keep_drew | apply keep_alloc | refine keep_far ?_ GB13.out _) | exact HK.out)⟩, ⟨by repeat (first | (with_reducible first | exact HB.out | apply below_alloc | apply pw_below_drewN | apply below_drew1 | refine below_set ?_ (Nat.le_trans HL.out GB13.out) | refine below_set ?_ (IsS74.ge HI0.out)) | exact HB.out)⟩⟩
          ·rw [if_neg c12] at H
           exact absurd H (by simp)
         ·rw [if_neg c11] at H
          exact absurd H (by simp)
        ·rw [if_neg c9] at H
         exact absurd H (by simp)
       ·rw [if_neg c8] at H
        exact absurd H (by simp)
      ·rw [if_neg c7] at H
       have c7b0 : decide (x21_2 < (x5_1.length : Int)) = false := decide_eq_false c7
       (try simp only [hl5_1, hl5_2] at c7b0)
       clear c7
       have H' := am_ H
       clear H
       go_wp2
       (try simp only [← hl5_1, ← hl5_2])
       go_roundg k2
       case measure => have := HK1.out; have := HK2.out; omega
       case rel => exact ⟨(x5_2), (wrap64 (x16_1 + 1)), tc6_, H', ⟨by have := HK1.out; have := HK2.out; omega⟩, ⟨by (try simp only [hl5_1]); (try simp only [hl5_2]); (with_reducible repeat (first | apply Kd.S_alloc | apply Kd.S_drewN | apply Kd.S_drew)); exact HO_5.out⟩, ⟨by repeat (first | (with_reducible first | exact HI0.out | apply IsS74.alloc | apply IsS74.drewN | apply IsS74.drew | apply IsS74.set_1 | apply IsS74.set_2) | exact HI0.out)⟩, ⟨by repeat (first | (with_reducible first | exact HK.out | apply KeepBut.set_ | apply keep_drewN | apply keep_drew | apply keep_alloc) | exact HK.out)⟩, ⟨by repeat (first | (with_reducible first | exact HB.out | apply below_alloc | apply pw_below_drewN | apply below_drew1 | refine below_set ?_ (IsS74.ge HI0.out)) | exact HB.out)⟩⟩
   ·rw [if_neg c6] at H
    have c6b0 : decide (x16_1 < (t101.length : Int)) = false := decide_eq_false c6
    (try simp only [hl5_1] at c6b0)
    clear c6
    replace H := Option.bind_eq_some_iff.mp H
    obtain ⟨⟨t109, t110, t111⟩, A170, H⟩ := H
    replace H : (spec_l1Cur_sure.l2 k1 a1 x5_1 t109 s0_0 t110 t111) = some (r1, r2, r3) := H
    have A17 := am_ A170
    clear A170
    have H' := am_ H
    clear H
    go_wp2_with (first | ((with_reducible refine gate_callee (f := 61) rfl ?_); refine goesL_ (some 41) rfl rfl Try.func61 (by kernel_rfl) rfl #[.pointer (some ⟨g, 0, none⟩), .int .i64 (wrap64 ((wrap64 (3 * a1)) * a1))] rfl tc2_ ?_; (with_reducible refine (spec_l1Cur_pick.calls g s0_0 s0_1 s0_2 (wrap64 ((wrap64 (3 * a1)) * a1)) t109 t110 t111 w0 _ ?side1 ?side2 A17.out).mono ?_); (case side1 => exact tc3_); (case side2 => exact tc5_); rintro e w18 ⟨rfl, hi, hb, hk⟩; refine ⟨_, rfl, ?_⟩; have n0_ := am_ (Kd.S_mono (Kd.S_keep (IsS74.apartS (show IsS74 w0 _ g s0_0 s0_1 s0_2 from tc3_) tc22_ (by decide)) hk (fun _ h => h.2)) (fun _ h => h.1)); have n1_ := am_ (KeepBut.trans tc4_ hk (.inl rfl)); have n2_ := am_ (hb); have n3_ := am_ (hi); clear HO_5 HK; clear HB HI0; have HO_5 := n0_; have HK := n1_; have HB := n2_; have HI0 := n3_; clear n0_ n1_ n2_ n3_; (try clear hb hk hi)))
    go_loopg [8] k1 (fun kq v8 w' => ∃ (x5_2 : List (List Int)) (x8_2 : Int) (x1001_2 : Int) (x1002_2 : Int), v8 = .int .i64 x8_2 ∧ Aside0 (spec_l1Cur_sure.l2 kq a1 x5_2 x8_2 s0_0 x1001_2 x1002_2 = some (r1, r2, r3)) ∧ Aside0 (kq ≤ k1) ∧ Aside0 (Kd.S (Kd.slice 3 (Kd.int .i64)) 28 w' w.heap.size (fun _ => True) (.slice Ao5 x5_1.length co5) x5_2) ∧ Aside0 (IsS74 w0 w' g s0_0 x1001_2 x1002_2) ∧ Aside0 (KeepBut w w' g none) ∧ Aside0 (Below w0.heap.size w0 w'))
    case atStart => exact ⟨(x5_1), (t109), (t110), (t111), tc6_, H', ⟨Nat.le_refl _⟩, ⟨by (try simp only [hl5_1]); (with_reducible repeat (first | apply Kd.S_alloc | apply Kd.S_drewN | apply Kd.S_drew)); exact HO_5.out⟩, ⟨by repeat (first | (with_reducible first | exact HI0.out | apply IsS74.alloc | apply IsS74.drewN | apply IsS74.drew | apply IsS74.set_1 | apply IsS74.set_2) | exact HI0.out)⟩, ⟨by repeat (first | (with_reducible first | exact HK.out | apply KeepBut.set_ | apply keep_drewN | apply keep_drew | apply keep_alloc) | exact HK.out)⟩, ⟨by repeat (first | (with_reducible first | exact HB.out | apply below_alloc | apply pw_below_drewN | apply below_drew1 | refine below_set ?_ (IsS74.ge HI0.out)) | exact HB.out)⟩⟩
    case round =>
     clear H'
     try clear c1
     try clear p1
     try clear q1
     try clear hx1
     try clear p2
     try clear c6
     try clear c6b0
     try clear p6
     try clear c7
     try clear c7b0
     try clear c8
     try clear c8b0
     try clear c9
     try clear c9b0
     try clear c10
     try clear p10
     try clear q10
     try clear hx10
     try clear c11
     try clear c11b0
     try clear c12
     try clear c12b0
     try clear p13
     try clear q13
     try clear hx13
     try clear hf13
     try clear c15
     try clear q15
     try clear hx104_0
     try clear hx13_0
     try clear p104
     try clear p13
     try clear p2
     try clear q104
     try clear q13
     obtain ⟨x5_2, x8_2, x1001_2, x1002_2, rfl, HA, HK2, HO_5, HI0, HK, HB⟩ := hrel
     have hl5_2 := (Kd.S_reads' HO_5.out).1
     rw [hl5_2] at HO_5
     (try simp only [hl5_2])
     cases gk with
     | zero => exact absurd HA.out (by simp [spec_l1Cur_sure.l2])
     | succ k2 =>
      have H := HA.out
      clear HA
      simp only [spec_l1Cur_sure.l2] at H
      have HC19 := am_ H
      clear H
      go_upto_region 12 with (fail)
      go_cut [47] (fun v47 wc => ∃ (kq : Nat) (x47_18 : Bool), v47 = .bool x47_18 ∧ Aside0 (spec_l1Cur_sure.j3 kq a1 x5_2 x8_2 x47_18 s0_0 x1001_2 x1002_2 = some (r1, r2, r3)) ∧ Aside0 (kq ≤ k2) ∧ Aside0 (Kd.S (Kd.slice 3 (Kd.int .i64)) 28 wc w.heap.size (fun _ => True) (.slice Ao5 x5_2.length co5) x5_2) ∧ Aside0 (IsS74 w0 wc g s0_0 x1001_2 x1002_2) ∧ Aside0 (KeepBut w wc g none) ∧ Aside0 (Below w0.heap.size w0 wc))
      case first =>
       have H := HC19.out
       clear HC19
       by_cases c20 : x8_2 > 0
       ·rw [if_pos c20] at H
        have c20b0 : decide (0 < x8_2) = true := decide_eq_true c20
        clear c20
        (first | rw [c20b0] | (simp only [i64_w, i32_w]; rw [c20b0]) | skip)
        have H' := am_ H
        clear H
        go_wp2
        go_meet
        case rel => exact ⟨_, (decide (a1 > 1)), tc6_, H', ⟨by have := HK1.out; have := HK2.out; first | omega | exact Nat.le_refl _⟩, ⟨by (try simp only [hl5_1]); (try simp only [hl5_2]); (with_reducible repeat (first | apply Kd.S_alloc | apply Kd.S_drewN | apply Kd.S_drew)); exact HO_5.out⟩, ⟨by repeat (first | (with_reducible first | exact HI0.out | apply IsS74.alloc | apply IsS74.drewN | apply IsS74.drew | apply IsS74.set_1 | apply IsS74.set_2) | exact HI0.out)⟩, ⟨by repeat (first | (with_reducible first | exact HK.out | apply KeepBut.set_ | apply keep_drewN | apply keep_drew | apply keep_alloc) | exact HK.out)⟩, ⟨by repeat (first | (with_reducible first | exact HB.out | apply below_alloc | apply pw_below_drewN | apply below_drew1 | refine below_set ?_ (IsS74.ge HI0.out)) | exact HB.out)⟩⟩
       ·rw [if_neg c20] at H
        have c20b0 : decide (0 < x8_2) = false := decide_eq_false c20
        clear c20
        (first | rw [c20b0] | (simp only [i64_w, i32_w]; rw [c20b0]) | skip)
        have H' := am_ H
        clear H
        go_wp2
        go_meet
        case rel => exact ⟨_, (false), tc6_, H', ⟨by have := HK1.out; have := HK2.out; first | omega | exact Nat.le_refl _⟩, ⟨by (try simp only [hl5_1]); (try simp only [hl5_2]); (with_reducible repeat (first | apply Kd.S_alloc | apply Kd.S_drewN | apply Kd.S_drew)); exact HO_5.out⟩, ⟨by repeat (first | (with_reducible first | exact HI0.out | apply IsS74.alloc | apply IsS74.drewN | apply IsS74.drew | apply IsS74.set_1 | apply IsS74.set_2) | exact HI0.out)⟩, ⟨by repeat (first | (with_reducible first | exact HK.out | apply KeepBut.set_ | apply keep_drewN | apply keep_drew | apply keep_alloc) | exact HK.out)⟩, ⟨by repeat (first | (with_reducible first | exact HB.out | apply below_alloc | apply pw_below_drewN | apply below_drew1 | refine below_set ?_ (IsS74.ge HI0.out)) | exact HB.out)⟩⟩
      case rest =>
       clear HC19
       try clear c1
       try clear p1
       try clear q1
       try clear hx1
       try clear c2
       try clear p2
       try clear c6
       try clear c6b0
       try clear p6
       try clear c7
       try clear c7b0
       try clear c8
       try clear c8b0
       try clear c9
       try clear c9b0
       try clear c10
       try clear p10
       try clear q10
       try clear hx10
       try clear c11
       try clear c11b0
       try clear c12
       try clear c12b0
       try clear p13
       try clear q13
       try clear hx13
       try clear hf13
       try clear c15
       try clear q15
       try clear c20
       try clear c20b0
       try clear hx104_0
       try clear hx13_0
       try clear p1
       try clear p10
       try clear p104
       try clear p13
       try clear p2
       try clear p6
       try clear q1
       try clear q10
       try clear q104
       try clear q13
       try clear q15
       obtain ⟨kq, x47_18, rfl, HA, HJ18, HO_5, HI0, HK, HB⟩ := hcut
       cases kq with
       | zero => exact absurd HA.out (by simp [spec_l1Cur_sure.j3])
       | succ kj18 =>
        have H := HA.out
        clear HA
        simp only [spec_l1Cur_sure.j3] at H
        by_cases c21 : x47_18 = true
        ·subst c21
         have H1 : ((spec_l1Cur_pick.f s0_0 x1001_2 x1002_2 (wrap64 (a1 - 1))).bind fun bt115 => ((spec_l1Cur_pick.f s0_0 bt115.2.1 bt115.2.2 (wrap64 (a1 - 1))).bind fun bt118 => ((spec_l1Cur_pick.f s0_0 bt118.2.1 bt118.2.2 2).bind fun bt121 => (if 0 ≤ bt115.1 then (if bt115.1 < (x5_2.length : Int) then (if 0 ≤ bt118.1 then (if bt118.1 < ((rd_L3 x5_2 bt115.1).length : Int) then ((some (x5_2.set (bt115.1 : Int).toNat ((rd_L3 x5_2 bt115.1).set (bt118.1 : Int).toNat (wrap64 ((rd (rd_L3 x5_2 bt115.1) bt118.1) + (wrap64 ((wrap64 (2 * bt121.1)) - 1))))) : List (List Int))).bind fun y128 => ((spec_sgFrom.f kj18 y128).bind fun t129 => ((spec_sgGood.f kj18 t129).bind fun t132 => (if t132 = true then (spec_l1Cur_sure.l2 kj18 a1 y128 (wrap64 (x8_2 - 1)) s0_0 bt121.2.1 bt121.2.2) else (if bt118.1 < ((rd_L3 y128 bt115.1).length : Int) then (spec_l1Cur_sure.l2 kj18 a1 (y128.set (bt115.1 : Int).toNat ((rd_L3 y128 bt115.1).set (bt118.1 : Int).toNat (wrap64 ((rd (rd_L3 y128 bt115.1) bt118.1) - (wrap64 ((wrap64 (2 * bt121.1)) - 1)))))) (wrap64 (x8_2 - 1)) s0_0 bt121.2.1 bt121.2.2) else (none)))))) else (none)) else (none)) else (none)) else (none))))) = some (r1, r2, r3) := by rw [if_pos rfl] at H; exact H
         clear H
         have H := H1
         clear H1
         replace H := Option.bind_eq_some_iff.mp H
         obtain ⟨⟨t115, t116, t117⟩, A220, H⟩ := H
         replace H : ((spec_l1Cur_pick.f s0_0 t116 t117 (wrap64 (a1 - 1))).bind fun bt118 => ((spec_l1Cur_pick.f s0_0 bt118.2.1 bt118.2.2 2).bind fun bt121 => (if 0 ≤ t115 then (if t115 < (x5_2.length : Int) then (if 0 ≤ bt118.1 then (if bt118.1 < ((rd_L3 x5_2 t115).length : Int) then ((some (x5_2.set (t115 : Int).toNat ((rd_L3 x5_2 t115).set (bt118.1 : Int).toNat (wrap64 ((rd (rd_L3 x5_2 t115) bt118.1) + (wrap64 ((wrap64 (2 * bt121.1)) - 1))))) : List (List Int))).bind fun y128 => ((spec_sgFrom.f kj18 y128).bind fun t129 => ((spec_sgGood.f kj18 t129).bind fun t132 => (if t132 = true then (spec_l1Cur_sure.l2 kj18 a1 y128 (wrap64 (x8_2 - 1)) s0_0 bt121.2.1 bt121.2.2) else (if bt118.1 < ((rd_L3 y128 t115).length : Int) then (spec_l1Cur_sure.l2 kj18 a1 (y128.set (t115 : Int).toNat ((rd_L3 y128 t115).set (bt118.1 : Int).toNat (wrap64 ((rd (rd_L3 y128 t115) bt118.1) - (wrap64 ((wrap64 (2 * bt121.1)) - 1)))))) (wrap64 (x8_2 - 1)) s0_0 bt121.2.1 bt121.2.2) else (none)))))) else (none)) else (none)) else (none)) else (none)))) = some (r1, r2, r3) := H
         have A22 := am_ A220
         clear A220
         replace H := Option.bind_eq_some_iff.mp H
         obtain ⟨⟨t118, t119, t120⟩, A230, H⟩ := H
         replace H : ((spec_l1Cur_pick.f s0_0 t119 t120 2).bind fun bt121 => (if 0 ≤ t115 then (if t115 < (x5_2.length : Int) then (if 0 ≤ t118 then (if t118 < ((rd_L3 x5_2 t115).length : Int) then ((some (x5_2.set (t115 : Int).toNat ((rd_L3 x5_2 t115).set (t118 : Int).toNat (wrap64 ((rd (rd_L3 x5_2 t115) t118) + (wrap64 ((wrap64 (2 * bt121.1)) - 1))))) : List (List Int))).bind fun y128 => ((spec_sgFrom.f kj18 y128).bind fun t129 => ((spec_sgGood.f kj18 t129).bind fun t132 => (if t132 = true then (spec_l1Cur_sure.l2 kj18 a1 y128 (wrap64 (x8_2 - 1)) s0_0 bt121.2.1 bt121.2.2) else (if t118 < ((rd_L3 y128 t115).length : Int) then (spec_l1Cur_sure.l2 kj18 a1 (y128.set (t115 : Int).toNat ((rd_L3 y128 t115).set (t118 : Int).toNat (wrap64 ((rd (rd_L3 y128 t115) t118) - (wrap64 ((wrap64 (2 * bt121.1)) - 1)))))) (wrap64 (x8_2 - 1)) s0_0 bt121.2.1 bt121.2.2) else (none)))))) else (none)) else (none)) else (none)) else (none))) = some (r1, r2, r3) := H
         have A23 := am_ A230
         clear A230
         replace H := Option.bind_eq_some_iff.mp H
         obtain ⟨⟨t121, t122, t123⟩, A240, H⟩ := H
         replace H : (if 0 ≤ t115 then (if t115 < (x5_2.length : Int) then (if 0 ≤ t118 then (if t118 < ((rd_L3 x5_2 t115).length : Int) then ((some (x5_2.set (t115 : Int).toNat ((rd_L3 x5_2 t115).set (t118 : Int).toNat (wrap64 ((rd (rd_L3 x5_2 t115) t118) + (wrap64 ((wrap64 (2 * t121)) - 1))))) : List (List Int))).bind fun y128 => ((spec_sgFrom.f kj18 y128).bind fun t129 => ((spec_sgGood.f kj18 t129).bind fun t132 => (if t132 = true then (spec_l1Cur_sure.l2 kj18 a1 y128 (wrap64 (x8_2 - 1)) s0_0 t122 t123) else (if t118 < ((rd_L3 y128 t115).length : Int) then (spec_l1Cur_sure.l2 kj18 a1 (y128.set (t115 : Int).toNat ((rd_L3 y128 t115).set (t118 : Int).toNat (wrap64 ((rd (rd_L3 y128 t115) t118) - (wrap64 ((wrap64 (2 * t121)) - 1)))))) (wrap64 (x8_2 - 1)) s0_0 t122 t123) else (none)))))) else (none)) else (none)) else (none)) else (none)) = some (r1, r2, r3) := H
         have A24 := am_ A240
         clear A240
         by_cases c25 : 0 ≤ t115
         ·rw [if_pos c25] at H
          have c25b0 : decide (0 ≤ t115) = true := decide_eq_true c25
          clear c25
          by_cases c26 : t115 < (x5_2.length : Int)
          ·rw [if_pos c26] at H
           have c26b0 : decide (t115 < (x5_2.length : Int)) = true := decide_eq_true c26
           (try simp only [hl5_1, hl5_2] at c26b0)
           clear c26
           by_cases c27 : 0 ≤ t118
           ·rw [if_pos c27] at H
            have c27b0 : decide (0 ≤ t118) = true := decide_eq_true c27
            clear c27
            by_cases c28 : t118 < ((rd_L3 x5_2 t115).length : Int)
            ·rw [if_pos c28] at H
             have c28b0 : decide (t118 < ((rd_L3 x5_2 t115).length : Int)) = true := decide_eq_true c28
             (try simp only [hl5_1, hl5_2] at c28b0)
             clear c28
             obtain ⟨y126, hy126⟩ : ∃ y_ : List Int, y_ = ((rd_L3 x5_2 t115).set (t118 : Int).toNat (wrap64 ((rd (rd_L3 x5_2 t115) t118) + (wrap64 ((wrap64 (2 * t121)) - 1))))) := ⟨_, rfl⟩
             replace H : ((some (x5_2.set (t115 : Int).toNat y126 : List (List Int))).bind fun y128 => ((spec_sgFrom.f kj18 y128).bind fun t129 => ((spec_sgGood.f kj18 t129).bind fun t132 => (if t132 = true then (spec_l1Cur_sure.l2 kj18 a1 y128 (wrap64 (x8_2 - 1)) s0_0 t122 t123) else (if t118 < ((rd_L3 y128 t115).length : Int) then (spec_l1Cur_sure.l2 kj18 a1 (y128.set (t115 : Int).toNat ((rd_L3 y128 t115).set (t118 : Int).toNat (wrap64 ((rd (rd_L3 y128 t115) t118) - (wrap64 ((wrap64 (2 * t121)) - 1)))))) (wrap64 (x8_2 - 1)) s0_0 t122 t123) else (none)))))) = some (r1, r2, r3) := by first | (rw [hy126]; with_reducible exact H) | (have H2_ := (Option.bind_some _ _).symm.trans H; rw [hy126]; with_reducible exact H2_) | (have H2_ := (Option.bind_some _ _).symm.trans H; with_reducible exact H2_) | with_reducible exact H | (rw [hy126]; exact H) | exact H
             have Ny126 := am_ hy126
             clear hy126
             obtain ⟨y128, hy128⟩ : ∃ y_ : List (List Int), y_ = (x5_2.set (t115 : Int).toNat y126) := ⟨_, rfl⟩
             replace H : ((spec_sgFrom.f kj18 y128).bind fun t129 => ((spec_sgGood.f kj18 t129).bind fun t132 => (if t132 = true then (spec_l1Cur_sure.l2 kj18 a1 y128 (wrap64 (x8_2 - 1)) s0_0 t122 t123) else (if t118 < ((rd_L3 y128 t115).length : Int) then (spec_l1Cur_sure.l2 kj18 a1 (y128.set (t115 : Int).toNat ((rd_L3 y128 t115).set (t118 : Int).toNat (wrap64 ((rd (rd_L3 y128 t115) t118) - (wrap64 ((wrap64 (2 * t121)) - 1)))))) (wrap64 (x8_2 - 1)) s0_0 t122 t123) else (none))))) = some (r1, r2, r3) := by first | (rw [hy128]; with_reducible exact H) | (have H2_ := (Option.bind_some _ _).symm.trans H; rw [hy128]; with_reducible exact H2_) | (have H2_ := (Option.bind_some _ _).symm.trans H; with_reducible exact H2_) | with_reducible exact H | (rw [hy128]; exact H) | exact H
             have Ny128 := am_ hy128
             clear hy128
             replace H := Option.bind_eq_some_iff.mp H
             obtain ⟨t129, A300, H⟩ := H
             replace H : ((spec_sgGood.f kj18 t129).bind fun t132 => (if t132 = true then (spec_l1Cur_sure.l2 kj18 a1 y128 (wrap64 (x8_2 - 1)) s0_0 t122 t123) else (if t118 < ((rd_L3 y128 t115).length : Int) then (spec_l1Cur_sure.l2 kj18 a1 (y128.set (t115 : Int).toNat ((rd_L3 y128 t115).set (t118 : Int).toNat (wrap64 ((rd (rd_L3 y128 t115) t118) - (wrap64 ((wrap64 (2 * t121)) - 1)))))) (wrap64 (x8_2 - 1)) s0_0 t122 t123) else (none)))) = some (r1, r2, r3) := H
             have A30 := am_ A300
             clear A300
             replace H := Option.bind_eq_some_iff.mp H
             obtain ⟨t132, A310, H⟩ := H
             replace H : (if t132 = true then (spec_l1Cur_sure.l2 kj18 a1 y128 (wrap64 (x8_2 - 1)) s0_0 t122 t123) else (if t118 < ((rd_L3 y128 t115).length : Int) then (spec_l1Cur_sure.l2 kj18 a1 (y128.set (t115 : Int).toNat ((rd_L3 y128 t115).set (t118 : Int).toNat (wrap64 ((rd (rd_L3 y128 t115) t118) - (wrap64 ((wrap64 (2 * t121)) - 1)))))) (wrap64 (x8_2 - 1)) s0_0 t122 t123) else (none))) = some (r1, r2, r3) := H
             have A31 := am_ A310
             clear A310
             by_cases c32 : t132 = true
             ·subst c32
              have H1 : (spec_l1Cur_sure.l2 kj18 a1 y128 (wrap64 (x8_2 - 1)) s0_0 t122 t123) = some (r1, r2, r3) := by rw [if_pos rfl] at H; exact H
              clear H
              have H := H1
              clear H1
              have H' := am_ H
              clear H
              go_wp2_with (first | ((with_reducible refine gate_callee (f := 61) rfl ?_); refine goesL_ (some 53) rfl rfl Try.func61 (by kernel_rfl) rfl #[.pointer (some ⟨g, 0, none⟩), .int .i64 (wrap64 (a1 - 1))] rfl tc2_ ?_; (with_reducible refine (spec_l1Cur_pick.calls g s0_0 x1001_2 x1002_2 (wrap64 (a1 - 1)) t115 t116 t117 w0 _ ?side1 ?side2 A22.out).mono ?_); (case side1 => exact tc3_); (case side2 => exact tc5_); rintro e w33 ⟨rfl, hi, hb, hk⟩; refine ⟨_, rfl, ?_⟩; have n0_ := am_ (Kd.S_mono (Kd.S_keep (IsS74.apartS (show IsS74 w0 _ g s0_0 x1001_2 x1002_2 from tc3_) tc22_ (by decide)) hk (fun _ h => h.2)) (fun _ h => h.1)); have n1_ := am_ (KeepBut.trans tc4_ hk (.inl rfl)); have n2_ := am_ (hb); have n3_ := am_ (hi); clear HO_5 HK; clear HB HI0; have HO_5 := n0_; have HK := n1_; have HB := n2_; have HI0 := n3_; clear n0_ n1_ n2_ n3_; (try clear hb hk hi)) | ((with_reducible refine gate_callee (f := 61) rfl ?_); refine goesL_ (some 57) rfl rfl Try.func61 (by kernel_rfl) rfl #[.pointer (some ⟨g, 0, none⟩), .int .i64 (wrap64 (a1 - 1))] rfl tc2_ ?_; (with_reducible refine (spec_l1Cur_pick.calls g s0_0 t116 t117 (wrap64 (a1 - 1)) t118 t119 t120 w0 _ ?side1 ?side2 A23.out).mono ?_); (case side1 => exact tc3_); (case side2 => exact tc5_); rintro e w34 ⟨rfl, hi, hb, hk⟩; refine ⟨_, rfl, ?_⟩; have n0_ := am_ (Kd.S_mono (Kd.S_keep (IsS74.apartS (show IsS74 w0 _ g s0_0 t116 t117 from tc3_) tc22_ (by decide)) hk (fun _ h => h.2)) (fun _ h => h.1)); have n1_ := am_ (KeepBut.trans tc4_ hk (.inl rfl)); have n2_ := am_ (hb); have n3_ := am_ (hi); clear HO_5 HK; clear HB HI0; have HO_5 := n0_; have HK := n1_; have HB := n2_; have HI0 := n3_; clear n0_ n1_ n2_ n3_; (try clear hb hk hi)) | ((with_reducible refine gate_callee (f := 61) rfl ?_); refine goesL_ (some 59) rfl rfl Try.func61 (by kernel_rfl) rfl #[.pointer (some ⟨g, 0, none⟩), .int .i64 2] rfl tc2_ ?_; (with_reducible refine (spec_l1Cur_pick.calls g s0_0 t119 t120 2 t121 t122 t123 w0 _ ?side1 ?side2 A24.out).mono ?_); (case side1 => exact tc3_); (case side2 => exact tc5_); rintro e w35 ⟨rfl, hi, hb, hk⟩; refine ⟨_, rfl, ?_⟩; have n0_ := am_ (Kd.S_mono (Kd.S_keep (IsS74.apartS (show IsS74 w0 _ g s0_0 t119 t120 from tc3_) tc22_ (by decide)) hk (fun _ h => h.2)) (fun _ h => h.1)); have n1_ := am_ (KeepBut.trans tc4_ hk (.inl rfl)); have n2_ := am_ (hb); have n3_ := am_ (hi); clear HO_5 HK; clear HB HI0; have HO_5 := n0_; have HK := n1_; have HB := n2_; have HI0 := n3_; clear n0_ n1_ n2_ n3_; (try clear hb hk hi); have p124 : 0 ≤ (t115 : Int) := of_decide_eq_true tc1_; have q124 : t115 < (x5_2.length : Int) := of_decide_eq_true tc1_; obtain ⟨ad124, A124_0, c124_0, e124, hx124_0, hl124_0, hi124_0⟩ := at_L3 (Kd.S_reads' HO_5.out).2.2 t115 p124 q124; cases e124; obtain ⟨ce124, hce124, hMe124, hcc124⟩ := Kd.S_get HO_5.out [] t115 p124 (by first | exact q124 | exact of_decide_eq_true tc1_ | (have e_ := (Kd.S_reads' HO_5.out).1; omega)); obtain ⟨ve124_0, rfl, ge124_0⟩ := hMe124; have hv124_0 := hcc124 0 _ rfl; rw [Nat.add_zero, show ((Kd.slice 3 (Kd.int .i64))).sz = 1 from rfl, Nat.mul_one] at hv124_0; replace hv124_0 := Option.some.inj (hv124_0.symm.trans hx124_0); rw [hv124_0] at ge124_0; have HL124_0 := am_ (show Kd.R (Kd.int .i64) 3 _ _ _ _ (rd_L3 x5_2 t115) from ge124_0); clear hv124_0 ge124_0; have HX124_0 := am_ hx124_0; clear hcc124 hce124; have HR124_0 := am_ hi124_0; have HC124_0 := am_ hl124_0; clear hi124_0 hl124_0; replace p124 := eq_true p124; replace q124 := eq_true q124; have p125 : 0 ≤ (t118 : Int) := of_decide_eq_true tc1_; have q125 : t118 < ((rd_L3 x5_2 t115).length : Int) := of_decide_eq_true tc1_; obtain ⟨ad125, e125, hx125_0⟩ := Kd.at_int (by repeat (first | (with_reducible exact HR124_0.out) | (with_reducible refine Kd.C_alloc ?_ _) | (with_reducible refine Kd.C_drewN ?_ _) | (with_reducible refine Kd.C_drew ?_) | exact HR124_0.out)) t118 p125 q125; cases e125; replace p125 := eq_true p125; replace q125 := eq_true q125; have p29 : 0 ≤ (t118 : Int) := of_decide_eq_true tc1_; have q29 : (t118 : Int) < (((rd_L3 x5_2 t115).length : Int) : Int) := of_decide_eq_true tc1_; obtain ⟨go29, co29, eo29, gb29, gl29, cl29, HG29⟩ := Kd.R_form HL124_0.out (by omega); (first | cases eo29 | (injection eo29 with ea_ en_ ec_; (first | subst ea_ | (injection ea_ with ea_; subst ea_)); subst ec_; clear en_)); have GB29 := am_ gb29; have GG29 := am_ HG29; clear gb29 gl29 HG29; (first | simp only [add_plain] at hx125_0 | skip); obtain ⟨hx29_0, hf29_0⟩ := Kd.R_celln 0 HL124_0.out (t118 : Int) p29 q29; replace p29 := eq_true p29; replace q29 := eq_true q29; have hq36 : (t115 : Int) < (x5_2.length : Int) := (by have h_ : (t115 : Int) < ((x5_2.length : Int) : Int) := of_decide_eq_true tc1_; first | exact h_ | (have e_ := (Kd.S_reads' HO_5.out).1; omega) | simpa only [List.length_set, List.length_set] using h_); obtain ⟨oki36, ce36, hcl36, hM36, hcc36, hok36, hbk36⟩ := Kd.S_borrow HO_5.out [] (t115 : Int) (of_decide_eq_true tc1_) (by first | exact hq36 | (have e_ := (Kd.S_reads' HO_5.out).1; omega)); obtain ⟨ve36_0, rfl, ge36_0⟩ := hM36; have hv36 := hcc36 0 _ rfl; rw [Nat.add_zero, show ((Kd.slice 3 (Kd.int .i64))).sz = 1 from rfl, Nat.mul_one] at hv36; replace hv36 := Option.some.inj (hv36.symm.trans HX124_0.out); subst hv36; clear hcc36 hcl36; replace ge36_0 := (show Kd.R (Kd.int .i64) 3 _ _ _ _ (rd_L3 x5_2 t115) from ge36_0); have HP36 := Kd.R_putg ge36_0 (t118 : Int) (wrap64 ((rd (rd_L3 x5_2 t115) t118) + (wrap64 ((wrap64 (2 * t121)) - 1))))) | ((with_reducible refine gate_store (t := 3) (p := 71) rfl ?_); refine store_event (t := 3) (p := 71) (v := ?vo_w37) (w1 := (w35.setCell ⟨go29, (t118 : Int).toNat, none⟩ (.int .i64 (wrap64 ((rd (rd_L3 x5_2 t115) t118) + (wrap64 ((wrap64 (2 * t121)) - 1))))))) ?hg ?ho ?hn ?hr ?_; (case ho => rfl); (case hg => rfl); (case hn => rfl); (case hr => exact tc26_); intro w37 hw; have hg : w35.grownBy w37 (some go29) := (by rw [hw]; exact HP36.2); have hz_ : Kd.R (Kd.int .i64) 3 w37 w.heap.size oki36 (.slice (some ⟨go29, 0, none⟩) (rd_L3 x5_2 t115).length c124_0) y126 := (by rw [hw, Ny126.out]; exact HP36.1); have hp_ : Kd.S (Kd.slice 3 (Kd.int .i64)) 28 w37 w.heap.size (fun _ => True) (.slice (some ad124) x5_2.length co5) y128 := (by rw [Ny128.out]; exact hbk36 hg (fun k_ e_ => by injection e_ with e_; subst e_; exact ge36_0.1 _ rfl) (Kd.M_row hz_)); have hm_ := Kd.R_mono hz_ hok36; clear HP36 hbk36; have n0_ := am_ (hp_); have n1_ := am_ (IsS74.grown tc3_ hg (IsS74.own_ne HI0.out HL124_0.out (by decide))); have n2_ := am_ ((by rw [hw]; exact below_set (HB.out) (Nat.le_trans HL.out GB29.out) : Below w0.heap.size w0 w37)); have n3_ := am_ (KeepBut.trans tc4_ (KeepBut.of_grown hg g) (Kd.R_base2 HL124_0.out)); have n4_ := am_ (hm_); have n5_ := am_ ((Kd.R_reads' hm_).2.1); clear HO_5 HI0; clear HB HK HL124_0; have HO_5 := n0_; have HI0 := n1_; have HB := n2_; have HK := n3_; have HL138 := n4_; have HC127 := n5_; clear n0_ n1_ n2_ n3_ n4_ n5_; clear hg hw hp_ hz_ hm_ hok36) | ((with_reducible refine gate_callee (f := 127) rfl ?_); refine goesL_ (some 73) rfl rfl Try.func127 (by kernel_rfl) rfl #[.slice (some ad124) y128.length co5] rfl (by (try simp only [List.map_toArray, List.map_cons, List.map_nil]); first | done | (rw [show y128.length = x5_2.length from (Kd.S_reads' HO_5.out).1.symm] <;> rfl) | rfl | (simp only [List.length_drop, List.length_take]; rfl)) ?_; (with_reducible refine (spec_sgFrom.calls kj18 _ _ y128 t129 _ ?side1 ?side2 A30.out).mono ?_); (case side1 => exact tc56_); (case side2 => rw [show y128.length = x5_2.length from (Kd.S_reads' HO_5.out).1.symm]; exact (Kd.S_reads' HO_5.out).2.1); rintro e w38 ⟨v130, rfl, ho0, hb⟩; refine ⟨_, rfl, ?_⟩; have n0_ := am_ (Kd.S_elder' tc22_ (Kd.S_base ho0) hb); have n1_ := am_ (Kd.R_below tc65_ hb); have n2_ := am_ (Kd.S_lower (Kd.S_new' (Kd.S_new' ho0 (Kd.S_lt tc22_)) (Kd.R_lt tc65_)) (keep_size (w := w) (g := g) (row := none) tc4_)); have n3_ := am_ (IsS74.below tc3_ hb); have n4_ := am_ (KeepBut.trans tc4_ (KeepBut.of_below hb g none) (.inl rfl)); have n5_ := am_ (below_step tc5_ hb); clear HO_5 HL138; clear HI0 HK HB; have HO_5 := n0_; have HL138 := n1_; have HO131 := n2_; have HI0 := n3_; have HK := n4_; have HB := n5_; clear n0_ n1_ n2_ n3_ n4_ n5_; (try clear hb ho0); obtain ⟨Ao39, co39, eo39⟩ := Kd.S_slice HO131.out; subst eo39) | ((with_reducible refine gate_callee (f := 57) rfl ?_); refine goesL_ (some 74) rfl rfl Try.func57 (by kernel_rfl) rfl #[.slice Ao39 t129.length co39] rfl tc2_ ?_; (with_reducible refine (spec_sgGood.calls kj18 _ _ t129 true _ ?side1 ?side2 A31.out).mono ?_); (case side1 => repeat (first | exact (Kd.S_reads' HO131.out).2.2 | (with_reducible refine Kd.C_alloc ?_ _) | (with_reducible refine Kd.C_drewN ?_ _) | (with_reducible refine Kd.C_drew ?_))); (case side2 => exact (Kd.S_reads' HO131.out).2.1); rintro e w40 ⟨rfl, hb⟩; refine ⟨_, rfl, ?_⟩; have n0_ := am_ (Kd.S_below tc22_ hb); have n1_ := am_ (Kd.R_below tc65_ hb); have n2_ := am_ (Kd.S_below (by (with_reducible repeat (first | apply Kd.S_alloc | apply Kd.S_drewN | apply Kd.S_drew)); exact HO131.out) hb); have n3_ := am_ (IsS74.below tc3_ hb); have n4_ := am_ (KeepBut.trans tc4_ (KeepBut.of_below hb g none) (.inl rfl)); have n5_ := am_ (below_step tc5_ hb); clear HO_5 HL138; clear HO131 HI0; clear HK HB; have HO_5 := n0_; have HL138 := n1_; have HO131 := n2_; have HI0 := n3_; have HK := n4_; have HB := n5_; clear n0_ n1_ n2_ n3_ n4_ n5_; (try clear hb)))
              (try simp only [← hl5_2])
              go_roundg kj18
              case measure => have := HK1.out; have := HK2.out; have := HJ18.out; omega
              case rel => exact ⟨(y128), (wrap64 (x8_2 - 1)), (t122), (t123), tc6_, H', ⟨by have := HK1.out; have := HK2.out; have := HJ18.out; omega⟩, ⟨by (try simp only [hl5_1]); (try simp only [hl5_2]); (with_reducible repeat (first | apply Kd.S_alloc | apply Kd.S_drewN | apply Kd.S_drew)); exact Kd.S_mono HO_5.out (fun _ hk => trivial)⟩, ⟨by repeat (first | (with_reducible first | exact HI0.out | apply IsS74.alloc | apply IsS74.drewN | apply IsS74.drew | apply IsS74.set_1 | apply IsS74.set_2) | exact HI0.out)⟩, ⟨by repeat (first | (with_reducible first | exact HK.out | apply KeepBut.set_ | apply keep_drewN | apply keep_drew | apply keep_alloc) | exact HK.out)⟩, ⟨by repeat (first | (with_reducible first | exact HB.out | apply below_alloc | apply pw_below_drewN | apply below_drew1 | refine below_set ?_ (IsS74.ge HI0.out)) | exact HB.out)⟩⟩
             ·replace c32 := Bool.eq_false_iff.mpr c32
              subst c32
              have H1 : (if t118 < ((rd_L3 y128 t115).length : Int) then (spec_l1Cur_sure.l2 kj18 a1 (y128.set (t115 : Int).toNat ((rd_L3 y128 t115).set (t118 : Int).toNat (wrap64 ((rd (rd_L3 y128 t115) t118) - (wrap64 ((wrap64 (2 * t121)) - 1)))))) (wrap64 (x8_2 - 1)) s0_0 t122 t123) else (none)) = some (r1, r2, r3) := by rw [if_neg (show ¬ (false = true) by decide)] at H; exact H
              clear H
              have H := H1
              clear H1
              by_cases c41 : t118 < ((rd_L3 y128 t115).length : Int)
              ·rw [if_pos c41] at H
               have c41b0 : decide (t118 < ((rd_L3 y128 t115).length : Int)) = true := decide_eq_true c41
               (try simp only [hl5_1, hl5_2] at c41b0)
               clear c41
               obtain ⟨y135, hy135⟩ : ∃ y_ : List Int, y_ = ((rd_L3 y128 t115).set (t118 : Int).toNat (wrap64 ((rd (rd_L3 y128 t115) t118) - (wrap64 ((wrap64 (2 * t121)) - 1))))) := ⟨_, rfl⟩
               replace H : (spec_l1Cur_sure.l2 kj18 a1 (y128.set (t115 : Int).toNat y135) (wrap64 (x8_2 - 1)) s0_0 t122 t123) = some (r1, r2, r3) := by first | (rw [hy135]; with_reducible exact H) | (have H2_ := (Option.bind_some _ _).symm.trans H; rw [hy135]; with_reducible exact H2_) | (have H2_ := (Option.bind_some _ _).symm.trans H; with_reducible exact H2_) | with_reducible exact H | (rw [hy135]; exact H) | exact H
               have Ny135 := am_ hy135
               clear hy135
               obtain ⟨y137, hy137⟩ : ∃ y_ : List (List Int), y_ = (y128.set (t115 : Int).toNat y135) := ⟨_, rfl⟩
               replace H : (spec_l1Cur_sure.l2 kj18 a1 y137 (wrap64 (x8_2 - 1)) s0_0 t122 t123) = some (r1, r2, r3) := by first | (rw [hy137]; with_reducible exact H) | (have H2_ := (Option.bind_some _ _).symm.trans H; rw [hy137]; with_reducible exact H2_) | (have H2_ := (Option.bind_some _ _).symm.trans H; with_reducible exact H2_) | with_reducible exact H | (rw [hy137]; exact H) | exact H
               have Ny137 := am_ hy137
               clear hy137
               have H' := am_ H
               clear H
               go_wp2_with (first | ((with_reducible refine gate_callee (f := 61) rfl ?_); refine goesL_ (some 53) rfl rfl Try.func61 (by kernel_rfl) rfl #[.pointer (some ⟨g, 0, none⟩), .int .i64 (wrap64 (a1 - 1))] rfl tc2_ ?_; (with_reducible refine (spec_l1Cur_pick.calls g s0_0 x1001_2 x1002_2 (wrap64 (a1 - 1)) t115 t116 t117 w0 _ ?side1 ?side2 A22.out).mono ?_); (case side1 => exact tc3_); (case side2 => exact tc5_); rintro e w43 ⟨rfl, hi, hb, hk⟩; refine ⟨_, rfl, ?_⟩; have n0_ := am_ (Kd.S_mono (Kd.S_keep (IsS74.apartS (show IsS74 w0 _ g s0_0 x1001_2 x1002_2 from tc3_) tc22_ (by decide)) hk (fun _ h => h.2)) (fun _ h => h.1)); have n1_ := am_ (KeepBut.trans tc4_ hk (.inl rfl)); have n2_ := am_ (hb); have n3_ := am_ (hi); clear HO_5 HK; clear HB HI0; have HO_5 := n0_; have HK := n1_; have HB := n2_; have HI0 := n3_; clear n0_ n1_ n2_ n3_; (try clear hb hk hi)) | ((with_reducible refine gate_callee (f := 61) rfl ?_); refine goesL_ (some 57) rfl rfl Try.func61 (by kernel_rfl) rfl #[.pointer (some ⟨g, 0, none⟩), .int .i64 (wrap64 (a1 - 1))] rfl tc2_ ?_; (with_reducible refine (spec_l1Cur_pick.calls g s0_0 t116 t117 (wrap64 (a1 - 1)) t118 t119 t120 w0 _ ?side1 ?side2 A23.out).mono ?_); (case side1 => exact tc3_); (case side2 => exact tc5_); rintro e w44 ⟨rfl, hi, hb, hk⟩; refine ⟨_, rfl, ?_⟩; have n0_ := am_ (Kd.S_mono (Kd.S_keep (IsS74.apartS (show IsS74 w0 _ g s0_0 t116 t117 from tc3_) tc22_ (by decide)) hk (fun _ h => h.2)) (fun _ h => h.1)); have n1_ := am_ (KeepBut.trans tc4_ hk (.inl rfl)); have n2_ := am_ (hb); have n3_ := am_ (hi); clear HO_5 HK; clear HB HI0; have HO_5 := n0_; have HK := n1_; have HB := n2_; have HI0 := n3_; clear n0_ n1_ n2_ n3_; (try clear hb hk hi)) | ((with_reducible refine gate_callee (f := 61) rfl ?_); refine goesL_ (some 59) rfl rfl Try.func61 (by kernel_rfl) rfl #[.pointer (some ⟨g, 0, none⟩), .int .i64 2] rfl tc2_ ?_; (with_reducible refine (spec_l1Cur_pick.calls g s0_0 t119 t120 2 t121 t122 t123 w0 _ ?side1 ?side2 A24.out).mono ?_); (case side1 => exact tc3_); (case side2 => exact tc5_); rintro e w45 ⟨rfl, hi, hb, hk⟩; refine ⟨_, rfl, ?_⟩; have n0_ := am_ (Kd.S_mono (Kd.S_keep (IsS74.apartS (show IsS74 w0 _ g s0_0 t119 t120 from tc3_) tc22_ (by decide)) hk (fun _ h => h.2)) (fun _ h => h.1)); have n1_ := am_ (KeepBut.trans tc4_ hk (.inl rfl)); have n2_ := am_ (hb); have n3_ := am_ (hi); clear HO_5 HK; clear HB HI0; have HO_5 := n0_; have HK := n1_; have HB := n2_; have HI0 := n3_; clear n0_ n1_ n2_ n3_; (try clear hb hk hi); have p124 : 0 ≤ (t115 : Int) := of_decide_eq_true tc1_; have q124 : t115 < (x5_2.length : Int) := of_decide_eq_true tc1_; obtain ⟨ad124, A124_0, c124_0, e124, hx124_0, hl124_0, hi124_0⟩ := at_L3 (Kd.S_reads' HO_5.out).2.2 t115 p124 q124; cases e124; obtain ⟨ce124, hce124, hMe124, hcc124⟩ := Kd.S_get HO_5.out [] t115 p124 (by first | exact q124 | exact of_decide_eq_true tc1_ | (have e_ := (Kd.S_reads' HO_5.out).1; omega)); obtain ⟨ve124_0, rfl, ge124_0⟩ := hMe124; have hv124_0 := hcc124 0 _ rfl; rw [Nat.add_zero, show ((Kd.slice 3 (Kd.int .i64))).sz = 1 from rfl, Nat.mul_one] at hv124_0; replace hv124_0 := Option.some.inj (hv124_0.symm.trans hx124_0); rw [hv124_0] at ge124_0; have HL124_0 := am_ (show Kd.R (Kd.int .i64) 3 _ _ _ _ (rd_L3 x5_2 t115) from ge124_0); clear hv124_0 ge124_0; have HX124_0 := am_ hx124_0; clear hcc124 hce124; have HR124_0 := am_ hi124_0; have HC124_0 := am_ hl124_0; clear hi124_0 hl124_0; replace p124 := eq_true p124; replace q124 := eq_true q124; have p125 : 0 ≤ (t118 : Int) := of_decide_eq_true tc1_; have q125 : t118 < ((rd_L3 x5_2 t115).length : Int) := of_decide_eq_true tc1_; obtain ⟨ad125, e125, hx125_0⟩ := Kd.at_int (by repeat (first | (with_reducible exact HR124_0.out) | (with_reducible refine Kd.C_alloc ?_ _) | (with_reducible refine Kd.C_drewN ?_ _) | (with_reducible refine Kd.C_drew ?_) | exact HR124_0.out)) t118 p125 q125; cases e125; replace p125 := eq_true p125; replace q125 := eq_true q125; have p29 : 0 ≤ (t118 : Int) := of_decide_eq_true tc1_; have q29 : (t118 : Int) < (((rd_L3 x5_2 t115).length : Int) : Int) := of_decide_eq_true tc1_; obtain ⟨go29, co29, eo29, gb29, gl29, cl29, HG29⟩ := Kd.R_form HL124_0.out (by omega); (first | cases eo29 | (injection eo29 with ea_ en_ ec_; (first | subst ea_ | (injection ea_ with ea_; subst ea_)); subst ec_; clear en_)); have GB29 := am_ gb29; have GG29 := am_ HG29; clear gb29 gl29 HG29; (first | simp only [add_plain] at hx125_0 | skip); obtain ⟨hx29_0, hf29_0⟩ := Kd.R_celln 0 HL124_0.out (t118 : Int) p29 q29; replace p29 := eq_true p29; replace q29 := eq_true q29; have hq46 : (t115 : Int) < (x5_2.length : Int) := (by have h_ : (t115 : Int) < ((x5_2.length : Int) : Int) := of_decide_eq_true tc1_; first | exact h_ | (have e_ := (Kd.S_reads' HO_5.out).1; omega) | simpa only [List.length_set, List.length_set] using h_); obtain ⟨oki46, ce46, hcl46, hM46, hcc46, hok46, hbk46⟩ := Kd.S_borrow HO_5.out [] (t115 : Int) (of_decide_eq_true tc1_) (by first | exact hq46 | (have e_ := (Kd.S_reads' HO_5.out).1; omega)); obtain ⟨ve46_0, rfl, ge46_0⟩ := hM46; have hv46 := hcc46 0 _ rfl; rw [Nat.add_zero, show ((Kd.slice 3 (Kd.int .i64))).sz = 1 from rfl, Nat.mul_one] at hv46; replace hv46 := Option.some.inj (hv46.symm.trans HX124_0.out); subst hv46; clear hcc46 hcl46; replace ge46_0 := (show Kd.R (Kd.int .i64) 3 _ _ _ _ (rd_L3 x5_2 t115) from ge46_0); have HP46 := Kd.R_putg ge46_0 (t118 : Int) (wrap64 ((rd (rd_L3 x5_2 t115) t118) + (wrap64 ((wrap64 (2 * t121)) - 1))))) | ((with_reducible refine gate_store (t := 3) (p := 71) rfl ?_); refine store_event (t := 3) (p := 71) (v := ?vo_w47) (w1 := (w45.setCell ⟨go29, (t118 : Int).toNat, none⟩ (.int .i64 (wrap64 ((rd (rd_L3 x5_2 t115) t118) + (wrap64 ((wrap64 (2 * t121)) - 1))))))) ?hg ?ho ?hn ?hr ?_; (case ho => rfl); (case hg => rfl); (case hn => rfl); (case hr => exact tc26_); intro w47 hw; have hg : w45.grownBy w47 (some go29) := (by rw [hw]; exact HP46.2); have hz_ : Kd.R (Kd.int .i64) 3 w47 w.heap.size oki46 (.slice (some ⟨go29, 0, none⟩) (rd_L3 x5_2 t115).length c124_0) y126 := (by rw [hw, Ny126.out]; exact HP46.1); have hp_ : Kd.S (Kd.slice 3 (Kd.int .i64)) 28 w47 w.heap.size (fun _ => True) (.slice (some ad124) x5_2.length co5) y128 := (by rw [Ny128.out]; exact hbk46 hg (fun k_ e_ => by injection e_ with e_; subst e_; exact ge46_0.1 _ rfl) (Kd.M_row hz_)); have hm_ := Kd.R_mono hz_ hok46; clear HP46 hbk46; have n0_ := am_ (hp_); have n1_ := am_ (IsS74.grown tc3_ hg (IsS74.own_ne HI0.out HL124_0.out (by decide))); have n2_ := am_ ((by rw [hw]; exact below_set (HB.out) (Nat.le_trans HL.out GB29.out) : Below w0.heap.size w0 w47)); have n3_ := am_ (KeepBut.trans tc4_ (KeepBut.of_grown hg g) (Kd.R_base2 HL124_0.out)); have n4_ := am_ (hm_); have n5_ := am_ ((Kd.R_reads' hm_).2.1); clear HO_5 HI0; clear HB HK HL124_0; have HO_5 := n0_; have HI0 := n1_; have HB := n2_; have HK := n3_; have HL139 := n4_; have HC127 := n5_; clear n0_ n1_ n2_ n3_ n4_ n5_; clear hg hw hp_ hz_ hm_ hok46) | ((with_reducible refine gate_callee (f := 127) rfl ?_); refine goesL_ (some 73) rfl rfl Try.func127 (by kernel_rfl) rfl #[.slice (some ad124) y128.length co5] rfl (by (try simp only [List.map_toArray, List.map_cons, List.map_nil]); first | done | (rw [show y128.length = x5_2.length from (Kd.S_reads' HO_5.out).1.symm] <;> rfl) | rfl | (simp only [List.length_drop, List.length_take]; rfl)) ?_; (with_reducible refine (spec_sgFrom.calls kj18 _ _ y128 t129 _ ?side1 ?side2 A30.out).mono ?_); (case side1 => exact tc56_); (case side2 => rw [show y128.length = x5_2.length from (Kd.S_reads' HO_5.out).1.symm]; exact (Kd.S_reads' HO_5.out).2.1); rintro e w48 ⟨v130, rfl, ho0, hb⟩; refine ⟨_, rfl, ?_⟩; have n0_ := am_ (Kd.S_elder' tc22_ (Kd.S_base ho0) hb); have n1_ := am_ (Kd.R_below tc66_ hb); have n2_ := am_ (Kd.S_lower (Kd.S_new' (Kd.S_new' ho0 (Kd.S_lt tc22_)) (Kd.R_lt tc66_)) (keep_size (w := w) (g := g) (row := none) tc4_)); have n3_ := am_ (IsS74.below tc3_ hb); have n4_ := am_ (KeepBut.trans tc4_ (KeepBut.of_below hb g none) (.inl rfl)); have n5_ := am_ (below_step tc5_ hb); clear HO_5 HL139; clear HI0 HK HB; have HO_5 := n0_; have HL139 := n1_; have HO131 := n2_; have HI0 := n3_; have HK := n4_; have HB := n5_; clear n0_ n1_ n2_ n3_ n4_ n5_; (try clear hb ho0); obtain ⟨Ao49, co49, eo49⟩ := Kd.S_slice HO131.out; subst eo49) | ((with_reducible refine gate_callee (f := 57) rfl ?_); refine goesL_ (some 74) rfl rfl Try.func57 (by kernel_rfl) rfl #[.slice Ao49 t129.length co49] rfl tc2_ ?_; (with_reducible refine (spec_sgGood.calls kj18 _ _ t129 false _ ?side1 ?side2 A31.out).mono ?_); (case side1 => repeat (first | exact (Kd.S_reads' HO131.out).2.2 | (with_reducible refine Kd.C_alloc ?_ _) | (with_reducible refine Kd.C_drewN ?_ _) | (with_reducible refine Kd.C_drew ?_))); (case side2 => exact (Kd.S_reads' HO131.out).2.1); rintro e w50 ⟨rfl, hb⟩; refine ⟨_, rfl, ?_⟩; have n0_ := am_ (Kd.S_below tc22_ hb); have n1_ := am_ (Kd.R_below tc66_ hb); have n2_ := am_ (Kd.S_below (by (with_reducible repeat (first | apply Kd.S_alloc | apply Kd.S_drewN | apply Kd.S_drew)); exact HO131.out) hb); have n3_ := am_ (IsS74.below tc3_ hb); have n4_ := am_ (KeepBut.trans tc4_ (KeepBut.of_below hb g none) (.inl rfl)); have n5_ := am_ (below_step tc5_ hb); clear HO_5 HL139; clear HO131 HI0; clear HK HB; have HO_5 := n0_; have HL139 := n1_; have HO131 := n2_; have HI0 := n3_; have HK := n4_; have HB := n5_; clear n0_ n1_ n2_ n3_ n4_ n5_; (try clear hb); have p133 : 0 ≤ (t115 : Int) := of_decide_eq_true tc1_; have q133 : t115 < (y128.length : Int) := (by have h_ : (t115 : Int) < ((x5_2.length : Int) : Int) := of_decide_eq_true tc1_; first | (have e_ := (Kd.S_reads' HO_5.out).1; omega) | simpa only [Ny128.out, List.length_set] using h_); have ql133 : ((t115 : Int) < ((x5_2.length : Int) : Int)) = True := eq_true (of_decide_eq_true tc1_); obtain ⟨ad133, A133_0, c133_0, e133, hx133_0, hl133_0, hi133_0⟩ := at_L3 (Kd.S_reads' HO_5.out).2.2 t115 p133 q133; obtain rfl : ad124 = ad133 := (by injection e133); obtain ⟨ce133, hce133, hMe133, hcc133⟩ := Kd.S_get HO_5.out [] t115 p133 (by first | exact q133 | exact of_decide_eq_true tc1_ | (have e_ := (Kd.S_reads' HO_5.out).1; omega)); obtain ⟨ve133_0, rfl, ge133_0⟩ := hMe133; have hv133_0 := hcc133 0 _ rfl; rw [Nat.add_zero, show ((Kd.slice 3 (Kd.int .i64))).sz = 1 from rfl, Nat.mul_one] at hv133_0; replace hv133_0 := Option.some.inj (hv133_0.symm.trans hx133_0); rw [hv133_0] at ge133_0; have HL133_0 := am_ (show Kd.R (Kd.int .i64) 3 _ _ _ _ (rd_L3 y128 t115) from ge133_0); clear hv133_0 ge133_0; have HX133_0 := am_ hx133_0; clear hcc133 hce133; have HR133_0 := am_ hi133_0; have HC133_0 := am_ hl133_0; clear hi133_0 hl133_0; replace p133 := eq_true p133; replace q133 := eq_true q133; have p134 : 0 ≤ (t118 : Int) := of_decide_eq_true tc1_; have q134 : t118 < ((rd_L3 y128 t115).length : Int) := of_decide_eq_true tc1_; obtain ⟨ad134, e134, hx134_0⟩ := Kd.at_int (by repeat (first | (with_reducible exact HR133_0.out) | (with_reducible refine Kd.C_alloc ?_ _) | (with_reducible refine Kd.C_drewN ?_ _) | (with_reducible refine Kd.C_drew ?_) | exact HR133_0.out)) t118 p134 q134; cases e134; replace p134 := eq_true p134; replace q134 := eq_true q134; have p42 : 0 ≤ (t118 : Int) := of_decide_eq_true tc1_; have q42 : (t118 : Int) < (((rd_L3 y128 t115).length : Int) : Int) := of_decide_eq_true tc1_; obtain ⟨go42, co42, eo42, gb42, gl42, cl42, HG42⟩ := Kd.R_form HL133_0.out (by omega); (first | cases eo42 | (injection eo42 with ea_ en_ ec_; (first | subst ea_ | (injection ea_ with ea_; subst ea_)); subst ec_; clear en_)); have GB42 := am_ gb42; have GG42 := am_ HG42; clear gb42 gl42 HG42; (first | simp only [add_plain] at hx134_0 | skip); obtain ⟨hx42_0, hf42_0⟩ := Kd.R_celln 0 HL133_0.out (t118 : Int) p42 q42; replace p42 := eq_true p42; replace q42 := eq_true q42; have n_ := am_ (Kd.S_mono (ok' := (fun _ => True)) HO_5.out (fun k_ hk => trivial)); clear HO_5; have HO_5 := n_; clear n_; have hq51 : (t115 : Int) < (y128.length : Int) := (by have h_ : (t115 : Int) < ((x5_2.length : Int) : Int) := of_decide_eq_true tc1_; first | exact h_ | (have e_ := (Kd.S_reads' HO_5.out).1; omega) | simpa only [Ny128.out, List.length_set] using h_); obtain ⟨oki51, ce51, hcl51, hM51, hcc51, hok51, hbk51⟩ := Kd.S_borrow HO_5.out [] (t115 : Int) (of_decide_eq_true tc1_) (by first | exact hq51 | (have e_ := (Kd.S_reads' HO_5.out).1; omega)); obtain ⟨ve51_0, rfl, ge51_0⟩ := hM51; have hv51 := hcc51 0 _ rfl; rw [Nat.add_zero, show ((Kd.slice 3 (Kd.int .i64))).sz = 1 from rfl, Nat.mul_one] at hv51; replace hv51 := Option.some.inj (hv51.symm.trans HX133_0.out); subst hv51; clear hcc51 hcl51; replace ge51_0 := (show Kd.R (Kd.int .i64) 3 _ _ _ _ (rd_L3 y128 t115) from ge51_0); have HP51 := Kd.R_putg ge51_0 (t118 : Int) (wrap64 ((rd (rd_L3 y128 t115) t118) - (wrap64 ((wrap64 (2 * t121)) - 1))))) | ((with_reducible refine gate_store (t := 3) (p := 85) rfl ?_); refine store_event (t := 3) (p := 85) (v := ?vo_w52) (w1 := (w50.setCell ⟨go42, (t118 : Int).toNat, none⟩ (.int .i64 (wrap64 ((rd (rd_L3 y128 t115) t118) - (wrap64 ((wrap64 (2 * t121)) - 1))))))) ?hg ?ho ?hn ?hr ?_; (case ho => rfl); (case hg => rfl); (case hn => rfl); (case hr => exact tc26_); intro w52 hw; have hg : w50.grownBy w52 (some go42) := (by rw [hw]; exact HP51.2); have hz_ : Kd.R (Kd.int .i64) 3 w52 w.heap.size oki51 (.slice (some ⟨go42, 0, none⟩) (rd_L3 y128 t115).length c133_0) y135 := (by rw [hw, Ny135.out]; exact HP51.1); have hp_ : Kd.S (Kd.slice 3 (Kd.int .i64)) 28 w52 w.heap.size (fun _ => True) (.slice (some ad124) x5_2.length co5) y137 := (by rw [Ny137.out]; exact hbk51 hg (fun k_ e_ => by injection e_ with e_; subst e_; exact ge51_0.1 _ rfl) (Kd.M_row hz_)); have hm_ := Kd.R_mono hz_ hok51; clear HP51 hbk51; have n0_ := am_ (hp_); have n1_ := am_ (IsS74.grown tc3_ hg (IsS74.own_ne HI0.out HL133_0.out (by decide))); have n2_ := am_ ((by rw [hw]; exact below_set (HB.out) (Nat.le_trans HL.out GB42.out) : Below w0.heap.size w0 w52)); have n3_ := am_ (KeepBut.trans tc4_ (KeepBut.of_grown hg g) (Kd.R_base2 HL133_0.out)); have n4_ := am_ (hm_); have n5_ := am_ ((Kd.R_reads' hm_).2.1); clear HO_5 HI0; clear HB HK; clear HL139 HL133_0; have HO_5 := n0_; have HI0 := n1_; have HB := n2_; have HK := n3_; have HL140 := n4_; have HC136 := n5_; clear n0_ n1_ n2_ n3_ n4_ n5_; clear hg hw hp_ hz_ hm_ hok51))
               (try simp only [← hl5_2])
               go_roundg kj18
               case measure => have := HK1.out; have := HK2.out; have := HJ18.out; omega
               case rel => exact ⟨(y137), (wrap64 (x8_2 - 1)), (t122), (t123), tc6_, H', ⟨by have := HK1.out; have := HK2.out; have := HJ18.out; omega⟩, ⟨by (try simp only [hl5_1]); (try simp only [hl5_2]); (with_reducible repeat (first | apply Kd.S_alloc | apply Kd.S_drewN | apply Kd.S_drew)); exact HO_5.out⟩, ⟨by repeat (first | (with_reducible first | exact HI0.out | apply IsS74.alloc | apply IsS74.drewN | apply IsS74.drew | apply IsS74.set_1 | apply IsS74.set_2) | exact HI0.out)⟩, ⟨by repeat (first | (with_reducible first | exact HK.out | apply KeepBut.set_ | apply keep_drewN | apply keep_drew | apply keep_alloc) | exact HK.out)⟩, ⟨by repeat (first | (with_reducible first | exact HB.out | apply below_alloc | apply pw_below_drewN | apply below_drew1 | refine below_set ?_ (IsS74.ge HI0.out)) | exact HB.out)⟩⟩
              ·rw [if_neg c41] at H
               exact absurd H (by simp)
            ·rw [if_neg c28] at H
             exact absurd H (by simp)
           ·rw [if_neg c27] at H
            exact absurd H (by simp)
          ·rw [if_neg c26] at H
           exact absurd H (by simp)
         ·rw [if_neg c25] at H
          exact absurd H (by simp)
        ·replace c21 := Bool.eq_false_iff.mpr c21
         subst c21
         have H1 : ((spec_sgFrom.f kj18 x5_2).bind fun t112 => (some (t112, x1001_2, x1002_2))) = some (r1, r2, r3) := by rw [if_neg (show ¬ (false = true) by decide)] at H; exact H
         clear H
         have H := H1
         clear H1
         replace H := Option.bind_eq_some_iff.mp H
         obtain ⟨t112, A530, H⟩ := H
         replace H : (some (t112, x1001_2, x1002_2)) = some (r1, r2, r3) := H
         have A53 := am_ A530
         clear A530
         simp only [Option.some.injEq, Prod.mk.injEq] at H
         obtain ⟨rfl, rfl, rfl⟩ := H
         go_wp2_with (first | ((with_reducible refine gate_callee (f := 127) rfl ?_); refine goesL_ (some 87) rfl rfl Try.func127 (by kernel_rfl) rfl #[.slice Ao5 x5_2.length co5] rfl tc2_ ?_; (with_reducible refine (spec_sgFrom.calls kj18 _ _ x5_2 t112 _ ?side1 ?side2 A53.out).mono ?_); (case side1 => exact tc56_); (case side2 => exact (Kd.S_reads' HO_5.out).2.1); rintro e w54 ⟨v113, rfl, ho0, hb⟩; refine ⟨_, rfl, ?_⟩; have n0_ := am_ (Kd.S_elder' tc22_ (Kd.S_base ho0) hb); have n1_ := am_ (Kd.S_lower (Kd.S_new' ho0 (Kd.S_lt tc22_)) (keep_size (w := w) (g := g) (row := none) tc4_)); have n2_ := am_ (IsS74.below tc3_ hb); have n3_ := am_ (KeepBut.trans tc4_ (KeepBut.of_below hb g none) (.inl rfl)); have n4_ := am_ (below_step tc5_ hb); clear HO_5 HI0; clear HK HB; have HO_5 := n0_; have HO114 := n1_; have HI0 := n2_; have HK := n3_; have HB := n4_; clear n0_ n1_ n2_ n3_ n4_; (try clear hb ho0)))
         go_ret
         exact ⟨_, by first | rfl | (simp [errW_none, errW_some] <;> rfl) | (simp [*, errW_none, errW_some] <;> rfl), by (with_reducible repeat (first | apply Kd.S_alloc | apply Kd.S_drewN | apply Kd.S_drew)); exact Kd.S_mono HO114.out (fun _ hk => trivial), by repeat (first | (with_reducible first | exact HI0.out | apply IsS74.alloc | apply IsS74.drewN | apply IsS74.drew | apply IsS74.set_1 | apply IsS74.set_2) | exact HI0.out), by repeat (first | (with_reducible first | exact HB.out | apply below_alloc | apply pw_below_drewN | apply below_drew1 | refine below_set ?_ (IsS74.ge HI0.out)) | exact HB.out), by repeat (first | (with_reducible first | exact HK.out | apply KeepBut.set_ | apply keep_drewN | apply keep_drew | apply keep_alloc) | exact HK.out)⟩

/-! ### spec_l1Cur_among: function 108 -/
def spec_l1Cur_among.f (s0_0 : List Int) (s0_1 : Int) (s0_2 : Int) (l1 : List Int) : Option (Int × Int × Int) := (spec_l1Cur_pick.f s0_0 s0_1 s0_2 (l1.length : Int)).bind fun bt101 => (if 0 ≤ bt101.1 then (if bt101.1 < (l1.length : Int) then (some (rd l1 bt101.1, bt101.2.1, bt101.2.2)) else (none)) else (none))
set_option maxHeartbeats 8000000 in
set_option maxRecDepth 100000 in
theorem spec_l1Cur_among.calls (g : Nat) (s0_0 : List Int) (s0_1 : Int) (s0_2 : Int) (A1 : Option Addr) (c1 : Nat) (l1 : List Int) (r1 : Int) (r2 : Int) (r3 : Int) (w0 w : World) (hI : IsS74 w0 w g s0_0 s0_1 s0_2) (hB : Below w0.heap.size w0 w) (hr1 : Kd.C (Kd.int .i64) w A1 l1.length l1) (hc1 : l1.length ≤ c1) (hf1 : ∀ ad, A1 = some ad → 0 < l1.length → ad.block ≠ g) (h : spec_l1Cur_among.f s0_0 s0_1 s0_2 l1 = some (r1, r2, r3)) :
  Calls Try.prog 108 #[.pointer (some ⟨g, 0, none⟩), .slice A1 l1.length c1] w fun e w' => e = .returned (.int .i64 r1) ∧ IsS74 w0 w' g s0_0 r2 r3 ∧ Below w0.heap.size w0 w' ∧ KeepBut w w' g none := by
 have HR1 := am_ hr1
 have HC1 := am_ hc1
 clear hr1 hc1
 have HI0 := am_ hI
 have HK := am_ (KeepBut.refl w g none)
 have HL := am_ hB.size
 clear hI
 have HW0 := am_ hB.size
 have HB := am_ hB
 clear hB
 have H : ((spec_l1Cur_pick.f s0_0 s0_1 s0_2 (l1.length : Int)).bind fun bt101 => (if 0 ≤ bt101.1 then (if bt101.1 < (l1.length : Int) then (some (rd l1 bt101.1, bt101.2.1, bt101.2.2)) else (none)) else (none))) = some (r1, r2, r3) := h
 clear h
 replace H := Option.bind_eq_some_iff.mp H
 obtain ⟨⟨t101, t102, t103⟩, A30, H⟩ := H
 replace H : (if 0 ≤ t101 then (if t101 < (l1.length : Int) then (some (rd l1 t101, t102, t103)) else (none)) else (none)) = some (r1, r2, r3) := H
 have A3 := am_ A30
 clear A30
 by_cases c4 : 0 ≤ t101
 ·rw [if_pos c4] at H
  have c4b0 : decide (0 ≤ t101) = true := decide_eq_true c4
  clear c4
  by_cases c5 : t101 < (l1.length : Int)
  ·rw [if_pos c5] at H
   have c5b0 : decide (t101 < (l1.length : Int)) = true := decide_eq_true c5
   clear c5
   simp only [Option.some.injEq, Prod.mk.injEq] at H
   obtain ⟨rfl, rfl, rfl⟩ := H
   go_enter Try.func108, Try.ntmps108
   go_wp2_with (first | ((with_reducible refine gate_callee (f := 61) rfl ?_); refine goesL_ (some 9) rfl rfl Try.func61 (by kernel_rfl) rfl #[.pointer (some ⟨g, 0, none⟩), .int .i64 (l1.length : Int)] rfl tc2_ ?_; (with_reducible refine (spec_l1Cur_pick.calls g s0_0 s0_1 s0_2 (l1.length : Int) t101 t102 t103 w0 _ ?side1 ?side2 A3.out).mono ?_); (case side1 => exact tc3_); (case side2 => exact tc5_); rintro e w6 ⟨rfl, hi, hb, hk⟩; refine ⟨_, rfl, ?_⟩; have n0_ := am_ (KeepBut.trans tc4_ hk (.inl rfl)); have n1_ := am_ (hb); have n2_ := am_ (hi); clear HK HB HI0; have HK := n0_; have HB := n1_; have HI0 := n2_; clear n0_ n1_ n2_; (try clear hb hk hi); have p104 : 0 ≤ (t101 : Int) := of_decide_eq_true tc1_; have q104 : t101 < (l1.length : Int) := of_decide_eq_true tc1_; obtain ⟨ad104, e104, hx104_0⟩ := Kd.at_int HR1.out t101 p104 q104; cases e104; replace hx104_0 := keep_cell HK.out hx104_0 (by first | (rw [add_block]; exact hf1 _ rfl (by omega)) | exact hf1 _ rfl (by omega) | exact hf1 ad104 rfl (by omega)); replace p104 := eq_true p104; replace q104 := eq_true q104))
   go_ret
   exact ⟨by first | rfl | (simp [errW_none, errW_some] <;> rfl) | (simp [*, errW_none, errW_some] <;> rfl), by repeat (first | (with_reducible first | exact HI0.out | apply IsS74.alloc | apply IsS74.drewN | apply IsS74.drew | apply IsS74.set_1 | apply IsS74.set_2) | exact HI0.out), by repeat (first | (with_reducible first | exact HB.out | apply below_alloc | apply pw_below_drewN | apply below_drew1 | refine below_set ?_ (IsS74.ge HI0.out)) | exact HB.out), by repeat (first | (with_reducible first | exact HK.out | apply KeepBut.set_ | apply keep_drewN | apply keep_drew | apply keep_alloc) | exact HK.out)⟩
  ·rw [if_neg c5] at H
   exact absurd H (by simp)
 ·rw [if_neg c4] at H
  exact absurd H (by simp)

/-! ### spec_l1Cur_signs: function 59 -/
def spec_l1Cur_signs.f (k : Nat) (s0_0 : List Int) (s0_1 : Int) (s0_2 : Int) (a1 : Int) : Option ((List (List Int)) × Int × Int) := (spec_l1Cur_pick.f s0_0 s0_1 s0_2 a1).bind fun bt101 => ((spec_l1Cur_sure.f k s0_0 bt101.2.1 bt101.2.2 (wrap64 (1 + bt101.1))).bind fun bt104 => ((spec_l1Cur_pick.f s0_0 bt104.2.1 bt104.2.2 20).bind fun bt109 => (if bt109.1 = 0 then ((spec_l1Cur_pick.f s0_0 bt109.2.1 bt109.2.2 (wrap64 (1 + bt101.1))).bind fun bt112 => (if 0 ≤ bt112.1 then (if bt112.1 < (bt104.1.length : Int) then ((spec_l1Cur_pick.f s0_0 bt112.2.1 bt112.2.2 (wrap64 (1 + bt101.1))).bind fun bt116 => ((spec_l1Cur_among.f s0_0 bt116.2.1 bt116.2.2 (([(-2), (-1), 0, 1, 2, 4611686018427387904] : List Int))).bind fun bt122 => (if 0 ≤ bt116.1 then (if bt116.1 < ((rd_L3 bt104.1 bt112.1).length : Int) then (some ((bt104.1.set (bt112.1 : Int).toNat ((rd_L3 bt104.1 bt112.1).set (bt116.1 : Int).toNat bt122.1)), bt122.2.1, bt122.2.2)) else (none)) else (none)))) else (none)) else (none))) else (if bt109.1 = 1 then (if 0 ≤ (wrap64 (1 + bt101.1)) then (if (wrap64 (1 + bt101.1) : Int).toNat ≤ 35184372088832 then (if bt104.1.length < 5864062014805 then (some ((bt104.1 ++ [(List.replicate (wrap64 (1 + bt101.1) : Int).toNat 0)]), bt109.2.1, bt109.2.2)) else (none)) else (none)) else (none)) else (if bt109.1 = 2 then (if 0 < (bt104.1.length : Int) then (if (rd_L3 bt104.1 0).length < 17592186044416 then (some ((bt104.1.set (0 : Int).toNat ((rd_L3 bt104.1 0) ++ [0])), bt109.2.1, bt109.2.2)) else (none)) else (none)) else (if bt109.1 = 3 then ((spec_l1Cur_sure.f k s0_0 bt109.2.1 bt109.2.2 6).bind fun bt139 => ((spec_l1Cur_one.f s0_0 bt139.2.1 bt139.2.2 2).bind fun bt144 => (if bt144.1 = true then (some (([] : List (List Int)), bt144.2.1, bt144.2.2)) else (some (bt139.1, bt144.2.1, bt144.2.2))))) else (some (bt104.1, bt109.2.1, bt109.2.2))))))))
set_option maxHeartbeats 8000000 in
set_option maxRecDepth 100000 in
theorem spec_l1Cur_signs.calls (k : Nat) (g : Nat) (s0_0 : List Int) (s0_1 : Int) (s0_2 : Int) (a1 : Int) (r1 : List (List Int)) (r2 : Int) (r3 : Int) (w0 w : World) (hI : IsS74 w0 w g s0_0 s0_1 s0_2) (hB : Below w0.heap.size w0 w) (h : spec_l1Cur_signs.f k s0_0 s0_1 s0_2 a1 = some (r1, r2, r3)) :
  Calls Try.prog 59 #[.pointer (some ⟨g, 0, none⟩), .int .i64 a1] w fun e w' => ∃ v0_ : Value, e = .returned (v0_) ∧ Kd.S (Kd.slice 3 (Kd.int .i64)) 28 w' w.heap.size (fun _ => True) v0_ r1 ∧ IsS74 w0 w' g s0_0 r2 r3 ∧ Below w0.heap.size w0 w' ∧ KeepBut w w' g none := by
 have HI0 := am_ hI
 have HK := am_ (KeepBut.refl w g none)
 have HL := am_ hB.size
 clear hI
 have HW0 := am_ hB.size
 have HB := am_ hB
 clear hB
 have H : ((spec_l1Cur_pick.f s0_0 s0_1 s0_2 a1).bind fun bt101 => ((spec_l1Cur_sure.f k s0_0 bt101.2.1 bt101.2.2 (wrap64 (1 + bt101.1))).bind fun bt104 => ((spec_l1Cur_pick.f s0_0 bt104.2.1 bt104.2.2 20).bind fun bt109 => (if bt109.1 = 0 then ((spec_l1Cur_pick.f s0_0 bt109.2.1 bt109.2.2 (wrap64 (1 + bt101.1))).bind fun bt112 => (if 0 ≤ bt112.1 then (if bt112.1 < (bt104.1.length : Int) then ((spec_l1Cur_pick.f s0_0 bt112.2.1 bt112.2.2 (wrap64 (1 + bt101.1))).bind fun bt116 => ((spec_l1Cur_among.f s0_0 bt116.2.1 bt116.2.2 (([(-2), (-1), 0, 1, 2, 4611686018427387904] : List Int))).bind fun bt122 => (if 0 ≤ bt116.1 then (if bt116.1 < ((rd_L3 bt104.1 bt112.1).length : Int) then (some ((bt104.1.set (bt112.1 : Int).toNat ((rd_L3 bt104.1 bt112.1).set (bt116.1 : Int).toNat bt122.1)), bt122.2.1, bt122.2.2)) else (none)) else (none)))) else (none)) else (none))) else (if bt109.1 = 1 then (if 0 ≤ (wrap64 (1 + bt101.1)) then (if (wrap64 (1 + bt101.1) : Int).toNat ≤ 35184372088832 then (if bt104.1.length < 5864062014805 then (some ((bt104.1 ++ [(List.replicate (wrap64 (1 + bt101.1) : Int).toNat 0)]), bt109.2.1, bt109.2.2)) else (none)) else (none)) else (none)) else (if bt109.1 = 2 then (if 0 < (bt104.1.length : Int) then (if (rd_L3 bt104.1 0).length < 17592186044416 then (some ((bt104.1.set (0 : Int).toNat ((rd_L3 bt104.1 0) ++ [0])), bt109.2.1, bt109.2.2)) else (none)) else (none)) else (if bt109.1 = 3 then ((spec_l1Cur_sure.f k s0_0 bt109.2.1 bt109.2.2 6).bind fun bt139 => ((spec_l1Cur_one.f s0_0 bt139.2.1 bt139.2.2 2).bind fun bt144 => (if bt144.1 = true then (some (([] : List (List Int)), bt144.2.1, bt144.2.2)) else (some (bt139.1, bt144.2.1, bt144.2.2))))) else (some (bt104.1, bt109.2.1, bt109.2.2))))))))) = some (r1, r2, r3) := h
 clear h
 replace H := Option.bind_eq_some_iff.mp H
 obtain ⟨⟨t101, t102, t103⟩, A30, H⟩ := H
 replace H : ((spec_l1Cur_sure.f k s0_0 t102 t103 (wrap64 (1 + t101))).bind fun bt104 => ((spec_l1Cur_pick.f s0_0 bt104.2.1 bt104.2.2 20).bind fun bt109 => (if bt109.1 = 0 then ((spec_l1Cur_pick.f s0_0 bt109.2.1 bt109.2.2 (wrap64 (1 + t101))).bind fun bt112 => (if 0 ≤ bt112.1 then (if bt112.1 < (bt104.1.length : Int) then ((spec_l1Cur_pick.f s0_0 bt112.2.1 bt112.2.2 (wrap64 (1 + t101))).bind fun bt116 => ((spec_l1Cur_among.f s0_0 bt116.2.1 bt116.2.2 (([(-2), (-1), 0, 1, 2, 4611686018427387904] : List Int))).bind fun bt122 => (if 0 ≤ bt116.1 then (if bt116.1 < ((rd_L3 bt104.1 bt112.1).length : Int) then (some ((bt104.1.set (bt112.1 : Int).toNat ((rd_L3 bt104.1 bt112.1).set (bt116.1 : Int).toNat bt122.1)), bt122.2.1, bt122.2.2)) else (none)) else (none)))) else (none)) else (none))) else (if bt109.1 = 1 then (if 0 ≤ (wrap64 (1 + t101)) then (if (wrap64 (1 + t101) : Int).toNat ≤ 35184372088832 then (if bt104.1.length < 5864062014805 then (some ((bt104.1 ++ [(List.replicate (wrap64 (1 + t101) : Int).toNat 0)]), bt109.2.1, bt109.2.2)) else (none)) else (none)) else (none)) else (if bt109.1 = 2 then (if 0 < (bt104.1.length : Int) then (if (rd_L3 bt104.1 0).length < 17592186044416 then (some ((bt104.1.set (0 : Int).toNat ((rd_L3 bt104.1 0) ++ [0])), bt109.2.1, bt109.2.2)) else (none)) else (none)) else (if bt109.1 = 3 then ((spec_l1Cur_sure.f k s0_0 bt109.2.1 bt109.2.2 6).bind fun bt139 => ((spec_l1Cur_one.f s0_0 bt139.2.1 bt139.2.2 2).bind fun bt144 => (if bt144.1 = true then (some (([] : List (List Int)), bt144.2.1, bt144.2.2)) else (some (bt139.1, bt144.2.1, bt144.2.2))))) else (some (bt104.1, bt109.2.1, bt109.2.2)))))))) = some (r1, r2, r3) := H
 have A3 := am_ A30
 clear A30
 replace H := Option.bind_eq_some_iff.mp H
 obtain ⟨⟨t104, t107, t108⟩, A40, H⟩ := H
 replace H : ((spec_l1Cur_pick.f s0_0 t107 t108 20).bind fun bt109 => (if bt109.1 = 0 then ((spec_l1Cur_pick.f s0_0 bt109.2.1 bt109.2.2 (wrap64 (1 + t101))).bind fun bt112 => (if 0 ≤ bt112.1 then (if bt112.1 < (t104.length : Int) then ((spec_l1Cur_pick.f s0_0 bt112.2.1 bt112.2.2 (wrap64 (1 + t101))).bind fun bt116 => ((spec_l1Cur_among.f s0_0 bt116.2.1 bt116.2.2 (([(-2), (-1), 0, 1, 2, 4611686018427387904] : List Int))).bind fun bt122 => (if 0 ≤ bt116.1 then (if bt116.1 < ((rd_L3 t104 bt112.1).length : Int) then (some ((t104.set (bt112.1 : Int).toNat ((rd_L3 t104 bt112.1).set (bt116.1 : Int).toNat bt122.1)), bt122.2.1, bt122.2.2)) else (none)) else (none)))) else (none)) else (none))) else (if bt109.1 = 1 then (if 0 ≤ (wrap64 (1 + t101)) then (if (wrap64 (1 + t101) : Int).toNat ≤ 35184372088832 then (if t104.length < 5864062014805 then (some ((t104 ++ [(List.replicate (wrap64 (1 + t101) : Int).toNat 0)]), bt109.2.1, bt109.2.2)) else (none)) else (none)) else (none)) else (if bt109.1 = 2 then (if 0 < (t104.length : Int) then (if (rd_L3 t104 0).length < 17592186044416 then (some ((t104.set (0 : Int).toNat ((rd_L3 t104 0) ++ [0])), bt109.2.1, bt109.2.2)) else (none)) else (none)) else (if bt109.1 = 3 then ((spec_l1Cur_sure.f k s0_0 bt109.2.1 bt109.2.2 6).bind fun bt139 => ((spec_l1Cur_one.f s0_0 bt139.2.1 bt139.2.2 2).bind fun bt144 => (if bt144.1 = true then (some (([] : List (List Int)), bt144.2.1, bt144.2.2)) else (some (bt139.1, bt144.2.1, bt144.2.2))))) else (some (t104, bt109.2.1, bt109.2.2))))))) = some (r1, r2, r3) := H
 have A4 := am_ A40
 clear A40
 replace H := Option.bind_eq_some_iff.mp H
 obtain ⟨⟨t109, t110, t111⟩, A50, H⟩ := H
 replace H : (if t109 = 0 then ((spec_l1Cur_pick.f s0_0 t110 t111 (wrap64 (1 + t101))).bind fun bt112 => (if 0 ≤ bt112.1 then (if bt112.1 < (t104.length : Int) then ((spec_l1Cur_pick.f s0_0 bt112.2.1 bt112.2.2 (wrap64 (1 + t101))).bind fun bt116 => ((spec_l1Cur_among.f s0_0 bt116.2.1 bt116.2.2 (([(-2), (-1), 0, 1, 2, 4611686018427387904] : List Int))).bind fun bt122 => (if 0 ≤ bt116.1 then (if bt116.1 < ((rd_L3 t104 bt112.1).length : Int) then (some ((t104.set (bt112.1 : Int).toNat ((rd_L3 t104 bt112.1).set (bt116.1 : Int).toNat bt122.1)), bt122.2.1, bt122.2.2)) else (none)) else (none)))) else (none)) else (none))) else (if t109 = 1 then (if 0 ≤ (wrap64 (1 + t101)) then (if (wrap64 (1 + t101) : Int).toNat ≤ 35184372088832 then (if t104.length < 5864062014805 then (some ((t104 ++ [(List.replicate (wrap64 (1 + t101) : Int).toNat 0)]), t110, t111)) else (none)) else (none)) else (none)) else (if t109 = 2 then (if 0 < (t104.length : Int) then (if (rd_L3 t104 0).length < 17592186044416 then (some ((t104.set (0 : Int).toNat ((rd_L3 t104 0) ++ [0])), t110, t111)) else (none)) else (none)) else (if t109 = 3 then ((spec_l1Cur_sure.f k s0_0 t110 t111 6).bind fun bt139 => ((spec_l1Cur_one.f s0_0 bt139.2.1 bt139.2.2 2).bind fun bt144 => (if bt144.1 = true then (some (([] : List (List Int)), bt144.2.1, bt144.2.2)) else (some (bt139.1, bt144.2.1, bt144.2.2))))) else (some (t104, t110, t111)))))) = some (r1, r2, r3) := H
 have A5 := am_ A50
 clear A50
 by_cases c6 : t109 = 0
 ·rw [if_pos c6] at H
  have c6b0 : (t109 == 0) = true := beq_iff_eq.mpr c6
  have c6b1 : (t109 != 0) = false := bne_eq_false_iff_eq.mpr c6
  clear c6
  replace H := Option.bind_eq_some_iff.mp H
  obtain ⟨⟨t112, t113, t114⟩, A70, H⟩ := H
  replace H : (if 0 ≤ t112 then (if t112 < (t104.length : Int) then ((spec_l1Cur_pick.f s0_0 t113 t114 (wrap64 (1 + t101))).bind fun bt116 => ((spec_l1Cur_among.f s0_0 bt116.2.1 bt116.2.2 (([(-2), (-1), 0, 1, 2, 4611686018427387904] : List Int))).bind fun bt122 => (if 0 ≤ bt116.1 then (if bt116.1 < ((rd_L3 t104 t112).length : Int) then (some ((t104.set (t112 : Int).toNat ((rd_L3 t104 t112).set (bt116.1 : Int).toNat bt122.1)), bt122.2.1, bt122.2.2)) else (none)) else (none)))) else (none)) else (none)) = some (r1, r2, r3) := H
  have A7 := am_ A70
  clear A70
  by_cases c8 : 0 ≤ t112
  ·rw [if_pos c8] at H
   have c8b0 : decide (0 ≤ t112) = true := decide_eq_true c8
   clear c8
   by_cases c9 : t112 < (t104.length : Int)
   ·rw [if_pos c9] at H
    have c9b0 : decide (t112 < (t104.length : Int)) = true := decide_eq_true c9
    clear c9
    replace H := Option.bind_eq_some_iff.mp H
    obtain ⟨⟨t116, t117, t118⟩, A100, H⟩ := H
    replace H : ((spec_l1Cur_among.f s0_0 t117 t118 (([(-2), (-1), 0, 1, 2, 4611686018427387904] : List Int))).bind fun bt122 => (if 0 ≤ t116 then (if t116 < ((rd_L3 t104 t112).length : Int) then (some ((t104.set (t112 : Int).toNat ((rd_L3 t104 t112).set (t116 : Int).toNat bt122.1)), bt122.2.1, bt122.2.2)) else (none)) else (none))) = some (r1, r2, r3) := H
    have A10 := am_ A100
    clear A100
    obtain ⟨y119, hy119⟩ : ∃ y_ : List Int, y_ = (([(-2), (-1), 0, 1, 2, 4611686018427387904] : List Int)) := ⟨_, rfl⟩
    replace H : ((spec_l1Cur_among.f s0_0 t117 t118 y119).bind fun bt122 => (if 0 ≤ t116 then (if t116 < ((rd_L3 t104 t112).length : Int) then (some ((t104.set (t112 : Int).toNat ((rd_L3 t104 t112).set (t116 : Int).toNat bt122.1)), bt122.2.1, bt122.2.2)) else (none)) else (none))) = some (r1, r2, r3) := by first | (rw [hy119]; with_reducible exact H) | (have H2_ := (Option.bind_some _ _).symm.trans H; rw [hy119]; with_reducible exact H2_) | (have H2_ := (Option.bind_some _ _).symm.trans H; with_reducible exact H2_) | with_reducible exact H | (rw [hy119]; exact H) | exact H
    have Ny119 := am_ hy119
    clear hy119
    replace H := Option.bind_eq_some_iff.mp H
    obtain ⟨⟨t122, t123, t124⟩, A110, H⟩ := H
    replace H : (if 0 ≤ t116 then (if t116 < ((rd_L3 t104 t112).length : Int) then (some ((t104.set (t112 : Int).toNat ((rd_L3 t104 t112).set (t116 : Int).toNat t122)), t123, t124)) else (none)) else (none)) = some (r1, r2, r3) := H
    have A11 := am_ A110
    clear A110
    by_cases c12 : 0 ≤ t116
    ·rw [if_pos c12] at H
     have c12b0 : decide (0 ≤ t116) = true := decide_eq_true c12
     clear c12
     by_cases c13 : t116 < ((rd_L3 t104 t112).length : Int)
     ·rw [if_pos c13] at H
      have c13b0 : decide (t116 < ((rd_L3 t104 t112).length : Int)) = true := decide_eq_true c13
      clear c13
      obtain ⟨y125, hy125⟩ : ∃ y_ : List Int, y_ = ((rd_L3 t104 t112).set (t116 : Int).toNat t122) := ⟨_, rfl⟩
      replace H : (some ((t104.set (t112 : Int).toNat y125), t123, t124)) = some (r1, r2, r3) := by first | (rw [hy125]; with_reducible exact H) | (have H2_ := (Option.bind_some _ _).symm.trans H; rw [hy125]; with_reducible exact H2_) | (have H2_ := (Option.bind_some _ _).symm.trans H; with_reducible exact H2_) | with_reducible exact H | (rw [hy125]; exact H) | exact H
      have Ny125 := am_ hy125
      clear hy125
      obtain ⟨y127, hy127⟩ : ∃ y_ : List (List Int), y_ = (t104.set (t112 : Int).toNat y125) := ⟨_, rfl⟩
      replace H : (some (y127, t123, t124)) = some (r1, r2, r3) := by first | (rw [hy127]; with_reducible exact H) | (have H2_ := (Option.bind_some _ _).symm.trans H; rw [hy127]; with_reducible exact H2_) | (have H2_ := (Option.bind_some _ _).symm.trans H; with_reducible exact H2_) | with_reducible exact H | (rw [hy127]; exact H) | exact H
      have Ny127 := am_ hy127
      clear hy127
      simp only [Option.some.injEq, Prod.mk.injEq] at H
      obtain ⟨rfl, rfl, rfl⟩ := H
      go_enter Try.func59, Try.ntmps59
      go_wp2_with (first | ((with_reducible refine gate_callee (f := 61) rfl ?_); refine goesL_ (some 9) rfl rfl Try.func61 (by kernel_rfl) rfl #[.pointer (some ⟨g, 0, none⟩), .int .i64 a1] rfl tc2_ ?_; (with_reducible refine (spec_l1Cur_pick.calls g s0_0 s0_1 s0_2 a1 t101 t102 t103 w0 _ ?side1 ?side2 A3.out).mono ?_); (case side1 => exact tc3_); (case side2 => exact tc5_); rintro e w15 ⟨rfl, hi, hb, hk⟩; refine ⟨_, rfl, ?_⟩; have n0_ := am_ (KeepBut.trans tc4_ hk (.inl rfl)); have n1_ := am_ (hb); have n2_ := am_ (hi); clear HK HB HI0; have HK := n0_; have HB := n1_; have HI0 := n2_; clear n0_ n1_ n2_; (try clear hb hk hi)) | ((with_reducible refine gate_callee (f := 91) rfl ?_); refine goesL_ (some 13) rfl rfl Try.func91 (by kernel_rfl) rfl #[.pointer (some ⟨g, 0, none⟩), .int .i64 (wrap64 (1 + t101))] rfl tc2_ ?_; (with_reducible refine (spec_l1Cur_sure.calls k g s0_0 t102 t103 (wrap64 (1 + t101)) t104 t107 t108 w0 _ ?side1 ?side2 A4.out).mono ?_); (case side1 => exact tc3_); (case side2 => exact tc5_); rintro e w16 ⟨v105, rfl, ho0, hi, hb, hk⟩; refine ⟨_, rfl, ?_⟩; have n0_ := am_ (Kd.S_lower ho0 (keep_size (w := w) (g := g) (row := none) tc4_)); have n1_ := am_ (KeepBut.trans tc4_ hk (.inl rfl)); have n2_ := am_ (hb); have n3_ := am_ (hi); clear HK HB HI0; have HO106 := n0_; have HK := n1_; have HB := n2_; have HI0 := n3_; clear n0_ n1_ n2_ n3_; (try clear hb hk hi ho0)) | ((with_reducible refine gate_callee (f := 61) rfl ?_); refine goesL_ (some 15) rfl rfl Try.func61 (by kernel_rfl) rfl #[.pointer (some ⟨g, 0, none⟩), .int .i64 20] rfl tc2_ ?_; (with_reducible refine (spec_l1Cur_pick.calls g s0_0 t107 t108 20 t109 t110 t111 w0 _ ?side1 ?side2 A5.out).mono ?_); (case side1 => exact tc3_); (case side2 => exact tc5_); rintro e w17 ⟨rfl, hi, hb, hk⟩; refine ⟨_, rfl, ?_⟩; have n0_ := am_ (Kd.S_mono (Kd.S_keep (IsS74.apartS (show IsS74 w0 _ g s0_0 t107 t108 from tc3_) tc23_ (by decide)) hk (fun _ h => h.2)) (fun _ h => h.1)); have n1_ := am_ (KeepBut.trans tc4_ hk (.inl rfl)); have n2_ := am_ (hb); have n3_ := am_ (hi); clear HO106 HK; clear HB HI0; have HO106 := n0_; have HK := n1_; have HB := n2_; have HI0 := n3_; clear n0_ n1_ n2_ n3_; (try clear hb hk hi)))
      have ey_ := Ny119.out
      subst ey_
      clear Ny119
      obtain ⟨Ao_, co, eo_⟩ := Kd.S_slice HO106.out
      subst eo_
      have c_i0 : 0 ≤ t112 := of_decide_eq_true c8b0
      have c_i1 : t112 < (t104.length : Int) := of_decide_eq_true c9b0
      have c_j0 : 0 ≤ t116 := of_decide_eq_true c12b0
      have c_j1 : t116 < ((rd_L3 t104 t112).length : Int) := of_decide_eq_true c13b0
      obtain ⟨ad, As_, cs_, ead, _, _, _⟩ := at_L3 (Kd.S_reads' HO106.out).2.2 t112 c_i0 c_i1
      subst ead
      obtain ⟨Aw, cw, hx, hall⟩ := S_cell2k HO106.out t112 c_i0 c_i1
      obtain ⟨aw, eaw, _⟩ := hall t116 c_j0 c_j1
      subst eaw
      clear hall
      replace hx := (show World.cell? (World.drew _) (ad.add (t112 : Int).toNat) = some (.slice (some aw) (rd_L3 t104 t112).length cw) from hx)
      have HO := am_ (Kd.S_drew HO106.out)
      replace HK := am_ (keep_drew HK.out)
      have HI := am_ (IsS74.drew HI0.out)
      replace HB := am_ (below_drew1 HB.out)
      clear HO106 HI0
      refine start_ (n := 14) (S := fun w' => w'.cell? (ad.add (t112 : Int).toNat) = some (.slice (some aw) (rd_L3 t104 t112).length cw)) (ds := [13]) #[false, false, false, false, false, false, false, false, false, false, false, false, false, false] (by kernel_rfl) rfl rfl (hx) (fun hHeld => ?_)
      generalize hW_ : World.drew _ = W at HO HK HI HB hx hHeld ⊢
      clear hW_
      have HX := am_ hx
      clear hx
      refine pure_ (i := 0) (N := some 18) (v := ?_) (a' := ?_) #[true, false, false, false, false, false, false, false, false, false, false, false, false, false] rfl rfl (by kernel_rfl) (fun _ _ _ h => h) (Or.inl ⟨by rfl, ?_⟩) ?_ ?_
      rotate_left
      ·intro w'
       go_simp
       with_reducible rfl
      rotate_left
      ·simp only [Act.put, List.setIfInBounds_toArray, List.set_cons_zero, List.set_cons_succ, i64_w, i32_w]
       rfl
      refine pure_ (i := 1) (N := some 19) (v := ?_) (a' := ?_) #[true, true, false, false, false, false, false, false, false, false, false, false, false, false] rfl rfl (by kernel_rfl) (fun _ _ _ h => h) (Or.inl ⟨by rfl, ?_⟩) ?_ ?_
      rotate_left
      ·intro w'
       go_simp
       with_reducible rfl
      rotate_left
      ·simp only [Act.put, List.setIfInBounds_toArray, List.set_cons_zero, List.set_cons_succ, i64_w, i32_w]
       rfl
      refine pure_ (i := 2) (N := some 20) (v := ?_) (a' := ?_) #[true, true, true, false, false, false, false, false, false, false, false, false, false, false] rfl rfl (by kernel_rfl) (fun _ _ _ h => h) (Or.inl ⟨by rfl, ?_⟩) ?_ ?_
      rotate_left
      ·intro w'
       go_simp
       with_reducible rfl
      rotate_left
      ·simp only [Act.put, List.setIfInBounds_toArray, List.set_cons_zero, List.set_cons_succ, i64_w, i32_w]
       rfl
      refine pure_ (i := 6) (N := some 24) (v := ?_) (a' := ?_) #[true, true, true, false, false, false, true, false, false, false, false, false, false, false] rfl rfl (by kernel_rfl) (fun _ _ _ h => h) (Or.inl ⟨by rfl, ?_⟩) ?_ ?_
      rotate_left
      ·intro w'
       go_simp
       with_reducible rfl
      rotate_left
      ·simp only [Act.put, List.setIfInBounds_toArray, List.set_cons_zero, List.set_cons_succ, i64_w, i32_w]
       rfl
      refine pure_ (i := 7) (N := some 25) (v := ?_) (a' := ?_) #[true, true, true, false, false, false, true, true, false, false, false, false, false, false] rfl rfl (by kernel_rfl) (fun _ _ _ h => h) (Or.inl ⟨by rfl, ?_⟩) ?_ ?_
      rotate_left
      ·intro w'
       go_simp
       with_reducible rfl
      rotate_left
      ·simp only [Act.put, List.setIfInBounds_toArray, List.set_cons_zero, List.set_cons_succ, i64_w, i32_w]
       rfl
      refine pure_ (i := 9) (N := some 27) (v := ?_) (a' := ?_) #[true, true, true, false, false, false, true, true, false, true, false, false, false, false] rfl rfl (by kernel_rfl) (fun _ _ _ h => h) (Or.inl ⟨by rfl, ?_⟩) ?_ ?_
      rotate_left
      ·intro w'
       go_simp
       with_reducible rfl
      rotate_left
      ·simp only [Act.put, List.setIfInBounds_toArray, List.set_cons_zero, List.set_cons_succ, i64_w, i32_w]
       rfl
      refine join_ (σ := Nat) 3 #[true, true, true, true, true, true, true, true, true, true, true, false, false, false] (fun s_ => [(21, .int .i64 t112), (22, .pointer (some (ad.add (t112 : Int).toNat))), (23, (.slice (some aw) (rd_L3 t104 t112).length cw)), (26, .int .i64 t116), (28, .slice (some ⟨s_, 0, none⟩) 6 6)]) (fun s_ w' => (w'.cell? (ad.add (t112 : Int).toNat) = some (.slice (some aw) (rd_L3 t104 t112).length cw)) ∧ Kd.S (Kd.slice 3 (Kd.int .i64)) 28 w' w.heap.size (fun _ => True) (.slice (some ad) t104.length co) t104 ∧ KeepBut w w' g none ∧ IsS74 w0 w' g s0_0 t117 t118 ∧ Below w0.heap.size w0 w' ∧ Kd.R (Kd.int .i64) 3 w' w.heap.size (fun _ => True) (.slice (some ⟨s_, 0, none⟩) 6 6) ([(-2), (-1), 0, 1, 2, 4611686018427387904] : List Int)) ?_ ?_
      rotate_left
      ·intro hCont
       refine two_ (i := 3) (j := 10) (Ni := some 21) (Nj := some 28) #[true, true, true, true, false, false, true, true, false, true, false, false, false, false] #[true, true, true, false, false, false, true, true, false, true, true, false, false, false] rfl rfl rfl rfl (by kernel_rfl) (by decide) (by decide) (fun K hK => ?_) (fun K hK => ?_)
       ·skip
        refine goes_ Try.func61 (by kernel_rfl) rfl #[.pointer (some ⟨g, 0, none⟩), .int .i64 (wrap64 (1 + t101))] (by rfl) rfl rfl tc33_ ?_
        refine (spec_l1Cur_pick.calls g s0_0 t110 t111 (wrap64 (1 + t101)) t112 t113 t114 w0 _ HI.out HB.out A7.out).mono ?_
        rintro e w9 ⟨rfl, hi, hb, hk⟩
        refine ⟨_, rfl, ?_⟩
        have n1_ := am_ (Kd.S_mono (Kd.S_keep (IsS74.apartS HI.out HO.out (by decide)) hk (fun _ h => h.2)) (fun _ h => h.1))
        have n2_ := am_ (keep_cell hk HX.out tc58_)
        have n3_ := am_ (KeepBut.trans HK.out hk (.inl rfl))
        have n4_ := am_ hi
        have n5_ := am_ hb
        clear HO HX HK HI HB hk hi hb
        have HO := n1_
        have HX := n2_
        have HK := n3_
        have HI := n4_
        have HB := n5_
        clear n1_ n2_ n3_ n4_ n5_
        refine hK.out _ _ (HX.out) (fun hHeld => ?_)
        clear hK K
        refine norm_ (a' := ?_) ?_ ?_
        rotate_left
        ·show Act.put _ (some 21) _ = _
         simp only [Act.put, List.setIfInBounds_toArray, List.set_cons_zero, List.set_cons_succ, i64_w, i32_w]
         rfl
        refine pure_ (i := 4) (N := some 22) (v := ?_) (a' := ?_) #[true, true, true, true, true, false, true, true, false, true, false, false, false, false] rfl rfl (by kernel_rfl) (fun _ _ _ h => h) (Or.inl ⟨by rfl, ?_⟩) ?_ ?_
        rotate_left
        ·intro w'
         go_simp
         with_reducible rfl
        rotate_left
        ·simp only [Act.put, List.setIfInBounds_toArray, List.set_cons_zero, List.set_cons_succ, i64_w, i32_w]
         rfl
        refine take_ (i := 5) (N := some 23) (v := ?_) (a' := ?_) #[true, true, true, true, true, true, true, true, false, true, false, false, false, false] rfl rfl (by kernel_rfl) (fun _ _ _ h => h) (Or.inl ⟨by rfl, ?_⟩) hHeld ?_ ?_
        rotate_left
        ·intro w' s0
         go_simp
         with_reducible rfl
        rotate_left
        ·simp only [Act.put, List.setIfInBounds_toArray, List.set_cons_zero, List.set_cons_succ, i64_w, i32_w]
         rfl
        refine two_ (i := 8) (j := 10) (Ni := some 26) (Nj := some 28) #[true, true, true, true, true, true, true, true, true, true, false, false, false, false] #[true, true, true, true, true, true, true, true, false, true, true, false, false, false] rfl rfl rfl rfl (by kernel_rfl) (by decide) (by decide) (fun K hK => ?_) (fun K hK => ?_)
        ·skip
         refine goes_ Try.func61 (by kernel_rfl) rfl #[.pointer (some ⟨g, 0, none⟩), .int .i64 (wrap64 (1 + t101))] (by rfl) rfl rfl tc33_ ?_
         refine (spec_l1Cur_pick.calls g s0_0 t113 t114 (wrap64 (1 + t101)) t116 t117 t118 w0 _ HI.out HB.out A10.out).mono ?_
         rintro e w9 ⟨rfl, hi, hb, hk⟩
         refine ⟨_, rfl, ?_⟩
         have n1_ := am_ (Kd.S_mono (Kd.S_keep (IsS74.apartS HI.out HO.out (by decide)) hk (fun _ h => h.2)) (fun _ h => h.1))
         have n2_ := am_ (keep_cell hk HX.out tc58_)
         have n3_ := am_ (KeepBut.trans HK.out hk (.inl rfl))
         have n4_ := am_ hi
         have n5_ := am_ hb
         clear HO HX HK HI HB hk hi hb
         have HO := n1_
         have HX := n2_
         have HK := n3_
         have HI := n4_
         have HB := n5_
         clear n1_ n2_ n3_ n4_ n5_
         refine hK.out _ _ (HX.out) (fun hHeld => ?_)
         clear hK K
         refine norm_ (a' := ?_) ?_ ?_
         rotate_left
         ·show Act.put _ (some 26) _ = _
          simp only [Act.put, List.setIfInBounds_toArray, List.set_cons_zero, List.set_cons_succ, i64_w, i32_w]
          rfl
         refine one_ (i := 10) (N := some 28) #[true, true, true, true, true, true, true, true, true, true, true, false, false, false] rfl rfl (by kernel_rfl) (by decide) (fun K hK => ?_)
         refine value_ (w1 := ?_) (v := ?_) (by rfl) rfl ?_ ?_
         rotate_left 2
         ·go_simp
          constructor
          ·rfl
          ·rfl
         have n6_ := am_ (R_nums (ok := fun _ => True) (e := 3) (base := w.heap.size) (xs := ([(-2), (-1), 0, 1, 2, 4611686018427387904] : List Int)) (k := .i64) (blk_new _ (.cells #[.int .i64 (-2), .int .i64 (-1), .int .i64 0, .int .i64 1, .int .i64 2, .int .i64 4611686018427387904] 3 (0, 0))) (keep_size HK.out) (by decide) trivial)
         have n1_ := am_ (Kd.S_alloc HO.out (.cells #[.int .i64 (-2), .int .i64 (-1), .int .i64 0, .int .i64 1, .int .i64 2, .int .i64 4611686018427387904] 3 (0, 0)))
         have n2_ := am_ (cell_of_below (below_alloc (Below.refl _ _) (.cells #[.int .i64 (-2), .int .i64 (-1), .int .i64 0, .int .i64 1, .int .i64 2, .int .i64 4611686018427387904] 3 (0, 0))) HX.out)
         have n3_ := am_ (keep_alloc HK.out (.cells #[.int .i64 (-2), .int .i64 (-1), .int .i64 0, .int .i64 1, .int .i64 2, .int .i64 4611686018427387904] 3 (0, 0)))
         have n4_ := am_ (IsS74.alloc HI.out (.cells #[.int .i64 (-2), .int .i64 (-1), .int .i64 0, .int .i64 1, .int .i64 2, .int .i64 4611686018427387904] 3 (0, 0)))
         have n5_ := am_ (below_alloc HB.out (.cells #[.int .i64 (-2), .int .i64 (-1), .int .i64 0, .int .i64 1, .int .i64 2, .int .i64 4611686018427387904] 3 (0, 0)))
         clear HO HX HK HI HB
         have HO := n1_
         have HX := n2_
         have HK := n3_
         have HI := n4_
         have HB := n5_
         have HV := n6_
         clear n1_ n2_ n3_ n4_ n5_ n6_
         skip
         refine hK.out _ _ (HX.out) (fun hHeld => ?_)
         clear hK K
         refine norm_ (a' := ?_) ?_ ?_
         rotate_left
         ·show Act.put _ (some 28) _ = _
          simp only [Act.put, List.setIfInBounds_toArray, List.set_cons_zero, List.set_cons_succ, i64_w, i32_w]
          rfl
         exact norm_ tc57_ (hCont _ _ ⟨HX.out, HO.out, HK.out, HI.out, HB.out, HV.out⟩)
        ·skip
         refine value_ (w1 := ?_) (v := ?_) (by rfl) rfl ?_ ?_
         rotate_left 2
         ·go_simp
          constructor
          ·rfl
          ·rfl
         have n6_ := am_ (R_nums (ok := fun _ => True) (e := 3) (base := w.heap.size) (xs := ([(-2), (-1), 0, 1, 2, 4611686018427387904] : List Int)) (k := .i64) (blk_new _ (.cells #[.int .i64 (-2), .int .i64 (-1), .int .i64 0, .int .i64 1, .int .i64 2, .int .i64 4611686018427387904] 3 (0, 0))) (keep_size HK.out) (by decide) trivial)
         have n1_ := am_ (Kd.S_alloc HO.out (.cells #[.int .i64 (-2), .int .i64 (-1), .int .i64 0, .int .i64 1, .int .i64 2, .int .i64 4611686018427387904] 3 (0, 0)))
         have n2_ := am_ (cell_of_below (below_alloc (Below.refl _ _) (.cells #[.int .i64 (-2), .int .i64 (-1), .int .i64 0, .int .i64 1, .int .i64 2, .int .i64 4611686018427387904] 3 (0, 0))) HX.out)
         have n3_ := am_ (keep_alloc HK.out (.cells #[.int .i64 (-2), .int .i64 (-1), .int .i64 0, .int .i64 1, .int .i64 2, .int .i64 4611686018427387904] 3 (0, 0)))
         have n4_ := am_ (IsS74.alloc HI.out (.cells #[.int .i64 (-2), .int .i64 (-1), .int .i64 0, .int .i64 1, .int .i64 2, .int .i64 4611686018427387904] 3 (0, 0)))
         have n5_ := am_ (below_alloc HB.out (.cells #[.int .i64 (-2), .int .i64 (-1), .int .i64 0, .int .i64 1, .int .i64 2, .int .i64 4611686018427387904] 3 (0, 0)))
         clear HO HX HK HI HB
         have HO := n1_
         have HX := n2_
         have HK := n3_
         have HI := n4_
         have HB := n5_
         have HV := n6_
         clear n1_ n2_ n3_ n4_ n5_ n6_
         skip
         refine hK.out _ _ (HX.out) (fun hHeld => ?_)
         clear hK K
         refine norm_ (a' := ?_) ?_ ?_
         rotate_left
         ·show Act.put _ (some 28) _ = _
          simp only [Act.put, List.setIfInBounds_toArray, List.set_cons_zero, List.set_cons_succ, i64_w, i32_w]
          rfl
         refine one_ (i := 8) (N := some 26) #[true, true, true, true, true, true, true, true, true, true, true, false, false, false] rfl rfl (by kernel_rfl) (by decide) (fun K hK => ?_)
         refine goes_ Try.func61 (by kernel_rfl) rfl #[.pointer (some ⟨g, 0, none⟩), .int .i64 (wrap64 (1 + t101))] (by rfl) rfl rfl tc33_ ?_
         refine (spec_l1Cur_pick.calls g s0_0 t113 t114 (wrap64 (1 + t101)) t116 t117 t118 w0 _ HI.out HB.out A10.out).mono ?_
         rintro e w9 ⟨rfl, hi, hb, hk⟩
         refine ⟨_, rfl, ?_⟩
         have n1_ := am_ (Kd.S_mono (Kd.S_keep (IsS74.apartS HI.out HO.out (by decide)) hk (fun _ h => h.2)) (fun _ h => h.1))
         have n2_ := am_ (keep_cell hk HX.out tc58_)
         have n3_ := am_ (KeepBut.trans HK.out hk (.inl rfl))
         have n4_ := am_ hi
         have n5_ := am_ hb
         have n6_ := am_ (Kd.R_mono (Kd.R_keep (IsS74.apart HI.out HV.out (by decide)) hk (fun _ h => h.2)) (fun _ h => h.1))
         clear HO HX HK HI HB hk hi hb HV
         have HO := n1_
         have HX := n2_
         have HK := n3_
         have HI := n4_
         have HB := n5_
         have HV := n6_
         clear n1_ n2_ n3_ n4_ n5_ n6_
         refine hK.out _ _ (HX.out) (fun hHeld => ?_)
         clear hK K
         refine norm_ (a' := ?_) ?_ ?_
         rotate_left
         ·show Act.put _ (some 26) _ = _
          simp only [Act.put, List.setIfInBounds_toArray, List.set_cons_zero, List.set_cons_succ, i64_w, i32_w]
          rfl
         exact norm_ tc57_ (hCont _ _ ⟨HX.out, HO.out, HK.out, HI.out, HB.out, HV.out⟩)
       ·skip
        refine value_ (w1 := ?_) (v := ?_) (by rfl) rfl ?_ ?_
        rotate_left 2
        ·go_simp
         constructor
         ·rfl
         ·rfl
        have n6_ := am_ (R_nums (ok := fun _ => True) (e := 3) (base := w.heap.size) (xs := ([(-2), (-1), 0, 1, 2, 4611686018427387904] : List Int)) (k := .i64) (blk_new _ (.cells #[.int .i64 (-2), .int .i64 (-1), .int .i64 0, .int .i64 1, .int .i64 2, .int .i64 4611686018427387904] 3 (0, 0))) (keep_size HK.out) (by decide) trivial)
        have n1_ := am_ (Kd.S_alloc HO.out (.cells #[.int .i64 (-2), .int .i64 (-1), .int .i64 0, .int .i64 1, .int .i64 2, .int .i64 4611686018427387904] 3 (0, 0)))
        have n2_ := am_ (cell_of_below (below_alloc (Below.refl _ _) (.cells #[.int .i64 (-2), .int .i64 (-1), .int .i64 0, .int .i64 1, .int .i64 2, .int .i64 4611686018427387904] 3 (0, 0))) HX.out)
        have n3_ := am_ (keep_alloc HK.out (.cells #[.int .i64 (-2), .int .i64 (-1), .int .i64 0, .int .i64 1, .int .i64 2, .int .i64 4611686018427387904] 3 (0, 0)))
        have n4_ := am_ (IsS74.alloc HI.out (.cells #[.int .i64 (-2), .int .i64 (-1), .int .i64 0, .int .i64 1, .int .i64 2, .int .i64 4611686018427387904] 3 (0, 0)))
        have n5_ := am_ (below_alloc HB.out (.cells #[.int .i64 (-2), .int .i64 (-1), .int .i64 0, .int .i64 1, .int .i64 2, .int .i64 4611686018427387904] 3 (0, 0)))
        clear HO HX HK HI HB
        have HO := n1_
        have HX := n2_
        have HK := n3_
        have HI := n4_
        have HB := n5_
        have HV := n6_
        clear n1_ n2_ n3_ n4_ n5_ n6_
        skip
        refine hK.out _ _ (HX.out) (fun hHeld => ?_)
        clear hK K
        refine norm_ (a' := ?_) ?_ ?_
        rotate_left
        ·show Act.put _ (some 28) _ = _
         simp only [Act.put, List.setIfInBounds_toArray, List.set_cons_zero, List.set_cons_succ, i64_w, i32_w]
         rfl
        refine one_ (i := 3) (N := some 21) #[true, true, true, true, false, false, true, true, false, true, true, false, false, false] rfl rfl (by kernel_rfl) (by decide) (fun K hK => ?_)
        refine goes_ Try.func61 (by kernel_rfl) rfl #[.pointer (some ⟨g, 0, none⟩), .int .i64 (wrap64 (1 + t101))] (by rfl) rfl rfl tc33_ ?_
        refine (spec_l1Cur_pick.calls g s0_0 t110 t111 (wrap64 (1 + t101)) t112 t113 t114 w0 _ HI.out HB.out A7.out).mono ?_
        rintro e w9 ⟨rfl, hi, hb, hk⟩
        refine ⟨_, rfl, ?_⟩
        have n1_ := am_ (Kd.S_mono (Kd.S_keep (IsS74.apartS HI.out HO.out (by decide)) hk (fun _ h => h.2)) (fun _ h => h.1))
        have n2_ := am_ (keep_cell hk HX.out tc58_)
        have n3_ := am_ (KeepBut.trans HK.out hk (.inl rfl))
        have n4_ := am_ hi
        have n5_ := am_ hb
        have n6_ := am_ (Kd.R_mono (Kd.R_keep (IsS74.apart HI.out HV.out (by decide)) hk (fun _ h => h.2)) (fun _ h => h.1))
        clear HO HX HK HI HB hk hi hb HV
        have HO := n1_
        have HX := n2_
        have HK := n3_
        have HI := n4_
        have HB := n5_
        have HV := n6_
        clear n1_ n2_ n3_ n4_ n5_ n6_
        refine hK.out _ _ (HX.out) (fun hHeld => ?_)
        clear hK K
        refine norm_ (a' := ?_) ?_ ?_
        rotate_left
        ·show Act.put _ (some 21) _ = _
         simp only [Act.put, List.setIfInBounds_toArray, List.set_cons_zero, List.set_cons_succ, i64_w, i32_w]
         rfl
        refine pure_ (i := 4) (N := some 22) (v := ?_) (a' := ?_) #[true, true, true, true, true, false, true, true, false, true, true, false, false, false] rfl rfl (by kernel_rfl) (fun _ _ _ h => h) (Or.inl ⟨by rfl, ?_⟩) ?_ ?_
        rotate_left
        ·intro w'
         go_simp
         with_reducible rfl
        rotate_left
        ·simp only [Act.put, List.setIfInBounds_toArray, List.set_cons_zero, List.set_cons_succ, i64_w, i32_w]
         rfl
        refine take_ (i := 5) (N := some 23) (v := ?_) (a' := ?_) #[true, true, true, true, true, true, true, true, false, true, true, false, false, false] rfl rfl (by kernel_rfl) (fun _ _ _ h => h) (Or.inl ⟨by rfl, ?_⟩) hHeld ?_ ?_
        rotate_left
        ·intro w' s0
         go_simp
         with_reducible rfl
        rotate_left
        ·simp only [Act.put, List.setIfInBounds_toArray, List.set_cons_zero, List.set_cons_succ, i64_w, i32_w]
         rfl
        refine one_ (i := 8) (N := some 26) #[true, true, true, true, true, true, true, true, true, true, true, false, false, false] rfl rfl (by kernel_rfl) (by decide) (fun K hK => ?_)
        refine goes_ Try.func61 (by kernel_rfl) rfl #[.pointer (some ⟨g, 0, none⟩), .int .i64 (wrap64 (1 + t101))] (by rfl) rfl rfl tc33_ ?_
        refine (spec_l1Cur_pick.calls g s0_0 t113 t114 (wrap64 (1 + t101)) t116 t117 t118 w0 _ HI.out HB.out A10.out).mono ?_
        rintro e w9 ⟨rfl, hi, hb, hk⟩
        refine ⟨_, rfl, ?_⟩
        have n1_ := am_ (Kd.S_mono (Kd.S_keep (IsS74.apartS HI.out HO.out (by decide)) hk (fun _ h => h.2)) (fun _ h => h.1))
        have n2_ := am_ (keep_cell hk HX.out tc58_)
        have n3_ := am_ (KeepBut.trans HK.out hk (.inl rfl))
        have n4_ := am_ hi
        have n5_ := am_ hb
        have n6_ := am_ (Kd.R_mono (Kd.R_keep (IsS74.apart HI.out HV.out (by decide)) hk (fun _ h => h.2)) (fun _ h => h.1))
        clear HO HX HK HI HB hk hi hb HV
        have HO := n1_
        have HX := n2_
        have HK := n3_
        have HI := n4_
        have HB := n5_
        have HV := n6_
        clear n1_ n2_ n3_ n4_ n5_ n6_
        refine hK.out _ _ (HX.out) (fun hHeld => ?_)
        clear hK K
        refine norm_ (a' := ?_) ?_ ?_
        rotate_left
        ·show Act.put _ (some 26) _ = _
         simp only [Act.put, List.setIfInBounds_toArray, List.set_cons_zero, List.set_cons_succ, i64_w, i32_w]
         rfl
        exact norm_ tc57_ (hCont _ _ ⟨HX.out, HO.out, HK.out, HI.out, HB.out, HV.out⟩)
      rintro gl W4 ⟨hHeld, ho_, hk_, hi_, hb_, hv_⟩
      have HX := am_ hHeld
      have HV := am_ hv_
      have HO := am_ ho_
      have HK := am_ hk_
      have HI := am_ hi_
      have HB := am_ hb_
      clear ho_ hk_ hi_ hb_ hv_
      refine norm_ (a' := ?_) ?_ ?_
      rotate_left
      ·simp only [putAll, Act.put, List.setIfInBounds_toArray, List.set_cons_zero, List.set_cons_succ]
       rfl
      refine one_ (i := 11) (N := some 29) #[true, true, true, true, true, true, true, true, true, true, true, true, false, false] rfl rfl (by kernel_rfl) (by decide) (fun K hK => ?_)
      refine goes_ Try.func108 (by kernel_rfl) rfl #[.pointer (some ⟨g, 0, none⟩), .slice (some ⟨gl, 0, none⟩) 6 6] (by rfl) rfl rfl tc33_ ?_
      refine (spec_l1Cur_among.calls g s0_0 t117 t118 (some ⟨gl, 0, none⟩) 6 ([(-2), (-1), 0, 1, 2, 4611686018427387904] : List Int) t122 t123 t124 w0 _ HI.out HB.out (Kd.R_reads' HV.out).2.2 (Kd.R_reads' HV.out).2.1 (far_slice (IsS74.own_ne HI.out HV.out (by decide))) A11.out).mono ?_
      rintro e w9 ⟨rfl, hi, hb, hk⟩
      refine ⟨_, rfl, ?_⟩
      have n1_ := am_ (Kd.S_mono (Kd.S_keep (IsS74.apartS HI.out HO.out (by decide)) hk (fun _ h => h.2)) (fun _ h => h.1))
      have n2_ := am_ (keep_cell hk HX.out tc58_)
      have n3_ := am_ (KeepBut.trans HK.out hk (.inl rfl))
      have n4_ := am_ hi
      have n5_ := am_ hb
      have n6_ := am_ (Kd.R_mono (Kd.R_keep (IsS74.apart HI.out HV.out (by decide)) hk (fun _ h => h.2)) (fun _ h => h.1))
      clear HO HX HK HI HB hk hi hb HV
      have HO := n1_
      have HX := n2_
      have HK := n3_
      have HI := n4_
      have HB := n5_
      have HV := n6_
      clear n1_ n2_ n3_ n4_ n5_ n6_
      refine hK.out _ _ (HX.out) (fun hHeld => ?_)
      clear hK K
      refine norm_ (a' := ?_) ?_ ?_
      rotate_left
      ·show Act.put _ (some 29) _ = _
       simp only [Act.put, List.setIfInBounds_toArray, List.set_cons_zero, List.set_cons_succ, i64_w, i32_w]
       rfl
      refine pure_ (i := 12) (N := some 30) (v := ?_) (a' := ?_) #[true, true, true, true, true, true, true, true, true, true, true, true, true, false] rfl rfl (by kernel_rfl) (fun _ _ _ h => h) (Or.inl ⟨by rfl, ?_⟩) ?_ ?_
      rotate_left
      ·intro w'
       go_simp
       with_reducible rfl
      rotate_left
      ·simp only [Act.put, List.setIfInBounds_toArray, List.set_cons_zero, List.set_cons_succ, i64_w, i32_w]
       rfl
      refine last_ (i := 13) (N := none) #[true, true, true, true, true, true, true, true, true, true, true, true, true, true] rfl rfl (by kernel_rfl) (by decide) (fun K hK => ?_)
      obtain ⟨Aw2, cw2, hx2, hall2⟩ := S_cell2k (IsS74.apartS HI.out HO.out (by decide)) t112 c_i0 c_i1
      have e2_ := Option.some.inj (hx2.symm.trans hHeld)
      injection e2_ with e3_ e4_ e5_
      subst e3_ e5_
      clear e4_ hx2
      obtain ⟨aw2, ea2, hc2, hf2, hg2, hok2, hback2⟩ := hall2 t116 c_j0 c_j1
      obtain rfl := Option.some.inj ea2
      clear ea2 hall2
      refine skip_ (w1 := ?_) (by rfl) rfl ?_ ?_
      rotate_left
      ·go_simp
       rfl
      refine hK.out _ _ ?_
      clear hK K
      refine done_ (by kernel_rfl) ?_
      have hb3_ := hback2 t122
      rw [show (t104.set (t112 : Int).toNat ((t104.getD (t112 : Int).toNat []).set (t116 : Int).toNat t122)) = y127 from (by rw [Ny127.out, Ny125.out]; rfl)] at hb3_
      go_wp2
      go_ret
      exact ⟨_, rfl, Kd.S_mono hb3_ (fun _ _ => trivial), IsS74.far HI.out (Ne.symm hok2.2) _, HB.out.setCell (Nat.le_trans HL.out hg2) _, keep_far HK.out hg2 _⟩
     ·rw [if_neg c13] at H
      exact absurd H (by simp)
    ·rw [if_neg c12] at H
     exact absurd H (by simp)
   ·rw [if_neg c9] at H
    exact absurd H (by simp)
  ·rw [if_neg c8] at H
   exact absurd H (by simp)
 ·rw [if_neg c6] at H
  have c6b0 : (t109 == 0) = false := beq_eq_false_iff_ne.mpr c6
  have c6b1 : (t109 != 0) = true := bne_iff_ne.mpr c6
  by_cases c27 : t109 = 1
  ·rw [if_pos c27] at H
   have c27b0 : (t109 == 1) = true := beq_iff_eq.mpr c27
   have c27b1 : (t109 != 1) = false := bne_eq_false_iff_eq.mpr c27
   clear c27
   obtain ⟨ji28, hji28⟩ : ∃ j_ : Int, (wrap64 (1 + t101)) = j_ := ⟨_, rfl⟩
   replace H : (if 0 ≤ (ji28) then (if (ji28 : Int).toNat ≤ 35184372088832 then (if t104.length < 5864062014805 then (some ((t104 ++ [(List.replicate (ji28 : Int).toNat 0)]), t110, t111)) else (none)) else (none)) else (none)) = some (r1, r2, r3) := by first | (rw [hji28] at H; exact H) | (simp only [hji28] at H ⊢; exact H)
   (try rw [hji28] at A3)
   (try rw [hji28] at A4)
   (try rw [hji28] at A5)
   have hji28w : (IntKind.i64.wrap (1 + t101)) = ji28 := (i64_w _).trans hji28
   by_cases c29 : 0 ≤ (ji28)
   ·rw [if_pos c29] at H
    have c29b0 := eq_true c29
    have c29b1 : decide (0 ≤ (ji28)) = true := decide_eq_true c29
    clear c29
    by_cases c30 : (ji28 : Int).toNat ≤ 35184372088832
    ·rw [if_pos c30] at H
     have c30b0 := eq_true c30
     have c30b1 : decide ((ji28 : Int).toNat ≤ 35184372088832) = true := decide_eq_true c30
     clear c30
     obtain ⟨y128, hy128⟩ : ∃ y_ : List Int, y_ = (List.replicate (ji28 : Int).toNat 0) := ⟨_, rfl⟩
     replace H : (if t104.length < 5864062014805 then (some ((t104 ++ [y128]), t110, t111)) else (none)) = some (r1, r2, r3) := by first | (rw [hy128]; with_reducible exact H) | (have H2_ := (Option.bind_some _ _).symm.trans H; rw [hy128]; with_reducible exact H2_) | (have H2_ := (Option.bind_some _ _).symm.trans H; with_reducible exact H2_) | with_reducible exact H | (rw [hy128]; exact H) | exact H
     have Ny128 := am_ hy128
     clear hy128
     by_cases c31 : t104.length < 5864062014805
     ·rw [if_pos c31] at H
      have LMc31 := am_ c31
      clear c31
      obtain ⟨y131, hy131⟩ : ∃ y_ : List (List Int), y_ = (t104 ++ [y128]) := ⟨_, rfl⟩
      replace H : (some (y131, t110, t111)) = some (r1, r2, r3) := by first | (rw [hy131]; with_reducible exact H) | (have H2_ := (Option.bind_some _ _).symm.trans H; rw [hy131]; with_reducible exact H2_) | (have H2_ := (Option.bind_some _ _).symm.trans H; with_reducible exact H2_) | with_reducible exact H | (rw [hy131]; exact H) | exact H
      have Ny131 := am_ hy131
      clear hy131
      simp only [Option.some.injEq, Prod.mk.injEq] at H
      obtain ⟨rfl, rfl, rfl⟩ := H
      go_enter Try.func59, Try.ntmps59
      go_wp2_with (first | ((with_reducible refine gate_callee (f := 61) rfl ?_); refine goesL_ (some 9) rfl rfl Try.func61 (by kernel_rfl) rfl #[.pointer (some ⟨g, 0, none⟩), .int .i64 a1] rfl tc2_ ?_; (with_reducible refine (spec_l1Cur_pick.calls g s0_0 s0_1 s0_2 a1 t101 t102 t103 w0 _ ?side1 ?side2 A3.out).mono ?_); (case side1 => exact tc3_); (case side2 => exact tc5_); rintro e w32 ⟨rfl, hi, hb, hk⟩; refine ⟨_, rfl, ?_⟩; have n0_ := am_ (KeepBut.trans tc4_ hk (.inl rfl)); have n1_ := am_ (hb); have n2_ := am_ (hi); clear HK HB HI0; have HK := n0_; have HB := n1_; have HI0 := n2_; clear n0_ n1_ n2_; (try clear hb hk hi)) | ((with_reducible refine gate_callee (f := 91) rfl ?_); refine goesL_ (some 13) rfl rfl Try.func91 (by kernel_rfl) rfl #[.pointer (some ⟨g, 0, none⟩), .int .i64 ji28] rfl (by (try simp only [List.map_toArray, List.map_cons, List.map_nil]); first | done | (simp only [hji28]; rfl) | rfl | (simp only [List.length_drop, List.length_take]; rfl)) ?_; (with_reducible refine (spec_l1Cur_sure.calls k g s0_0 t102 t103 ji28 t104 t107 t108 w0 _ ?side1 ?side2 A4.out).mono ?_); (case side1 => exact tc3_); (case side2 => exact tc5_); rintro e w33 ⟨v105, rfl, ho0, hi, hb, hk⟩; refine ⟨_, rfl, ?_⟩; have n0_ := am_ (Kd.S_lower ho0 (keep_size (w := w) (g := g) (row := none) tc4_)); have n1_ := am_ (KeepBut.trans tc4_ hk (.inl rfl)); have n2_ := am_ (hb); have n3_ := am_ (hi); clear HK HB HI0; have HO106 := n0_; have HK := n1_; have HB := n2_; have HI0 := n3_; clear n0_ n1_ n2_ n3_; (try clear hb hk hi ho0)) | ((with_reducible refine gate_callee (f := 61) rfl ?_); refine goesL_ (some 15) rfl rfl Try.func61 (by kernel_rfl) rfl #[.pointer (some ⟨g, 0, none⟩), .int .i64 20] rfl tc2_ ?_; (with_reducible refine (spec_l1Cur_pick.calls g s0_0 t107 t108 20 t109 t110 t111 w0 _ ?side1 ?side2 A5.out).mono ?_); (case side1 => exact tc3_); (case side2 => exact tc5_); rintro e w34 ⟨rfl, hi, hb, hk⟩; refine ⟨_, rfl, ?_⟩; have n0_ := am_ (Kd.S_mono (Kd.S_keep (IsS74.apartS (show IsS74 w0 _ g s0_0 t107 t108 from tc3_) tc23_ (by decide)) hk (fun _ h => h.2)) (fun _ h => h.1)); have n1_ := am_ (KeepBut.trans tc4_ hk (.inl rfl)); have n2_ := am_ (hb); have n3_ := am_ (hi); clear HO106 HK; clear HB HI0; have HO106 := n0_; have HK := n1_; have HB := n2_; have HI0 := n3_; clear n0_ n1_ n2_ n3_; (try clear hb hk hi)) | ((with_reducible refine gate_dst (N := 35) rfl ?_); refine Kd.R_make (Kd.int .i64) _ 3 rfl (N := 35) rfl 28 _ _ rfl ji28 rfl rfl Try.underlying28 (.int .i64 0) 8 info3 rfl (by decide) (by omega) 0 (ok := fun _ => True) (okp := fun _ => True) rfl (fun _ hk => hk) trivial (of_decide_eq_true tc1_) (Nat.le_trans (Nat.mul_le_mul_right _ (of_decide_eq_true tc1_ : ji28.toNat ≤ 35184372088832)) (by omega)) (Below.refl _ _) (Nat.le_refl _) ?_; intro v129 w35 ho36 hb hg_ hnew_; clear hg_ hnew_; (first | rw [← Ny128.out] at ho36 | (simp only [Int.reduceToNat] at ho36; rw [← Ny128.out] at ho36)); have n0_ := am_ (Kd.S_elder' tc23_ (Kd.R_base ho36) hb); have n1_ := am_ (Kd.R_lower ho36 (keep_size (w := w) (g := g) (row := none) tc4_)); have n2_ := am_ (IsS74.below tc3_ hb); have n3_ := am_ (KeepBut.trans tc4_ (KeepBut.of_below hb g none) (.inl rfl)); have n4_ := am_ (below_step tc5_ hb); clear HO106 HI0; clear HK HB; have HO106 := n0_; have HO130 := n1_; have HI0 := n2_; have HK := n3_; have HB := n4_; clear n0_ n1_ n2_ n3_ n4_; clear hb ho36; obtain ⟨Ao38, co38, eo38⟩ := Kd.R_slice HO130.out; subst eo38) | ((with_reducible refine gate_builtin (b := .append) (xs := #[.tmp 33, .tmp 36]) rfl ?_); at_builtin; refine Kd.S_append (Kd.slice 3 (Kd.int .i64)) w.heap.size rfl (.tmp 33) (.tmp 36) 25 28 (.slice none 0 0) 24 rfl Try.underlying25 info28 rfl (by decide) (by omega) v105 t104 y128 [.slice Ao38 y128.length co38] (fun _ => True) (fun k_ => some k_ = (.slice Ao38 y128.length co38 : Value).ownBlock) rfl rfl ?aP (fun k_ hk_ => ((Kd.R_mono (ok' := fun k_ => ((fun _ => True)) k_ ∧ some k_ ≠ (v105 : Value).ownBlock) (Kd.R_apart' (HO130.out) (Kd.S_typed HO106.out) (by decide)) (fun k_ hk => ⟨trivial, hk.2⟩))).1 k_ hk_.symm) ?aF ?aO (Below.refl _ _) ?aS ?aL ?_; (case aP => exact Kd.M_row (Kd.R_mono (Kd.R_tight rfl (Kd.R_mono (ok' := fun k_ => ((fun _ => True)) k_ ∧ some k_ ≠ (v105 : Value).ownBlock) (Kd.R_apart' (HO130.out) (Kd.S_typed HO106.out) (by decide)) (fun k_ hk => ⟨trivial, hk.2⟩))) (fun _ h_ => h_))); (case aF => exact tc69_); (case aO => exact (by (with_reducible repeat (first | apply Kd.S_alloc | apply Kd.S_drewN | apply Kd.S_drew)); exact Kd.S_mono HO106.out (fun k_ hk => ⟨trivial, fun e_ => hk.2 e_⟩))); (case aS => exact tc46_); (case aL => have := LMc31.out; omega); intro v132 w37 ho hb hg hat; rw [← Ny131.out] at ho; have n0_ := am_ (IsS74.grown tc3_ hg (IsS74.own_neS HI0.out HO106.out (by decide))); have n1_ := am_ (below_weaken tc5_ HL.out hb); have n2_ := am_ (KeepBut.trans tc4_ (KeepBut.of_grown hg g) (Kd.S_base2 HO106.out)); have n3_ := am_ (ho); clear HI0 HB; clear HK HO106 HO130; have HI0 := n0_; have HB := n1_; have HK := n2_; have HO133 := n3_; clear n0_ n1_ n2_ n3_; clear ho hb hg hat))
      go_ret
      exact ⟨_, by first | rfl | (simp [errW_none, errW_some] <;> rfl) | (simp only [← hji28]; first | rfl | (simp [errW_none, errW_some] <;> rfl)) | (simp [*, errW_none, errW_some] <;> rfl), by (with_reducible repeat (first | apply Kd.S_alloc | apply Kd.S_drewN | apply Kd.S_drew)); exact HO133.out, by repeat (first | (with_reducible first | exact HI0.out | apply IsS74.alloc | apply IsS74.drewN | apply IsS74.drew | apply IsS74.set_1 | apply IsS74.set_2) | exact HI0.out), by repeat (first | (with_reducible first | exact HB.out | apply below_alloc | apply pw_below_drewN | apply below_drew1 | refine below_set ?_ (IsS74.ge HI0.out)) | exact HB.out), by repeat (first | (with_reducible first | exact HK.out | apply KeepBut.set_ | apply keep_drewN | apply keep_drew | apply keep_alloc) | exact HK.out)⟩
     ·rw [if_neg c31] at H
      exact absurd H (by simp)
    ·rw [if_neg c30] at H
     exact absurd H (by simp)
   ·rw [if_neg c29] at H
    exact absurd H (by simp)
  ·rw [if_neg c27] at H
   have c27b0 : (t109 == 1) = false := beq_eq_false_iff_ne.mpr c27
   have c27b1 : (t109 != 1) = true := bne_iff_ne.mpr c27
   by_cases c39 : t109 = 2
   ·rw [if_pos c39] at H
    have c39b0 : (t109 == 2) = true := beq_iff_eq.mpr c39
    have c39b1 : (t109 != 2) = false := bne_eq_false_iff_eq.mpr c39
    clear c39
    by_cases c40 : 0 < (t104.length : Int)
    ·rw [if_pos c40] at H
     have c40b0 : decide (0 < (t104.length : Int)) = true := decide_eq_true c40
     have c40b1 : decide (0 < t104.length) = true := decide_eq_true (by omega)
     clear c40
     by_cases c41 : (rd_L3 t104 0).length < 17592186044416
     ·rw [if_pos c41] at H
      have LMc41 := am_ c41
      clear c41
      obtain ⟨y135, hy135⟩ : ∃ y_ : List Int, y_ = ((rd_L3 t104 0) ++ [0]) := ⟨_, rfl⟩
      replace H : (some ((t104.set (0 : Int).toNat y135), t110, t111)) = some (r1, r2, r3) := by first | (rw [hy135]; with_reducible exact H) | (have H2_ := (Option.bind_some _ _).symm.trans H; rw [hy135]; with_reducible exact H2_) | (have H2_ := (Option.bind_some _ _).symm.trans H; with_reducible exact H2_) | with_reducible exact H | (rw [hy135]; exact H) | exact H
      have Ny135 := am_ hy135
      clear hy135
      obtain ⟨y138, hy138⟩ : ∃ y_ : List (List Int), y_ = (t104.set (0 : Int).toNat y135) := ⟨_, rfl⟩
      replace H : (some (y138, t110, t111)) = some (r1, r2, r3) := by first | (rw [hy138]; with_reducible exact H) | (have H2_ := (Option.bind_some _ _).symm.trans H; rw [hy138]; with_reducible exact H2_) | (have H2_ := (Option.bind_some _ _).symm.trans H; with_reducible exact H2_) | with_reducible exact H | (rw [hy138]; exact H) | exact H
      have Ny138 := am_ hy138
      clear hy138
      simp only [Option.some.injEq, Prod.mk.injEq] at H
      obtain ⟨rfl, rfl, rfl⟩ := H
      go_enter Try.func59, Try.ntmps59
      go_wp2_with (first | ((with_reducible refine gate_callee (f := 61) rfl ?_); refine goesL_ (some 9) rfl rfl Try.func61 (by kernel_rfl) rfl #[.pointer (some ⟨g, 0, none⟩), .int .i64 a1] rfl tc2_ ?_; (with_reducible refine (spec_l1Cur_pick.calls g s0_0 s0_1 s0_2 a1 t101 t102 t103 w0 _ ?side1 ?side2 A3.out).mono ?_); (case side1 => exact tc3_); (case side2 => exact tc5_); rintro e w43 ⟨rfl, hi, hb, hk⟩; refine ⟨_, rfl, ?_⟩; have n0_ := am_ (KeepBut.trans tc4_ hk (.inl rfl)); have n1_ := am_ (hb); have n2_ := am_ (hi); clear HK HB HI0; have HK := n0_; have HB := n1_; have HI0 := n2_; clear n0_ n1_ n2_; (try clear hb hk hi)) | ((with_reducible refine gate_callee (f := 91) rfl ?_); refine goesL_ (some 13) rfl rfl Try.func91 (by kernel_rfl) rfl #[.pointer (some ⟨g, 0, none⟩), .int .i64 (wrap64 (1 + t101))] rfl tc2_ ?_; (with_reducible refine (spec_l1Cur_sure.calls k g s0_0 t102 t103 (wrap64 (1 + t101)) t104 t107 t108 w0 _ ?side1 ?side2 A4.out).mono ?_); (case side1 => exact tc3_); (case side2 => exact tc5_); rintro e w44 ⟨v105, rfl, ho0, hi, hb, hk⟩; refine ⟨_, rfl, ?_⟩; have n0_ := am_ (Kd.S_lower ho0 (keep_size (w := w) (g := g) (row := none) tc4_)); have n1_ := am_ (KeepBut.trans tc4_ hk (.inl rfl)); have n2_ := am_ (hb); have n3_ := am_ (hi); clear HK HB HI0; have HO106 := n0_; have HK := n1_; have HB := n2_; have HI0 := n3_; clear n0_ n1_ n2_ n3_; (try clear hb hk hi ho0)) | ((with_reducible refine gate_callee (f := 61) rfl ?_); refine goesL_ (some 15) rfl rfl Try.func61 (by kernel_rfl) rfl #[.pointer (some ⟨g, 0, none⟩), .int .i64 20] rfl tc2_ ?_; (with_reducible refine (spec_l1Cur_pick.calls g s0_0 t107 t108 20 t109 t110 t111 w0 _ ?side1 ?side2 A5.out).mono ?_); (case side1 => exact tc3_); (case side2 => exact tc5_); rintro e w45 ⟨rfl, hi, hb, hk⟩; refine ⟨_, rfl, ?_⟩; have n0_ := am_ (Kd.S_mono (Kd.S_keep (IsS74.apartS (show IsS74 w0 _ g s0_0 t107 t108 from tc3_) tc23_ (by decide)) hk (fun _ h => h.2)) (fun _ h => h.1)); have n1_ := am_ (KeepBut.trans tc4_ hk (.inl rfl)); have n2_ := am_ (hb); have n3_ := am_ (hi); clear HO106 HK; clear HB HI0; have HO106 := n0_; have HK := n1_; have HB := n2_; have HI0 := n3_; clear n0_ n1_ n2_ n3_; (try clear hb hk hi); obtain ⟨Ao46, co46, eo46⟩ := Kd.S_slice HO106.out; subst eo46; have p134 : 0 ≤ (0 : Int) := (by omega); have q134 : 0 < (t104.length : Int) := of_decide_eq_true tc1_; obtain ⟨ad134, A134_0, c134_0, e134, hx134_0, hl134_0, hi134_0⟩ := at_L3 (Kd.S_reads' HO106.out).2.2 0 p134 q134; cases e134; obtain ⟨ce134, hce134, hMe134, hcc134⟩ := Kd.S_get HO106.out [] 0 p134 (by first | exact q134 | exact of_decide_eq_true tc1_ | (have e_ := (Kd.S_reads' HO106.out).1; omega)); obtain ⟨ve134_0, rfl, ge134_0⟩ := hMe134; have hv134_0 := hcc134 0 _ rfl; rw [Nat.add_zero, show ((Kd.slice 3 (Kd.int .i64))).sz = 1 from rfl, Nat.mul_one] at hv134_0; replace hv134_0 := Option.some.inj (hv134_0.symm.trans hx134_0); rw [hv134_0] at ge134_0; have HL134_0 := am_ (show Kd.R (Kd.int .i64) 3 _ _ _ _ (rd_L3 t104 0) from ge134_0); clear hv134_0 ge134_0; have HX134_0 := am_ hx134_0; clear hcc134 hce134; have qi134 : (0 < t104.length) = True := eq_true (by omega); (try rw [show ((0 : Int)).toNat = 0 from rfl] at hx134_0); (try rw [Addr.add_zero'] at hx134_0); have HR134_0 := am_ hi134_0; have HC134_0 := am_ hl134_0; clear hi134_0 hl134_0; replace p134 := eq_true p134; replace q134 := eq_true q134; obtain ⟨go47, co47, eo47, gb47, gl47, cl47, HG47⟩ := Kd.S_form HO106.out (by have h_ : (0 : Int) < ((t104.length : Int) : Int) := of_decide_eq_true tc1_; have h2_ : 0 ≤ (0 : Int) := (by omega); omega); (first | cases eo47 | (injection eo47 with ea_ en_ ec_; (first | subst ea_ | (injection ea_ with ea_; subst ea_)); subst ec_; clear en_)); have GB47 := am_ gb47; have GG47 := am_ HG47; clear gb47 gl47 HG47; (first | simp only [add_plain] at hx134_0 | skip); obtain ⟨oki47, ce47, hcl47, hM47, hcc47, _, _, hH47⟩ := Kd.S_elem HO106.out [] (0 : Int) (by omega) (by have h_ : (0 : Int) < ((t104.length : Int) : Int) := of_decide_eq_true tc1_; first | exact h_ | (have e_ := (Kd.S_reads' HO106.out).1; omega) | simpa using h_); obtain ⟨ve47_0, rfl, ge47_0⟩ := hM47; have hv47 := hcc47 0 _ rfl; have hX47 := HX134_0.out; (try simp only [add_plain] at hX47); (try simp only [Nat.add_zero] at hv47); (try rw [show ((Kd.slice 3 (Kd.int .i64))).sz = 1 from rfl, Nat.mul_one] at hv47); replace hv47 := Option.some.inj (hv47.symm.trans hX47); subst hv47; clear hX47 hcc47 hcl47; have UU47 := am_ (show Kd.R (Kd.int .i64) 3 _ w.heap.size oki47 (.slice A134_0 (rd_L3 t104 0).length c134_0) (rd_L3 t104 0) from ge47_0); have HH47 := am_ hH47; have HN47 := am_ (Kd.S_reads' HO106.out).1; clear hH47 ge47_0) | ((with_reducible refine gate_builtin (b := .append) (xs := #[.tmp 43, .tmp 44]) rfl ?_); at_builtin; refine Kd.R_append (Kd.int .i64) w.heap.size rfl (.tmp 43) (.tmp 44) 28 3 (.int .i64 0) 8 rfl Try.underlying28 info3 rfl (by decide) (by omega) (.slice A134_0 (rd_L3 t104 0).length c134_0) (rd_L3 t104 0) 0 [.int .i64 0] (fun k_ => oki47 k_ ∨ ((fun _ => True)) k_ ∧ w45.heap.size ≤ k_) (fun _ => False) rfl rfl ?aP (fun _ hk => hk.elim) ?aF ?aO (Below.refl _ _) ?aS ?aL ?_; (case aP => exact rfl); (case aF => exact (fun k_ hk => .inr ⟨trivial, hk⟩)); (case aO => exact (by (with_reducible repeat (first | apply Kd.R_alloc | apply Kd.R_drewN | apply Kd.R_drew)); exact Kd.R_mono UU47.out (fun _ hk => .inl hk))); (case aS => exact tc46_); (case aL => have := LMc41.out; omega); intro v136 w48 ho hb hg hat; rw [← Ny135.out] at ho; have n0_ := am_ (IsS74.grown tc3_ hg (IsS74.own_ne HI0.out HL134_0.out (by decide))); have n1_ := am_ (below_weaken tc5_ HL.out hb); have n2_ := am_ (KeepBut.trans tc4_ (KeepBut.of_grown hg g) (Kd.R_base2 HL134_0.out)); have n3_ := am_ (Kd.H_grown (Kd.H_widen (by repeat (first | exact HH47.out | refine Kd.H_alloc ?_ _ | refine Kd.H_drewN ?_ _ | refine Kd.H_drew ?_))) hg (fun k_ e_ => .inl (UU47.out.1 k_ e_))); have n4_ := am_ (ho); clear HI0 HB; clear HK HH47; clear HO106 UU47 HL134_0; have HI0 := n0_; have HB := n1_; have HK := n2_; have HH47 := n3_; have HO137 := n4_; clear n0_ n1_ n2_ n3_ n4_; clear ho hb hg hat; have p42 : 0 ≤ (0 : Int) := (by omega); have q42 : (0 : Int) < ((t104.length : Int) : Int) := of_decide_eq_true tc1_; replace p42 := eq_true p42; replace q42 := eq_true q42; obtain ⟨Ao51, co51, eo51⟩ := Kd.R_slice HO137.out; subst eo51; obtain ⟨_, _, hraw49, _, _, hcc49, _⟩ := Kd.H_raw HH47.out (by omega) (by have h_ : (0 : Int) < ((t104.length : Int) : Int) := of_decide_eq_true tc1_; first | exact h_ | (have e_ := (HN47.out); omega) | simpa using h_); obtain ⟨_, hfr49⟩ := Kd.H_at HH47.out (by omega) (by have h_ : (0 : Int) < ((t104.length : Int) : Int) := of_decide_eq_true tc1_; first | exact h_ | (have e_ := (HN47.out); omega) | simpa using h_); have hx49_0 := hcc49 0 _ rfl; have hf49_0 := hfr49 0; (try simp only [Nat.add_zero] at hx49_0 hf49_0); (try rw [show ((Kd.slice 3 (Kd.int .i64))).sz = 1 from rfl, Nat.mul_one] at hx49_0); (try rw [show ((Kd.slice 3 (Kd.int .i64))).sz = 1 from rfl, Nat.mul_one] at hf49_0); (try rw [show ((0 : Int)).toNat = 0 from rfl] at hx49_0); (try simp only [Nat.reduceMul, Nat.zero_mul, Nat.zero_add, Nat.reduceAdd] at hx49_0); (try rw [show ((0 : Int)).toNat = 0 from rfl] at hf49_0); (try simp only [Nat.reduceMul, Nat.zero_mul, Nat.zero_add, Nat.reduceAdd] at hf49_0); have HP49 := Kd.S_seg0 HH47.out (by omega) (by have h_ : (0 : Int) < ((t104.length : Int) : Int) := of_decide_eq_true tc1_; first | exact h_ | (have e_ := (HN47.out); omega) | simpa using h_) (seg := [.slice Ao51 y135.length co51]) (j := 0) (show 1 ≤ 1 from (by decide)) (x' := y135) (Kd.M_row HO137.out) (fun _ hk => hk); (try simp only [show ((Kd.slice 3 (Kd.int .i64))).sz = 1 from rfl, Nat.mul_one, Nat.add_zero] at HP49); clear hcc49 hfr49) | ((with_reducible refine gate_store (t := 28) (p := 46) rfl ?_); refine store_event (t := 28) (p := 46) (v := ?vo_w50) (w1 := (w48.setCell ⟨go47, (0 : Int).toNat, none⟩ (.slice Ao51 y135.length co51))) ?hg ?ho ?hn ?hr ?_; (case ho => rfl); (case hg => rfl); (case hn => rfl); (case hr => exact tc26_); intro w50 hw; have hg : w48.grownBy w50 (some go47) := (by rw [hw]; exact HP49.2); have hp_ : Kd.S (Kd.slice 3 (Kd.int .i64)) 28 w50 w.heap.size (fun _ => True) (.slice (some ⟨go47, 0, none⟩) t104.length co46) y138 := (by rw [hw, Ny138.out]; exact HP49.1); clear HP49; have n0_ := am_ (IsS74.grown tc3_ hg (IsS74.own_ne HI0.out hraw49 (by decide))); have n1_ := am_ ((by rw [hw]; exact below_set HB.out (Nat.le_trans HL.out GB47.out) : Below w0.heap.size w0 w50)); have n2_ := am_ (KeepBut.trans tc4_ (KeepBut.of_grown hg g) (Kd.R_base2 hraw49)); have n3_ := am_ (hp_); clear HI0 HB; clear HK HO137 HH47; have HI0 := n0_; have HB := n1_; have HK := n2_; have HO106 := n3_; clear n0_ n1_ n2_ n3_; clear hg hw hp_ hraw49))
      go_ret
      exact ⟨_, by first | rfl | (simp [errW_none, errW_some] <;> rfl) | (simp [*, errW_none, errW_some] <;> rfl), by (with_reducible repeat (first | apply Kd.S_alloc | apply Kd.S_drewN | apply Kd.S_drew)); exact HO106.out, by repeat (first | (with_reducible first | exact HI0.out | apply IsS74.alloc | apply IsS74.drewN | apply IsS74.drew | apply IsS74.set_1 | apply IsS74.set_2) | exact HI0.out), by repeat (first | (with_reducible first | exact HB.out | apply below_alloc | apply pw_below_drewN | apply below_drew1 | refine below_set ?_ (IsS74.ge HI0.out)) | exact HB.out), by repeat (first | (with_reducible first | exact HK.out | apply KeepBut.set_ | apply keep_drewN | apply keep_drew | apply keep_alloc) | exact HK.out)⟩
     ·rw [if_neg c41] at H
      exact absurd H (by simp)
    ·rw [if_neg c40] at H
     exact absurd H (by simp)
   ·rw [if_neg c39] at H
    have c39b0 : (t109 == 2) = false := beq_eq_false_iff_ne.mpr c39
    have c39b1 : (t109 != 2) = true := bne_iff_ne.mpr c39
    by_cases c52 : t109 = 3
    ·rw [if_pos c52] at H
     have c52b0 : (t109 == 3) = true := beq_iff_eq.mpr c52
     have c52b1 : (t109 != 3) = false := bne_eq_false_iff_eq.mpr c52
     clear c52
     replace H := Option.bind_eq_some_iff.mp H
     obtain ⟨⟨t139, t142, t143⟩, A530, H⟩ := H
     replace H : ((spec_l1Cur_one.f s0_0 t142 t143 2).bind fun bt144 => (if bt144.1 = true then (some (([] : List (List Int)), bt144.2.1, bt144.2.2)) else (some (t139, bt144.2.1, bt144.2.2)))) = some (r1, r2, r3) := H
     have A53 := am_ A530
     clear A530
     replace H := Option.bind_eq_some_iff.mp H
     obtain ⟨⟨t144, t145, t146⟩, A540, H⟩ := H
     replace H : (if t144 = true then (some (([] : List (List Int)), t145, t146)) else (some (t139, t145, t146))) = some (r1, r2, r3) := H
     have A54 := am_ A540
     clear A540
     by_cases c55 : t144 = true
     ·subst c55
      have H1 : (some (([] : List (List Int)), t145, t146)) = some (r1, r2, r3) := by rw [if_pos rfl] at H; exact H
      clear H
      have H := H1
      clear H1
      simp only [Option.some.injEq, Prod.mk.injEq] at H
      obtain ⟨rfl, rfl, rfl⟩ := H
      go_enter Try.func59, Try.ntmps59
      go_wp2_with (first | ((with_reducible refine gate_callee (f := 61) rfl ?_); refine goesL_ (some 9) rfl rfl Try.func61 (by kernel_rfl) rfl #[.pointer (some ⟨g, 0, none⟩), .int .i64 a1] rfl tc2_ ?_; (with_reducible refine (spec_l1Cur_pick.calls g s0_0 s0_1 s0_2 a1 t101 t102 t103 w0 _ ?side1 ?side2 A3.out).mono ?_); (case side1 => exact tc3_); (case side2 => exact tc5_); rintro e w56 ⟨rfl, hi, hb, hk⟩; refine ⟨_, rfl, ?_⟩; have n0_ := am_ (KeepBut.trans tc4_ hk (.inl rfl)); have n1_ := am_ (hb); have n2_ := am_ (hi); clear HK HB HI0; have HK := n0_; have HB := n1_; have HI0 := n2_; clear n0_ n1_ n2_; (try clear hb hk hi)) | ((with_reducible refine gate_callee (f := 91) rfl ?_); refine goesL_ (some 13) rfl rfl Try.func91 (by kernel_rfl) rfl #[.pointer (some ⟨g, 0, none⟩), .int .i64 (wrap64 (1 + t101))] rfl tc2_ ?_; (with_reducible refine (spec_l1Cur_sure.calls k g s0_0 t102 t103 (wrap64 (1 + t101)) t104 t107 t108 w0 _ ?side1 ?side2 A4.out).mono ?_); (case side1 => exact tc3_); (case side2 => exact tc5_); rintro e w57 ⟨v105, rfl, ho0, hi, hb, hk⟩; refine ⟨_, rfl, ?_⟩; have n0_ := am_ (Kd.S_lower ho0 (keep_size (w := w) (g := g) (row := none) tc4_)); have n1_ := am_ (KeepBut.trans tc4_ hk (.inl rfl)); have n2_ := am_ (hb); have n3_ := am_ (hi); clear HK HB HI0; have HO106 := n0_; have HK := n1_; have HB := n2_; have HI0 := n3_; clear n0_ n1_ n2_ n3_; (try clear hb hk hi ho0)) | ((with_reducible refine gate_callee (f := 61) rfl ?_); refine goesL_ (some 15) rfl rfl Try.func61 (by kernel_rfl) rfl #[.pointer (some ⟨g, 0, none⟩), .int .i64 20] rfl tc2_ ?_; (with_reducible refine (spec_l1Cur_pick.calls g s0_0 t107 t108 20 t109 t110 t111 w0 _ ?side1 ?side2 A5.out).mono ?_); (case side1 => exact tc3_); (case side2 => exact tc5_); rintro e w58 ⟨rfl, hi, hb, hk⟩; refine ⟨_, rfl, ?_⟩; have n0_ := am_ (Kd.S_mono (Kd.S_keep (IsS74.apartS (show IsS74 w0 _ g s0_0 t107 t108 from tc3_) tc23_ (by decide)) hk (fun _ h => h.2)) (fun _ h => h.1)); have n1_ := am_ (KeepBut.trans tc4_ hk (.inl rfl)); have n2_ := am_ (hb); have n3_ := am_ (hi); clear HO106 HK; clear HB HI0; have HO106 := n0_; have HK := n1_; have HB := n2_; have HI0 := n3_; clear n0_ n1_ n2_ n3_; (try clear hb hk hi)) | ((with_reducible refine gate_callee (f := 91) rfl ?_); refine goesL_ (some 50) rfl rfl Try.func91 (by kernel_rfl) rfl #[.pointer (some ⟨g, 0, none⟩), .int .i64 6] rfl tc2_ ?_; (with_reducible refine (spec_l1Cur_sure.calls k g s0_0 t110 t111 6 t139 t142 t143 w0 _ ?side1 ?side2 A53.out).mono ?_); (case side1 => exact tc3_); (case side2 => exact tc5_); rintro e w59 ⟨v140, rfl, ho0, hi, hb, hk⟩; refine ⟨_, rfl, ?_⟩; have n0_ := am_ (Kd.S_mono (Kd.S_told (Kd.S_oldK (IsS74.apartS (show IsS74 w0 _ g s0_0 t110 t111 from tc3_) tc23_ (by decide)) hk) (Kd.S_base ho0)) (fun _ h_ => h_.1)); have n1_ := am_ (Kd.S_lower (Kd.S_new' ho0 (Kd.S_lt tc23_)) (keep_size (w := w) (g := g) (row := none) tc4_)); have n2_ := am_ (KeepBut.trans tc4_ hk (.inl rfl)); have n3_ := am_ (hb); have n4_ := am_ (hi); clear HO106 HK; clear HB HI0; have HO106 := n0_; have HO141 := n1_; have HK := n2_; have HB := n3_; have HI0 := n4_; clear n0_ n1_ n2_ n3_ n4_; (try clear hb hk hi ho0)) | ((with_reducible refine gate_callee (f := 90) rfl ?_); refine goesL_ (some 52) rfl rfl Try.func90 (by kernel_rfl) rfl #[.pointer (some ⟨g, 0, none⟩), .int .i64 2] rfl tc2_ ?_; (with_reducible refine (spec_l1Cur_one.calls g s0_0 t142 t143 2 true t145 t146 w0 _ ?side1 ?side2 A54.out).mono ?_); (case side1 => exact tc3_); (case side2 => exact tc5_); rintro e w60 ⟨rfl, hi, hb, hk⟩; refine ⟨_, rfl, ?_⟩; have n0_ := am_ (Kd.S_mono (Kd.S_keep (IsS74.apartS (show IsS74 w0 _ g s0_0 t142 t143 from tc3_) tc23_ (by decide)) hk (fun _ h => h.2)) (fun _ h => h.1)); have n1_ := am_ (Kd.S_mono (Kd.S_keep (IsS74.apartS (show IsS74 w0 _ g s0_0 t142 t143 from tc3_) (by (with_reducible repeat (first | apply Kd.S_alloc | apply Kd.S_drewN | apply Kd.S_drew)); exact HO141.out) (by decide)) hk (fun _ h => h.2)) (fun _ h => h.1)); have n2_ := am_ (KeepBut.trans tc4_ hk (.inl rfl)); have n3_ := am_ (hb); have n4_ := am_ (hi); clear HO106 HO141; clear HK HB HI0; have HO106 := n0_; have HO141 := n1_; have HK := n2_; have HB := n3_; have HI0 := n4_; clear n0_ n1_ n2_ n3_ n4_; (try clear hb hk hi)))
      go_ret
      exact ⟨_, by first | rfl | (simp [errW_none, errW_some] <;> rfl) | (simp [*, errW_none, errW_some] <;> rfl), by first | exact Kd.S_nil _ _ _ _ _ | exact Kd.N_nil _ _ _ _ _ | exact Kd.V_nil _ _ _ _ _ | exact Kd.Q_nil _ _ _ _ _ | exact Kd.R_nil _ _ _ _ _, by repeat (first | (with_reducible first | exact HI0.out | apply IsS74.alloc | apply IsS74.drewN | apply IsS74.drew | apply IsS74.set_1 | apply IsS74.set_2) | exact HI0.out), by repeat (first | (with_reducible first | exact HB.out | apply below_alloc | apply pw_below_drewN | apply below_drew1 | refine below_set ?_ (IsS74.ge HI0.out)) | exact HB.out), by repeat (first | (with_reducible first | exact HK.out | apply KeepBut.set_ | apply keep_drewN | apply keep_drew | apply keep_alloc) | exact HK.out)⟩
     ·replace c55 := Bool.eq_false_iff.mpr c55
      subst c55
      have H1 : (some (t139, t145, t146)) = some (r1, r2, r3) := by rw [if_neg (show ¬ (false = true) by decide)] at H; exact H
      clear H
      have H := H1
      clear H1
      simp only [Option.some.injEq, Prod.mk.injEq] at H
      obtain ⟨rfl, rfl, rfl⟩ := H
      go_enter Try.func59, Try.ntmps59
      go_wp2_with (first | ((with_reducible refine gate_callee (f := 61) rfl ?_); refine goesL_ (some 9) rfl rfl Try.func61 (by kernel_rfl) rfl #[.pointer (some ⟨g, 0, none⟩), .int .i64 a1] rfl tc2_ ?_; (with_reducible refine (spec_l1Cur_pick.calls g s0_0 s0_1 s0_2 a1 t101 t102 t103 w0 _ ?side1 ?side2 A3.out).mono ?_); (case side1 => exact tc3_); (case side2 => exact tc5_); rintro e w61 ⟨rfl, hi, hb, hk⟩; refine ⟨_, rfl, ?_⟩; have n0_ := am_ (KeepBut.trans tc4_ hk (.inl rfl)); have n1_ := am_ (hb); have n2_ := am_ (hi); clear HK HB HI0; have HK := n0_; have HB := n1_; have HI0 := n2_; clear n0_ n1_ n2_; (try clear hb hk hi)) | ((with_reducible refine gate_callee (f := 91) rfl ?_); refine goesL_ (some 13) rfl rfl Try.func91 (by kernel_rfl) rfl #[.pointer (some ⟨g, 0, none⟩), .int .i64 (wrap64 (1 + t101))] rfl tc2_ ?_; (with_reducible refine (spec_l1Cur_sure.calls k g s0_0 t102 t103 (wrap64 (1 + t101)) t104 t107 t108 w0 _ ?side1 ?side2 A4.out).mono ?_); (case side1 => exact tc3_); (case side2 => exact tc5_); rintro e w62 ⟨v105, rfl, ho0, hi, hb, hk⟩; refine ⟨_, rfl, ?_⟩; have n0_ := am_ (Kd.S_lower ho0 (keep_size (w := w) (g := g) (row := none) tc4_)); have n1_ := am_ (KeepBut.trans tc4_ hk (.inl rfl)); have n2_ := am_ (hb); have n3_ := am_ (hi); clear HK HB HI0; have HO106 := n0_; have HK := n1_; have HB := n2_; have HI0 := n3_; clear n0_ n1_ n2_ n3_; (try clear hb hk hi ho0)) | ((with_reducible refine gate_callee (f := 61) rfl ?_); refine goesL_ (some 15) rfl rfl Try.func61 (by kernel_rfl) rfl #[.pointer (some ⟨g, 0, none⟩), .int .i64 20] rfl tc2_ ?_; (with_reducible refine (spec_l1Cur_pick.calls g s0_0 t107 t108 20 t109 t110 t111 w0 _ ?side1 ?side2 A5.out).mono ?_); (case side1 => exact tc3_); (case side2 => exact tc5_); rintro e w63 ⟨rfl, hi, hb, hk⟩; refine ⟨_, rfl, ?_⟩; have n0_ := am_ (Kd.S_mono (Kd.S_keep (IsS74.apartS (show IsS74 w0 _ g s0_0 t107 t108 from tc3_) tc23_ (by decide)) hk (fun _ h => h.2)) (fun _ h => h.1)); have n1_ := am_ (KeepBut.trans tc4_ hk (.inl rfl)); have n2_ := am_ (hb); have n3_ := am_ (hi); clear HO106 HK; clear HB HI0; have HO106 := n0_; have HK := n1_; have HB := n2_; have HI0 := n3_; clear n0_ n1_ n2_ n3_; (try clear hb hk hi)) | ((with_reducible refine gate_callee (f := 91) rfl ?_); refine goesL_ (some 50) rfl rfl Try.func91 (by kernel_rfl) rfl #[.pointer (some ⟨g, 0, none⟩), .int .i64 6] rfl tc2_ ?_; (with_reducible refine (spec_l1Cur_sure.calls k g s0_0 t110 t111 6 t139 t142 t143 w0 _ ?side1 ?side2 A53.out).mono ?_); (case side1 => exact tc3_); (case side2 => exact tc5_); rintro e w64 ⟨v140, rfl, ho0, hi, hb, hk⟩; refine ⟨_, rfl, ?_⟩; have n0_ := am_ (Kd.S_mono (Kd.S_told (Kd.S_oldK (IsS74.apartS (show IsS74 w0 _ g s0_0 t110 t111 from tc3_) tc23_ (by decide)) hk) (Kd.S_base ho0)) (fun _ h_ => h_.1)); have n1_ := am_ (Kd.S_lower (Kd.S_new' ho0 (Kd.S_lt tc23_)) (keep_size (w := w) (g := g) (row := none) tc4_)); have n2_ := am_ (KeepBut.trans tc4_ hk (.inl rfl)); have n3_ := am_ (hb); have n4_ := am_ (hi); clear HO106 HK; clear HB HI0; have HO106 := n0_; have HO141 := n1_; have HK := n2_; have HB := n3_; have HI0 := n4_; clear n0_ n1_ n2_ n3_ n4_; (try clear hb hk hi ho0)) | ((with_reducible refine gate_callee (f := 90) rfl ?_); refine goesL_ (some 52) rfl rfl Try.func90 (by kernel_rfl) rfl #[.pointer (some ⟨g, 0, none⟩), .int .i64 2] rfl tc2_ ?_; (with_reducible refine (spec_l1Cur_one.calls g s0_0 t142 t143 2 false t145 t146 w0 _ ?side1 ?side2 A54.out).mono ?_); (case side1 => exact tc3_); (case side2 => exact tc5_); rintro e w65 ⟨rfl, hi, hb, hk⟩; refine ⟨_, rfl, ?_⟩; have n0_ := am_ (Kd.S_mono (Kd.S_keep (IsS74.apartS (show IsS74 w0 _ g s0_0 t142 t143 from tc3_) tc23_ (by decide)) hk (fun _ h => h.2)) (fun _ h => h.1)); have n1_ := am_ (Kd.S_mono (Kd.S_keep (IsS74.apartS (show IsS74 w0 _ g s0_0 t142 t143 from tc3_) (by (with_reducible repeat (first | apply Kd.S_alloc | apply Kd.S_drewN | apply Kd.S_drew)); exact HO141.out) (by decide)) hk (fun _ h => h.2)) (fun _ h => h.1)); have n2_ := am_ (KeepBut.trans tc4_ hk (.inl rfl)); have n3_ := am_ (hb); have n4_ := am_ (hi); clear HO106 HO141; clear HK HB HI0; have HO106 := n0_; have HO141 := n1_; have HK := n2_; have HB := n3_; have HI0 := n4_; clear n0_ n1_ n2_ n3_ n4_; (try clear hb hk hi)))
      go_ret
      exact ⟨_, by first | rfl | (simp [errW_none, errW_some] <;> rfl) | (simp [*, errW_none, errW_some] <;> rfl), by (with_reducible repeat (first | apply Kd.S_alloc | apply Kd.S_drewN | apply Kd.S_drew)); exact Kd.S_mono HO141.out (fun _ hk => trivial), by repeat (first | (with_reducible first | exact HI0.out | apply IsS74.alloc | apply IsS74.drewN | apply IsS74.drew | apply IsS74.set_1 | apply IsS74.set_2) | exact HI0.out), by repeat (first | (with_reducible first | exact HB.out | apply below_alloc | apply pw_below_drewN | apply below_drew1 | refine below_set ?_ (IsS74.ge HI0.out)) | exact HB.out), by repeat (first | (with_reducible first | exact HK.out | apply KeepBut.set_ | apply keep_drewN | apply keep_drew | apply keep_alloc) | exact HK.out)⟩
    ·rw [if_neg c52] at H
     have c52b0 : (t109 == 3) = false := beq_eq_false_iff_ne.mpr c52
     have c52b1 : (t109 != 3) = true := bne_iff_ne.mpr c52
     simp only [Option.some.injEq, Prod.mk.injEq] at H
     obtain ⟨rfl, rfl, rfl⟩ := H
     go_enter Try.func59, Try.ntmps59
     go_wp2_with (first | ((with_reducible refine gate_callee (f := 61) rfl ?_); refine goesL_ (some 9) rfl rfl Try.func61 (by kernel_rfl) rfl #[.pointer (some ⟨g, 0, none⟩), .int .i64 a1] rfl tc2_ ?_; (with_reducible refine (spec_l1Cur_pick.calls g s0_0 s0_1 s0_2 a1 t101 t102 t103 w0 _ ?side1 ?side2 A3.out).mono ?_); (case side1 => exact tc3_); (case side2 => exact tc5_); rintro e w66 ⟨rfl, hi, hb, hk⟩; refine ⟨_, rfl, ?_⟩; have n0_ := am_ (KeepBut.trans tc4_ hk (.inl rfl)); have n1_ := am_ (hb); have n2_ := am_ (hi); clear HK HB HI0; have HK := n0_; have HB := n1_; have HI0 := n2_; clear n0_ n1_ n2_; (try clear hb hk hi)) | ((with_reducible refine gate_callee (f := 91) rfl ?_); refine goesL_ (some 13) rfl rfl Try.func91 (by kernel_rfl) rfl #[.pointer (some ⟨g, 0, none⟩), .int .i64 (wrap64 (1 + t101))] rfl tc2_ ?_; (with_reducible refine (spec_l1Cur_sure.calls k g s0_0 t102 t103 (wrap64 (1 + t101)) t104 t107 t108 w0 _ ?side1 ?side2 A4.out).mono ?_); (case side1 => exact tc3_); (case side2 => exact tc5_); rintro e w67 ⟨v105, rfl, ho0, hi, hb, hk⟩; refine ⟨_, rfl, ?_⟩; have n0_ := am_ (Kd.S_lower ho0 (keep_size (w := w) (g := g) (row := none) tc4_)); have n1_ := am_ (KeepBut.trans tc4_ hk (.inl rfl)); have n2_ := am_ (hb); have n3_ := am_ (hi); clear HK HB HI0; have HO106 := n0_; have HK := n1_; have HB := n2_; have HI0 := n3_; clear n0_ n1_ n2_ n3_; (try clear hb hk hi ho0)) | ((with_reducible refine gate_callee (f := 61) rfl ?_); refine goesL_ (some 15) rfl rfl Try.func61 (by kernel_rfl) rfl #[.pointer (some ⟨g, 0, none⟩), .int .i64 20] rfl tc2_ ?_; (with_reducible refine (spec_l1Cur_pick.calls g s0_0 t107 t108 20 t109 t110 t111 w0 _ ?side1 ?side2 A5.out).mono ?_); (case side1 => exact tc3_); (case side2 => exact tc5_); rintro e w68 ⟨rfl, hi, hb, hk⟩; refine ⟨_, rfl, ?_⟩; have n0_ := am_ (Kd.S_mono (Kd.S_keep (IsS74.apartS (show IsS74 w0 _ g s0_0 t107 t108 from tc3_) tc23_ (by decide)) hk (fun _ h => h.2)) (fun _ h => h.1)); have n1_ := am_ (KeepBut.trans tc4_ hk (.inl rfl)); have n2_ := am_ (hb); have n3_ := am_ (hi); clear HO106 HK; clear HB HI0; have HO106 := n0_; have HK := n1_; have HB := n2_; have HI0 := n3_; clear n0_ n1_ n2_ n3_; (try clear hb hk hi)))
     go_ret
     exact ⟨_, by first | rfl | (simp [errW_none, errW_some] <;> rfl) | (simp [*, errW_none, errW_some] <;> rfl), by (with_reducible repeat (first | apply Kd.S_alloc | apply Kd.S_drewN | apply Kd.S_drew)); exact HO106.out, by repeat (first | (with_reducible first | exact HI0.out | apply IsS74.alloc | apply IsS74.drewN | apply IsS74.drew | apply IsS74.set_1 | apply IsS74.set_2) | exact HI0.out), by repeat (first | (with_reducible first | exact HB.out | apply below_alloc | apply pw_below_drewN | apply below_drew1 | refine below_set ?_ (IsS74.ge HI0.out)) | exact HB.out), by repeat (first | (with_reducible first | exact HK.out | apply KeepBut.set_ | apply keep_drewN | apply keep_drew | apply keep_alloc) | exact HK.out)⟩

/-! ### spec_DrawKindsOf: function 55 -/
def spec_DrawKindsOf.f (k : Nat) (l0 : List Int) : Option ((List (List Int))) := (spec_l1Cur_signs.f k l0 0 0 5).bind fun bt102 => (some bt102.1)
set_option maxHeartbeats 8000000 in
set_option maxRecDepth 100000 in
theorem spec_DrawKindsOf.calls (k : Nat) (A0 : Option Addr) (c0 : Nat) (l0 : List Int) (r : List (List Int)) (w : World) (hr0 : Kd.C (Kd.int .u8) w A0 l0.length l0) (hc0 : l0.length ≤ c0) (h : spec_DrawKindsOf.f k l0 = some r) :
  Calls Try.prog 55 #[.slice A0 l0.length c0] w fun e w' => ∃ v0_ : Value, e = .returned (v0_) ∧ Kd.S (Kd.slice 3 (Kd.int .i64)) 28 w' w.heap.size (fun _ => True) v0_ r ∧ Below w.heap.size w w' := by
 have hu74 := Try.underlying74
 have HR0 := am_ hr0
 have HC0 := am_ hc0
 clear hr0 hc0
 have HB := am_ (Below.refl w.heap.size w)
 have H : ((spec_l1Cur_signs.f k l0 0 0 5).bind fun bt102 => (some bt102.1)) = some r := h
 clear h
 replace H := Option.bind_eq_some_iff.mp H
 obtain ⟨⟨t102, t105, t106⟩, A20, H⟩ := H
 replace H : (some t102) = some r := H
 have A2 := am_ A20
 clear A20
 obtain rfl := Option.some.inj H
 go_enter Try.func55, Try.ntmps55
 go_wp2_with (first | ((with_reducible refine gate_dst (N := 6) rfl ?_); refine box_event ?hg (N := 6) ?hd (cs := #[.slice A0 l0.length c0, .int .i64 0, .int .u64 0]) (t := 74) ?hr ?_; (case hd => rfl); (case hg => rfl); (case hr => exact tc26_); intro gb101 hg w3 hbox hb; have n0_ := am_ (below_step tc0_ hb); have n1_ := am_ ((by rw [hg]; exact (below_size tc0_) : w.heap.size ≤ gb101)); have n2_ := am_ ((by rw [hg]; exact (below_size tc0_) : w.heap.size ≤ gb101)); have n3_ := am_ ((show IsS74 w w3 gb101 l0 0 0 from ⟨A0, c0, hbox, (by rw [hg]; exact (below_size tc0_) : w.heap.size ≤ gb101), HR0.out⟩)); clear HB; have HB := n0_; have GW101 := n1_; have GE101 := n2_; have HI101 := n3_; clear n0_ n1_ n2_ n3_; clear hb hbox hg) | ((with_reducible refine gate_callee (f := 59) rfl ?_); refine goesL_ (some 8) rfl rfl Try.func59 (by kernel_rfl) rfl #[.pointer (some ⟨gb101, 0, none⟩), .int .i64 5] rfl tc2_ ?_; (with_reducible refine (spec_l1Cur_signs.calls k gb101 l0 0 0 5 t102 t105 t106 w _ ?side1 ?side2 A2.out).mono ?_); (case side1 => exact tc10_); (case side2 => exact tc14_); rintro e w4 ⟨v103, rfl, ho0, hi, hb, hk⟩; refine ⟨_, rfl, ?_⟩; have n0_ := am_ (Kd.S_lower ho0 (below_size tc14_)); have n1_ := am_ (hb); have n2_ := am_ (hi); clear HB HI101; have HO104 := n0_; have HB := n1_; have HI101 := n2_; clear n0_ n1_ n2_; (try clear hb hk hi ho0)))
 go_ret
 exact ⟨_, by first | rfl | (simp [errW_none, errW_some] <;> rfl) | (simp [*, errW_none, errW_some] <;> rfl), by (with_reducible repeat (first | apply Kd.S_alloc | apply Kd.S_drewN | apply Kd.S_drew)); exact HO104.out, by repeat (first | (with_reducible first | exact HB.out | apply below_alloc | apply pw_below_drewN | apply below_drew1 | refine below_set ?_ (IsS74.ge HI101.out)) | exact HB.out)⟩

/-! ### spec_DrawRowSets: function 19 -/
def spec_DrawRowSets.f (k : Nat) (l0 : List Int) : Option ((List (List Int))) := (spec_DrawKindsOf.f k l0).bind fun t101 => (some t101)
set_option maxHeartbeats 8000000 in
set_option maxRecDepth 100000 in
theorem spec_DrawRowSets.calls (k : Nat) (A0 : Option Addr) (c0 : Nat) (l0 : List Int) (r : List (List Int)) (w : World) (hr0 : Kd.C (Kd.int .u8) w A0 l0.length l0) (hc0 : l0.length ≤ c0) (h : spec_DrawRowSets.f k l0 = some r) :
  Calls Try.prog 19 #[.slice A0 l0.length c0] w fun e w' => ∃ v0_ : Value, e = .returned (v0_) ∧ Kd.S (Kd.slice 3 (Kd.int .i64)) 28 w' w.heap.size (fun _ => True) v0_ r ∧ Below w.heap.size w w' := by
 have HR0 := am_ hr0
 have HC0 := am_ hc0
 clear hr0 hc0
 have HB := am_ (Below.refl w.heap.size w)
 have H : ((spec_DrawKindsOf.f k l0).bind fun t101 => (some t101)) = some r := h
 clear h
 replace H := Option.bind_eq_some_iff.mp H
 obtain ⟨t101, A20, H⟩ := H
 replace H : (some t101) = some r := H
 have A2 := am_ A20
 clear A20
 obtain rfl := Option.some.inj H
 go_enter Try.func19, Try.ntmps19
 go_wp2_with (first | ((with_reducible refine gate_callee (f := 55) rfl ?_); refine goesL_ (some 4) rfl rfl Try.func55 (by kernel_rfl) rfl #[.slice A0 l0.length c0] rfl tc2_ ?_; (with_reducible refine (spec_DrawKindsOf.calls k _ _ l0 t101 _ ?side1 ?side2 A2.out).mono ?_); (case side1 => exact tc7_); (case side2 => exact HC0.out); rintro e w3 ⟨v102, rfl, ho0, hb⟩; refine ⟨_, rfl, ?_⟩; have n0_ := am_ (Kd.S_lower ho0 (below_size tc0_)); have n1_ := am_ (below_step tc0_ hb); clear HB; have HO103 := n0_; have HB := n1_; clear n0_ n1_; (try clear hb ho0)))
 go_ret
 exact ⟨_, by first | rfl | (simp [errW_none, errW_some] <;> rfl) | (simp [*, errW_none, errW_some] <;> rfl), by (with_reducible repeat (first | apply Kd.S_alloc | apply Kd.S_drewN | apply Kd.S_drew)); exact HO103.out, by repeat (first | (with_reducible first | exact HB.out | apply below_alloc | apply pw_below_drewN | apply below_drew1) | exact HB.out)⟩

/-! ### impl_within: function 53 -/
def impl_within.f (a0 : Int) (a1 : Int) (a2 : Int) : Option (Bool) := if a1 ≤ a0 then (some (decide (a0 ≤ a2))) else (some false)
set_option maxHeartbeats 8000000 in
set_option maxRecDepth 100000 in
theorem impl_within.calls (a0 : Int) (a1 : Int) (a2 : Int) (r : Bool) (w : World) (h : impl_within.f a0 a1 a2 = some r) :
  Calls Try.prog 53 #[.int .i64 a0, .int .i64 a1, .int .i64 a2] w fun e w' => e = .returned (.bool r) ∧ Drawn0 w w' := by
 have H : (if a1 ≤ a0 then (some (decide (a0 ≤ a2))) else (some false)) = some r := h
 clear h
 by_cases c4 : a1 ≤ a0
 ·rw [if_pos c4] at H
  have c4b0 : decide (a1 ≤ a0) = true := decide_eq_true c4
  clear c4
  obtain rfl := Option.some.inj H
  go_enter Try.func53, Try.ntmps53
  go_wp2
  go_ret
  exact ⟨by first | rfl | (simp; done) | (simp [*]; done), by repeat (first | exact Drawn0.refl _ | apply Drawn0.step)⟩
 ·rw [if_neg c4] at H
  have c4b0 : decide (a1 ≤ a0) = false := decide_eq_false c4
  clear c4
  obtain rfl := Option.some.inj H
  go_enter Try.func53, Try.ntmps53
  go_wp2
  go_ret
  exact ⟨by first | rfl | (simp; done) | (simp [*]; done), by repeat (first | exact Drawn0.refl _ | apply Drawn0.step)⟩

/-! ### impl_isSide: function 110 -/
def impl_isSide.f (a0 : Int) : Option (Bool) := (impl_within.f a0 1 6).bind fun t101 => (some t101)
set_option maxHeartbeats 8000000 in
set_option maxRecDepth 100000 in
theorem impl_isSide.calls (a0 : Int) (r : Bool) (w : World) (h : impl_isSide.f a0 = some r) :
  Calls Try.prog 110 #[.int .i64 a0] w fun e w' => e = .returned (.bool r) ∧ Drawn0 w w' := by
 have H : ((impl_within.f a0 1 6).bind fun t101 => (some t101)) = some r := h
 clear h
 replace H := Option.bind_eq_some_iff.mp H
 obtain ⟨t101, A20, H⟩ := H
 replace H : (some t101) = some r := H
 have A2 := am_ A20
 clear A20
 obtain rfl := Option.some.inj H
 go_enter Try.func110, Try.ntmps110
 go_wp2_with (first | ((with_reducible refine gate_callee (f := 53) rfl ?_); refine goesL_ (some 4) rfl rfl Try.func53 (by kernel_rfl) rfl #[.int .i64 a0, .int .i64 1, .int .i64 6] rfl tc2_ ?_; (with_reducible refine (impl_within.calls a0 1 6 t101 _ A2.out).mono ?_); rintro e w' ⟨rfl, ⟨nd, rfl⟩⟩; refine ⟨_, rfl, ?_⟩))
 go_ret
 exact ⟨by first | rfl | (simp; done) | (simp [*]; done), by repeat (first | exact Drawn0.refl _ | apply Drawn0.step)⟩

/-! ### slices_IndexFunc_int_int_141: function 141 -/
def slices_IndexFunc_int_int_141.l0 : Nat → List (List Int) → ((List Int) → Option Bool) → Int → Int → Option (Int)
 | 0, _, _, _, _ => none
 | k + 1, x0, x1, x7, x8 => if x8 < x7 then (if 0 ≤ x8 then (if x8 < (x0.length : Int) then ((x1 (rd_L3 x0 x8)).bind fun t102 => (if t102 = true then (some x8) else (slices_IndexFunc_int_int_141.l0 k x0 x1 x7 (wrap64 (x8 + 1))))) else (none)) else (none)) else (some (-1))
def slices_IndexFunc_int_int_141.f (k : Nat) (l0 : List (List Int)) (a1 : ((List Int) → Option Bool)) : Option (Int) := slices_IndexFunc_int_int_141.l0 k l0 a1 (l0.length : Int) 0
set_option maxHeartbeats 8000000 in
set_option maxRecDepth 100000 in
theorem slices_IndexFunc_int_int_141.calls (k : Nat) (A0 : Option Addr) (c0 : Nat) (l0 : List (List Int)) (g1 : Nat) (b1 : Array Value) (a1 : ((List Int) → Option Bool)) (r : Int) (w : World) (hr0 : Kd.C (Kd.slice 3 (Kd.int .i64)) w A0 l0.length l0) (hc0 : l0.length ≤ c0) (hf1 : Fn1 (Kd.slice 3 (Kd.int .i64)) Value.bool Try.prog g1 b1 a1 w) (h : slices_IndexFunc_int_int_141.f k l0 a1 = some r) :
  Calls Try.prog 141 #[.slice A0 l0.length c0, .func (.func g1) #[] b1] w fun e w' => e = .returned (.int .i64 r) ∧ Below w.heap.size w w' := by
 have HR0 := am_ hr0
 have HC0 := am_ hc0
 clear hr0 hc0
 have HF1 := am_ hf1.cl
 have eg1 := hf1.eg
 clear hf1
 have HB := am_ (Below.refl w.heap.size w)
 have H : (slices_IndexFunc_int_int_141.l0 k l0 a1 (l0.length : Int) 0) = some r := h
 clear h
 have H' := am_ H
 clear H
 go_enter Try.func141, Try.ntmps141
 go_wp2
 go_loopg [8] k (fun kq v8 w' => ∃ (x8_1 : Int), v8 = .int .i64 x8_1 ∧ Aside0 (slices_IndexFunc_int_int_141.l0 kq l0 a1 (l0.length : Int) x8_1 = some r) ∧ Aside0 (kq ≤ k) ∧ Aside0 (Below w.heap.size w w'))
 case atStart => exact ⟨(0), tc6_, H', ⟨Nat.le_refl _⟩, ⟨by repeat (first | (with_reducible first | exact HB.out | apply below_alloc | apply pw_below_drewN | apply below_drew1) | exact HB.out)⟩⟩
 case round =>
  clear H'
  try clear c1
  try clear p2
  obtain ⟨x8_1, rfl, HA, HK1, HB⟩ := hrel
  cases gk with
  | zero => exact absurd HA.out (by simp [slices_IndexFunc_int_int_141.l0])
  | succ k1 =>
   have H := HA.out
   clear HA
   simp only [slices_IndexFunc_int_int_141.l0] at H
   by_cases c3 : x8_1 < (l0.length : Int)
   ·rw [if_pos c3] at H
    have c3b0 : decide (x8_1 < (l0.length : Int)) = true := decide_eq_true c3
    clear c3
    by_cases c4 : 0 ≤ x8_1
    ·rw [if_pos c4] at H
     have c4b0 : decide (0 ≤ x8_1) = true := decide_eq_true c4
     clear c4
     by_cases c5 : x8_1 < (l0.length : Int)
     ·rw [if_pos c5] at H
      have c5b0 : decide (x8_1 < (l0.length : Int)) = true := decide_eq_true c5
      clear c5
      replace H := Option.bind_eq_some_iff.mp H
      obtain ⟨t102, A60, H⟩ := H
      replace H : (if t102 = true then (some x8_1) else (slices_IndexFunc_int_int_141.l0 k1 l0 a1 (l0.length : Int) (wrap64 (x8_1 + 1)))) = some r := H
      have A6 := am_ A60
      clear A60
      by_cases c7 : t102 = true
      ·subst c7
       have H1 : (some x8_1) = some r := by rw [if_pos rfl] at H; exact H
       clear H
       have H := H1
       clear H1
       obtain rfl := Option.some.inj H
       have p101 : 0 ≤ (x8_1 : Int) := of_decide_eq_true tc1_
       have q101 : x8_1 < (l0.length : Int) := of_decide_eq_true tc1_
       obtain ⟨ad101, A101_0, c101_0, e101, hx101_0, hl101_0, hi101_0⟩ := at_L3 HR0.out x8_1 p101 q101
       cases e101
       replace hx101_0 := (HB.out.cell (World.block_lt_of_cell? w _ hx101_0)).trans hx101_0
       have HR101_0 := am_ hi101_0
       have HC101_0 := am_ hl101_0
       clear hi101_0 hl101_0
       replace p101 := eq_true p101
       replace q101 := eq_true q101
       go_wp2_with (first | (go_at_fn g1; (refine (HF1.out _ ?side1 (rd_L3 l0 x8_1) _ (K_slice ?side2 ?side3) true A6.out).mono ?_); (case side1 => exact tc9_); (case side2 => exact HC101_0.out); (case side3 => repeat (first | exact (Kd.C_below HR101_0.out HB.out) | (with_reducible refine Kd.C_alloc ?_ _) | (with_reducible refine Kd.C_drewN ?_ _) | (with_reducible refine Kd.C_drew ?_))); rintro e w8 ⟨rfl, hb⟩; have n0_ := am_ (below_step tc0_ hb); clear HB; have HB := n0_; clear n0_; (try clear hb)))
       go_ret
       exact ⟨by first | rfl | (simp [errW_none, errW_some] <;> rfl) | (simp [*, errW_none, errW_some] <;> rfl), by repeat (first | (with_reducible first | exact HB.out | apply below_alloc | apply pw_below_drewN | apply below_drew1) | exact HB.out)⟩
      ·replace c7 := Bool.eq_false_iff.mpr c7
       subst c7
       have H1 : (slices_IndexFunc_int_int_141.l0 k1 l0 a1 (l0.length : Int) (wrap64 (x8_1 + 1))) = some r := by rw [if_neg (show ¬ (false = true) by decide)] at H; exact H
       clear H
       have H := H1
       clear H1
       have H' := am_ H
       clear H
       have p101 : 0 ≤ (x8_1 : Int) := of_decide_eq_true tc1_
       have q101 : x8_1 < (l0.length : Int) := of_decide_eq_true tc1_
       obtain ⟨ad101, A101_0, c101_0, e101, hx101_0, hl101_0, hi101_0⟩ := at_L3 HR0.out x8_1 p101 q101
       cases e101
       replace hx101_0 := (HB.out.cell (World.block_lt_of_cell? w _ hx101_0)).trans hx101_0
       have HR101_0 := am_ hi101_0
       have HC101_0 := am_ hl101_0
       clear hi101_0 hl101_0
       replace p101 := eq_true p101
       replace q101 := eq_true q101
       go_wp2_with (first | (go_at_fn g1; (refine (HF1.out _ ?side1 (rd_L3 l0 x8_1) _ (K_slice ?side2 ?side3) false A6.out).mono ?_); (case side1 => exact tc9_); (case side2 => exact HC101_0.out); (case side3 => repeat (first | exact (Kd.C_below HR101_0.out HB.out) | (with_reducible refine Kd.C_alloc ?_ _) | (with_reducible refine Kd.C_drewN ?_ _) | (with_reducible refine Kd.C_drew ?_))); rintro e w9 ⟨rfl, hb⟩; have n0_ := am_ (below_step tc0_ hb); clear HB; have HB := n0_; clear n0_; (try clear hb)))
       go_roundg k1
       case measure => have := HK1.out; omega
       case rel => exact ⟨(wrap64 (x8_1 + 1)), tc6_, H', ⟨by have := HK1.out; omega⟩, ⟨by repeat (first | (with_reducible first | exact HB.out | apply below_alloc | apply pw_below_drewN | apply below_drew1) | exact HB.out)⟩⟩
     ·rw [if_neg c5] at H
      exact absurd H (by simp)
    ·rw [if_neg c4] at H
     exact absurd H (by simp)
   ·rw [if_neg c3] at H
    have c3b0 : decide (x8_1 < (l0.length : Int)) = false := decide_eq_false c3
    clear c3
    obtain rfl := Option.some.inj H
    go_wp2
    go_ret
    exact ⟨by first | rfl | (simp [errW_none, errW_some] <;> rfl) | (simp [*, errW_none, errW_some] <;> rfl), by repeat (first | (with_reducible first | exact HB.out | apply below_alloc | apply pw_below_drewN | apply below_drew1) | exact HB.out)⟩

/-! ### slices_ContainsFunc_int_int_128: function 128 -/
def slices_ContainsFunc_int_int_128.f (k : Nat) (l0 : List (List Int)) (a1 : ((List Int) → Option Bool)) : Option (Bool) := (slices_IndexFunc_int_int_141.f k l0 a1).bind fun t101 => (some (decide (t101 ≥ 0)))
set_option maxHeartbeats 8000000 in
set_option maxRecDepth 100000 in
theorem slices_ContainsFunc_int_int_128.calls (k : Nat) (A0 : Option Addr) (c0 : Nat) (l0 : List (List Int)) (g1 : Nat) (b1 : Array Value) (a1 : ((List Int) → Option Bool)) (r : Bool) (w : World) (hr0 : Kd.C (Kd.slice 3 (Kd.int .i64)) w A0 l0.length l0) (hc0 : l0.length ≤ c0) (hf1 : Fn1 (Kd.slice 3 (Kd.int .i64)) Value.bool Try.prog g1 b1 a1 w) (h : slices_ContainsFunc_int_int_128.f k l0 a1 = some r) :
  Calls Try.prog 128 #[.slice A0 l0.length c0, .func (.func g1) #[] b1] w fun e w' => e = .returned (.bool r) ∧ Below w.heap.size w w' := by
 have HR0 := am_ hr0
 have HC0 := am_ hc0
 clear hr0 hc0
 have HF1 := am_ hf1.cl
 have eg1 := hf1.eg
 clear hf1
 have HB := am_ (Below.refl w.heap.size w)
 have H : ((slices_IndexFunc_int_int_141.f k l0 a1).bind fun t101 => (some (decide (t101 ≥ 0)))) = some r := h
 clear h
 replace H := Option.bind_eq_some_iff.mp H
 obtain ⟨t101, A30, H⟩ := H
 replace H : (some (decide (t101 ≥ 0))) = some r := H
 have A3 := am_ A30
 clear A30
 obtain rfl := Option.some.inj H
 go_enter Try.func128, Try.ntmps128
 go_wp2_with (first | ((with_reducible refine gate_callee (f := 141) rfl ?_); refine goesL_ (some 7) rfl rfl Try.func141 (by kernel_rfl) rfl #[.slice A0 l0.length c0, .func (.func g1) #[] b1] rfl tc2_ ?_; (with_reducible refine (slices_IndexFunc_int_int_141.calls k _ _ l0 _ _ a1 t101 _ ?side1 ?side2 ?side3 A3.out).mono ?_); (case side1 => exact tc7_); (case side2 => exact HC0.out); (case side3 => exact Fn1.later ⟨eg1, HF1.out⟩ tc0_); rintro e w4 ⟨rfl, hb⟩; refine ⟨_, rfl, ?_⟩; have n0_ := am_ (below_step tc0_ hb); clear HB; have HB := n0_; clear n0_; (try clear hb)))
 go_ret
 exact ⟨by first | rfl | (simp [errW_none, errW_some] <;> rfl) | (simp [*, errW_none, errW_some] <;> rfl), by repeat (first | (with_reducible first | exact HB.out | apply below_alloc | apply pw_below_drewN | apply below_drew1) | exact HB.out)⟩

/-! ### impl_isSquare_1: function 135 -/
def impl_isSquare_1.f (l0 : List Int) (l1_0 : List (List Int)) : Option (Bool) := some ((l0.length : Int) != (l1_0.length : Int))
set_option maxHeartbeats 8000000 in
set_option maxRecDepth 100000 in
theorem impl_isSquare_1.calls (A0 : Option Addr) (c0 : Nat) (l0 : List Int) (B1 : Nat) (A1_0 : Option Addr) (c1_0 : Nat) (l1_0 : List (List Int)) (r : Bool) (w : World) (hr0 : Kd.C (Kd.int .i64) w A0 l0.length l0) (hc0 : l0.length ≤ c0) (hb1 : w.heap[B1]? = some (.cells #[.slice A1_0 l1_0.length c1_0] 25 (0, 0))) (hr1_0 : Kd.C (Kd.slice 3 (Kd.int .i64)) w A1_0 l1_0.length l1_0) (hc1_0 : l1_0.length ≤ c1_0) (h : impl_isSquare_1.f l0 l1_0 = some r) :
  Calls Try.prog 135 #[.slice A0 l0.length c0, .pointer (some ⟨B1, 0, none⟩)] w fun e w' => e = .returned (.bool r) ∧ Drawn0 w w' := by
 have HR0 := am_ hr0
 have HC0 := am_ hc0
 clear hr0 hc0
 have HR1_0 := am_ hr1_0
 have HC1_0 := am_ hc1_0
 clear hr1_0 hc1_0
 have BK61 := am_ hb1
 clear hb1
 have H : (some ((l0.length : Int) != (l1_0.length : Int))) = some r := h
 clear h
 obtain rfl := Option.some.inj H
 have hcz3_0 : w.cell? ⟨B1, 0, none⟩ = some (.slice A1_0 l1_0.length c1_0) := (blk_cell BK61.out 0).trans rfl
 have hfz3_0 := blk_frozen BK61.out 0
 go_enter Try.func135, Try.ntmps135
 go_wp2
 go_ret
 exact ⟨by first | rfl | (simp; done) | (simp [*]; done), by repeat (first | exact Drawn0.refl _ | apply Drawn0.step)⟩

/-! ### impl_isSquare: function 111 -/
def impl_isSquare.f (k : Nat) (l0 : List (List Int)) : Option (Bool) := (slices_ContainsFunc_int_int_128.f k l0 (fun x0_ => impl_isSquare_1.f x0_ l0)).bind fun t102 => (some (!t102))
set_option maxHeartbeats 8000000 in
set_option maxRecDepth 100000 in
theorem impl_isSquare.calls (k : Nat) (A0 : Option Addr) (c0 : Nat) (l0 : List (List Int)) (r : Bool) (w : World) (hr0 : Kd.C (Kd.slice 3 (Kd.int .i64)) w A0 l0.length l0) (hc0 : l0.length ≤ c0) (h : impl_isSquare.f k l0 = some r) :
  Calls Try.prog 111 #[.slice A0 l0.length c0] w fun e w' => e = .returned (.bool r) ∧ Below w.heap.size w w' := by
 have HR0 := am_ hr0
 have HC0 := am_ hc0
 clear hr0 hc0
 have HB := am_ (Below.refl w.heap.size w)
 have H : ((slices_ContainsFunc_int_int_128.f k l0 (fun x0_ => impl_isSquare_1.f x0_ l0)).bind fun t102 => (some (!t102))) = some r := h
 clear h
 replace H := Option.bind_eq_some_iff.mp H
 obtain ⟨t102, A20, H⟩ := H
 replace H : (some (!t102)) = some r := H
 have A2 := am_ A20
 clear A20
 obtain rfl := Option.some.inj H
 go_enter Try.func111, Try.ntmps111
 go_wp2_with (first | ((with_reducible refine gate_dst (N := 1) rfl ?_); refine box_event ?hg (N := 1) ?hd (cs := #[.slice A0 l0.length c0]) (t := 25) ?hr ?_; (case hd => rfl); (case hg => rfl); (case hr => exact tc26_); intro gb101 hg w3 hbox hb; have n0_ := am_ (below_step tc0_ hb); have n1_ := am_ (hbox); have n2_ := am_ ((by rw [hg]; exact (below_size tc0_) : w.heap.size ≤ gb101)); have n3_ := am_ ((by rw [hg]; exact (below_size tc0_) : w.heap.size ≤ gb101)); clear HB; have HB := n0_; have BK101 := n1_; have GW101 := n2_; have GE101 := n3_; clear n0_ n1_ n2_ n3_; clear hb hbox hg; have hcz4_0 : w3.cell? ⟨gb101, 0, none⟩ = some (.slice A0 l0.length c0) := (blk_cell BK101.out 0).trans rfl; have hfz4_0 := blk_frozen BK101.out 0) | ((with_reducible refine gate_callee (f := 128) rfl ?_); refine goesL_ (some 5) rfl rfl Try.func128 (by kernel_rfl) rfl #[.slice A0 l0.length c0, .func (.func 135) #[] #[.pointer (some ⟨gb101, 0, none⟩)]] rfl tc2_ ?_; (with_reducible refine (slices_ContainsFunc_int_int_128.calls k _ _ l0 _ _ (fun x0_ => impl_isSquare_1.f x0_ l0) t102 _ ?side1 ?side2 ?side3 A2.out).mono ?_); (case side1 => exact tc11_); (case side2 => exact HC0.out); (case side3 => refine ⟨enters_of Try.func135 (by kernel_rfl) rfl, fun W_ hW_ x0_ v0_ hK0_ r_ hr_ => ?_⟩; obtain ⟨A0_, c0_, e0_, hl0_, hC0_⟩ := hK0_; cases e0_; refine (impl_isSquare_1.calls A0_ c0_ x0_ _ A0 c0 l0 r_ W_ hC0_ hl0_ ?cb1 ?cb2 ?cb3 hr_).mono ?_; (case cb1 => exact tc63_); (case cb2 => refine Kd.C_below ?_ hW_; repeat (first | exact (Kd.C_below HR0.out HB.out) | (with_reducible refine Kd.C_alloc ?_ _) | (with_reducible refine Kd.C_drewN ?_ _) | (with_reducible refine Kd.C_drew ?_))); (case cb3 => exact HC0.out); exact fun _ _ h_ => ⟨h_.1, h_.2.below⟩); rintro e w5 ⟨rfl, hb⟩; refine ⟨_, rfl, ?_⟩; have n0_ := am_ (blk_below (g := gb101) (o := .cells #[.slice A0 l0.length c0] 25 (0, 0)) tc15_ hb); have n1_ := am_ (below_step tc20_ hb); clear BK101 HB; have BK101 := n0_; have HB := n1_; clear n0_ n1_; (try clear hb)))
 go_ret
 exact ⟨by first | rfl | (simp [errW_none, errW_some] <;> rfl) | (simp [*, errW_none, errW_some] <;> rfl), by repeat (first | (with_reducible first | exact HB.out | apply below_alloc | apply pw_below_drewN | apply below_drew1 | refine below_set ?_ GE101.out) | exact HB.out)⟩

/-! ### impl_alternate: function 112 -/
def impl_alternate.l0 : Nat → Int → List Int → Int → Int → Option (Bool)
 | 0, _, _, _, _ => none
 | k + 1, x3, x6, x7, x8 => if x8 < x7 then (if 0 ≤ x8 then (if x8 < (x6.length : Int) then ((impl_within.f (rd x6 x8) (-1) 1).bind fun t102 => (if t102 = true then ((impl_within.f (wrap64 (x3 + (rd x6 x8))) 0 1).bind fun t103 => (if t103 = true then (impl_alternate.l0 k (wrap64 (x3 + (rd x6 x8))) x6 x7 (wrap64 (x8 + 1))) else (some false))) else (some false))) else (none)) else (none)) else (some (x3 == 1))
def impl_alternate.f (k : Nat) (l0 : List Int) : Option (Bool) := impl_alternate.l0 k 0 l0 (l0.length : Int) 0
set_option maxHeartbeats 8000000 in
set_option maxRecDepth 100000 in
theorem impl_alternate.calls (k : Nat) (A0 : Option Addr) (c0 : Nat) (l0 : List Int) (r : Bool) (w : World) (hr0 : Kd.C (Kd.int .i64) w A0 l0.length l0) (hc0 : l0.length ≤ c0) (h : impl_alternate.f k l0 = some r) :
  Calls Try.prog 112 #[.slice A0 l0.length c0] w fun e w' => e = .returned (.bool r) ∧ Drawn0 w w' := by
 have HR0 := am_ hr0
 have HC0 := am_ hc0
 clear hr0 hc0
 have H : (impl_alternate.l0 k 0 l0 (l0.length : Int) 0) = some r := h
 clear h
 have H' := am_ H
 clear H
 go_enter Try.func112, Try.ntmps112
 go_wp2
 go_loopg [3, 8] k (fun kq v3 v8 w' => ∃ (x3_1 : Int) (x8_1 : Int), v3 = .int .i64 x3_1 ∧ v8 = .int .i64 x8_1 ∧ Aside0 (impl_alternate.l0 kq x3_1 l0 (l0.length : Int) x8_1 = some r) ∧ Aside0 (kq ≤ k) ∧ Drawn0 w w')
 case atStart => exact ⟨(0), (0), tc6_, tc6_, H', ⟨Nat.le_refl _⟩, by repeat (first | exact Drawn0.refl _ | apply Drawn0.step)⟩
 case round =>
  clear H'
  try clear c1
  obtain ⟨x3_1, x8_1, rfl, rfl, HA, HK1, ⟨m1, rfl⟩⟩ := hrel
  cases gk with
  | zero => exact absurd HA.out (by simp [impl_alternate.l0])
  | succ k1 =>
   have H := HA.out
   clear HA
   simp only [impl_alternate.l0] at H
   by_cases c2 : x8_1 < (l0.length : Int)
   ·rw [if_pos c2] at H
    have c2b0 : decide (x8_1 < (l0.length : Int)) = true := decide_eq_true c2
    clear c2
    by_cases c3 : 0 ≤ x8_1
    ·rw [if_pos c3] at H
     have c3b0 : decide (0 ≤ x8_1) = true := decide_eq_true c3
     clear c3
     by_cases c4 : x8_1 < (l0.length : Int)
     ·rw [if_pos c4] at H
      have c4b0 : decide (x8_1 < (l0.length : Int)) = true := decide_eq_true c4
      clear c4
      replace H := Option.bind_eq_some_iff.mp H
      obtain ⟨t102, A50, H⟩ := H
      replace H : (if t102 = true then ((impl_within.f (wrap64 (x3_1 + (rd l0 x8_1))) 0 1).bind fun t103 => (if t103 = true then (impl_alternate.l0 k1 (wrap64 (x3_1 + (rd l0 x8_1))) l0 (l0.length : Int) (wrap64 (x8_1 + 1))) else (some false))) else (some false)) = some r := H
      have A5 := am_ A50
      clear A50
      by_cases c6 : t102 = true
      ·subst c6
       have H1 : ((impl_within.f (wrap64 (x3_1 + (rd l0 x8_1))) 0 1).bind fun t103 => (if t103 = true then (impl_alternate.l0 k1 (wrap64 (x3_1 + (rd l0 x8_1))) l0 (l0.length : Int) (wrap64 (x8_1 + 1))) else (some false))) = some r := by rw [if_pos rfl] at H; exact H
       clear H
       have H := H1
       clear H1
       replace H := Option.bind_eq_some_iff.mp H
       obtain ⟨t103, A70, H⟩ := H
       replace H : (if t103 = true then (impl_alternate.l0 k1 (wrap64 (x3_1 + (rd l0 x8_1))) l0 (l0.length : Int) (wrap64 (x8_1 + 1))) else (some false)) = some r := H
       have A7 := am_ A70
       clear A70
       by_cases c8 : t103 = true
       ·subst c8
        have H1 : (impl_alternate.l0 k1 (wrap64 (x3_1 + (rd l0 x8_1))) l0 (l0.length : Int) (wrap64 (x8_1 + 1))) = some r := by rw [if_pos rfl] at H; exact H
        clear H
        have H := H1
        clear H1
        have H' := am_ H
        clear H
        have p101 : 0 ≤ (x8_1 : Int) := of_decide_eq_true tc1_
        have q101 : x8_1 < (l0.length : Int) := of_decide_eq_true tc1_
        obtain ⟨ad101, e101, hx101_0⟩ := Kd.at_int HR0.out x8_1 p101 q101
        cases e101
        replace p101 := eq_true p101
        replace q101 := eq_true q101
        go_wp2_with (first | ((with_reducible refine gate_callee (f := 53) rfl ?_); refine goesL_ (some 16) rfl rfl Try.func53 (by kernel_rfl) rfl #[.int .i64 (rd l0 x8_1), .int .i64 (-1), .int .i64 1] rfl tc2_ ?_; (with_reducible refine (impl_within.calls (rd l0 x8_1) (-1) 1 true _ A5.out).mono ?_); rintro e w' ⟨rfl, ⟨nd, rfl⟩⟩; refine ⟨_, rfl, ?_⟩) | (go_at_call 53; (with_reducible refine (impl_within.calls (wrap64 (x3_1 + (rd l0 x8_1))) 0 1 true _ A7.out).mono ?_); rintro e w' ⟨rfl, ⟨nd, rfl⟩⟩))
        go_roundg k1
        case measure => have := HK1.out; omega
        case rel => exact ⟨(wrap64 (x3_1 + (rd l0 x8_1))), (wrap64 (x8_1 + 1)), tc6_, tc6_, H', ⟨by have := HK1.out; omega⟩, by repeat (first | exact Drawn0.refl _ | apply Drawn0.step)⟩
       ·replace c8 := Bool.eq_false_iff.mpr c8
        subst c8
        have H1 : (some false) = some r := by rw [if_neg (show ¬ (false = true) by decide)] at H; exact H
        clear H
        have H := H1
        clear H1
        obtain rfl := Option.some.inj H
        have p101 : 0 ≤ (x8_1 : Int) := of_decide_eq_true tc1_
        have q101 : x8_1 < (l0.length : Int) := of_decide_eq_true tc1_
        obtain ⟨ad101, e101, hx101_0⟩ := Kd.at_int HR0.out x8_1 p101 q101
        cases e101
        replace p101 := eq_true p101
        replace q101 := eq_true q101
        go_wp2_with (first | ((with_reducible refine gate_callee (f := 53) rfl ?_); refine goesL_ (some 16) rfl rfl Try.func53 (by kernel_rfl) rfl #[.int .i64 (rd l0 x8_1), .int .i64 (-1), .int .i64 1] rfl tc2_ ?_; (with_reducible refine (impl_within.calls (rd l0 x8_1) (-1) 1 true _ A5.out).mono ?_); rintro e w' ⟨rfl, ⟨nd, rfl⟩⟩; refine ⟨_, rfl, ?_⟩) | (go_at_call 53; (with_reducible refine (impl_within.calls (wrap64 (x3_1 + (rd l0 x8_1))) 0 1 false _ A7.out).mono ?_); rintro e w' ⟨rfl, ⟨nd, rfl⟩⟩))
        go_ret
        exact ⟨by first | rfl | (simp; done) | (simp [*]; done), by repeat (first | exact Drawn0.refl _ | apply Drawn0.step)⟩
      ·replace c6 := Bool.eq_false_iff.mpr c6
       subst c6
       have H1 : (some false) = some r := by rw [if_neg (show ¬ (false = true) by decide)] at H; exact H
       clear H
       have H := H1
       clear H1
       obtain rfl := Option.some.inj H
       have p101 : 0 ≤ (x8_1 : Int) := of_decide_eq_true tc1_
       have q101 : x8_1 < (l0.length : Int) := of_decide_eq_true tc1_
       obtain ⟨ad101, e101, hx101_0⟩ := Kd.at_int HR0.out x8_1 p101 q101
       cases e101
       replace p101 := eq_true p101
       replace q101 := eq_true q101
       go_wp2_with (first | ((with_reducible refine gate_callee (f := 53) rfl ?_); refine goesL_ (some 16) rfl rfl Try.func53 (by kernel_rfl) rfl #[.int .i64 (rd l0 x8_1), .int .i64 (-1), .int .i64 1] rfl tc2_ ?_; (with_reducible refine (impl_within.calls (rd l0 x8_1) (-1) 1 false _ A5.out).mono ?_); rintro e w' ⟨rfl, ⟨nd, rfl⟩⟩; refine ⟨_, rfl, ?_⟩))
       go_ret
       exact ⟨by first | rfl | (simp; done) | (simp [*]; done), by repeat (first | exact Drawn0.refl _ | apply Drawn0.step)⟩
     ·rw [if_neg c4] at H
      exact absurd H (by simp)
    ·rw [if_neg c3] at H
     exact absurd H (by simp)
   ·rw [if_neg c2] at H
    have c2b0 : decide (x8_1 < (l0.length : Int)) = false := decide_eq_false c2
    clear c2
    obtain rfl := Option.some.inj H
    go_wp2
    go_ret
    exact ⟨by first | rfl | (simp; done) | (simp [*]; done), by repeat (first | exact Drawn0.refl _ | apply Drawn0.step)⟩

/-! ### impl_column: function 113 -/
def impl_column.l0 : Nat → Int → List Int → List (List Int) → Int → Int → Option (List Int)
 | 0, _, _, _, _, _ => none
 | k + 1, x1, x5, x9, x10, x11 => if x11 < x10 then (if 0 ≤ x11 then (if x11 < (x9.length : Int) then (if 0 ≤ x1 then (if x1 < ((rd_L3 x9 x11).length : Int) then (if x5.length < 17592186044416 then (impl_column.l0 k x1 (x5 ++ [rd (rd_L3 x9 x11) x1]) x9 x10 (wrap64 (x11 + 1))) else (none)) else (none)) else (none)) else (none)) else (none)) else (some x5)
def impl_column.f (k : Nat) (l0 : List (List Int)) (a1 : Int) : Option (List Int) := impl_column.l0 k a1 (([] : List Int)) l0 (l0.length : Int) 0
set_option maxHeartbeats 8000000 in
set_option maxRecDepth 100000 in
theorem impl_column.calls (k : Nat) (A0 : Option Addr) (c0 : Nat) (l0 : List (List Int)) (a1 : Int) (r : List Int) (w : World) (hr0 : Kd.C (Kd.slice 3 (Kd.int .i64)) w A0 l0.length l0) (hc0 : l0.length ≤ c0) (h : impl_column.f k l0 a1 = some r) :
  Calls Try.prog 113 #[.slice A0 l0.length c0, .int .i64 a1] w fun e w' => ∃ v0_ : Value, e = .returned (v0_) ∧ Kd.R (Kd.int .i64) 3 w' w.heap.size (fun _ => True) v0_ r ∧ Below w.heap.size w w' := by
 have HR0 := am_ hr0
 have HC0 := am_ hc0
 clear hr0 hc0
 have HB := am_ (Below.refl w.heap.size w)
 have H : (impl_column.l0 k a1 (([] : List Int)) l0 (l0.length : Int) 0) = some r := h
 clear h
 obtain ⟨y101, hy101⟩ : ∃ y_ : List Int, y_ = (([] : List Int)) := ⟨_, rfl⟩
 replace H : (impl_column.l0 k a1 y101 l0 (l0.length : Int) 0) = some r := by first | (rw [hy101]; with_reducible exact H) | (have H2_ := (Option.bind_some _ _).symm.trans H; rw [hy101]; with_reducible exact H2_) | (have H2_ := (Option.bind_some _ _).symm.trans H; with_reducible exact H2_) | with_reducible exact H | (rw [hy101]; exact H) | exact H
 have Ny101 := am_ hy101
 clear hy101
 have H' := am_ H
 clear H
 go_enter Try.func113, Try.ntmps113
 go_wp2_with (first | ((with_reducible refine gate_dst (N := 8) rfl ?_); refine Kd.R_lit (Kd.int .i64) _ 3 ?hg (N := 8) ?hd (xs := ([] : List Int)) (inner := []) (ok := fun _ => True) (okp := fun _ => True) ?hr ?hp (fun _ hk => hk) trivial (Below.refl _ _) (Nat.le_refl _) (by simp) ?_; (case hd => rfl); (case hg => rfl); (case hr => exact tc26_); (case hp => exact (Reps.none _ _)); intro v102 w3 ho4 hb hg_ hnew_; clear hg_ hnew_; (first | rw [← Ny101.out] at ho4 | (simp only [Int.reduceToNat] at ho4; rw [← Ny101.out] at ho4)); have n0_ := am_ (Kd.R_lower ho4 (below_size tc0_)); have n1_ := am_ (below_step tc0_ hb); clear HB; have HO103 := n0_; have HB := n1_; clear n0_ n1_; clear hb ho4))
 go_loopg [5, 11] k (fun kq v5 v11 w' => ∃ (x5_1 : List Int) (x11_1 : Int), v11 = .int .i64 x11_1 ∧ Aside0 (impl_column.l0 kq a1 x5_1 l0 (l0.length : Int) x11_1 = some r) ∧ Aside0 (kq ≤ k) ∧ Aside0 (Kd.R (Kd.int .i64) 3 w' w.heap.size (fun _ => True) v5 x5_1) ∧ Aside0 (Below w.heap.size w w'))
 case atStart => exact ⟨(y101), (0), tc6_, H', ⟨Nat.le_refl _⟩, ⟨by (with_reducible repeat (first | apply Kd.R_alloc | apply Kd.R_drewN | apply Kd.R_drew)); exact HO103.out⟩, ⟨by repeat (first | (with_reducible first | exact HB.out | apply below_alloc | apply pw_below_drewN | apply below_drew1) | exact HB.out)⟩⟩
 case round =>
  clear H'
  try clear c1
  try clear p2
  obtain ⟨x5_1, x11_1, rfl, HA, HK1, HO_5, HB⟩ := hrel
  cases gk with
  | zero => exact absurd HA.out (by simp [impl_column.l0])
  | succ k1 =>
   have H := HA.out
   clear HA
   simp only [impl_column.l0] at H
   by_cases c5 : x11_1 < (l0.length : Int)
   ·rw [if_pos c5] at H
    have c5b0 : decide (x11_1 < (l0.length : Int)) = true := decide_eq_true c5
    clear c5
    by_cases c6 : 0 ≤ x11_1
    ·rw [if_pos c6] at H
     have c6b0 : decide (0 ≤ x11_1) = true := decide_eq_true c6
     clear c6
     by_cases c7 : x11_1 < (l0.length : Int)
     ·rw [if_pos c7] at H
      have c7b0 : decide (x11_1 < (l0.length : Int)) = true := decide_eq_true c7
      clear c7
      by_cases c8 : 0 ≤ a1
      ·rw [if_pos c8] at H
       have c8b0 : decide (0 ≤ a1) = true := decide_eq_true c8
       clear c8
       by_cases c9 : a1 < ((rd_L3 l0 x11_1).length : Int)
       ·rw [if_pos c9] at H
        have c9b0 : decide (a1 < ((rd_L3 l0 x11_1).length : Int)) = true := decide_eq_true c9
        clear c9
        by_cases c10 : x5_1.length < 17592186044416
        ·rw [if_pos c10] at H
         have LMc10 := am_ c10
         clear c10
         obtain ⟨y106, hy106⟩ : ∃ y_ : List Int, y_ = (x5_1 ++ [rd (rd_L3 l0 x11_1) a1]) := ⟨_, rfl⟩
         replace H : (impl_column.l0 k1 a1 y106 l0 (l0.length : Int) (wrap64 (x11_1 + 1))) = some r := by first | (rw [hy106]; with_reducible exact H) | (have H2_ := (Option.bind_some _ _).symm.trans H; rw [hy106]; with_reducible exact H2_) | (have H2_ := (Option.bind_some _ _).symm.trans H; with_reducible exact H2_) | with_reducible exact H | (rw [hy106]; exact H) | exact H
         have Ny106 := am_ hy106
         clear hy106
         have H' := am_ H
         clear H
         have p104 : 0 ≤ (x11_1 : Int) := of_decide_eq_true tc1_
         have q104 : x11_1 < (l0.length : Int) := of_decide_eq_true tc1_
         obtain ⟨ad104, A104_0, c104_0, e104, hx104_0, hl104_0, hi104_0⟩ := at_L3 HR0.out x11_1 p104 q104
         cases e104
         replace hx104_0 := (HB.out.cell (World.block_lt_of_cell? w _ hx104_0)).trans hx104_0
         have HR104_0 := am_ hi104_0
         have HC104_0 := am_ hl104_0
         clear hi104_0 hl104_0
         replace p104 := eq_true p104
         replace q104 := eq_true q104
         have p105 : 0 ≤ (a1 : Int) := of_decide_eq_true tc1_
         have q105 : a1 < ((rd_L3 l0 x11_1).length : Int) := of_decide_eq_true tc1_
         obtain ⟨ad105, e105, hx105_0⟩ := Kd.at_int HR104_0.out a1 p105 q105
         cases e105
         replace hx105_0 := (HB.out.cell (World.block_lt_of_cell? w _ hx105_0)).trans hx105_0
         replace p105 := eq_true p105
         replace q105 := eq_true q105
         go_wp2_with (first | ((with_reducible refine gate_builtin (b := .append) (xs := #[.tmp 15, .tmp 20]) rfl ?_); at_builtin; refine Kd.R_append (Kd.int .i64) (w0 := w) w.heap.size rfl (.tmp 15) (.tmp 20) 28 3 (.int .i64 0) 8 rfl Try.underlying28 info3 rfl (by decide) (by omega) u5 x5_1 (rd (rd_L3 l0 x11_1) a1) [.int .i64 (rd (rd_L3 l0 x11_1) a1)] (fun _ => True) (fun _ => False) rfl rfl ?aP (fun _ hk => hk.elim) ?aF ?aO ?aB ?aS ?aL ?_; (case aP => exact rfl); (case aB => exact tc9_); (case aF => exact tc69_); (case aO => exact tc64_); (case aS => exact tc17_); (case aL => have := LMc10.out; omega); intro v107 w11 ho hb hg hat; rw [← Ny106.out] at ho; have n0_ := am_ (hb); have n1_ := am_ (ho); clear HB HO_5; have HB := n0_; have HO108 := n1_; clear n0_ n1_; clear ho hb hg hat))
         go_roundg k1
         case measure => have := HK1.out; omega
         case rel => exact ⟨(y106), (wrap64 (x11_1 + 1)), tc6_, H', ⟨by have := HK1.out; omega⟩, ⟨by (with_reducible repeat (first | apply Kd.R_alloc | apply Kd.R_drewN | apply Kd.R_drew)); exact HO108.out⟩, ⟨by repeat (first | (with_reducible first | exact HB.out | apply below_alloc | apply pw_below_drewN | apply below_drew1) | exact HB.out)⟩⟩
        ·rw [if_neg c10] at H
         exact absurd H (by simp)
       ·rw [if_neg c9] at H
        exact absurd H (by simp)
      ·rw [if_neg c8] at H
       exact absurd H (by simp)
     ·rw [if_neg c7] at H
      exact absurd H (by simp)
    ·rw [if_neg c6] at H
     exact absurd H (by simp)
   ·rw [if_neg c5] at H
    have c5b0 : decide (x11_1 < (l0.length : Int)) = false := decide_eq_false c5
    clear c5
    obtain rfl := Option.some.inj H
    go_wp2
    go_ret
    exact ⟨_, by first | rfl | (simp [errW_none, errW_some] <;> rfl) | (simp [*, errW_none, errW_some] <;> rfl), by (with_reducible repeat (first | apply Kd.R_alloc | apply Kd.R_drewN | apply Kd.R_drew)); exact HO_5.out, by repeat (first | (with_reducible first | exact HB.out | apply below_alloc | apply pw_below_drewN | apply below_drew1) | exact HB.out)⟩

/-! ### impl_IsSignMatrix: function 63 -/
mutual
def impl_IsSignMatrix.j0 : Nat → List (List Int) → Bool → Option (Bool)
 | 0, _, _ => none
 | k + 1, x0, x12 => if x12 = true then (some false) else (impl_IsSignMatrix.l0 k x0 (x0.length : Int) 0)
def impl_IsSignMatrix.l0 : Nat → List (List Int) → Int → Int → Option (Bool)
 | 0, _, _, _ => none
 | k + 1, x0, x14, x15 => if x15 < x14 then (if 0 ≤ x15 then (if x15 < (x0.length : Int) then ((impl_alternate.f k (rd_L3 x0 x15)).bind fun t104 => (if t104 = true then ((impl_column.f k x0 x15).bind fun t105 => ((impl_alternate.f k t105).bind fun t108 => (if t108 = true then (impl_IsSignMatrix.l0 k x0 x14 (wrap64 (x15 + 1))) else (some false)))) else (some false))) else (none)) else (none)) else (some true)
end
def impl_IsSignMatrix.f (k : Nat) (l0 : List (List Int)) : Option (Bool) := (impl_isSide.f (l0.length : Int)).bind fun t101 => (if t101 = true then ((impl_isSquare.f k l0).bind fun t102 => (impl_IsSignMatrix.j0 k l0 (!t102))) else (impl_IsSignMatrix.j0 k l0 true))
set_option maxHeartbeats 8000000 in
set_option maxRecDepth 100000 in
theorem impl_IsSignMatrix.calls (k : Nat) (A0 : Option Addr) (c0 : Nat) (l0 : List (List Int)) (r : Bool) (w : World) (hr0 : Kd.C (Kd.slice 3 (Kd.int .i64)) w A0 l0.length l0) (hc0 : l0.length ≤ c0) (h : impl_IsSignMatrix.f k l0 = some r) :
  Calls Try.prog 63 #[.slice A0 l0.length c0] w fun e w' => e = .returned (.bool r) ∧ Below w.heap.size w w' := by
 have HR0 := am_ hr0
 have HC0 := am_ hc0
 clear hr0 hc0
 have HB := am_ (Below.refl w.heap.size w)
 have H : ((impl_isSide.f (l0.length : Int)).bind fun t101 => (if t101 = true then ((impl_isSquare.f k l0).bind fun t102 => (impl_IsSignMatrix.j0 k l0 (!t102))) else (impl_IsSignMatrix.j0 k l0 true))) = some r := h
 clear h
 have HC2 := am_ H
 clear H
 go_enter Try.func63, Try.ntmps63
 go_upto_region 1 with (fail)
 go_cut [12] (fun v12 wc => ∃ (kq : Nat) (x12_1 : Bool), v12 = .bool x12_1 ∧ Aside0 (impl_IsSignMatrix.j0 kq l0 x12_1 = some r) ∧ Aside0 (kq ≤ k) ∧ Aside0 (Below w.heap.size w wc))
 case first =>
  have H := HC2.out
  clear HC2
  replace H := Option.bind_eq_some_iff.mp H
  obtain ⟨t101, A30, H⟩ := H
  replace H : (if t101 = true then ((impl_isSquare.f k l0).bind fun t102 => (impl_IsSignMatrix.j0 k l0 (!t102))) else (impl_IsSignMatrix.j0 k l0 true)) = some r := H
  have A3 := am_ A30
  clear A30
  by_cases c4 : t101 = true
  ·subst c4
   have H1 : ((impl_isSquare.f k l0).bind fun t102 => (impl_IsSignMatrix.j0 k l0 (!t102))) = some r := by rw [if_pos rfl] at H; exact H
   clear H
   have H := H1
   clear H1
   replace H := Option.bind_eq_some_iff.mp H
   obtain ⟨t102, A50, H⟩ := H
   replace H : (impl_IsSignMatrix.j0 k l0 (!t102)) = some r := H
   have A5 := am_ A50
   clear A50
   have H' := am_ H
   clear H
   go_wp2_with (first | ((with_reducible refine gate_callee (f := 110) rfl ?_); refine goesL_ (some 6) rfl rfl Try.func110 (by kernel_rfl) rfl #[.int .i64 (l0.length : Int)] rfl tc2_ ?_; (with_reducible refine (impl_isSide.calls (l0.length : Int) true _ A3.out).mono ?_); rintro e w' ⟨rfl, ⟨nd, rfl⟩⟩; refine ⟨_, rfl, ?_⟩) | (go_at_call 111; (with_reducible refine (impl_isSquare.calls k _ _ l0 t102 _ ?side1 ?side2 A5.out).mono ?_); (case side1 => exact tc13_); (case side2 => exact HC0.out); rintro e w6 ⟨rfl, hb⟩; have n0_ := am_ (below_step tc0_ hb); clear HB; have HB := n0_; clear n0_; (try clear hb)))
   go_meet
   case rel => exact ⟨_, (!t102), tc6_, H', ⟨by first | omega | exact Nat.le_refl _⟩, ⟨by repeat (first | (with_reducible first | exact HB.out | apply below_alloc | apply pw_below_drewN | apply below_drew1) | exact HB.out)⟩⟩
  ·replace c4 := Bool.eq_false_iff.mpr c4
   subst c4
   have H1 : (impl_IsSignMatrix.j0 k l0 true) = some r := by rw [if_neg (show ¬ (false = true) by decide)] at H; exact H
   clear H
   have H := H1
   clear H1
   have H' := am_ H
   clear H
   go_wp2_with (first | ((with_reducible refine gate_callee (f := 110) rfl ?_); refine goesL_ (some 6) rfl rfl Try.func110 (by kernel_rfl) rfl #[.int .i64 (l0.length : Int)] rfl tc2_ ?_; (with_reducible refine (impl_isSide.calls (l0.length : Int) false _ A3.out).mono ?_); rintro e w' ⟨rfl, ⟨nd, rfl⟩⟩; refine ⟨_, rfl, ?_⟩))
   go_meet
   case rel => exact ⟨_, (true), tc6_, H', ⟨by first | omega | exact Nat.le_refl _⟩, ⟨by repeat (first | (with_reducible first | exact HB.out | apply below_alloc | apply pw_below_drewN | apply below_drew1) | exact HB.out)⟩⟩
 case rest =>
  clear HC2
  try clear c1
  try clear p2
  try clear c4
  try clear c6
  obtain ⟨kq, x12_1, rfl, HA, HJ1, HB⟩ := hcut
  cases kq with
  | zero => exact absurd HA.out (by simp [impl_IsSignMatrix.j0])
  | succ kj1 =>
   have H := HA.out
   clear HA
   simp only [impl_IsSignMatrix.j0] at H
   by_cases c7 : x12_1 = true
   ·subst c7
    have H1 : (some false) = some r := by rw [if_pos rfl] at H; exact H
    clear H
    have H := H1
    clear H1
    obtain rfl := Option.some.inj H
    go_wp2
    go_ret
    exact ⟨by first | rfl | (simp [errW_none, errW_some] <;> rfl) | (simp [*, errW_none, errW_some] <;> rfl), by repeat (first | (with_reducible first | exact HB.out | apply below_alloc | apply pw_below_drewN | apply below_drew1) | exact HB.out)⟩
   ·replace c7 := Bool.eq_false_iff.mpr c7
    subst c7
    have H1 : (impl_IsSignMatrix.l0 kj1 l0 (l0.length : Int) 0) = some r := by rw [if_neg (show ¬ (false = true) by decide)] at H; exact H
    clear H
    have H := H1
    clear H1
    have H' := am_ H
    clear H
    go_wp2
    go_loopg [15] kj1 (fun kq v15 w' => ∃ (x15_2 : Int), v15 = .int .i64 x15_2 ∧ Aside0 (impl_IsSignMatrix.l0 kq l0 (l0.length : Int) x15_2 = some r) ∧ Aside0 (kq ≤ kj1) ∧ Aside0 (Below w.heap.size w w'))
    case atStart => exact ⟨(0), tc6_, H', ⟨Nat.le_refl _⟩, ⟨by repeat (first | (with_reducible first | exact HB.out | apply below_alloc | apply pw_below_drewN | apply below_drew1) | exact HB.out)⟩⟩
    case round =>
     clear H'
     try clear c1
     try clear p2
     try clear c4
     try clear c6
     try clear c7
     try clear p2
     obtain ⟨x15_2, rfl, HA, HK2, HB⟩ := hrel
     cases gk with
     | zero => exact absurd HA.out (by simp [impl_IsSignMatrix.l0])
     | succ k2 =>
      have H := HA.out
      clear HA
      simp only [impl_IsSignMatrix.l0] at H
      by_cases c8 : x15_2 < (l0.length : Int)
      ·rw [if_pos c8] at H
       have c8b0 : decide (x15_2 < (l0.length : Int)) = true := decide_eq_true c8
       clear c8
       by_cases c9 : 0 ≤ x15_2
       ·rw [if_pos c9] at H
        have c9b0 : decide (0 ≤ x15_2) = true := decide_eq_true c9
        clear c9
        by_cases c10 : x15_2 < (l0.length : Int)
        ·rw [if_pos c10] at H
         have c10b0 : decide (x15_2 < (l0.length : Int)) = true := decide_eq_true c10
         clear c10
         replace H := Option.bind_eq_some_iff.mp H
         obtain ⟨t104, A110, H⟩ := H
         replace H : (if t104 = true then ((impl_column.f k2 l0 x15_2).bind fun t105 => ((impl_alternate.f k2 t105).bind fun t108 => (if t108 = true then (impl_IsSignMatrix.l0 k2 l0 (l0.length : Int) (wrap64 (x15_2 + 1))) else (some false)))) else (some false)) = some r := H
         have A11 := am_ A110
         clear A110
         by_cases c12 : t104 = true
         ·subst c12
          have H1 : ((impl_column.f k2 l0 x15_2).bind fun t105 => ((impl_alternate.f k2 t105).bind fun t108 => (if t108 = true then (impl_IsSignMatrix.l0 k2 l0 (l0.length : Int) (wrap64 (x15_2 + 1))) else (some false)))) = some r := by rw [if_pos rfl] at H; exact H
          clear H
          have H := H1
          clear H1
          replace H := Option.bind_eq_some_iff.mp H
          obtain ⟨t105, A130, H⟩ := H
          replace H : ((impl_alternate.f k2 t105).bind fun t108 => (if t108 = true then (impl_IsSignMatrix.l0 k2 l0 (l0.length : Int) (wrap64 (x15_2 + 1))) else (some false))) = some r := H
          have A13 := am_ A130
          clear A130
          replace H := Option.bind_eq_some_iff.mp H
          obtain ⟨t108, A140, H⟩ := H
          replace H : (if t108 = true then (impl_IsSignMatrix.l0 k2 l0 (l0.length : Int) (wrap64 (x15_2 + 1))) else (some false)) = some r := H
          have A14 := am_ A140
          clear A140
          by_cases c15 : t108 = true
          ·subst c15
           have H1 : (impl_IsSignMatrix.l0 k2 l0 (l0.length : Int) (wrap64 (x15_2 + 1))) = some r := by rw [if_pos rfl] at H; exact H
           clear H
           have H := H1
           clear H1
           have H' := am_ H
           clear H
           have p103 : 0 ≤ (x15_2 : Int) := of_decide_eq_true tc1_
           have q103 : x15_2 < (l0.length : Int) := of_decide_eq_true tc1_
           obtain ⟨ad103, A103_0, c103_0, e103, hx103_0, hl103_0, hi103_0⟩ := at_L3 HR0.out x15_2 p103 q103
           cases e103
           replace hx103_0 := (HB.out.cell (World.block_lt_of_cell? w _ hx103_0)).trans hx103_0
           have HR103_0 := am_ hi103_0
           have HC103_0 := am_ hl103_0
           clear hi103_0 hl103_0
           replace p103 := eq_true p103
           replace q103 := eq_true q103
           go_wp2_with (first | ((with_reducible refine gate_callee (f := 112) rfl ?_); refine goesL_ (some 22) rfl rfl Try.func112 (by kernel_rfl) rfl #[.slice A103_0 (rd_L3 l0 x15_2).length c103_0] rfl tc2_ ?_; (with_reducible refine (impl_alternate.calls k2 _ _ (rd_L3 l0 x15_2) true _ ?side1 ?side2 A11.out).mono ?_); (case side1 => exact tc51_); (case side2 => exact HC103_0.out); rintro e w' ⟨rfl, ⟨nd, rfl⟩⟩; refine ⟨_, rfl, ?_⟩) | (go_at_call 113; (with_reducible refine (impl_column.calls k2 _ _ l0 x15_2 t105 _ ?side1 ?side2 A13.out).mono ?_); (case side1 => exact tc13_); (case side2 => exact HC0.out); rintro e w16 ⟨v106, rfl, ho0, hb⟩; have n0_ := am_ (Kd.R_lower ho0 (below_size tc0_)); have n1_ := am_ (below_step tc0_ hb); clear HB; have HO107 := n0_; have HB := n1_; clear n0_ n1_; (try clear hb ho0); obtain ⟨Ao17, co17, eo17⟩ := Kd.R_slice HO107.out; subst eo17) | (go_at_call 112; (with_reducible refine (impl_alternate.calls k2 _ _ t105 true _ ?side1 ?side2 A14.out).mono ?_); (case side1 => repeat (first | exact (Kd.R_reads' HO107.out).2.2 | (with_reducible refine Kd.C_alloc ?_ _) | (with_reducible refine Kd.C_drewN ?_ _) | (with_reducible refine Kd.C_drew ?_))); (case side2 => exact (Kd.R_reads' HO107.out).2.1); rintro e w' ⟨rfl, ⟨nd, rfl⟩⟩))
           go_roundg k2
           case measure => have := HJ1.out; have := HK2.out; omega
           case rel => exact ⟨(wrap64 (x15_2 + 1)), tc6_, H', ⟨by have := HJ1.out; have := HK2.out; omega⟩, ⟨by repeat (first | (with_reducible first | exact HB.out | apply below_alloc | apply pw_below_drewN | apply below_drew1) | exact HB.out)⟩⟩
          ·replace c15 := Bool.eq_false_iff.mpr c15
           subst c15
           have H1 : (some false) = some r := by rw [if_neg (show ¬ (false = true) by decide)] at H; exact H
           clear H
           have H := H1
           clear H1
           obtain rfl := Option.some.inj H
           have p103 : 0 ≤ (x15_2 : Int) := of_decide_eq_true tc1_
           have q103 : x15_2 < (l0.length : Int) := of_decide_eq_true tc1_
           obtain ⟨ad103, A103_0, c103_0, e103, hx103_0, hl103_0, hi103_0⟩ := at_L3 HR0.out x15_2 p103 q103
           cases e103
           replace hx103_0 := (HB.out.cell (World.block_lt_of_cell? w _ hx103_0)).trans hx103_0
           have HR103_0 := am_ hi103_0
           have HC103_0 := am_ hl103_0
           clear hi103_0 hl103_0
           replace p103 := eq_true p103
           replace q103 := eq_true q103
           go_wp2_with (first | ((with_reducible refine gate_callee (f := 112) rfl ?_); refine goesL_ (some 22) rfl rfl Try.func112 (by kernel_rfl) rfl #[.slice A103_0 (rd_L3 l0 x15_2).length c103_0] rfl tc2_ ?_; (with_reducible refine (impl_alternate.calls k2 _ _ (rd_L3 l0 x15_2) true _ ?side1 ?side2 A11.out).mono ?_); (case side1 => exact tc51_); (case side2 => exact HC103_0.out); rintro e w' ⟨rfl, ⟨nd, rfl⟩⟩; refine ⟨_, rfl, ?_⟩) | (go_at_call 113; (with_reducible refine (impl_column.calls k2 _ _ l0 x15_2 t105 _ ?side1 ?side2 A13.out).mono ?_); (case side1 => exact tc13_); (case side2 => exact HC0.out); rintro e w18 ⟨v106, rfl, ho0, hb⟩; have n0_ := am_ (Kd.R_lower ho0 (below_size tc0_)); have n1_ := am_ (below_step tc0_ hb); clear HB; have HO107 := n0_; have HB := n1_; clear n0_ n1_; (try clear hb ho0); obtain ⟨Ao19, co19, eo19⟩ := Kd.R_slice HO107.out; subst eo19) | (go_at_call 112; (with_reducible refine (impl_alternate.calls k2 _ _ t105 false _ ?side1 ?side2 A14.out).mono ?_); (case side1 => repeat (first | exact (Kd.R_reads' HO107.out).2.2 | (with_reducible refine Kd.C_alloc ?_ _) | (with_reducible refine Kd.C_drewN ?_ _) | (with_reducible refine Kd.C_drew ?_))); (case side2 => exact (Kd.R_reads' HO107.out).2.1); rintro e w' ⟨rfl, ⟨nd, rfl⟩⟩))
           go_ret
           exact ⟨by first | rfl | (simp [errW_none, errW_some] <;> rfl) | (simp [*, errW_none, errW_some] <;> rfl), by repeat (first | (with_reducible first | exact HB.out | apply below_alloc | apply pw_below_drewN | apply below_drew1) | exact HB.out)⟩
         ·replace c12 := Bool.eq_false_iff.mpr c12
          subst c12
          have H1 : (some false) = some r := by rw [if_neg (show ¬ (false = true) by decide)] at H; exact H
          clear H
          have H := H1
          clear H1
          obtain rfl := Option.some.inj H
          have p103 : 0 ≤ (x15_2 : Int) := of_decide_eq_true tc1_
          have q103 : x15_2 < (l0.length : Int) := of_decide_eq_true tc1_
          obtain ⟨ad103, A103_0, c103_0, e103, hx103_0, hl103_0, hi103_0⟩ := at_L3 HR0.out x15_2 p103 q103
          cases e103
          replace hx103_0 := (HB.out.cell (World.block_lt_of_cell? w _ hx103_0)).trans hx103_0
          have HR103_0 := am_ hi103_0
          have HC103_0 := am_ hl103_0
          clear hi103_0 hl103_0
          replace p103 := eq_true p103
          replace q103 := eq_true q103
          go_wp2_with (first | ((with_reducible refine gate_callee (f := 112) rfl ?_); refine goesL_ (some 22) rfl rfl Try.func112 (by kernel_rfl) rfl #[.slice A103_0 (rd_L3 l0 x15_2).length c103_0] rfl tc2_ ?_; (with_reducible refine (impl_alternate.calls k2 _ _ (rd_L3 l0 x15_2) false _ ?side1 ?side2 A11.out).mono ?_); (case side1 => exact tc51_); (case side2 => exact HC103_0.out); rintro e w' ⟨rfl, ⟨nd, rfl⟩⟩; refine ⟨_, rfl, ?_⟩))
          go_ret
          exact ⟨by first | rfl | (simp [errW_none, errW_some] <;> rfl) | (simp [*, errW_none, errW_some] <;> rfl), by repeat (first | (with_reducible first | exact HB.out | apply below_alloc | apply pw_below_drewN | apply below_drew1) | exact HB.out)⟩
        ·rw [if_neg c10] at H
         exact absurd H (by simp)
       ·rw [if_neg c9] at H
        exact absurd H (by simp)
      ·rw [if_neg c8] at H
       have c8b0 : decide (x15_2 < (l0.length : Int)) = false := decide_eq_false c8
       clear c8
       obtain rfl := Option.some.inj H
       go_wp2
       go_ret
       exact ⟨by first | rfl | (simp [errW_none, errW_some] <;> rfl) | (simp [*, errW_none, errW_some] <;> rfl), by repeat (first | (with_reducible first | exact HB.out | apply below_alloc | apply pw_below_drewN | apply below_drew1) | exact HB.out)⟩

end Go.Proofs.Ytkagefbncfkjnaa.X
