-- Written by a program of this session (wip/xprint.py) that drives the kit's print; the contracts of what it does not take are this session's own.
import Derived.Test.YtkfoockclldieaaCFnKindsOfPlacesx0
import Derived.Test.YtkfoockclldieaaCFnKindsOfPlacesx1
import Derived.Test.YtkfoockclldieaaCFnKindsOfPlacesx2
import Derived.Test.YtkfoockclldieaaCFnKindsOfPlacesx3
namespace Go.Proofs.Ytkfoockclldieaa.X
open Go.RowKit Go.Proofs.YtkfoockclldieaaW.PrintWords Go.Proofs.YtkfoockclldieaaW.PrintLast Go.Proofs.YtkfoockclldieaaW.PrintMore
attribute [local go_sem] max2_int min2_int max_two min_two max_three min_three max_four min_four   -- for this text's walks alone
set_option linter.unusedVariables false
set_option linter.unusedSimpArgs false

/-! ### impl_FromKinds: function 15 -/
def impl_FromKinds.j0 : Nat → Bool → List (List Int) → Option ((List (List Int)) × Bool)
 | 0, _, _ => none
 | k + 1, x13, x102000 => if x13 = true then (some (([] : List (List Int)), false)) else ((impl_table.f k (x102000.length : Int) (x102000.length : Int) (fun x0_ x1_ => impl_FromKinds_1.f x0_ x1_ x102000)).bind fun t104 => ((impl_IsSignMatrix.f k t104).bind fun t107 => (if t107 = true then ((impl_kinds.f k t104).bind fun t108 => ((impl_compareTables.f k t108 x102000).bind fun t111 => (if t111 = 0 then (some (t104, true)) else (some (([] : List (List Int)), false))))) else (some (([] : List (List Int)), false)))))
def impl_FromKinds.f (k : Nat) (l0 : List (List Int)) : Option ((List (List Int)) × Bool) := (impl_isSide.f (l0.length : Int)).bind fun t102 => (if t102 = true then ((impl_isSquare.f k l0).bind fun t103 => (impl_FromKinds.j0 k (!t103) l0)) else (impl_FromKinds.j0 k true l0))
def impl_FromKinds.T4 : Bool × List (List Nat × List Nat) := (true, [([], []), ([0], [0]), ([1], [1]), ([2, 1], [2]), ([3], [3]), ([4, 3, 3], [3, 4]), ([3], [3]), ([5, 6, 5, 3], [3, 5, 6]), ([7, 3], [3, 7]), ([3, 8], [3, 8])])
def impl_FromKinds.B4 : List Nat := [0, 1, 3, 7, 15, 31, 15, 127, 255, 511]
theorem impl_FromKinds.tab4 : rtab .any (opsOf Try.f15 4) = impl_FromKinds.T4 := by kernel_rfl
theorem impl_FromKinds.bits4 : waitsOk impl_FromKinds.T4.2 impl_FromKinds.B4 = true := by kernel_rfl
set_option maxHeartbeats 8000000 in
set_option maxRecDepth 100000 in
theorem impl_FromKinds.calls (k : Nat) (A0 : Option Addr) (c0 : Nat) (l0 : List (List Int)) (r1 : List (List Int)) (r2 : Bool) (w : World) (hr0 : Kd.C (Kd.slice 3 (Kd.int .i64)) w A0 l0.length l0) (hc0 : l0.length ≤ c0) (h : impl_FromKinds.f k l0 = some (r1, r2)) :
  Calls Try.prog 15 #[.slice A0 l0.length c0] w fun e w' => ∃ v0_ : Value, e = .returned (.tuple #[v0_, .bool r2]) ∧ Kd.S (Kd.slice 3 (Kd.int .i64)) 28 w' w.heap.size (fun _ => True) v0_ r1 ∧ Below w.heap.size w w' := by
 have HR0 := am_ hr0
 have HC0 := am_ hc0
 clear hr0 hc0
 have HB := am_ (Below.refl w.heap.size w)
 have H : ((impl_isSide.f (l0.length : Int)).bind fun t102 => (if t102 = true then ((impl_isSquare.f k l0).bind fun t103 => (impl_FromKinds.j0 k (!t103) l0)) else (impl_FromKinds.j0 k true l0))) = some (r1, r2) := h
 clear h
 have HC2 := am_ H
 clear H
 go_enter Try.func15, Try.ntmps15
 go_upto_region 1 with (first | ((with_reducible refine gate_dst (N := 1) rfl ?_); refine box_event ?hg (N := 1) ?hd (cs := #[.slice A0 l0.length c0]) (t := 24) ?hr ?_; (case hd => rfl); (case hg => rfl); (case hr => exact tc27_); intro gb101 hg w3 hbox hb; have n0_ := am_ (below_step tc1_ hb); have n1_ := am_ (hbox); have n2_ := am_ ((by rw [hg]; exact (below_size tc1_) : w.heap.size ≤ gb101)); have n3_ := am_ ((by rw [hg]; exact (below_size tc1_) : w.heap.size ≤ gb101)); clear HB; have HB := n0_; have BK101 := n1_; have GW101 := n2_; have GE101 := n3_; clear n0_ n1_ n2_ n3_; clear hb hbox hg))
 (try simp only [Act.put, List.setIfInBounds_toArray, List.set_cons_zero, List.set_cons_succ])
 go_cut [13] (fun v13 wc => ∃ (kq : Nat) (x13_1 : Bool), v13 = .bool x13_1 ∧ Aside0 (impl_FromKinds.j0 kq x13_1 l0 = some (r1, r2)) ∧ Aside0 (kq ≤ k) ∧ Aside0 (wc.heap[gb101]? = some (.cells #[(.slice A0 l0.length c0)] 24 (0, 0))) ∧ Aside0 (Below w.heap.size w wc))
 case first =>
  have H := HC2.out
  clear HC2
  replace H := Option.bind_eq_some_iff.mp H
  obtain ⟨t102, A40, H⟩ := H
  replace H : (if t102 = true then ((impl_isSquare.f k l0).bind fun t103 => (impl_FromKinds.j0 k (!t103) l0)) else (impl_FromKinds.j0 k true l0)) = some (r1, r2) := H
  have A4 := am_ A40
  clear A40
  by_cases c5 : t102 = true
  ·subst c5
   have H1 : ((impl_isSquare.f k l0).bind fun t103 => (impl_FromKinds.j0 k (!t103) l0)) = some (r1, r2) := by rw [if_pos rfl] at H; exact H
   clear H
   have H := H1
   clear H1
   replace H := Option.bind_eq_some_iff.mp H
   obtain ⟨t103, A60, H⟩ := H
   replace H : (impl_FromKinds.j0 k (!t103) l0) = some (r1, r2) := H
   have A6 := am_ A60
   clear A60
   have H' := am_ H
   clear H
   have hcz7_0 : w3.cell? ⟨gb101, 0, none⟩ = some (.slice A0 l0.length c0) := (blk_cell BK101.out 0).trans rfl
   have hfz7_0 := blk_frozen BK101.out 0
   go_wp2_with (first | ((with_reducible refine gate_callee (f := 42) rfl ?_); refine goesL_ (some 7) rfl rfl Try.func42 (by kernel_rfl) rfl #[.int .i64 (l0.length : Int)] rfl tc0_ ?_; (with_reducible refine (impl_isSide.calls (l0.length : Int) true _ A4.out).mono ?_); rintro e w' ⟨rfl, ⟨nd, rfl⟩⟩; refine ⟨_, rfl, ?_⟩) | (go_at_call 43; (with_reducible refine (impl_isSquare.calls k _ _ l0 t103 _ ?side1 ?side2 A6.out).mono ?_); (case side1 => repeat (first | exact (Kd.C_below HR0.out tc10_) | (with_reducible refine Kd.C_alloc ?_ _) | (with_reducible refine Kd.C_drewN ?_ _) | (with_reducible refine Kd.C_drew ?_))); (case side2 => exact HC0.out); rintro e w8 ⟨rfl, hb⟩; have n0_ := am_ (blk_below (g := gb101) (o := .cells #[.slice A0 l0.length c0] 24 (0, 0)) tc14_ hb); have n1_ := am_ (below_step tc10_ hb); clear BK101 HB; have BK101 := n0_; have HB := n1_; clear n0_ n1_; (try clear hb)))
   go_meet
   case rel => exact ⟨_, (!t103), tc6_, H', ⟨by first | omega | exact Nat.le_refl _⟩, ⟨by (with_reducible repeat (first | refine blk_drewN ?_ _ | refine blk_drew ?_ | refine blk_alloc ?_ _)); exact BK101.out⟩, ⟨by repeat (first | (with_reducible first | exact HB.out | apply below_alloc | apply pw_below_drewN | apply below_drew1 | refine below_set ?_ GE101.out) | exact HB.out)⟩⟩
  ·replace c5 := Bool.eq_false_iff.mpr c5
   subst c5
   have H1 : (impl_FromKinds.j0 k true l0) = some (r1, r2) := by rw [if_neg (show ¬ (false = true) by decide)] at H; exact H
   clear H
   have H := H1
   clear H1
   have H' := am_ H
   clear H
   have hcz9_0 : w3.cell? ⟨gb101, 0, none⟩ = some (.slice A0 l0.length c0) := (blk_cell BK101.out 0).trans rfl
   have hfz9_0 := blk_frozen BK101.out 0
   go_wp2_with (first | ((with_reducible refine gate_callee (f := 42) rfl ?_); refine goesL_ (some 7) rfl rfl Try.func42 (by kernel_rfl) rfl #[.int .i64 (l0.length : Int)] rfl tc0_ ?_; (with_reducible refine (impl_isSide.calls (l0.length : Int) false _ A4.out).mono ?_); rintro e w' ⟨rfl, ⟨nd, rfl⟩⟩; refine ⟨_, rfl, ?_⟩))
   go_meet
   case rel => exact ⟨_, (true), tc6_, H', ⟨by first | omega | exact Nat.le_refl _⟩, ⟨by (with_reducible repeat (first | refine blk_drewN ?_ _ | refine blk_drew ?_ | refine blk_alloc ?_ _)); exact BK101.out⟩, ⟨by repeat (first | (with_reducible first | exact HB.out | apply below_alloc | apply pw_below_drewN | apply below_drew1 | refine below_set ?_ GE101.out) | exact HB.out)⟩⟩
 case rest =>
  clear HC2
  try clear c1
  try clear p2
  try clear c4
  try clear c5
  try clear hcz7_0
  try clear hcz9_0
  try clear hfz7_0
  try clear hfz9_0
  obtain ⟨kq, x13_1, rfl, HA, HJ1, BK101, HB⟩ := hcut
  cases kq with
  | zero => exact absurd HA.out (by simp [impl_FromKinds.j0])
  | succ kj1 =>
   have H := HA.out
   clear HA
   simp only [impl_FromKinds.j0] at H
   by_cases c10 : x13_1 = true
   ·subst c10
    have H1 : (some (([] : List (List Int)), false)) = some (r1, r2) := by rw [if_pos rfl] at H; exact H
    clear H
    have H := H1
    clear H1
    simp only [Option.some.injEq, Prod.mk.injEq] at H
    obtain ⟨rfl, rfl⟩ := H
    go_wp2
    go_ret2
    exact ⟨_, by first | rfl | (simp [errW_none, errW_some] <;> rfl) | (simp [*, errW_none, errW_some] <;> rfl), by first | exact Kd.S_nil _ _ _ _ _ | exact Kd.N_nil _ _ _ _ _ | exact Kd.V_nil _ _ _ _ _ | exact Kd.Q_nil _ _ _ _ _ | exact Kd.R_nil _ _ _ _ _, by repeat (first | (with_reducible first | exact HB.out | apply below_alloc | apply pw_below_drewN | apply below_drew1 | refine below_set ?_ GE101.out) | exact HB.out)⟩
   ·replace c10 := Bool.eq_false_iff.mpr c10
    subst c10
    have H1 : ((impl_table.f kj1 (l0.length : Int) (l0.length : Int) (fun x0_ x1_ => impl_FromKinds_1.f x0_ x1_ l0)).bind fun t104 => ((impl_IsSignMatrix.f kj1 t104).bind fun t107 => (if t107 = true then ((impl_kinds.f kj1 t104).bind fun t108 => ((impl_compareTables.f kj1 t108 l0).bind fun t111 => (if t111 = 0 then (some (t104, true)) else (some (([] : List (List Int)), false))))) else (some (([] : List (List Int)), false))))) = some (r1, r2) := by rw [if_neg (show ¬ (false = true) by decide)] at H; exact H
    clear H
    have H := H1
    clear H1
    replace H := Option.bind_eq_some_iff.mp H
    obtain ⟨t104, A110, H⟩ := H
    replace H : ((impl_IsSignMatrix.f kj1 t104).bind fun t107 => (if t107 = true then ((impl_kinds.f kj1 t104).bind fun t108 => ((impl_compareTables.f kj1 t108 l0).bind fun t111 => (if t111 = 0 then (some (t104, true)) else (some (([] : List (List Int)), false))))) else (some (([] : List (List Int)), false)))) = some (r1, r2) := H
    have A11 := am_ A110
    clear A110
    replace H := Option.bind_eq_some_iff.mp H
    obtain ⟨t107, A120, H⟩ := H
    replace H : (if t107 = true then ((impl_kinds.f kj1 t104).bind fun t108 => ((impl_compareTables.f kj1 t108 l0).bind fun t111 => (if t111 = 0 then (some (t104, true)) else (some (([] : List (List Int)), false))))) else (some (([] : List (List Int)), false))) = some (r1, r2) := H
    have A12 := am_ A120
    clear A120
    by_cases c13 : t107 = true
    ·subst c13
     have H1 : ((impl_kinds.f kj1 t104).bind fun t108 => ((impl_compareTables.f kj1 t108 l0).bind fun t111 => (if t111 = 0 then (some (t104, true)) else (some (([] : List (List Int)), false))))) = some (r1, r2) := by rw [if_pos rfl] at H; exact H
     clear H
     have H := H1
     clear H1
     replace H := Option.bind_eq_some_iff.mp H
     obtain ⟨t108, A140, H⟩ := H
     replace H : ((impl_compareTables.f kj1 t108 l0).bind fun t111 => (if t111 = 0 then (some (t104, true)) else (some (([] : List (List Int)), false)))) = some (r1, r2) := H
     have A14 := am_ A140
     clear A140
     replace H := Option.bind_eq_some_iff.mp H
     obtain ⟨t111, A150, H⟩ := H
     replace H : (if t111 = 0 then (some (t104, true)) else (some (([] : List (List Int)), false))) = some (r1, r2) := H
     have A15 := am_ A150
     clear A150
     by_cases c16 : t111 = 0
     ·rw [if_pos c16] at H
      have c16b0 : (t111 == 0) = true := beq_iff_eq.mpr c16
      have c16b1 : (t111 != 0) = false := bne_eq_false_iff_eq.mpr c16
      clear c16
      simp only [Option.some.injEq, Prod.mk.injEq] at H
      obtain ⟨rfl, rfl⟩ := H
      have hcz17_0 : wc.cell? ⟨gb101, 0, none⟩ = some (.slice A0 l0.length c0) := (blk_cell BK101.out 0).trans rfl
      have hfz17_0 := blk_frozen BK101.out 0
      try go_wp2_with (first | ((with_reducible refine gate_callee (f := 48) rfl ?_); refine goesL_ (some 19) rfl rfl Try.func48 (by kernel_rfl) rfl #[.int .i64 (l0.length : Int), .int .i64 (l0.length : Int), .func (.func 49) #[] #[.pointer (some ⟨gb101, 0, none⟩)]] rfl tc0_ ?_; (with_reducible refine (impl_table.calls kj1 (l0.length : Int) (l0.length : Int) _ _ (fun x0_ x1_ => impl_FromKinds_1.f x0_ x1_ l0) t104 _ ?side1 A11.out).mono ?_); (case side1 => refine ⟨enters_of Try.func49 (by kernel_rfl) rfl, fun W_ hW_ x0_ v0_ hK0_ x1_ v1_ hK1_ r_ hr_ => ?_⟩; cases (show v0_ = .int .i64 x0_ from (by simpa [Kd.int, Kd.bool, Kd.string, Kd.scalar] using hK0_)); cases (show v1_ = .int .i64 x1_ from (by simpa [Kd.int, Kd.bool, Kd.string, Kd.scalar] using hK1_)); refine (impl_FromKinds_1.calls x0_ x1_ _ A0 c0 l0 r_ W_ ?cb1 ?cb2 ?cb3 hr_).mono ?_; (case cb1 => exact tc33_); (case cb2 => exact tc26_); (case cb3 => exact HC0.out); exact fun _ _ h_ => ⟨h_.1, h_.2.below⟩); rintro e w18 ⟨v105, rfl, ho0, hb⟩; refine ⟨_, rfl, ?_⟩; have n0_ := am_ (Kd.S_lower ho0 (below_size tc10_)); have n1_ := am_ (blk_below (g := gb101) (o := .cells #[.slice A0 l0.length c0] 24 (0, 0)) tc14_ hb); have n2_ := am_ (below_step tc10_ hb); clear BK101 HB; have HO106 := n0_; have BK101 := n1_; have HB := n2_; clear n0_ n1_ n2_; (try clear hb ho0)))
      have n0_ := am_ (Kd.S_drew HO106.out)
      have n1_ := am_ (blk_drew BK101.out)
      have n2_ := am_ (below_drew1 HB.out)
      clear HO106
      clear BK101
      clear HB
      have HO106 := n0_
      have BK101 := n1_
      have HB := n2_
      clear n0_ n1_ n2_
      obtain ⟨Ao20, co20, eo20⟩ := Kd.S_slice HO106.out
      (first | subst eo20 | (injection eo20 with f1_ f2_ f3_; have f4_ := f1_.symm; have f5_ := f3_.symm; clear f1_ f2_ f3_; subst f4_; subst f5_))
      refine start_ (n := 10) (S := fun w' => w'.cell? ⟨gb101, 0, none⟩ = some (.slice A0 l0.length c0)) (ds := []) #[false, false, false, false, false, false, false, false, false, false] (by kernel_rfl) rfl rfl ((blk_cell BK101.out 0).trans rfl) (fun hHeld => ?_); refine with_tabW impl_FromKinds.tab4 impl_FromKinds.bits4 (fun HT_ HW_ => ?_)
      generalize w18.drew = w19 at HO106 BK101 HB hHeld ⊢
      refine pure_ (i := 0) (N := some 20) (v := ?_) (a' := ?_) #[true, false, false, false, false, false, false, false, false, false] rfl rfl (any_of HT_.out (by kernel_rfl)) (fun _ _ _ h => h) (Or.inl ⟨by rfl, ?_⟩) ?_ ?_
      rotate_left
      ·intro w'
       go_simp
       with_reducible rfl
      rotate_left
      ·simp only [Act.put, List.setIfInBounds_toArray, List.set_cons_zero, List.set_cons_succ, i64_w, i32_w]
       rfl
      refine one_ (i := 1) (N := some 21) #[true, true, false, false, false, false, false, false, false, false] rfl rfl (one_of HT_.out (by kernel_rfl)) (by decide) (fun K hK => ?_)
      refine goes_ Try.func13 (by kernel_rfl) rfl #[.slice Ao20 t104.length co20] (by rfl) rfl rfl tc0_ ?_
      with_reducible refine (impl_IsSignMatrix.calls kj1 _ _ t104 true _ ?side1 ?side2 A12.out).mono ?_
      (case side1 => exact tc28_)
      (case side2 => exact (Kd.S_reads' HO106.out).2.1)
      rintro e w21 ⟨rfl, hb⟩
      refine ⟨_, rfl, ?_⟩
      have n0_ := am_ (Kd.S_below tc12_ hb)
      have n1_ := am_ (blk_below (g := gb101) (o := .cells #[.slice A0 l0.length c0] 24 (0, 0)) tc14_ hb)
      have n2_ := am_ (below_step tc10_ hb)
      clear HO106
      clear BK101
      clear HB
      have HO106 := n0_
      have BK101 := n1_
      have HB := n2_
      clear n0_ n1_ n2_
      (try clear hb)
      (try clear hb2)
      (try clear hk)
      (try clear hi)
      refine hK.out _ _ ((blk_cell BK101.out 0).trans rfl) (fun hHeld => ?_)
      clear hK K
      refine norm_ (a' := ?_) ?_ ?_
      rotate_left
      ·show Act.put _ (some 21) _ = _
       simp only [Act.put, List.setIfInBounds_toArray, List.set_cons_zero, List.set_cons_succ, i64_w, i32_w]
       rfl
      refine pure_ (i := 2) (N := some 22) (v := ?_) (a' := ?_) #[true, true, true, false, false, false, false, false, false, false] rfl rfl (any_of HT_.out (by kernel_rfl)) (fun _ _ _ h => h) (Or.inl ⟨by rfl, ?_⟩) ?_ ?_
      rotate_left
      ·intro w'
       go_simp
       with_reducible rfl
      rotate_left
      ·simp only [Act.put, List.setIfInBounds_toArray, List.set_cons_zero, List.set_cons_succ, i64_w, i32_w]
       rfl
      refine pure_ (i := 3) (N := some 23) (v := ?_) (a' := ?_) #[true, true, true, true, false, false, false, false, false, false] rfl rfl (any_of HT_.out (by kernel_rfl)) (fun _ _ _ h => h) (Or.inl ⟨by rfl, ?_⟩) ?_ ?_
      rotate_left
      ·intro w'
       go_simp
       with_reducible rfl
      rotate_left
      ·simp only [Act.put, List.setIfInBounds_toArray, List.set_cons_zero, List.set_cons_succ, i64_w, i32_w]
       rfl
      refine pure_ (i := 4) (N := some 24) (v := ?_) (a' := ?_) #[true, true, true, true, true, false, false, false, false, false] rfl rfl (any_of HT_.out (by kernel_rfl)) (fun _ _ _ h => h) (Or.inl ⟨by rfl, ?_⟩) ?_ ?_
      rotate_left
      ·intro w'
       go_simp
       with_reducible rfl
      rotate_left
      ·simp only [Act.put, List.setIfInBounds_toArray, List.set_cons_zero, List.set_cons_succ, i64_w, i32_w]
       rfl
      refine take_ (i := 6) (N := some 26) (v := ?_) (a' := ?_) #[true, true, true, true, true, false, true, false, false, false] rfl rfl (take_ofW HT_.out HW_.out (by kernel_rfl)) (fun _ _ _ h => h) (Or.inl ⟨by rfl, ?_⟩) hHeld ?_ ?_
      rotate_left
      ·intro w' s0
       go_simp
       with_reducible rfl
      rotate_left
      ·simp only [Act.put, List.setIfInBounds_toArray, List.set_cons_zero, List.set_cons_succ, i64_w, i32_w]
       rfl
      refine one_ (i := 5) (N := some 25) #[true, true, true, true, true, true, true, false, false, false] rfl rfl (one_of HT_.out (by kernel_rfl)) (by decide) (fun K hK => ?_)
      refine goes_ Try.func37 (by kernel_rfl) rfl #[.slice Ao20 t104.length co20] (by rfl) rfl rfl tc0_ ?_
      with_reducible refine (impl_kinds.calls kj1 _ _ t104 t108 _ ?side1 ?side2 A14.out).mono ?_
      (case side1 => exact tc28_)
      (case side2 => exact (Kd.S_reads' HO106.out).2.1)
      rintro e w22 ⟨v109, rfl, ho0, hb⟩
      refine ⟨_, rfl, ?_⟩
      have n0_ := am_ (Kd.S_elder' tc12_ (Kd.S_base ho0) hb)
      have n1_ := am_ (Kd.S_lower (Kd.S_new' ho0 (Kd.S_lt tc12_)) (below_size tc10_))
      have n2_ := am_ (blk_below (g := gb101) (o := .cells #[.slice A0 l0.length c0] 24 (0, 0)) tc14_ hb)
      have n3_ := am_ (below_step tc10_ hb)
      clear HO106
      clear BK101
      clear HB
      have HO106 := n0_
      have HO110 := n1_
      have BK101 := n2_
      have HB := n3_
      clear n0_ n1_ n2_ n3_
      (try clear hb)
      (try clear hb2)
      (try clear hk)
      (try clear hi)
      (try clear ho0)
      obtain ⟨Ao23, co23, eo23⟩ := Kd.S_slice HO110.out
      (first | subst eo23 | (injection eo23 with f1_ f2_ f3_; have f4_ := f1_.symm; have f5_ := f3_.symm; clear f1_ f2_ f3_; subst f4_; subst f5_))
      refine hK.out _ _ ((blk_cell BK101.out 0).trans rfl) (fun hHeld => ?_)
      clear hK K
      refine norm_ (a' := ?_) ?_ ?_
      rotate_left
      ·show Act.put _ (some 25) _ = _
       simp only [Act.put, List.setIfInBounds_toArray, List.set_cons_zero, List.set_cons_succ, i64_w, i32_w]
       rfl
      refine one_ (i := 7) (N := some 27) #[true, true, true, true, true, true, true, true, false, false] rfl rfl (one_of HT_.out (by kernel_rfl)) (by decide) (fun K hK => ?_)
      refine goes_ Try.func51 (by kernel_rfl) rfl #[.slice Ao23 t108.length co23, .slice A0 l0.length c0] (by rfl) rfl rfl tc0_ ?_
      with_reducible refine (impl_compareTables.calls kj1 _ _ t108 _ _ l0 t111 _ ?side1 ?side2 ?side3 ?side4 A15.out).mono ?_
      (case side1 => repeat (first | exact (Kd.S_reads' HO110.out).2.2 | (with_reducible refine Kd.C_alloc ?_ _) | (with_reducible refine Kd.C_drewN ?_ _) | (with_reducible refine Kd.C_drew ?_)))
      (case side2 => exact (Kd.S_reads' HO110.out).2.1)
      (case side3 => exact tc13_)
      (case side4 => exact HC0.out)
      rintro e w24 ⟨rfl, hb⟩
      refine ⟨_, rfl, ?_⟩
      have n0_ := am_ (Kd.S_below tc12_ hb)
      have n1_ := am_ (Kd.S_below tc31_ hb)
      have n2_ := am_ (blk_below (g := gb101) (o := .cells #[.slice A0 l0.length c0] 24 (0, 0)) tc14_ hb)
      have n3_ := am_ (below_step tc10_ hb)
      clear HO106
      clear HO110
      clear BK101
      clear HB
      have HO106 := n0_
      have HO110 := n1_
      have BK101 := n2_
      have HB := n3_
      clear n0_ n1_ n2_ n3_
      (try clear hb)
      (try clear hb2)
      (try clear hk)
      (try clear hi)
      refine hK.out _ _ ((blk_cell BK101.out 0).trans rfl) (fun hHeld => ?_)
      clear hK K
      refine norm_ (a' := ?_) ?_ ?_
      rotate_left
      ·show Act.put _ (some 27) _ = _
       simp only [Act.put, List.setIfInBounds_toArray, List.set_cons_zero, List.set_cons_succ, i64_w, i32_w]
       rfl
      refine pure_ (i := 8) (N := some 28) (v := ?_) (a' := ?_) #[true, true, true, true, true, true, true, true, true, false] rfl rfl (any_of HT_.out (by kernel_rfl)) (fun _ _ _ h => h) (Or.inl ⟨by rfl, ?_⟩) ?_ ?_
      rotate_left
      ·intro w'
       go_simp
       with_reducible rfl
      rotate_left
      ·simp only [Act.put, List.setIfInBounds_toArray, List.set_cons_zero, List.set_cons_succ, i64_w, i32_w]
       rfl
      refine pure_ (i := 9) (N := some 29) (v := ?_) (a' := ?_) #[true, true, true, true, true, true, true, true, true, true] rfl rfl (any_of HT_.out (by kernel_rfl)) (fun _ _ _ h => h) (Or.inl ⟨by rfl, ?_⟩) ?_ ?_
      rotate_left
      ·intro w'
       go_simp
       with_reducible rfl
      rotate_left
      ·simp only [Act.put, List.setIfInBounds_toArray, List.set_cons_zero, List.set_cons_succ, i64_w, i32_w]
       rfl
      refine done_ (done_of HT_.out (by kernel_rfl)) ?_
      try go_wp2
      go_ret2
      exact ⟨_, by first | rfl | (simp [errW_none, errW_some] <;> rfl) | (simp [*, errW_none, errW_some] <;> rfl), by (with_reducible repeat (first | apply Kd.S_alloc | apply Kd.S_drewN | apply Kd.S_drew)); exact Kd.S_mono HO106.out (fun _ hk => trivial), by repeat (first | (with_reducible first | exact HB.out | apply below_alloc | apply pw_below_drewN | apply below_drew1 | refine below_set ?_ GE101.out) | exact HB.out)⟩
     ·rw [if_neg c16] at H
      have c16b0 : (t111 == 0) = false := beq_eq_false_iff_ne.mpr c16
      have c16b1 : (t111 != 0) = true := bne_iff_ne.mpr c16
      simp only [Option.some.injEq, Prod.mk.injEq] at H
      obtain ⟨rfl, rfl⟩ := H
      have hcz25_0 : wc.cell? ⟨gb101, 0, none⟩ = some (.slice A0 l0.length c0) := (blk_cell BK101.out 0).trans rfl
      have hfz25_0 := blk_frozen BK101.out 0
      try go_wp2_with (first | ((with_reducible refine gate_callee (f := 48) rfl ?_); refine goesL_ (some 19) rfl rfl Try.func48 (by kernel_rfl) rfl #[.int .i64 (l0.length : Int), .int .i64 (l0.length : Int), .func (.func 49) #[] #[.pointer (some ⟨gb101, 0, none⟩)]] rfl tc0_ ?_; (with_reducible refine (impl_table.calls kj1 (l0.length : Int) (l0.length : Int) _ _ (fun x0_ x1_ => impl_FromKinds_1.f x0_ x1_ l0) t104 _ ?side1 A11.out).mono ?_); (case side1 => refine ⟨enters_of Try.func49 (by kernel_rfl) rfl, fun W_ hW_ x0_ v0_ hK0_ x1_ v1_ hK1_ r_ hr_ => ?_⟩; cases (show v0_ = .int .i64 x0_ from (by simpa [Kd.int, Kd.bool, Kd.string, Kd.scalar] using hK0_)); cases (show v1_ = .int .i64 x1_ from (by simpa [Kd.int, Kd.bool, Kd.string, Kd.scalar] using hK1_)); refine (impl_FromKinds_1.calls x0_ x1_ _ A0 c0 l0 r_ W_ ?cb1 ?cb2 ?cb3 hr_).mono ?_; (case cb1 => exact tc33_); (case cb2 => exact tc26_); (case cb3 => exact HC0.out); exact fun _ _ h_ => ⟨h_.1, h_.2.below⟩); rintro e w26 ⟨v105, rfl, ho0, hb⟩; refine ⟨_, rfl, ?_⟩; have n0_ := am_ (Kd.S_lower ho0 (below_size tc10_)); have n1_ := am_ (blk_below (g := gb101) (o := .cells #[.slice A0 l0.length c0] 24 (0, 0)) tc14_ hb); have n2_ := am_ (below_step tc10_ hb); clear BK101 HB; have HO106 := n0_; have BK101 := n1_; have HB := n2_; clear n0_ n1_ n2_; (try clear hb ho0)))
      have n0_ := am_ (Kd.S_drew HO106.out)
      have n1_ := am_ (blk_drew BK101.out)
      have n2_ := am_ (below_drew1 HB.out)
      clear HO106
      clear BK101
      clear HB
      have HO106 := n0_
      have BK101 := n1_
      have HB := n2_
      clear n0_ n1_ n2_
      obtain ⟨Ao28, co28, eo28⟩ := Kd.S_slice HO106.out
      (first | subst eo28 | (injection eo28 with f1_ f2_ f3_; have f4_ := f1_.symm; have f5_ := f3_.symm; clear f1_ f2_ f3_; subst f4_; subst f5_))
      refine start_ (n := 10) (S := fun w' => w'.cell? ⟨gb101, 0, none⟩ = some (.slice A0 l0.length c0)) (ds := []) #[false, false, false, false, false, false, false, false, false, false] (by kernel_rfl) rfl rfl ((blk_cell BK101.out 0).trans rfl) (fun hHeld => ?_); refine with_tabW impl_FromKinds.tab4 impl_FromKinds.bits4 (fun HT_ HW_ => ?_)
      generalize w26.drew = w27 at HO106 BK101 HB hHeld ⊢
      refine pure_ (i := 0) (N := some 20) (v := ?_) (a' := ?_) #[true, false, false, false, false, false, false, false, false, false] rfl rfl (any_of HT_.out (by kernel_rfl)) (fun _ _ _ h => h) (Or.inl ⟨by rfl, ?_⟩) ?_ ?_
      rotate_left
      ·intro w'
       go_simp
       with_reducible rfl
      rotate_left
      ·simp only [Act.put, List.setIfInBounds_toArray, List.set_cons_zero, List.set_cons_succ, i64_w, i32_w]
       rfl
      refine one_ (i := 1) (N := some 21) #[true, true, false, false, false, false, false, false, false, false] rfl rfl (one_of HT_.out (by kernel_rfl)) (by decide) (fun K hK => ?_)
      refine goes_ Try.func13 (by kernel_rfl) rfl #[.slice Ao28 t104.length co28] (by rfl) rfl rfl tc0_ ?_
      with_reducible refine (impl_IsSignMatrix.calls kj1 _ _ t104 true _ ?side1 ?side2 A12.out).mono ?_
      (case side1 => exact tc28_)
      (case side2 => exact (Kd.S_reads' HO106.out).2.1)
      rintro e w29 ⟨rfl, hb⟩
      refine ⟨_, rfl, ?_⟩
      have n0_ := am_ (Kd.S_below tc12_ hb)
      have n1_ := am_ (blk_below (g := gb101) (o := .cells #[.slice A0 l0.length c0] 24 (0, 0)) tc14_ hb)
      have n2_ := am_ (below_step tc10_ hb)
      clear HO106
      clear BK101
      clear HB
      have HO106 := n0_
      have BK101 := n1_
      have HB := n2_
      clear n0_ n1_ n2_
      (try clear hb)
      (try clear hb2)
      (try clear hk)
      (try clear hi)
      refine hK.out _ _ ((blk_cell BK101.out 0).trans rfl) (fun hHeld => ?_)
      clear hK K
      refine norm_ (a' := ?_) ?_ ?_
      rotate_left
      ·show Act.put _ (some 21) _ = _
       simp only [Act.put, List.setIfInBounds_toArray, List.set_cons_zero, List.set_cons_succ, i64_w, i32_w]
       rfl
      refine pure_ (i := 2) (N := some 22) (v := ?_) (a' := ?_) #[true, true, true, false, false, false, false, false, false, false] rfl rfl (any_of HT_.out (by kernel_rfl)) (fun _ _ _ h => h) (Or.inl ⟨by rfl, ?_⟩) ?_ ?_
      rotate_left
      ·intro w'
       go_simp
       with_reducible rfl
      rotate_left
      ·simp only [Act.put, List.setIfInBounds_toArray, List.set_cons_zero, List.set_cons_succ, i64_w, i32_w]
       rfl
      refine pure_ (i := 3) (N := some 23) (v := ?_) (a' := ?_) #[true, true, true, true, false, false, false, false, false, false] rfl rfl (any_of HT_.out (by kernel_rfl)) (fun _ _ _ h => h) (Or.inl ⟨by rfl, ?_⟩) ?_ ?_
      rotate_left
      ·intro w'
       go_simp
       with_reducible rfl
      rotate_left
      ·simp only [Act.put, List.setIfInBounds_toArray, List.set_cons_zero, List.set_cons_succ, i64_w, i32_w]
       rfl
      refine pure_ (i := 4) (N := some 24) (v := ?_) (a' := ?_) #[true, true, true, true, true, false, false, false, false, false] rfl rfl (any_of HT_.out (by kernel_rfl)) (fun _ _ _ h => h) (Or.inl ⟨by rfl, ?_⟩) ?_ ?_
      rotate_left
      ·intro w'
       go_simp
       with_reducible rfl
      rotate_left
      ·simp only [Act.put, List.setIfInBounds_toArray, List.set_cons_zero, List.set_cons_succ, i64_w, i32_w]
       rfl
      refine take_ (i := 6) (N := some 26) (v := ?_) (a' := ?_) #[true, true, true, true, true, false, true, false, false, false] rfl rfl (take_ofW HT_.out HW_.out (by kernel_rfl)) (fun _ _ _ h => h) (Or.inl ⟨by rfl, ?_⟩) hHeld ?_ ?_
      rotate_left
      ·intro w' s0
       go_simp
       with_reducible rfl
      rotate_left
      ·simp only [Act.put, List.setIfInBounds_toArray, List.set_cons_zero, List.set_cons_succ, i64_w, i32_w]
       rfl
      refine one_ (i := 5) (N := some 25) #[true, true, true, true, true, true, true, false, false, false] rfl rfl (one_of HT_.out (by kernel_rfl)) (by decide) (fun K hK => ?_)
      refine goes_ Try.func37 (by kernel_rfl) rfl #[.slice Ao28 t104.length co28] (by rfl) rfl rfl tc0_ ?_
      with_reducible refine (impl_kinds.calls kj1 _ _ t104 t108 _ ?side1 ?side2 A14.out).mono ?_
      (case side1 => exact tc28_)
      (case side2 => exact (Kd.S_reads' HO106.out).2.1)
      rintro e w30 ⟨v109, rfl, ho0, hb⟩
      refine ⟨_, rfl, ?_⟩
      have n0_ := am_ (Kd.S_elder' tc12_ (Kd.S_base ho0) hb)
      have n1_ := am_ (Kd.S_lower (Kd.S_new' ho0 (Kd.S_lt tc12_)) (below_size tc10_))
      have n2_ := am_ (blk_below (g := gb101) (o := .cells #[.slice A0 l0.length c0] 24 (0, 0)) tc14_ hb)
      have n3_ := am_ (below_step tc10_ hb)
      clear HO106
      clear BK101
      clear HB
      have HO106 := n0_
      have HO110 := n1_
      have BK101 := n2_
      have HB := n3_
      clear n0_ n1_ n2_ n3_
      (try clear hb)
      (try clear hb2)
      (try clear hk)
      (try clear hi)
      (try clear ho0)
      obtain ⟨Ao31, co31, eo31⟩ := Kd.S_slice HO110.out
      (first | subst eo31 | (injection eo31 with f1_ f2_ f3_; have f4_ := f1_.symm; have f5_ := f3_.symm; clear f1_ f2_ f3_; subst f4_; subst f5_))
      refine hK.out _ _ ((blk_cell BK101.out 0).trans rfl) (fun hHeld => ?_)
      clear hK K
      refine norm_ (a' := ?_) ?_ ?_
      rotate_left
      ·show Act.put _ (some 25) _ = _
       simp only [Act.put, List.setIfInBounds_toArray, List.set_cons_zero, List.set_cons_succ, i64_w, i32_w]
       rfl
      refine one_ (i := 7) (N := some 27) #[true, true, true, true, true, true, true, true, false, false] rfl rfl (one_of HT_.out (by kernel_rfl)) (by decide) (fun K hK => ?_)
      refine goes_ Try.func51 (by kernel_rfl) rfl #[.slice Ao31 t108.length co31, .slice A0 l0.length c0] (by rfl) rfl rfl tc0_ ?_
      with_reducible refine (impl_compareTables.calls kj1 _ _ t108 _ _ l0 t111 _ ?side1 ?side2 ?side3 ?side4 A15.out).mono ?_
      (case side1 => repeat (first | exact (Kd.S_reads' HO110.out).2.2 | (with_reducible refine Kd.C_alloc ?_ _) | (with_reducible refine Kd.C_drewN ?_ _) | (with_reducible refine Kd.C_drew ?_)))
      (case side2 => exact (Kd.S_reads' HO110.out).2.1)
      (case side3 => exact tc13_)
      (case side4 => exact HC0.out)
      rintro e w32 ⟨rfl, hb⟩
      refine ⟨_, rfl, ?_⟩
      have n0_ := am_ (Kd.S_below tc12_ hb)
      have n1_ := am_ (Kd.S_below tc31_ hb)
      have n2_ := am_ (blk_below (g := gb101) (o := .cells #[.slice A0 l0.length c0] 24 (0, 0)) tc14_ hb)
      have n3_ := am_ (below_step tc10_ hb)
      clear HO106
      clear HO110
      clear BK101
      clear HB
      have HO106 := n0_
      have HO110 := n1_
      have BK101 := n2_
      have HB := n3_
      clear n0_ n1_ n2_ n3_
      (try clear hb)
      (try clear hb2)
      (try clear hk)
      (try clear hi)
      refine hK.out _ _ ((blk_cell BK101.out 0).trans rfl) (fun hHeld => ?_)
      clear hK K
      refine norm_ (a' := ?_) ?_ ?_
      rotate_left
      ·show Act.put _ (some 27) _ = _
       simp only [Act.put, List.setIfInBounds_toArray, List.set_cons_zero, List.set_cons_succ, i64_w, i32_w]
       rfl
      refine pure_ (i := 8) (N := some 28) (v := ?_) (a' := ?_) #[true, true, true, true, true, true, true, true, true, false] rfl rfl (any_of HT_.out (by kernel_rfl)) (fun _ _ _ h => h) (Or.inl ⟨by rfl, ?_⟩) ?_ ?_
      rotate_left
      ·intro w'
       go_simp
       with_reducible rfl
      rotate_left
      ·simp only [Act.put, List.setIfInBounds_toArray, List.set_cons_zero, List.set_cons_succ, i64_w, i32_w]
       rfl
      refine pure_ (i := 9) (N := some 29) (v := ?_) (a' := ?_) #[true, true, true, true, true, true, true, true, true, true] rfl rfl (any_of HT_.out (by kernel_rfl)) (fun _ _ _ h => h) (Or.inl ⟨by rfl, ?_⟩) ?_ ?_
      rotate_left
      ·intro w'
       go_simp
       with_reducible rfl
      rotate_left
      ·simp only [Act.put, List.setIfInBounds_toArray, List.set_cons_zero, List.set_cons_succ, i64_w, i32_w]
       rfl
      refine done_ (done_of HT_.out (by kernel_rfl)) ?_
      try go_wp2
      go_ret2
      exact ⟨_, by first | rfl | (simp [errW_none, errW_some] <;> rfl) | (simp [*, errW_none, errW_some] <;> rfl), by first | exact Kd.S_nil _ _ _ _ _ | exact Kd.N_nil _ _ _ _ _ | exact Kd.V_nil _ _ _ _ _ | exact Kd.Q_nil _ _ _ _ _ | exact Kd.R_nil _ _ _ _ _, by repeat (first | (with_reducible first | exact HB.out | apply below_alloc | apply pw_below_drewN | apply below_drew1 | refine below_set ?_ GE101.out) | exact HB.out)⟩
    ·replace c13 := Bool.eq_false_iff.mpr c13
     subst c13
     have H1 : (some (([] : List (List Int)), false)) = some (r1, r2) := by rw [if_neg (show ¬ (false = true) by decide)] at H; exact H
     clear H
     have H := H1
     clear H1
     simp only [Option.some.injEq, Prod.mk.injEq] at H
     obtain ⟨rfl, rfl⟩ := H
     have hcz33_0 : wc.cell? ⟨gb101, 0, none⟩ = some (.slice A0 l0.length c0) := (blk_cell BK101.out 0).trans rfl
     have hfz33_0 := blk_frozen BK101.out 0
     try go_wp2_with (first | ((with_reducible refine gate_callee (f := 48) rfl ?_); refine goesL_ (some 19) rfl rfl Try.func48 (by kernel_rfl) rfl #[.int .i64 (l0.length : Int), .int .i64 (l0.length : Int), .func (.func 49) #[] #[.pointer (some ⟨gb101, 0, none⟩)]] rfl tc0_ ?_; (with_reducible refine (impl_table.calls kj1 (l0.length : Int) (l0.length : Int) _ _ (fun x0_ x1_ => impl_FromKinds_1.f x0_ x1_ l0) t104 _ ?side1 A11.out).mono ?_); (case side1 => refine ⟨enters_of Try.func49 (by kernel_rfl) rfl, fun W_ hW_ x0_ v0_ hK0_ x1_ v1_ hK1_ r_ hr_ => ?_⟩; cases (show v0_ = .int .i64 x0_ from (by simpa [Kd.int, Kd.bool, Kd.string, Kd.scalar] using hK0_)); cases (show v1_ = .int .i64 x1_ from (by simpa [Kd.int, Kd.bool, Kd.string, Kd.scalar] using hK1_)); refine (impl_FromKinds_1.calls x0_ x1_ _ A0 c0 l0 r_ W_ ?cb1 ?cb2 ?cb3 hr_).mono ?_; (case cb1 => exact tc33_); (case cb2 => exact tc26_); (case cb3 => exact HC0.out); exact fun _ _ h_ => ⟨h_.1, h_.2.below⟩); rintro e w34 ⟨v105, rfl, ho0, hb⟩; refine ⟨_, rfl, ?_⟩; have n0_ := am_ (Kd.S_lower ho0 (below_size tc10_)); have n1_ := am_ (blk_below (g := gb101) (o := .cells #[.slice A0 l0.length c0] 24 (0, 0)) tc14_ hb); have n2_ := am_ (below_step tc10_ hb); clear BK101 HB; have HO106 := n0_; have BK101 := n1_; have HB := n2_; clear n0_ n1_ n2_; (try clear hb ho0)))
     have n0_ := am_ (Kd.S_drew HO106.out)
     have n1_ := am_ (blk_drew BK101.out)
     have n2_ := am_ (below_drew1 HB.out)
     clear HO106
     clear BK101
     clear HB
     have HO106 := n0_
     have BK101 := n1_
     have HB := n2_
     clear n0_ n1_ n2_
     obtain ⟨Ao36, co36, eo36⟩ := Kd.S_slice HO106.out
     (first | subst eo36 | (injection eo36 with f1_ f2_ f3_; have f4_ := f1_.symm; have f5_ := f3_.symm; clear f1_ f2_ f3_; subst f4_; subst f5_))
     refine start_ (n := 10) (S := fun w' => True) (ds := []) #[false, false, false, false, false, false, false, false, false, false] (by kernel_rfl) rfl rfl trivial (fun hHeld => ?_); refine with_tabW impl_FromKinds.tab4 impl_FromKinds.bits4 (fun HT_ HW_ => ?_)
     generalize w34.drew = w35 at HO106 BK101 HB hHeld ⊢
     refine pure_ (i := 0) (N := some 20) (v := ?_) (a' := ?_) #[true, false, false, false, false, false, false, false, false, false] rfl rfl (any_of HT_.out (by kernel_rfl)) (fun _ _ _ h => h) (Or.inl ⟨by rfl, ?_⟩) ?_ ?_
     rotate_left
     ·intro w'
      go_simp
      with_reducible rfl
     rotate_left
     ·simp only [Act.put, List.setIfInBounds_toArray, List.set_cons_zero, List.set_cons_succ, i64_w, i32_w]
      rfl
     refine one_ (i := 1) (N := some 21) #[true, true, false, false, false, false, false, false, false, false] rfl rfl (one_of HT_.out (by kernel_rfl)) (by decide) (fun K hK => ?_)
     refine goes_ Try.func13 (by kernel_rfl) rfl #[.slice Ao36 t104.length co36] (by rfl) rfl rfl tc0_ ?_
     with_reducible refine (impl_IsSignMatrix.calls kj1 _ _ t104 false _ ?side1 ?side2 A12.out).mono ?_
     (case side1 => exact tc28_)
     (case side2 => exact (Kd.S_reads' HO106.out).2.1)
     rintro e w37 ⟨rfl, hb⟩
     refine ⟨_, rfl, ?_⟩
     have n0_ := am_ (Kd.S_below tc12_ hb)
     have n1_ := am_ (blk_below (g := gb101) (o := .cells #[.slice A0 l0.length c0] 24 (0, 0)) tc14_ hb)
     have n2_ := am_ (below_step tc10_ hb)
     clear HO106
     clear BK101
     clear HB
     have HO106 := n0_
     have BK101 := n1_
     have HB := n2_
     clear n0_ n1_ n2_
     (try clear hb)
     (try clear hb2)
     (try clear hk)
     (try clear hi)
     refine hK.out _ _ trivial (fun hHeld => ?_)
     clear hK K
     refine norm_ (a' := ?_) ?_ ?_
     rotate_left
     ·show Act.put _ (some 21) _ = _
      simp only [Act.put, List.setIfInBounds_toArray, List.set_cons_zero, List.set_cons_succ, i64_w, i32_w]
      rfl
     refine pure_ (i := 2) (N := some 22) (v := ?_) (a' := ?_) #[true, true, true, false, false, false, false, false, false, false] rfl rfl (any_of HT_.out (by kernel_rfl)) (fun _ _ _ h => h) (Or.inl ⟨by rfl, ?_⟩) ?_ ?_
     rotate_left
     ·intro w'
      go_simp
      with_reducible rfl
     rotate_left
     ·simp only [Act.put, List.setIfInBounds_toArray, List.set_cons_zero, List.set_cons_succ, i64_w, i32_w]
      rfl
     refine pure_ (i := 3) (N := some 23) (v := ?_) (a' := ?_) #[true, true, true, true, false, false, false, false, false, false] rfl rfl (any_of HT_.out (by kernel_rfl)) (fun _ _ _ h => h) (Or.inl ⟨by rfl, ?_⟩) ?_ ?_
     rotate_left
     ·intro w'
      go_simp
      with_reducible rfl
     rotate_left
     ·simp only [Act.put, List.setIfInBounds_toArray, List.set_cons_zero, List.set_cons_succ, i64_w, i32_w]
      rfl
     refine pure_ (i := 4) (N := some 24) (v := undef) (a' := ?_) #[true, true, true, true, true, false, false, false, false, false] rfl rfl (any_of HT_.out (by kernel_rfl)) (fun _ _ _ h => h) (Or.inr ⟨by rfl, rfl⟩) ?_ ?_
     rotate_left
     ·simp only [Act.put, List.setIfInBounds_toArray, List.set_cons_zero, List.set_cons_succ, i64_w, i32_w]
      rfl
     refine pure_ (i := 5) (N := some 25) (v := undef) (a' := ?_) #[true, true, true, true, true, true, false, false, false, false] rfl rfl (any_of HT_.out (by kernel_rfl)) (fun _ _ _ h => h) (Or.inr ⟨by rfl, rfl⟩) ?_ ?_
     rotate_left
     ·simp only [Act.put, List.setIfInBounds_toArray, List.set_cons_zero, List.set_cons_succ, i64_w, i32_w]
      rfl
     refine pure_ (i := 6) (N := some 26) (v := undef) (a' := ?_) #[true, true, true, true, true, true, true, false, false, false] rfl rfl (any_of HT_.out (by kernel_rfl)) (fun _ _ _ h => h) (Or.inr ⟨by rfl, rfl⟩) ?_ ?_
     rotate_left
     ·simp only [Act.put, List.setIfInBounds_toArray, List.set_cons_zero, List.set_cons_succ, i64_w, i32_w]
      rfl
     refine pure_ (i := 7) (N := some 27) (v := undef) (a' := ?_) #[true, true, true, true, true, true, true, true, false, false] rfl rfl (any_of HT_.out (by kernel_rfl)) (fun _ _ _ h => h) (Or.inr ⟨by rfl, rfl⟩) ?_ ?_
     rotate_left
     ·simp only [Act.put, List.setIfInBounds_toArray, List.set_cons_zero, List.set_cons_succ, i64_w, i32_w]
      rfl
     refine pure_ (i := 8) (N := some 28) (v := undef) (a' := ?_) #[true, true, true, true, true, true, true, true, true, false] rfl rfl (any_of HT_.out (by kernel_rfl)) (fun _ _ _ h => h) (Or.inr ⟨by rfl, rfl⟩) ?_ ?_
     rotate_left
     ·simp only [Act.put, List.setIfInBounds_toArray, List.set_cons_zero, List.set_cons_succ, i64_w, i32_w]
      rfl
     refine pure_ (i := 9) (N := some 29) (v := ?_) (a' := ?_) #[true, true, true, true, true, true, true, true, true, true] rfl rfl (any_of HT_.out (by kernel_rfl)) (fun _ _ _ h => h) (Or.inl ⟨by rfl, ?_⟩) ?_ ?_
     rotate_left
     ·intro w'
      go_simp
      with_reducible rfl
     rotate_left
     ·simp only [Act.put, List.setIfInBounds_toArray, List.set_cons_zero, List.set_cons_succ, i64_w, i32_w]
      rfl
     refine done_ (done_of HT_.out (by kernel_rfl)) ?_
     try go_wp2
     go_ret2
     exact ⟨_, by first | rfl | (simp [errW_none, errW_some] <;> rfl) | (simp [*, errW_none, errW_some] <;> rfl), by first | exact Kd.S_nil _ _ _ _ _ | exact Kd.N_nil _ _ _ _ _ | exact Kd.V_nil _ _ _ _ _ | exact Kd.Q_nil _ _ _ _ _ | exact Kd.R_nil _ _ _ _ _, by repeat (first | (with_reducible first | exact HB.out | apply below_alloc | apply pw_below_drewN | apply below_drew1 | refine below_set ?_ GE101.out) | exact HB.out)⟩

/-! ### spec_l1Same: function 88 -/
def spec_l1Same.l0 : Nat → List Int → List Int → Int → Int → Option (Bool)
 | 0, _, _, _, _ => none
 | k + 1, x0, x1, x12, x13 => if x13 < x12 then (if 0 ≤ x13 then (if x13 < (x0.length : Int) then (if x13 < (x1.length : Int) then (if (rd x0 x13) = (rd x1 x13) then (spec_l1Same.l0 k x0 x1 x12 (wrap64 (x13 + 1))) else (some false)) else (none)) else (none)) else (none)) else (some true)
def spec_l1Same.f (k : Nat) (l0 : List Int) (l1 : List Int) : Option (Bool) := if (l0.length : Int) = (l1.length : Int) then (spec_l1Same.l0 k l0 l1 (l0.length : Int) 0) else (some false)
set_option maxHeartbeats 8000000 in
set_option maxRecDepth 100000 in
theorem spec_l1Same.calls (k : Nat) (A0 : Option Addr) (c0 : Nat) (l0 : List Int) (A1 : Option Addr) (c1 : Nat) (l1 : List Int) (r : Bool) (w : World) (hr0 : Kd.C (Kd.int .i64) w A0 l0.length l0) (hc0 : l0.length ≤ c0) (hr1 : Kd.C (Kd.int .i64) w A1 l1.length l1) (hc1 : l1.length ≤ c1) (h : spec_l1Same.f k l0 l1 = some r) :
  Calls Try.prog 88 #[.slice A0 l0.length c0, .slice A1 l1.length c1] w fun e w' => e = .returned (.bool r) ∧ Drawn0 w w' := by
 have HR0 := am_ hr0
 have HC0 := am_ hc0
 clear hr0 hc0
 have HR1 := am_ hr1
 have HC1 := am_ hc1
 clear hr1 hc1
 have H : (if (l0.length : Int) = (l1.length : Int) then (spec_l1Same.l0 k l0 l1 (l0.length : Int) 0) else (some false)) = some r := h
 clear h
 by_cases c3 : (l0.length : Int) = (l1.length : Int)
 ·rw [if_pos c3] at H
  have c3b0 : ((l0.length : Int) == (l1.length : Int)) = true := beq_iff_eq.mpr c3
  have c3b1 : ((l0.length : Int) != (l1.length : Int)) = false := bne_eq_false_iff_eq.mpr c3
  have c3b2 : (l0.length == l1.length) = true := by first | simpa using c3 | (simp at c3 ⊢; omega)
  clear c3
  have H' := am_ H
  clear H
  go_enter Try.func88, Try.ntmps88
  go_wp2
  repeat (go_quiet (fail); try go_wp2)
  go_loopg [13] k (fun kq v13 w' => ∃ (x13_1 : Int), v13 = .int .i64 x13_1 ∧ Aside0 (spec_l1Same.l0 kq l0 l1 (l0.length : Int) x13_1 = some r) ∧ Aside0 (kq ≤ k) ∧ Drawn0 w w')
  case atStart => exact ⟨(0), tc6_, H', ⟨Nat.le_refl _⟩, by repeat (first | exact Drawn0.refl _ | apply Drawn0.step)⟩
  case round =>
   clear H'
   try clear c1
   try clear p2
   try clear c3
   try clear c3b0
   try clear c3b1
   try clear c3b2
   obtain ⟨x13_1, rfl, HA, HK1, ⟨m1, rfl⟩⟩ := hrel
   cases gk with
   | zero => exact absurd HA.out (by simp [spec_l1Same.l0])
   | succ k1 =>
    have H := HA.out
    clear HA
    simp only [spec_l1Same.l0] at H
    by_cases c4 : x13_1 < (l0.length : Int)
    ·rw [if_pos c4] at H
     have c4b0 : decide (x13_1 < (l0.length : Int)) = true := decide_eq_true c4
     clear c4
     by_cases c5 : 0 ≤ x13_1
     ·rw [if_pos c5] at H
      have c5b0 : decide (0 ≤ x13_1) = true := decide_eq_true c5
      clear c5
      by_cases c6 : x13_1 < (l0.length : Int)
      ·rw [if_pos c6] at H
       have c6b0 : decide (x13_1 < (l0.length : Int)) = true := decide_eq_true c6
       clear c6
       by_cases c7 : x13_1 < (l1.length : Int)
       ·rw [if_pos c7] at H
        have c7b0 : decide (x13_1 < (l1.length : Int)) = true := decide_eq_true c7
        clear c7
        by_cases c8 : (rd l0 x13_1) = (rd l1 x13_1)
        ·rw [if_pos c8] at H
         have c8b0 : ((rd l0 x13_1) == (rd l1 x13_1)) = true := beq_iff_eq.mpr c8
         have c8b1 : ((rd l0 x13_1) != (rd l1 x13_1)) = false := bne_eq_false_iff_eq.mpr c8
         clear c8
         have H' := am_ H
         clear H
         have p101 : 0 ≤ (x13_1 : Int) := of_decide_eq_true tc2_
         have q101 : x13_1 < (l0.length : Int) := of_decide_eq_true tc2_
         obtain ⟨ad101, e101, hx101_0⟩ := Kd.at_int HR0.out x13_1 p101 q101
         cases e101
         replace p101 := eq_true p101
         replace q101 := eq_true q101
         have p102 : 0 ≤ (x13_1 : Int) := of_decide_eq_true tc2_
         have q102 : x13_1 < (l1.length : Int) := of_decide_eq_true tc2_
         obtain ⟨ad102, e102, hx102_0⟩ := Kd.at_int HR1.out x13_1 p102 q102
         cases e102
         replace p102 := eq_true p102
         replace q102 := eq_true q102
         go_wp2
         repeat (go_quiet (fail); try go_wp2)
         go_roundg k1
         case measure => have := HK1.out; omega
         case rel => exact ⟨(wrap64 (x13_1 + 1)), tc6_, H', ⟨by have := HK1.out; omega⟩, by repeat (first | exact Drawn0.refl _ | apply Drawn0.step)⟩
        ·rw [if_neg c8] at H
         have c8b0 : ((rd l0 x13_1) == (rd l1 x13_1)) = false := beq_eq_false_iff_ne.mpr c8
         have c8b1 : ((rd l0 x13_1) != (rd l1 x13_1)) = true := bne_iff_ne.mpr c8
         obtain rfl := Option.some.inj H
         have p101 : 0 ≤ (x13_1 : Int) := of_decide_eq_true tc2_
         have q101 : x13_1 < (l0.length : Int) := of_decide_eq_true tc2_
         obtain ⟨ad101, e101, hx101_0⟩ := Kd.at_int HR0.out x13_1 p101 q101
         cases e101
         replace p101 := eq_true p101
         replace q101 := eq_true q101
         have p102 : 0 ≤ (x13_1 : Int) := of_decide_eq_true tc2_
         have q102 : x13_1 < (l1.length : Int) := of_decide_eq_true tc2_
         obtain ⟨ad102, e102, hx102_0⟩ := Kd.at_int HR1.out x13_1 p102 q102
         cases e102
         replace p102 := eq_true p102
         replace q102 := eq_true q102
         go_wp2
         repeat (go_quiet (fail); try go_wp2)
         go_ret
         exact ⟨by first | rfl | (simp; done) | (simp [*]; done), by repeat (first | exact Drawn0.refl _ | apply Drawn0.step)⟩
       ·rw [if_neg c7] at H
        exact absurd H (by simp)
      ·rw [if_neg c6] at H
       exact absurd H (by simp)
     ·rw [if_neg c5] at H
      exact absurd H (by simp)
    ·rw [if_neg c4] at H
     have c4b0 : decide (x13_1 < (l0.length : Int)) = false := decide_eq_false c4
     clear c4
     obtain rfl := Option.some.inj H
     go_wp2
     repeat (go_quiet (fail); try go_wp2)
     go_ret
     exact ⟨by first | rfl | (simp; done) | (simp [*]; done), by repeat (first | exact Drawn0.refl _ | apply Drawn0.step)⟩
 ·rw [if_neg c3] at H
  have c3b0 : ((l0.length : Int) == (l1.length : Int)) = false := beq_eq_false_iff_ne.mpr c3
  have c3b1 : ((l0.length : Int) != (l1.length : Int)) = true := bne_iff_ne.mpr c3
  have c3b2 : (l0.length == l1.length) = false := by first | simpa using c3 | (simp at c3 ⊢; omega)
  obtain rfl := Option.some.inj H
  go_enter Try.func88, Try.ntmps88
  go_wp2
  repeat (go_quiet (fail); try go_wp2)
  go_ret
  exact ⟨by first | rfl | (simp; done) | (simp [*]; done), by repeat (first | exact Drawn0.refl _ | apply Drawn0.step)⟩

/-! ### spec_weSame: function 54 -/
def spec_weSame.l0 : Nat → List (List Int) → List (List Int) → Int → Int → Option (Bool)
 | 0, _, _, _, _ => none
 | k + 1, x1, x12, x13, x14 => if x14 < x13 then (if 0 ≤ x14 then (if x14 < (x12.length : Int) then (if x14 < (x1.length : Int) then ((spec_l1Same.f k (rd_L3 x12 x14) (rd_L3 x1 x14)).bind fun t103 => (if t103 = true then (spec_weSame.l0 k x1 x12 x13 (wrap64 (x14 + 1))) else (some false))) else (none)) else (none)) else (none)) else (some true)
def spec_weSame.f (k : Nat) (l0 : List (List Int)) (l1 : List (List Int)) : Option (Bool) := if (l0.length : Int) = (l1.length : Int) then (spec_weSame.l0 k l1 l0 (l0.length : Int) 0) else (some false)
set_option maxHeartbeats 8000000 in
set_option maxRecDepth 100000 in
theorem spec_weSame.calls (k : Nat) (A0 : Option Addr) (c0 : Nat) (l0 : List (List Int)) (A1 : Option Addr) (c1 : Nat) (l1 : List (List Int)) (r : Bool) (w : World) (hr0 : Kd.C (Kd.slice 3 (Kd.int .i64)) w A0 l0.length l0) (hc0 : l0.length ≤ c0) (hr1 : Kd.C (Kd.slice 3 (Kd.int .i64)) w A1 l1.length l1) (hc1 : l1.length ≤ c1) (h : spec_weSame.f k l0 l1 = some r) :
  Calls Try.prog 54 #[.slice A0 l0.length c0, .slice A1 l1.length c1] w fun e w' => e = .returned (.bool r) ∧ Drawn0 w w' := by
 have HR0 := am_ hr0
 have HC0 := am_ hc0
 clear hr0 hc0
 have HR1 := am_ hr1
 have HC1 := am_ hc1
 clear hr1 hc1
 have H : (if (l0.length : Int) = (l1.length : Int) then (spec_weSame.l0 k l1 l0 (l0.length : Int) 0) else (some false)) = some r := h
 clear h
 by_cases c3 : (l0.length : Int) = (l1.length : Int)
 ·rw [if_pos c3] at H
  have c3b0 : ((l0.length : Int) == (l1.length : Int)) = true := beq_iff_eq.mpr c3
  have c3b1 : ((l0.length : Int) != (l1.length : Int)) = false := bne_eq_false_iff_eq.mpr c3
  have c3b2 : (l0.length == l1.length) = true := by first | simpa using c3 | (simp at c3 ⊢; omega)
  clear c3
  have H' := am_ H
  clear H
  go_enter Try.func54, Try.ntmps54
  go_wp2
  go_loopg [14] k (fun kq v14 w' => ∃ (x14_1 : Int), v14 = .int .i64 x14_1 ∧ Aside0 (spec_weSame.l0 kq l1 l0 (l0.length : Int) x14_1 = some r) ∧ Aside0 (kq ≤ k) ∧ Drawn0 w w')
  case atStart => exact ⟨(0), tc6_, H', ⟨Nat.le_refl _⟩, by repeat (first | exact Drawn0.refl _ | apply Drawn0.step)⟩
  case round =>
   clear H'
   try clear c1
   try clear p2
   try clear c3
   try clear c3b0
   try clear c3b1
   try clear c3b2
   obtain ⟨x14_1, rfl, HA, HK1, ⟨m1, rfl⟩⟩ := hrel
   cases gk with
   | zero => exact absurd HA.out (by simp [spec_weSame.l0])
   | succ k1 =>
    have H := HA.out
    clear HA
    simp only [spec_weSame.l0] at H
    by_cases c4 : x14_1 < (l0.length : Int)
    ·rw [if_pos c4] at H
     have c4b0 : decide (x14_1 < (l0.length : Int)) = true := decide_eq_true c4
     clear c4
     by_cases c5 : 0 ≤ x14_1
     ·rw [if_pos c5] at H
      have c5b0 : decide (0 ≤ x14_1) = true := decide_eq_true c5
      clear c5
      by_cases c6 : x14_1 < (l0.length : Int)
      ·rw [if_pos c6] at H
       have c6b0 : decide (x14_1 < (l0.length : Int)) = true := decide_eq_true c6
       clear c6
       by_cases c7 : x14_1 < (l1.length : Int)
       ·rw [if_pos c7] at H
        have c7b0 : decide (x14_1 < (l1.length : Int)) = true := decide_eq_true c7
        clear c7
        replace H := Option.bind_eq_some_iff.mp H
        obtain ⟨t103, A80, H⟩ := H
        replace H : (if t103 = true then (spec_weSame.l0 k1 l1 l0 (l0.length : Int) (wrap64 (x14_1 + 1))) else (some false)) = some r := H
        have A8 := am_ A80
        clear A80
        by_cases c9 : t103 = true
        ·subst c9
         have H1 : (spec_weSame.l0 k1 l1 l0 (l0.length : Int) (wrap64 (x14_1 + 1))) = some r := by rw [if_pos rfl] at H; exact H
         clear H
         have H := H1
         clear H1
         have H' := am_ H
         clear H
         have p101 : 0 ≤ (x14_1 : Int) := of_decide_eq_true tc2_
         have q101 : x14_1 < (l0.length : Int) := of_decide_eq_true tc2_
         obtain ⟨ad101, A101_0, c101_0, e101, hx101_0, hl101_0, hi101_0⟩ := at_L3 HR0.out x14_1 p101 q101
         cases e101
         have HR101_0 := am_ hi101_0
         have HC101_0 := am_ hl101_0
         clear hi101_0 hl101_0
         replace p101 := eq_true p101
         replace q101 := eq_true q101
         have p102 : 0 ≤ (x14_1 : Int) := of_decide_eq_true tc2_
         have q102 : x14_1 < (l1.length : Int) := of_decide_eq_true tc2_
         obtain ⟨ad102, A102_0, c102_0, e102, hx102_0, hl102_0, hi102_0⟩ := at_L3 HR1.out x14_1 p102 q102
         cases e102
         have HR102_0 := am_ hi102_0
         have HC102_0 := am_ hl102_0
         clear hi102_0 hl102_0
         replace p102 := eq_true p102
         replace q102 := eq_true q102
         go_wp2_with (first | ((with_reducible refine gate_callee (f := 88) rfl ?_); refine goesL_ (some 24) rfl rfl Try.func88 (by kernel_rfl) rfl #[.slice A101_0 (rd_L3 l0 x14_1).length c101_0, .slice A102_0 (rd_L3 l1 x14_1).length c102_0] rfl tc0_ ?_; (with_reducible refine (spec_l1Same.calls k1 _ _ (rd_L3 l0 x14_1) _ _ (rd_L3 l1 x14_1) true _ ?side1 ?side2 ?side3 ?side4 A8.out).mono ?_); (case side1 => exact tc21_); (case side2 => exact HC101_0.out); (case side3 => exact tc22_); (case side4 => exact HC102_0.out); rintro e w' ⟨rfl, ⟨nd, rfl⟩⟩; refine ⟨_, rfl, ?_⟩))
         go_roundg k1
         case measure => have := HK1.out; omega
         case rel => exact ⟨(wrap64 (x14_1 + 1)), tc6_, H', ⟨by have := HK1.out; omega⟩, by repeat (first | exact Drawn0.refl _ | apply Drawn0.step)⟩
        ·replace c9 := Bool.eq_false_iff.mpr c9
         subst c9
         have H1 : (some false) = some r := by rw [if_neg (show ¬ (false = true) by decide)] at H; exact H
         clear H
         have H := H1
         clear H1
         obtain rfl := Option.some.inj H
         have p101 : 0 ≤ (x14_1 : Int) := of_decide_eq_true tc2_
         have q101 : x14_1 < (l0.length : Int) := of_decide_eq_true tc2_
         obtain ⟨ad101, A101_0, c101_0, e101, hx101_0, hl101_0, hi101_0⟩ := at_L3 HR0.out x14_1 p101 q101
         cases e101
         have HR101_0 := am_ hi101_0
         have HC101_0 := am_ hl101_0
         clear hi101_0 hl101_0
         replace p101 := eq_true p101
         replace q101 := eq_true q101
         have p102 : 0 ≤ (x14_1 : Int) := of_decide_eq_true tc2_
         have q102 : x14_1 < (l1.length : Int) := of_decide_eq_true tc2_
         obtain ⟨ad102, A102_0, c102_0, e102, hx102_0, hl102_0, hi102_0⟩ := at_L3 HR1.out x14_1 p102 q102
         cases e102
         have HR102_0 := am_ hi102_0
         have HC102_0 := am_ hl102_0
         clear hi102_0 hl102_0
         replace p102 := eq_true p102
         replace q102 := eq_true q102
         go_wp2_with (first | ((with_reducible refine gate_callee (f := 88) rfl ?_); refine goesL_ (some 24) rfl rfl Try.func88 (by kernel_rfl) rfl #[.slice A101_0 (rd_L3 l0 x14_1).length c101_0, .slice A102_0 (rd_L3 l1 x14_1).length c102_0] rfl tc0_ ?_; (with_reducible refine (spec_l1Same.calls k1 _ _ (rd_L3 l0 x14_1) _ _ (rd_L3 l1 x14_1) false _ ?side1 ?side2 ?side3 ?side4 A8.out).mono ?_); (case side1 => exact tc21_); (case side2 => exact HC101_0.out); (case side3 => exact tc22_); (case side4 => exact HC102_0.out); rintro e w' ⟨rfl, ⟨nd, rfl⟩⟩; refine ⟨_, rfl, ?_⟩))
         go_ret
         exact ⟨by first | rfl | (simp; done) | (simp [*]; done), by repeat (first | exact Drawn0.refl _ | apply Drawn0.step)⟩
       ·rw [if_neg c7] at H
        exact absurd H (by simp)
      ·rw [if_neg c6] at H
       exact absurd H (by simp)
     ·rw [if_neg c5] at H
      exact absurd H (by simp)
    ·rw [if_neg c4] at H
     have c4b0 : decide (x14_1 < (l0.length : Int)) = false := decide_eq_false c4
     clear c4
     obtain rfl := Option.some.inj H
     go_wp2
     go_ret
     exact ⟨by first | rfl | (simp; done) | (simp [*]; done), by repeat (first | exact Drawn0.refl _ | apply Drawn0.step)⟩
 ·rw [if_neg c3] at H
  have c3b0 : ((l0.length : Int) == (l1.length : Int)) = false := beq_eq_false_iff_ne.mpr c3
  have c3b1 : ((l0.length : Int) != (l1.length : Int)) = true := bne_iff_ne.mpr c3
  have c3b2 : (l0.length == l1.length) = false := by first | simpa using c3 | (simp at c3 ⊢; omega)
  obtain rfl := Option.some.inj H
  go_enter Try.func54, Try.ntmps54
  go_wp2
  go_ret
  exact ⟨by first | rfl | (simp; done) | (simp [*]; done), by repeat (first | exact Drawn0.refl _ | apply Drawn0.step)⟩

/-! ### spec_FromKinds: function 16 -/
mutual
def spec_FromKinds.l0 : Nat → List (List Int) → List (List Int) → List (List Int) → Int → Int → Option ((List (List Int)) × Bool)
 | 0, _, _, _, _, _ => none
 | k + 1, x0, x4, x15, x16, x17 => if x17 < x16 then (if 0 ≤ x17 then (if x17 < (x15.length : Int) then (spec_FromKinds.l1 k x0 x4 x17 x15 x16 x17 (rd_L3 x15 x17) ((rd_L3 x15 x17).length : Int) 0) else (none)) else (none)) else ((spec_sgGood.f k x4).bind fun t115 => (if t115 = true then ((spec_weKinds.f k x4).bind fun t116 => ((spec_weSame.f k t116 x0).bind fun t119 => (if t119 = true then (some (x4, true)) else (some (([] : List (List Int)), false))))) else (some (([] : List (List Int)), false))))
def spec_FromKinds.l1 : Nat → List (List Int) → List (List Int) → Int → List (List Int) → Int → Int → List Int → Int → Int → Option ((List (List Int)) × Bool)
 | 0, _, _, _, _, _, _, _, _, _ => none
 | k + 1, x0, x4, x5, x15, x16, x17, x22, x23, x24 => if x24 < x23 then (if 0 ≤ x24 then (if x24 < (x22.length : Int) then (if (rd x22 x24) = 4 then (if 0 ≤ x5 then (if x5 < (x4.length : Int) then (if x24 < ((rd_L3 x4 x5).length : Int) then (spec_FromKinds.l1 k x0 (x4.set (x5 : Int).toNat ((rd_L3 x4 x5).set (x24 : Int).toNat 1)) x5 x15 x16 x17 x22 x23 (wrap64 (x24 + 1))) else (none)) else (none)) else (none)) else (if (rd x22 x24) = 5 then (if 0 ≤ x5 then (if x5 < (x4.length : Int) then (if x24 < ((rd_L3 x4 x5).length : Int) then (spec_FromKinds.l1 k x0 (x4.set (x5 : Int).toNat ((rd_L3 x4 x5).set (x24 : Int).toNat (-1))) x5 x15 x16 x17 x22 x23 (wrap64 (x24 + 1))) else (none)) else (none)) else (none)) else (spec_FromKinds.l1 k x0 x4 x5 x15 x16 x17 x22 x23 (wrap64 (x24 + 1))))) else (none)) else (none)) else (spec_FromKinds.l0 k x0 x4 x15 x16 (wrap64 (x17 + 1)))
end
def spec_FromKinds.f (k : Nat) (l0 : List (List Int)) : Option ((List (List Int)) × Bool) := (spec_sgSquare.f k l0).bind fun t101 => (if t101 = true then ((spec_sgZero.f k (l0.length : Int)).bind fun t102 => (spec_FromKinds.l0 k l0 t102 l0 (l0.length : Int) 0)) else (some (([] : List (List Int)), false)))
set_option maxHeartbeats 8000000 in
set_option maxRecDepth 100000 in
theorem spec_FromKinds.calls (k : Nat) (A0 : Option Addr) (c0 : Nat) (l0 : List (List Int)) (r1 : List (List Int)) (r2 : Bool) (w : World) (hr0 : Kd.C (Kd.slice 3 (Kd.int .i64)) w A0 l0.length l0) (hc0 : l0.length ≤ c0) (h : spec_FromKinds.f k l0 = some (r1, r2)) :
  Calls Try.prog 16 #[.slice A0 l0.length c0] w fun e w' => ∃ v0_ : Value, e = .returned (.tuple #[v0_, .bool r2]) ∧ Kd.S (Kd.slice 3 (Kd.int .i64)) 28 w' w.heap.size (fun _ => True) v0_ r1 ∧ Below w.heap.size w w' := by
 have HR0 := am_ hr0
 have HC0 := am_ hc0
 clear hr0 hc0
 have HB := am_ (Below.refl w.heap.size w)
 have H : ((spec_sgSquare.f k l0).bind fun t101 => (if t101 = true then ((spec_sgZero.f k (l0.length : Int)).bind fun t102 => (spec_FromKinds.l0 k l0 t102 l0 (l0.length : Int) 0)) else (some (([] : List (List Int)), false)))) = some (r1, r2) := h
 clear h
 replace H := Option.bind_eq_some_iff.mp H
 obtain ⟨t101, A20, H⟩ := H
 replace H : (if t101 = true then ((spec_sgZero.f k (l0.length : Int)).bind fun t102 => (spec_FromKinds.l0 k l0 t102 l0 (l0.length : Int) 0)) else (some (([] : List (List Int)), false))) = some (r1, r2) := H
 have A2 := am_ A20
 clear A20
 by_cases c3 : t101 = true
 ·subst c3
  have H1 : ((spec_sgZero.f k (l0.length : Int)).bind fun t102 => (spec_FromKinds.l0 k l0 t102 l0 (l0.length : Int) 0)) = some (r1, r2) := by rw [if_pos rfl] at H; exact H
  clear H
  have H := H1
  clear H1
  replace H := Option.bind_eq_some_iff.mp H
  obtain ⟨t102, A40, H⟩ := H
  replace H : (spec_FromKinds.l0 k l0 t102 l0 (l0.length : Int) 0) = some (r1, r2) := H
  have A4 := am_ A40
  clear A40
  have H' := am_ H
  clear H
  go_enter Try.func16, Try.ntmps16
  go_wp2_with (first | ((with_reducible refine gate_callee (f := 52) rfl ?_); refine goesL_ (some 10) rfl rfl Try.func52 (by kernel_rfl) rfl #[.slice A0 l0.length c0] rfl tc0_ ?_; (with_reducible refine (spec_sgSquare.calls k _ _ l0 true _ ?side1 ?side2 A2.out).mono ?_); (case side1 => exact tc8_); (case side2 => exact HC0.out); rintro e w' ⟨rfl, ⟨nd, rfl⟩⟩; refine ⟨_, rfl, ?_⟩) | ((with_reducible refine gate_callee (f := 53) rfl ?_); refine goesL_ (some 14) rfl rfl Try.func53 (by kernel_rfl) rfl #[.int .i64 (l0.length : Int)] rfl tc0_ ?_; (with_reducible refine (spec_sgZero.calls k (l0.length : Int) t102 _ A4.out).mono ?_); rintro e w5 ⟨v103, rfl, ho0, hb⟩; refine ⟨_, rfl, ?_⟩; have n0_ := am_ (Kd.S_lower ho0 (below_size tc1_)); have n1_ := am_ (below_step tc1_ hb); clear HB; have HO104 := n0_; have HB := n1_; clear n0_ n1_; (try clear hb ho0)))
  go_loopg [17] k (fun kq v17 w' => ∃ (x4_1 : List (List Int)) (x17_1 : Int), v17 = .int .i64 x17_1 ∧ Aside0 (spec_FromKinds.l0 kq l0 x4_1 l0 (l0.length : Int) x17_1 = some (r1, r2)) ∧ Aside0 (kq ≤ k) ∧ Aside0 (Kd.S (Kd.slice 3 (Kd.int .i64)) 28 w' w.heap.size (fun _ => True) v103 x4_1) ∧ Aside0 (Below w.heap.size w w'))
  case atStart => exact ⟨(t102), (0), tc6_, H', ⟨Nat.le_refl _⟩, ⟨by (with_reducible repeat (first | apply Kd.S_alloc | apply Kd.S_drewN | apply Kd.S_drew)); exact HO104.out⟩, ⟨by repeat (first | (with_reducible first | exact HB.out | apply below_alloc | apply pw_below_drewN | apply below_drew1) | exact HB.out)⟩⟩
  case round =>
   clear H'
   try clear c1
   try clear p2
   try clear c3
   try clear c5
   obtain ⟨x4_1, x17_1, rfl, HA, HK1, HO_4, HB⟩ := hrel
   cases gk with
   | zero => exact absurd HA.out (by simp [spec_FromKinds.l0])
   | succ k1 =>
    have H := HA.out
    clear HA
    simp only [spec_FromKinds.l0] at H
    by_cases c6 : x17_1 < (l0.length : Int)
    ·rw [if_pos c6] at H
     have c6b0 : decide (x17_1 < (l0.length : Int)) = true := decide_eq_true c6
     clear c6
     by_cases c7 : 0 ≤ x17_1
     ·rw [if_pos c7] at H
      have c7b0 : decide (0 ≤ x17_1) = true := decide_eq_true c7
      clear c7
      by_cases c8 : x17_1 < (l0.length : Int)
      ·rw [if_pos c8] at H
       have c8b0 : decide (x17_1 < (l0.length : Int)) = true := decide_eq_true c8
       clear c8
       have H' := am_ H
       clear H
       have p105 : 0 ≤ (x17_1 : Int) := of_decide_eq_true tc2_
       have q105 : x17_1 < (l0.length : Int) := of_decide_eq_true tc2_
       obtain ⟨ad105, A105_0, c105_0, e105, hx105_0, hl105_0, hi105_0⟩ := at_L3 HR0.out x17_1 p105 q105
       cases e105
       replace hx105_0 := (HB.out.cell (World.block_lt_of_cell? w _ hx105_0)).trans hx105_0
       have HR105_0 := am_ hi105_0
       have HC105_0 := am_ hl105_0
       clear hi105_0 hl105_0
       replace p105 := eq_true p105
       replace q105 := eq_true q105
       go_wp2
       go_loopg [24] k1 (fun kq v24 w' => ∃ (x4_2 : List (List Int)) (x24_2 : Int), v24 = .int .i64 x24_2 ∧ Aside0 (spec_FromKinds.l1 kq l0 x4_2 x17_1 l0 (l0.length : Int) x17_1 (rd_L3 l0 x17_1) ((rd_L3 l0 x17_1).length : Int) x24_2 = some (r1, r2)) ∧ Aside0 (kq ≤ k1) ∧ Aside0 (Kd.S (Kd.slice 3 (Kd.int .i64)) 28 w' w.heap.size (fun _ => True) v103 x4_2) ∧ Aside0 (Below w.heap.size w w'))
       case atStart => exact ⟨(x4_1), (0), tc6_, H', ⟨Nat.le_refl _⟩, ⟨by (with_reducible repeat (first | apply Kd.S_alloc | apply Kd.S_drewN | apply Kd.S_drew)); exact HO_4.out⟩, ⟨by repeat (first | (with_reducible first | exact HB.out | apply below_alloc | apply pw_below_drewN | apply below_drew1) | exact HB.out)⟩⟩
       case round =>
        clear H'
        try clear c1
        try clear p1
        try clear q1
        try clear hx1
        try clear p2
        try clear c3
        try clear c5
        try clear c6
        try clear c6b0
        try clear c7
        try clear c7b0
        try clear c8
        try clear c8b0
        try clear hx105_0
        try clear p105
        try clear p2
        try clear q105
        obtain ⟨x4_2, x24_2, rfl, HA, HK2, HO_4, HB⟩ := hrel
        cases gk with
        | zero => exact absurd HA.out (by simp [spec_FromKinds.l1])
        | succ k2 =>
         have H := HA.out
         clear HA
         simp only [spec_FromKinds.l1] at H
         by_cases c9 : x24_2 < ((rd_L3 l0 x17_1).length : Int)
         ·rw [if_pos c9] at H
          have c9b0 : decide (x24_2 < ((rd_L3 l0 x17_1).length : Int)) = true := decide_eq_true c9
          clear c9
          by_cases c10 : 0 ≤ x24_2
          ·rw [if_pos c10] at H
           have c10b0 : decide (0 ≤ x24_2) = true := decide_eq_true c10
           clear c10
           by_cases c11 : x24_2 < ((rd_L3 l0 x17_1).length : Int)
           ·rw [if_pos c11] at H
            have c11b0 : decide (x24_2 < ((rd_L3 l0 x17_1).length : Int)) = true := decide_eq_true c11
            clear c11
            by_cases c12 : (rd (rd_L3 l0 x17_1) x24_2) = 4
            ·rw [if_pos c12] at H
             have c12b0 : ((rd (rd_L3 l0 x17_1) x24_2) == 4) = true := beq_iff_eq.mpr c12
             have c12b1 : ((rd (rd_L3 l0 x17_1) x24_2) != 4) = false := bne_eq_false_iff_eq.mpr c12
             clear c12
             by_cases c13 : 0 ≤ x17_1
             ·rw [if_pos c13] at H
              have c13b0 : decide (0 ≤ x17_1) = true := decide_eq_true c13
              clear c13
              by_cases c14 : x17_1 < (x4_2.length : Int)
              ·rw [if_pos c14] at H
               have c14b0 : decide (x17_1 < (x4_2.length : Int)) = true := decide_eq_true c14
               clear c14
               by_cases c15 : x24_2 < ((rd_L3 x4_2 x17_1).length : Int)
               ·rw [if_pos c15] at H
                have c15b0 : decide (x24_2 < ((rd_L3 x4_2 x17_1).length : Int)) = true := decide_eq_true c15
                clear c15
                obtain ⟨y108, hy108⟩ : ∃ y_ : List Int, y_ = ((rd_L3 x4_2 x17_1).set (x24_2 : Int).toNat 1) := ⟨_, rfl⟩
                replace H : (spec_FromKinds.l1 k2 l0 (x4_2.set (x17_1 : Int).toNat y108) x17_1 l0 (l0.length : Int) x17_1 (rd_L3 l0 x17_1) ((rd_L3 l0 x17_1).length : Int) (wrap64 (x24_2 + 1))) = some (r1, r2) := by first | (rw [hy108]; with_reducible exact H) | (have H2_ := (Option.bind_some _ _).symm.trans H; rw [hy108]; with_reducible exact H2_) | (have H2_ := (Option.bind_some _ _).symm.trans H; with_reducible exact H2_) | with_reducible exact H | (rw [hy108]; exact H) | exact H
                have Ny108 := am_ hy108
                clear hy108
                obtain ⟨y110, hy110⟩ : ∃ y_ : List (List Int), y_ = (x4_2.set (x17_1 : Int).toNat y108) := ⟨_, rfl⟩
                replace H : (spec_FromKinds.l1 k2 l0 y110 x17_1 l0 (l0.length : Int) x17_1 (rd_L3 l0 x17_1) ((rd_L3 l0 x17_1).length : Int) (wrap64 (x24_2 + 1))) = some (r1, r2) := by first | (rw [hy110]; with_reducible exact H) | (have H2_ := (Option.bind_some _ _).symm.trans H; rw [hy110]; with_reducible exact H2_) | (have H2_ := (Option.bind_some _ _).symm.trans H; with_reducible exact H2_) | with_reducible exact H | (rw [hy110]; exact H) | exact H
                have Ny110 := am_ hy110
                clear hy110
                have H' := am_ H
                clear H
                have p106 : 0 ≤ (x24_2 : Int) := of_decide_eq_true tc2_
                have q106 : x24_2 < ((rd_L3 l0 x17_1).length : Int) := of_decide_eq_true tc2_
                obtain ⟨ad106, e106, hx106_0⟩ := Kd.at_int HR105_0.out x24_2 p106 q106
                cases e106
                replace hx106_0 := (HB.out.cell (World.block_lt_of_cell? w _ hx106_0)).trans hx106_0
                replace p106 := eq_true p106
                replace q106 := eq_true q106
                obtain ⟨Ao17, co17, eo17⟩ := Kd.S_slice HO_4.out
                subst eo17
                have p107 : 0 ≤ (x17_1 : Int) := of_decide_eq_true tc2_
                have q107 : x17_1 < (x4_2.length : Int) := of_decide_eq_true tc2_
                obtain ⟨ad107, A107_0, c107_0, e107, hx107_0, hl107_0, hi107_0⟩ := at_L3 (Kd.S_reads' HO_4.out).2.2 x17_1 p107 q107
                cases e107
                obtain ⟨ce107, hce107, hMe107, hcc107⟩ := Kd.S_get HO_4.out [] x17_1 p107 (by first | exact q107 | exact of_decide_eq_true tc2_ | (have e_ := (Kd.S_reads' HO_4.out).1; omega))
                obtain ⟨ve107_0, rfl, ge107_0⟩ := hMe107
                have hv107_0 := hcc107 0 _ rfl
                rw [Nat.add_zero, show ((Kd.slice 3 (Kd.int .i64))).sz = 1 from rfl, Nat.mul_one] at hv107_0
                replace hv107_0 := Option.some.inj (hv107_0.symm.trans hx107_0)
                rw [hv107_0] at ge107_0
                have HL107_0 := am_ (show Kd.R (Kd.int .i64) 3 _ _ _ _ (rd_L3 x4_2 x17_1) from ge107_0)
                clear hv107_0 ge107_0
                have HX107_0 := am_ hx107_0
                clear hcc107 hce107
                have HR107_0 := am_ hi107_0
                have HC107_0 := am_ hl107_0
                clear hi107_0 hl107_0
                replace p107 := eq_true p107
                replace q107 := eq_true q107
                have p16 : 0 ≤ (x24_2 : Int) := of_decide_eq_true tc2_
                have q16 : (x24_2 : Int) < (((rd_L3 x4_2 x17_1).length : Int) : Int) := of_decide_eq_true tc2_
                obtain ⟨go16, co16, eo16, gb16, gl16, cl16, HG16⟩ := Kd.R_form HL107_0.out (by omega)
                (first | cases eo16 | (injection eo16 with ea_ en_ ec_; (first | subst ea_ | (injection ea_ with ea_; subst ea_)); subst ec_; clear en_))
                have GB16 := am_ gb16
                have GG16 := am_ HG16
                clear gb16 gl16 HG16
                obtain ⟨hx16_0, hf16_0⟩ := Kd.R_celln 0 HL107_0.out (x24_2 : Int) p16 q16
                replace p16 := eq_true p16
                replace q16 := eq_true q16
                have hq18 : (x17_1 : Int) < (x4_2.length : Int) := (by have h_ : (x17_1 : Int) < ((x4_2.length : Int) : Int) := of_decide_eq_true tc2_; first | exact h_ | (have e_ := (Kd.S_reads' HO_4.out).1; omega) | simpa only [List.length_set, List.length_set] using h_)
                obtain ⟨oki18, ce18, hcl18, hM18, hcc18, hok18, hbk18⟩ := Kd.S_borrow HO_4.out [] (x17_1 : Int) (of_decide_eq_true tc2_) hq18
                obtain ⟨ve18_0, rfl, ge18_0⟩ := hM18
                have hv18 := hcc18 0 _ rfl
                rw [Nat.add_zero, show ((Kd.slice 3 (Kd.int .i64))).sz = 1 from rfl, Nat.mul_one] at hv18
                replace hv18 := Option.some.inj (hv18.symm.trans HX107_0.out)
                subst hv18
                clear hcc18 hcl18
                replace ge18_0 := (show Kd.R (Kd.int .i64) 3 _ _ _ _ (rd_L3 x4_2 x17_1) from ge18_0)
                have HP18 := Kd.R_putg ge18_0 (x24_2 : Int) 1
                go_wp2_with (first | ((with_reducible refine gate_store (t := 3) (p := 37) rfl ?_); refine store_event (t := 3) (p := 37) (v := ?vo_w19) (w1 := (wr.setCell ⟨go16, (x24_2 : Int).toNat, none⟩ (.int .i64 1))) ?hg ?ho ?hn ?hr ?_; (case ho => rfl); (case hg => rfl); (case hn => rfl); (case hr => exact tc27_); intro w19 hw; have hg : wr.grownBy w19 (some go16) := (by rw [hw]; exact HP18.2); have hz_ : Kd.R (Kd.int .i64) 3 w19 w.heap.size oki18 (.slice (some ⟨go16, 0, none⟩) (rd_L3 x4_2 x17_1).length c107_0) y108 := (by rw [hw, Ny108.out]; exact HP18.1); have hp_ : Kd.S (Kd.slice 3 (Kd.int .i64)) 28 w19 w.heap.size (fun _ => True) (.slice (some ad107) x4_2.length co17) y110 := (by rw [Ny110.out]; exact hbk18 hg (fun k_ e_ => by injection e_ with e_; subst e_; exact ge18_0.1 _ rfl) (Kd.M_row hz_)); have hm_ := Kd.R_mono hz_ hok18; clear HP18 hbk18; have n0_ := am_ (hp_); have n1_ := am_ ((by rw [hw]; exact below_set (HB.out) GB16.out : Below w.heap.size w w19)); have n2_ := am_ (hm_); have n3_ := am_ ((Kd.R_reads' hm_).2.1); clear HO_4 HB HL107_0; have HO_4 := n0_; have HB := n1_; have HL120 := n2_; have HC109 := n3_; clear n0_ n1_ n2_ n3_; clear hg hw hp_ hz_ hm_ hok18))
                go_roundg k2
                case measure => have := HK1.out; have := HK2.out; omega
                case rel => exact ⟨(y110), (wrap64 (x24_2 + 1)), tc6_, H', ⟨by have := HK1.out; have := HK2.out; omega⟩, ⟨by (with_reducible repeat (first | apply Kd.S_alloc | apply Kd.S_drewN | apply Kd.S_drew)); exact HO_4.out⟩, ⟨by repeat (first | (with_reducible first | exact HB.out | apply below_alloc | apply pw_below_drewN | apply below_drew1) | exact HB.out)⟩⟩
               ·rw [if_neg c15] at H
                exact absurd H (by simp)
              ·rw [if_neg c14] at H
               exact absurd H (by simp)
             ·rw [if_neg c13] at H
              exact absurd H (by simp)
            ·rw [if_neg c12] at H
             have c12b0 : ((rd (rd_L3 l0 x17_1) x24_2) == 4) = false := beq_eq_false_iff_ne.mpr c12
             have c12b1 : ((rd (rd_L3 l0 x17_1) x24_2) != 4) = true := bne_iff_ne.mpr c12
             by_cases c20 : (rd (rd_L3 l0 x17_1) x24_2) = 5
             ·rw [if_pos c20] at H
              have c20b0 : ((rd (rd_L3 l0 x17_1) x24_2) == 5) = true := beq_iff_eq.mpr c20
              have c20b1 : ((rd (rd_L3 l0 x17_1) x24_2) != 5) = false := bne_eq_false_iff_eq.mpr c20
              clear c20
              by_cases c21 : 0 ≤ x17_1
              ·rw [if_pos c21] at H
               have c21b0 : decide (0 ≤ x17_1) = true := decide_eq_true c21
               clear c21
               by_cases c22 : x17_1 < (x4_2.length : Int)
               ·rw [if_pos c22] at H
                have c22b0 : decide (x17_1 < (x4_2.length : Int)) = true := decide_eq_true c22
                clear c22
                by_cases c23 : x24_2 < ((rd_L3 x4_2 x17_1).length : Int)
                ·rw [if_pos c23] at H
                 have c23b0 : decide (x24_2 < ((rd_L3 x4_2 x17_1).length : Int)) = true := decide_eq_true c23
                 clear c23
                 obtain ⟨y112, hy112⟩ : ∃ y_ : List Int, y_ = ((rd_L3 x4_2 x17_1).set (x24_2 : Int).toNat (-1)) := ⟨_, rfl⟩
                 replace H : (spec_FromKinds.l1 k2 l0 (x4_2.set (x17_1 : Int).toNat y112) x17_1 l0 (l0.length : Int) x17_1 (rd_L3 l0 x17_1) ((rd_L3 l0 x17_1).length : Int) (wrap64 (x24_2 + 1))) = some (r1, r2) := by first | (rw [hy112]; with_reducible exact H) | (have H2_ := (Option.bind_some _ _).symm.trans H; rw [hy112]; with_reducible exact H2_) | (have H2_ := (Option.bind_some _ _).symm.trans H; with_reducible exact H2_) | with_reducible exact H | (rw [hy112]; exact H) | exact H
                 have Ny112 := am_ hy112
                 clear hy112
                 obtain ⟨y114, hy114⟩ : ∃ y_ : List (List Int), y_ = (x4_2.set (x17_1 : Int).toNat y112) := ⟨_, rfl⟩
                 replace H : (spec_FromKinds.l1 k2 l0 y114 x17_1 l0 (l0.length : Int) x17_1 (rd_L3 l0 x17_1) ((rd_L3 l0 x17_1).length : Int) (wrap64 (x24_2 + 1))) = some (r1, r2) := by first | (rw [hy114]; with_reducible exact H) | (have H2_ := (Option.bind_some _ _).symm.trans H; rw [hy114]; with_reducible exact H2_) | (have H2_ := (Option.bind_some _ _).symm.trans H; with_reducible exact H2_) | with_reducible exact H | (rw [hy114]; exact H) | exact H
                 have Ny114 := am_ hy114
                 clear hy114
                 have H' := am_ H
                 clear H
                 have p106 : 0 ≤ (x24_2 : Int) := of_decide_eq_true tc2_
                 have q106 : x24_2 < ((rd_L3 l0 x17_1).length : Int) := of_decide_eq_true tc2_
                 obtain ⟨ad106, e106, hx106_0⟩ := Kd.at_int HR105_0.out x24_2 p106 q106
                 cases e106
                 replace hx106_0 := (HB.out.cell (World.block_lt_of_cell? w _ hx106_0)).trans hx106_0
                 replace p106 := eq_true p106
                 replace q106 := eq_true q106
                 obtain ⟨Ao25, co25, eo25⟩ := Kd.S_slice HO_4.out
                 subst eo25
                 have p111 : 0 ≤ (x17_1 : Int) := of_decide_eq_true tc2_
                 have q111 : x17_1 < (x4_2.length : Int) := of_decide_eq_true tc2_
                 obtain ⟨ad111, A111_0, c111_0, e111, hx111_0, hl111_0, hi111_0⟩ := at_L3 (Kd.S_reads' HO_4.out).2.2 x17_1 p111 q111
                 cases e111
                 obtain ⟨ce111, hce111, hMe111, hcc111⟩ := Kd.S_get HO_4.out [] x17_1 p111 (by first | exact q111 | exact of_decide_eq_true tc2_ | (have e_ := (Kd.S_reads' HO_4.out).1; omega))
                 obtain ⟨ve111_0, rfl, ge111_0⟩ := hMe111
                 have hv111_0 := hcc111 0 _ rfl
                 rw [Nat.add_zero, show ((Kd.slice 3 (Kd.int .i64))).sz = 1 from rfl, Nat.mul_one] at hv111_0
                 replace hv111_0 := Option.some.inj (hv111_0.symm.trans hx111_0)
                 rw [hv111_0] at ge111_0
                 have HL111_0 := am_ (show Kd.R (Kd.int .i64) 3 _ _ _ _ (rd_L3 x4_2 x17_1) from ge111_0)
                 clear hv111_0 ge111_0
                 have HX111_0 := am_ hx111_0
                 clear hcc111 hce111
                 have HR111_0 := am_ hi111_0
                 have HC111_0 := am_ hl111_0
                 clear hi111_0 hl111_0
                 replace p111 := eq_true p111
                 replace q111 := eq_true q111
                 have p24 : 0 ≤ (x24_2 : Int) := of_decide_eq_true tc2_
                 have q24 : (x24_2 : Int) < (((rd_L3 x4_2 x17_1).length : Int) : Int) := of_decide_eq_true tc2_
                 obtain ⟨go24, co24, eo24, gb24, gl24, cl24, HG24⟩ := Kd.R_form HL111_0.out (by omega)
                 (first | cases eo24 | (injection eo24 with ea_ en_ ec_; (first | subst ea_ | (injection ea_ with ea_; subst ea_)); subst ec_; clear en_))
                 have GB24 := am_ gb24
                 have GG24 := am_ HG24
                 clear gb24 gl24 HG24
                 obtain ⟨hx24_0, hf24_0⟩ := Kd.R_celln 0 HL111_0.out (x24_2 : Int) p24 q24
                 replace p24 := eq_true p24
                 replace q24 := eq_true q24
                 have hq26 : (x17_1 : Int) < (x4_2.length : Int) := (by have h_ : (x17_1 : Int) < ((x4_2.length : Int) : Int) := of_decide_eq_true tc2_; first | exact h_ | (have e_ := (Kd.S_reads' HO_4.out).1; omega) | simpa only [List.length_set, List.length_set] using h_)
                 obtain ⟨oki26, ce26, hcl26, hM26, hcc26, hok26, hbk26⟩ := Kd.S_borrow HO_4.out [] (x17_1 : Int) (of_decide_eq_true tc2_) hq26
                 obtain ⟨ve26_0, rfl, ge26_0⟩ := hM26
                 have hv26 := hcc26 0 _ rfl
                 rw [Nat.add_zero, show ((Kd.slice 3 (Kd.int .i64))).sz = 1 from rfl, Nat.mul_one] at hv26
                 replace hv26 := Option.some.inj (hv26.symm.trans HX111_0.out)
                 subst hv26
                 clear hcc26 hcl26
                 replace ge26_0 := (show Kd.R (Kd.int .i64) 3 _ _ _ _ (rd_L3 x4_2 x17_1) from ge26_0)
                 have HP26 := Kd.R_putg ge26_0 (x24_2 : Int) (-1)
                 go_wp2_with (first | ((with_reducible refine gate_store (t := 3) (p := 45) rfl ?_); refine store_event (t := 3) (p := 45) (v := ?vo_w27) (w1 := (wr.setCell ⟨go24, (x24_2 : Int).toNat, none⟩ (.int .i64 (-1)))) ?hg ?ho ?hn ?hr ?_; (case ho => rfl); (case hg => rfl); (case hn => rfl); (case hr => exact tc27_); intro w27 hw; have hg : wr.grownBy w27 (some go24) := (by rw [hw]; exact HP26.2); have hz_ : Kd.R (Kd.int .i64) 3 w27 w.heap.size oki26 (.slice (some ⟨go24, 0, none⟩) (rd_L3 x4_2 x17_1).length c111_0) y112 := (by rw [hw, Ny112.out]; exact HP26.1); have hp_ : Kd.S (Kd.slice 3 (Kd.int .i64)) 28 w27 w.heap.size (fun _ => True) (.slice (some ad111) x4_2.length co25) y114 := (by rw [Ny114.out]; exact hbk26 hg (fun k_ e_ => by injection e_ with e_; subst e_; exact ge26_0.1 _ rfl) (Kd.M_row hz_)); have hm_ := Kd.R_mono hz_ hok26; clear HP26 hbk26; have n0_ := am_ (hp_); have n1_ := am_ ((by rw [hw]; exact below_set (HB.out) GB24.out : Below w.heap.size w w27)); have n2_ := am_ (hm_); have n3_ := am_ ((Kd.R_reads' hm_).2.1); clear HO_4 HB HL111_0; have HO_4 := n0_; have HB := n1_; have HL121 := n2_; have HC113 := n3_; clear n0_ n1_ n2_ n3_; clear hg hw hp_ hz_ hm_ hok26))
                 go_roundg k2
                 case measure => have := HK1.out; have := HK2.out; omega
                 case rel => exact ⟨(y114), (wrap64 (x24_2 + 1)), tc6_, H', ⟨by have := HK1.out; have := HK2.out; omega⟩, ⟨by (with_reducible repeat (first | apply Kd.S_alloc | apply Kd.S_drewN | apply Kd.S_drew)); exact HO_4.out⟩, ⟨by repeat (first | (with_reducible first | exact HB.out | apply below_alloc | apply pw_below_drewN | apply below_drew1) | exact HB.out)⟩⟩
                ·rw [if_neg c23] at H
                 exact absurd H (by simp)
               ·rw [if_neg c22] at H
                exact absurd H (by simp)
              ·rw [if_neg c21] at H
               exact absurd H (by simp)
             ·rw [if_neg c20] at H
              have c20b0 : ((rd (rd_L3 l0 x17_1) x24_2) == 5) = false := beq_eq_false_iff_ne.mpr c20
              have c20b1 : ((rd (rd_L3 l0 x17_1) x24_2) != 5) = true := bne_iff_ne.mpr c20
              have H' := am_ H
              clear H
              have p106 : 0 ≤ (x24_2 : Int) := of_decide_eq_true tc2_
              have q106 : x24_2 < ((rd_L3 l0 x17_1).length : Int) := of_decide_eq_true tc2_
              obtain ⟨ad106, e106, hx106_0⟩ := Kd.at_int HR105_0.out x24_2 p106 q106
              cases e106
              replace hx106_0 := (HB.out.cell (World.block_lt_of_cell? w _ hx106_0)).trans hx106_0
              replace p106 := eq_true p106
              replace q106 := eq_true q106
              go_wp2
              go_roundg k2
              case measure => have := HK1.out; have := HK2.out; omega
              case rel => exact ⟨(x4_2), (wrap64 (x24_2 + 1)), tc6_, H', ⟨by have := HK1.out; have := HK2.out; omega⟩, ⟨by (with_reducible repeat (first | apply Kd.S_alloc | apply Kd.S_drewN | apply Kd.S_drew)); exact HO_4.out⟩, ⟨by repeat (first | (with_reducible first | exact HB.out | apply below_alloc | apply pw_below_drewN | apply below_drew1) | exact HB.out)⟩⟩
           ·rw [if_neg c11] at H
            exact absurd H (by simp)
          ·rw [if_neg c10] at H
           exact absurd H (by simp)
         ·rw [if_neg c9] at H
          have c9b0 : decide (x24_2 < ((rd_L3 l0 x17_1).length : Int)) = false := decide_eq_false c9
          clear c9
          have H' := am_ H
          clear H
          go_wp2
          go_roundg k2
          case measure => have := HK1.out; have := HK2.out; omega
          case rel => exact ⟨(x4_2), (wrap64 (x17_1 + 1)), tc6_, H', ⟨by have := HK1.out; have := HK2.out; omega⟩, ⟨by (with_reducible repeat (first | apply Kd.S_alloc | apply Kd.S_drewN | apply Kd.S_drew)); exact HO_4.out⟩, ⟨by repeat (first | (with_reducible first | exact HB.out | apply below_alloc | apply pw_below_drewN | apply below_drew1) | exact HB.out)⟩⟩
      ·rw [if_neg c8] at H
       exact absurd H (by simp)
     ·rw [if_neg c7] at H
      exact absurd H (by simp)
    ·rw [if_neg c6] at H
     have c6b0 : decide (x17_1 < (l0.length : Int)) = false := decide_eq_false c6
     clear c6
     replace H := Option.bind_eq_some_iff.mp H
     obtain ⟨t115, A280, H⟩ := H
     replace H : (if t115 = true then ((spec_weKinds.f k1 x4_1).bind fun t116 => ((spec_weSame.f k1 t116 l0).bind fun t119 => (if t119 = true then (some (x4_1, true)) else (some (([] : List (List Int)), false))))) else (some (([] : List (List Int)), false))) = some (r1, r2) := H
     have A28 := am_ A280
     clear A280
     by_cases c29 : t115 = true
     ·subst c29
      have H1 : ((spec_weKinds.f k1 x4_1).bind fun t116 => ((spec_weSame.f k1 t116 l0).bind fun t119 => (if t119 = true then (some (x4_1, true)) else (some (([] : List (List Int)), false))))) = some (r1, r2) := by rw [if_pos rfl] at H; exact H
      clear H
      have H := H1
      clear H1
      replace H := Option.bind_eq_some_iff.mp H
      obtain ⟨t116, A300, H⟩ := H
      replace H : ((spec_weSame.f k1 t116 l0).bind fun t119 => (if t119 = true then (some (x4_1, true)) else (some (([] : List (List Int)), false)))) = some (r1, r2) := H
      have A30 := am_ A300
      clear A300
      replace H := Option.bind_eq_some_iff.mp H
      obtain ⟨t119, A310, H⟩ := H
      replace H : (if t119 = true then (some (x4_1, true)) else (some (([] : List (List Int)), false))) = some (r1, r2) := H
      have A31 := am_ A310
      clear A310
      by_cases c32 : t119 = true
      ·subst c32
       have H1 : (some (x4_1, true)) = some (r1, r2) := by rw [if_pos rfl] at H; exact H
       clear H
       have H := H1
       clear H1
       simp only [Option.some.injEq, Prod.mk.injEq] at H
       obtain ⟨rfl, rfl⟩ := H
       obtain ⟨Ao33, co33, eo33⟩ := Kd.S_slice HO_4.out
       subst eo33
       go_wp2_with (first | ((with_reducible refine gate_callee (f := 38) rfl ?_); refine goesL_ (some 49) rfl rfl Try.func38 (by kernel_rfl) rfl #[.slice Ao33 x4_1.length co33] rfl tc0_ ?_; (with_reducible refine (spec_sgGood.calls k1 _ _ x4_1 true _ ?side1 ?side2 A28.out).mono ?_); (case side1 => exact tc29_); (case side2 => exact (Kd.S_reads' HO_4.out).2.1); rintro e w34 ⟨rfl, hb⟩; refine ⟨_, rfl, ?_⟩; have n0_ := am_ (Kd.S_below tc32_ hb); have n1_ := am_ (below_step tc1_ hb); clear HO_4 HB; have HO_4 := n0_; have HB := n1_; clear n0_ n1_; (try clear hb)) | (go_at_call 39; (with_reducible refine (spec_weKinds.calls k1 _ _ x4_1 t116 _ ?side1 ?side2 A30.out).mono ?_); (case side1 => exact tc29_); (case side2 => exact (Kd.S_reads' HO_4.out).2.1); rintro e w35 ⟨v117, rfl, ho0, hb⟩; have n0_ := am_ (Kd.S_elder' tc32_ (Kd.S_base ho0) hb); have n1_ := am_ (Kd.S_lower (Kd.S_new' ho0 (Kd.S_lt tc32_)) (below_size tc1_)); have n2_ := am_ (below_step tc1_ hb); clear HO_4 HB; have HO_4 := n0_; have HO118 := n1_; have HB := n2_; clear n0_ n1_ n2_; (try clear hb hb2 hk hi ho0); obtain ⟨Ao36, co36, eo36⟩ := Kd.S_slice HO118.out; subst eo36) | (go_at_call 54; (with_reducible refine (spec_weSame.calls k1 _ _ t116 _ _ l0 true _ ?side1 ?side2 ?side3 ?side4 A31.out).mono ?_); (case side1 => repeat (first | exact (Kd.S_reads' HO118.out).2.2 | (with_reducible refine Kd.C_alloc ?_ _) | (with_reducible refine Kd.C_drewN ?_ _) | (with_reducible refine Kd.C_drew ?_))); (case side2 => exact (Kd.S_reads' HO118.out).2.1); (case side3 => exact tc13_); (case side4 => exact HC0.out); rintro e w' ⟨rfl, ⟨nd, rfl⟩⟩))
       go_ret2
       exact ⟨_, by first | rfl | (simp [errW_none, errW_some] <;> rfl) | (simp [*, errW_none, errW_some] <;> rfl), by (with_reducible repeat (first | apply Kd.S_alloc | apply Kd.S_drewN | apply Kd.S_drew)); exact Kd.S_mono HO_4.out (fun _ hk => trivial), by repeat (first | (with_reducible first | exact HB.out | apply below_alloc | apply pw_below_drewN | apply below_drew1) | exact HB.out)⟩
      ·replace c32 := Bool.eq_false_iff.mpr c32
       subst c32
       have H1 : (some (([] : List (List Int)), false)) = some (r1, r2) := by rw [if_neg (show ¬ (false = true) by decide)] at H; exact H
       clear H
       have H := H1
       clear H1
       simp only [Option.some.injEq, Prod.mk.injEq] at H
       obtain ⟨rfl, rfl⟩ := H
       obtain ⟨Ao37, co37, eo37⟩ := Kd.S_slice HO_4.out
       subst eo37
       go_wp2_with (first | ((with_reducible refine gate_callee (f := 38) rfl ?_); refine goesL_ (some 49) rfl rfl Try.func38 (by kernel_rfl) rfl #[.slice Ao37 x4_1.length co37] rfl tc0_ ?_; (with_reducible refine (spec_sgGood.calls k1 _ _ x4_1 true _ ?side1 ?side2 A28.out).mono ?_); (case side1 => exact tc29_); (case side2 => exact (Kd.S_reads' HO_4.out).2.1); rintro e w38 ⟨rfl, hb⟩; refine ⟨_, rfl, ?_⟩; have n0_ := am_ (Kd.S_below tc32_ hb); have n1_ := am_ (below_step tc1_ hb); clear HO_4 HB; have HO_4 := n0_; have HB := n1_; clear n0_ n1_; (try clear hb)) | (go_at_call 39; (with_reducible refine (spec_weKinds.calls k1 _ _ x4_1 t116 _ ?side1 ?side2 A30.out).mono ?_); (case side1 => exact tc29_); (case side2 => exact (Kd.S_reads' HO_4.out).2.1); rintro e w39 ⟨v117, rfl, ho0, hb⟩; have n0_ := am_ (Kd.S_elder' tc32_ (Kd.S_base ho0) hb); have n1_ := am_ (Kd.S_lower (Kd.S_new' ho0 (Kd.S_lt tc32_)) (below_size tc1_)); have n2_ := am_ (below_step tc1_ hb); clear HO_4 HB; have HO_4 := n0_; have HO118 := n1_; have HB := n2_; clear n0_ n1_ n2_; (try clear hb hb2 hk hi ho0); obtain ⟨Ao40, co40, eo40⟩ := Kd.S_slice HO118.out; subst eo40) | (go_at_call 54; (with_reducible refine (spec_weSame.calls k1 _ _ t116 _ _ l0 false _ ?side1 ?side2 ?side3 ?side4 A31.out).mono ?_); (case side1 => repeat (first | exact (Kd.S_reads' HO118.out).2.2 | (with_reducible refine Kd.C_alloc ?_ _) | (with_reducible refine Kd.C_drewN ?_ _) | (with_reducible refine Kd.C_drew ?_))); (case side2 => exact (Kd.S_reads' HO118.out).2.1); (case side3 => exact tc13_); (case side4 => exact HC0.out); rintro e w' ⟨rfl, ⟨nd, rfl⟩⟩))
       go_ret2
       exact ⟨_, by first | rfl | (simp [errW_none, errW_some] <;> rfl) | (simp [*, errW_none, errW_some] <;> rfl), by first | exact Kd.S_nil _ _ _ _ _ | exact Kd.N_nil _ _ _ _ _ | exact Kd.V_nil _ _ _ _ _ | exact Kd.Q_nil _ _ _ _ _ | exact Kd.R_nil _ _ _ _ _, by repeat (first | (with_reducible first | exact HB.out | apply below_alloc | apply pw_below_drewN | apply below_drew1) | exact HB.out)⟩
     ·replace c29 := Bool.eq_false_iff.mpr c29
      subst c29
      have H1 : (some (([] : List (List Int)), false)) = some (r1, r2) := by rw [if_neg (show ¬ (false = true) by decide)] at H; exact H
      clear H
      have H := H1
      clear H1
      simp only [Option.some.injEq, Prod.mk.injEq] at H
      obtain ⟨rfl, rfl⟩ := H
      obtain ⟨Ao41, co41, eo41⟩ := Kd.S_slice HO_4.out
      subst eo41
      go_wp2_with (first | ((with_reducible refine gate_callee (f := 38) rfl ?_); refine goesL_ (some 49) rfl rfl Try.func38 (by kernel_rfl) rfl #[.slice Ao41 x4_1.length co41] rfl tc0_ ?_; (with_reducible refine (spec_sgGood.calls k1 _ _ x4_1 false _ ?side1 ?side2 A28.out).mono ?_); (case side1 => exact tc29_); (case side2 => exact (Kd.S_reads' HO_4.out).2.1); rintro e w42 ⟨rfl, hb⟩; refine ⟨_, rfl, ?_⟩; have n0_ := am_ (Kd.S_below tc32_ hb); have n1_ := am_ (below_step tc1_ hb); clear HO_4 HB; have HO_4 := n0_; have HB := n1_; clear n0_ n1_; (try clear hb)))
      go_ret2
      exact ⟨_, by first | rfl | (simp [errW_none, errW_some] <;> rfl) | (simp [*, errW_none, errW_some] <;> rfl), by first | exact Kd.S_nil _ _ _ _ _ | exact Kd.N_nil _ _ _ _ _ | exact Kd.V_nil _ _ _ _ _ | exact Kd.Q_nil _ _ _ _ _ | exact Kd.R_nil _ _ _ _ _, by repeat (first | (with_reducible first | exact HB.out | apply below_alloc | apply pw_below_drewN | apply below_drew1) | exact HB.out)⟩
 ·replace c3 := Bool.eq_false_iff.mpr c3
  subst c3
  have H1 : (some (([] : List (List Int)), false)) = some (r1, r2) := by rw [if_neg (show ¬ (false = true) by decide)] at H; exact H
  clear H
  have H := H1
  clear H1
  simp only [Option.some.injEq, Prod.mk.injEq] at H
  obtain ⟨rfl, rfl⟩ := H
  go_enter Try.func16, Try.ntmps16
  go_wp2_with (first | ((with_reducible refine gate_callee (f := 52) rfl ?_); refine goesL_ (some 10) rfl rfl Try.func52 (by kernel_rfl) rfl #[.slice A0 l0.length c0] rfl tc0_ ?_; (with_reducible refine (spec_sgSquare.calls k _ _ l0 false _ ?side1 ?side2 A2.out).mono ?_); (case side1 => exact tc8_); (case side2 => exact HC0.out); rintro e w' ⟨rfl, ⟨nd, rfl⟩⟩; refine ⟨_, rfl, ?_⟩))
  go_ret2
  exact ⟨_, by first | rfl | (simp [errW_none, errW_some] <;> rfl) | (simp [*, errW_none, errW_some] <;> rfl), by first | exact Kd.S_nil _ _ _ _ _ | exact Kd.N_nil _ _ _ _ _ | exact Kd.V_nil _ _ _ _ _ | exact Kd.Q_nil _ _ _ _ _ | exact Kd.R_nil _ _ _ _ _, by repeat (first | (with_reducible first | exact HB.out | apply below_alloc | apply pw_below_drewN | apply below_drew1) | exact HB.out)⟩

/-! ### impl_inversions: function 55 -/
mutual
def impl_inversions.l0 : Nat → List (List Int) → Int → List (List Int) → Int → Int → Option (Int)
 | 0, _, _, _, _, _ => none
 | k + 1, x0, x3, x10, x11, x12 => if x12 < x11 then (if 0 ≤ x12 then (if x12 < (x10.length : Int) then (impl_inversions.l1 k x0 x3 x12 x10 x11 x12 (rd_L3 x10 x12) ((rd_L3 x10 x12).length : Int) 0) else (none)) else (none)) else (some x3)
def impl_inversions.l1 : Nat → List (List Int) → Int → Int → List (List Int) → Int → Int → List Int → Int → Int → Option (Int)
 | 0, _, _, _, _, _, _, _, _, _ => none
 | k + 1, x0, x3, x4, x10, x11, x12, x17, x18, x19 => if x19 < x18 then (if 0 ≤ x19 then (if x19 < (x17.length : Int) then (if 0 ≤ (wrap64 (x4 + 1)) then (if (wrap64 (x4 + 1)) ≤ (x0.length : Int) then ((some (x0.drop ((wrap64 (x4 + 1)) : Int).toNat : List (List Int))).bind fun y103 => (impl_inversions.l2 k x0 x3 x4 x19 (rd x17 x19) x10 x11 x12 x17 x18 x19 y103 (y103.length : Int) 0)) else (none)) else (none)) else (none)) else (none)) else (impl_inversions.l0 k x0 x3 x10 x11 (wrap64 (x12 + 1)))
def impl_inversions.l2 : Nat → List (List Int) → Int → Int → Int → Int → List (List Int) → Int → Int → List Int → Int → Int → List (List Int) → Int → Int → Option (Int)
 | 0, _, _, _, _, _, _, _, _, _, _, _, _, _, _ => none
 | k + 1, x0, x3, x4, x6, x7, x10, x11, x12, x17, x18, x19, x27, x28, x29 => if x29 < x28 then (if 0 ≤ x29 then (if x29 < (x27.length : Int) then (if 0 ≤ x6 then (if x6 ≤ ((rd_L3 x27 x29).length : Int) then ((impl_sum.f k ((rd_L3 x27 x29).take (x6 : Int).toNat)).bind fun t109 => (impl_inversions.l2 k x0 (wrap64 (x3 + (wrap64 (x7 * t109)))) x4 x6 x7 x10 x11 x12 x17 x18 x19 x27 x28 (wrap64 (x29 + 1)))) else (none)) else (none)) else (none)) else (none)) else (impl_inversions.l1 k x0 x3 x4 x10 x11 x12 x17 x18 (wrap64 (x19 + 1)))
end
def impl_inversions.f (k : Nat) (l0 : List (List Int)) : Option (Int) := impl_inversions.l0 k l0 0 l0 (l0.length : Int) 0
set_option maxHeartbeats 8000000 in
set_option maxRecDepth 100000 in
theorem impl_inversions.calls (k : Nat) (A0 : Option Addr) (c0 : Nat) (l0 : List (List Int)) (r : Int) (w : World) (hr0 : Kd.C (Kd.slice 3 (Kd.int .i64)) w A0 l0.length l0) (hc0 : l0.length ≤ c0) (h : impl_inversions.f k l0 = some r) :
  Calls Try.prog 55 #[.slice A0 l0.length c0] w fun e w' => e = .returned (.int .i64 r) ∧ Drawn0 w w' := by
 have HR0 := am_ hr0
 have HC0 := am_ hc0
 clear hr0 hc0
 have H : (impl_inversions.l0 k l0 0 l0 (l0.length : Int) 0) = some r := h
 clear h
 have H' := am_ H
 clear H
 go_enter Try.func55, Try.ntmps55
 go_wp2
 go_loopg [3, 12] k (fun kq v3 v12 w' => ∃ (x3_1 : Int) (x12_1 : Int), v3 = .int .i64 x3_1 ∧ v12 = .int .i64 x12_1 ∧ Aside0 (impl_inversions.l0 kq l0 x3_1 l0 (l0.length : Int) x12_1 = some r) ∧ Aside0 (kq ≤ k) ∧ Drawn0 w w')
 case atStart => exact ⟨(0), (0), tc6_, tc6_, H', ⟨Nat.le_refl _⟩, by repeat (first | exact Drawn0.refl _ | apply Drawn0.step)⟩
 case round =>
  clear H'
  obtain ⟨x3_1, x12_1, rfl, rfl, HA, HK1, ⟨m1, rfl⟩⟩ := hrel
  cases gk with
  | zero => exact absurd HA.out (by simp [impl_inversions.l0])
  | succ k1 =>
   have H := HA.out
   clear HA
   simp only [impl_inversions.l0] at H
   by_cases c2 : x12_1 < (l0.length : Int)
   ·rw [if_pos c2] at H
    have c2b0 : decide (x12_1 < (l0.length : Int)) = true := decide_eq_true c2
    clear c2
    by_cases c3 : 0 ≤ x12_1
    ·rw [if_pos c3] at H
     have c3b0 : decide (0 ≤ x12_1) = true := decide_eq_true c3
     clear c3
     by_cases c4 : x12_1 < (l0.length : Int)
     ·rw [if_pos c4] at H
      have c4b0 : decide (x12_1 < (l0.length : Int)) = true := decide_eq_true c4
      clear c4
      have H' := am_ H
      clear H
      have p101 : 0 ≤ (x12_1 : Int) := of_decide_eq_true tc2_
      have q101 : x12_1 < (l0.length : Int) := of_decide_eq_true tc2_
      obtain ⟨ad101, A101_0, c101_0, e101, hx101_0, hl101_0, hi101_0⟩ := at_L3 HR0.out x12_1 p101 q101
      cases e101
      have HR101_0 := am_ hi101_0
      have HC101_0 := am_ hl101_0
      clear hi101_0 hl101_0
      replace p101 := eq_true p101
      replace q101 := eq_true q101
      go_wp2
      go_loopg [3, 19] k1 (fun kq v3 v19 w' => ∃ (x3_2 : Int) (x19_2 : Int), v3 = .int .i64 x3_2 ∧ v19 = .int .i64 x19_2 ∧ Aside0 (impl_inversions.l1 kq l0 x3_2 x12_1 l0 (l0.length : Int) x12_1 (rd_L3 l0 x12_1) ((rd_L3 l0 x12_1).length : Int) x19_2 = some r) ∧ Aside0 (kq ≤ k1) ∧ Drawn0 w w')
      case atStart => exact ⟨(x3_1), (0), tc6_, tc6_, H', ⟨Nat.le_refl _⟩, by repeat (first | exact Drawn0.refl _ | apply Drawn0.step)⟩
      case round =>
       clear H'
       try clear c1
       try clear p1
       try clear q1
       try clear hx1
       try clear c2
       try clear c2b0
       try clear p2
       try clear c3
       try clear c3b0
       try clear c4
       try clear c4b0
       try clear hx101_0
       try clear p101
       try clear q101
       obtain ⟨x3_2, x19_2, rfl, rfl, HA, HK2, ⟨m2, rfl⟩⟩ := hrel
       cases gk with
       | zero => exact absurd HA.out (by simp [impl_inversions.l1])
       | succ k2 =>
        have H := HA.out
        clear HA
        simp only [impl_inversions.l1] at H
        by_cases c5 : x19_2 < ((rd_L3 l0 x12_1).length : Int)
        ·rw [if_pos c5] at H
         have c5b0 : decide (x19_2 < ((rd_L3 l0 x12_1).length : Int)) = true := decide_eq_true c5
         clear c5
         by_cases c6 : 0 ≤ x19_2
         ·rw [if_pos c6] at H
          have c6b0 : decide (0 ≤ x19_2) = true := decide_eq_true c6
          clear c6
          by_cases c7 : x19_2 < ((rd_L3 l0 x12_1).length : Int)
          ·rw [if_pos c7] at H
           have c7b0 : decide (x19_2 < ((rd_L3 l0 x12_1).length : Int)) = true := decide_eq_true c7
           clear c7
           obtain ⟨ji8, hji8⟩ : ∃ j_ : Int, (wrap64 (x12_1 + 1)) = j_ := ⟨_, rfl⟩
           replace H : (if 0 ≤ (ji8) then (if (ji8) ≤ (l0.length : Int) then ((some (l0.drop ((ji8) : Int).toNat : List (List Int))).bind fun y103 => (impl_inversions.l2 k2 l0 x3_2 x12_1 x19_2 (rd (rd_L3 l0 x12_1) x19_2) l0 (l0.length : Int) x12_1 (rd_L3 l0 x12_1) ((rd_L3 l0 x12_1).length : Int) x19_2 y103 (y103.length : Int) 0)) else (none)) else (none)) = some r := by first | (rw [hji8] at H; exact H) | (simp only [hji8] at H ⊢; exact H)
           have hji8w : (IntKind.i64.wrap (x12_1 + 1)) = ji8 := (i64_w _).trans hji8
           by_cases c9 : 0 ≤ (ji8)
           ·rw [if_pos c9] at H
            have c9b0 := eq_true c9
            have c9b1 : decide (0 ≤ (ji8)) = true := decide_eq_true c9
            clear c9
            by_cases c10 : (ji8) ≤ (l0.length : Int)
            ·rw [if_pos c10] at H
             have c10b0 := eq_true c10
             have c10b1 : decide ((ji8) ≤ (l0.length : Int)) = true := decide_eq_true c10
             clear c10
             obtain ⟨y103, hy103⟩ : ∃ y_ : List (List Int), y_ = (l0.drop ((ji8) : Int).toNat) := ⟨_, rfl⟩
             replace H : (impl_inversions.l2 k2 l0 x3_2 x12_1 x19_2 (rd (rd_L3 l0 x12_1) x19_2) l0 (l0.length : Int) x12_1 (rd_L3 l0 x12_1) ((rd_L3 l0 x12_1).length : Int) x19_2 y103 (y103.length : Int) 0) = some r := by first | (rw [hy103]; with_reducible exact H) | (have H2_ := (Option.bind_some _ _).symm.trans H; rw [hy103]; with_reducible exact H2_) | (have H2_ := (Option.bind_some _ _).symm.trans H; with_reducible exact H2_) | with_reducible exact H | (rw [hy103]; exact H) | exact H
             have Ny103 := am_ hy103
             clear hy103
             have H' := am_ H
             clear H
             have p102 : 0 ≤ (x19_2 : Int) := of_decide_eq_true tc2_
             have q102 : x19_2 < ((rd_L3 l0 x12_1).length : Int) := of_decide_eq_true tc2_
             obtain ⟨ad102, e102, hx102_0⟩ := Kd.at_int HR101_0.out x19_2 p102 q102
             cases e102
             replace p102 := eq_true p102
             replace q102 := eq_true q102
             have q11 : ((ji8) : Int) ≤ ((l0.length : Int) : Int) := of_decide_eq_true tc2_
             obtain ⟨i011, hi011, _, hsz11, _⟩ := info_parts info28
             have hroom11 : l0.length ≤ c0 := HC0.out
             have hC11 : Kd.C (Kd.slice 3 (Kd.int .i64)) _ (some ad101) l0.length l0 := HR0.out
             have q011 : (0 : Int) ≤ ((ji8) : Int) := of_decide_eq_true tc2_
             have hcut11 := cut_from (P := Try.prog) 24 28 .i64 Try.underlying24 hi011 1 hsz11 (some ad101) l0.length c0 (ji8) q011 q11
             have hr11 := Kd.C_drop (m := ((ji8) : Int).toNat) (c := c0) hC11 (by omega) hroom11
             obtain ⟨A11, hA11⟩ : ∃ A1, A1 = (if c0 = ((ji8) : Int).toNat then (some ad101) else ((some ad101) : Option Addr).map (·.add (((ji8) : Int).toNat * 1))) := ⟨_, rfl⟩
             obtain ⟨c11, hc11⟩ : ∃ c1, c1 = c0 - ((ji8) : Int).toNat := ⟨_, rfl⟩
             have hy11 : y103.length = l0.length - ((ji8) : Int).toNat := (by rw [Ny103.out, List.length_drop] <;> omega)
             rw [show (l0).drop ((ji8) : Int).toNat = y103 from Ny103.out.symm] at hr11
             replace hr11 : Kd.C (Kd.slice 3 (Kd.int .i64)) _ A11 y103.length y103 := (by rw [hA11]; exact hr11)
             rw [← hy11, ← hA11, ← hc11] at hcut11
             have HR106 := am_ hr11
             have HC106 := am_ (show y103.length ≤ c11 from (by rw [hy11, hc11]; exact Nat.sub_le_sub_right hroom11 _))
             clear hr11 hC11 hroom11 hi011 hsz11 hc11
             have KY11 := am_ hy11
             have KA11 := am_ hA11
             clear hy11 hA11
             replace q11 := eq_true q11
             go_wp2
             go_loopg [3, 29] k2 (fun kq v3 v29 w' => ∃ (x3_3 : Int) (x29_3 : Int), v3 = .int .i64 x3_3 ∧ v29 = .int .i64 x29_3 ∧ Aside0 (impl_inversions.l2 kq l0 x3_3 x12_1 x19_2 (rd (rd_L3 l0 x12_1) x19_2) l0 (l0.length : Int) x12_1 (rd_L3 l0 x12_1) ((rd_L3 l0 x12_1).length : Int) x19_2 y103 (y103.length : Int) x29_3 = some r) ∧ Aside0 (kq ≤ k2) ∧ Drawn0 w w')
             case atStart => exact ⟨(x3_2), (0), tc6_, tc6_, H', ⟨Nat.le_refl _⟩, by repeat (first | exact Drawn0.refl _ | apply Drawn0.step)⟩
             case round =>
              clear H'
              try clear c1
              try clear p1
              try clear q1
              try clear hx1
              try clear c2
              try clear c2b0
              try clear p2
              try clear c3
              try clear c3b0
              try clear c4
              try clear c4b0
              try clear c5
              try clear c5b0
              try clear c6
              try clear c6b0
              try clear p6
              try clear c7
              try clear c7b0
              try clear c9
              try clear c9b0
              try clear c9b1
              try clear c10
              try clear c10b0
              try clear c10b1
              try clear p10
              try clear q10
              try clear hx10
              try clear c11
              try clear q11
              try clear hx101_0
              try clear hx102_0
              try clear p1
              try clear p101
              try clear p102
              try clear p2
              try clear q011
              try clear q1
              try clear q101
              try clear q102
              try clear q11
              obtain ⟨x3_3, x29_3, rfl, rfl, HA, HK3, ⟨m3, rfl⟩⟩ := hrel
              cases gk with
              | zero => exact absurd HA.out (by simp [impl_inversions.l2])
              | succ k3 =>
               have H := HA.out
               clear HA
               simp only [impl_inversions.l2] at H
               by_cases c12 : x29_3 < (y103.length : Int)
               ·rw [if_pos c12] at H
                have c12b0 : decide (x29_3 < (y103.length : Int)) = true := decide_eq_true c12
                clear c12
                by_cases c13 : 0 ≤ x29_3
                ·rw [if_pos c13] at H
                 have c13b0 : decide (0 ≤ x29_3) = true := decide_eq_true c13
                 clear c13
                 by_cases c14 : x29_3 < (y103.length : Int)
                 ·rw [if_pos c14] at H
                  have c14b0 : decide (x29_3 < (y103.length : Int)) = true := decide_eq_true c14
                  clear c14
                  by_cases c15 : 0 ≤ x19_2
                  ·rw [if_pos c15] at H
                   have c15b0 := eq_true c15
                   have c15b1 : decide (0 ≤ x19_2) = true := decide_eq_true c15
                   clear c15
                   by_cases c16 : x19_2 ≤ ((rd_L3 y103 x29_3).length : Int)
                   ·rw [if_pos c16] at H
                    have c16b0 := eq_true c16
                    have c16b1 : decide (x19_2 ≤ ((rd_L3 y103 x29_3).length : Int)) = true := decide_eq_true c16
                    clear c16
                    replace H := Option.bind_eq_some_iff.mp H
                    obtain ⟨t109, A170, H⟩ := H
                    replace H : (impl_inversions.l2 k3 l0 (wrap64 (x3_3 + (wrap64 ((rd (rd_L3 l0 x12_1) x19_2) * t109)))) x12_1 x19_2 (rd (rd_L3 l0 x12_1) x19_2) l0 (l0.length : Int) x12_1 (rd_L3 l0 x12_1) ((rd_L3 l0 x12_1).length : Int) x19_2 y103 (y103.length : Int) (wrap64 (x29_3 + 1))) = some r := H
                    have A17 := am_ A170
                    clear A170
                    have H' := am_ H
                    clear H
                    have p107 : 0 ≤ (x29_3 : Int) := of_decide_eq_true tc2_
                    have q107 : x29_3 < (y103.length : Int) := of_decide_eq_true tc2_
                    obtain ⟨ad107, A107_0, c107_0, e107, hx107_0, hl107_0, hi107_0⟩ := at_L3 HR106.out x29_3 p107 q107
                    cases e107
                    have HR107_0 := am_ hi107_0
                    have HC107_0 := am_ hl107_0
                    clear hi107_0 hl107_0
                    replace p107 := eq_true p107
                    replace q107 := eq_true q107
                    obtain ⟨i018, hi018, _, hsz18, _⟩ := info_parts info3
                    obtain ⟨hcut18, hA18, hC18⟩ := print_take_of (P := Try.prog) (Value.int .i64) 0 28 3 .i64 Try.underlying28 hi018 hsz18 A107_0 c107_0 (rd_L3 y103 x29_3) x19_2 (of_decide_eq_true tc2_) (of_decide_eq_true tc2_) HC107_0.out
                    have HR108 := am_ (Kd.C_of_reads (h1 := fun _ => rfl) (hA18 _ (Kd.reads_of_C HR107_0.out)))
                    have HC108 := am_ hC18
                    clear hA18 hC18 hi018 hsz18
                    go_wp2_with (first | ((with_reducible refine gate_callee (f := 78) rfl ?_); refine goesL_ (some 38) rfl rfl Try.func78 (by kernel_rfl) rfl #[.slice A107_0 ((rd_L3 y103 x29_3).take (x19_2 : Int).toNat).length c107_0] rfl (by (try simp only [List.map_toArray, List.map_cons, List.map_nil]); first | done | (rw [show ((rd_L3 y103 x29_3).take (x19_2 : Int).toNat).length = x19_2.toNat from (by rw [List.length_take]; have h_ : (x19_2 : Int) ≤ ((rd_L3 y103 x29_3).length : Int) := of_decide_eq_true tc2_; omega)] <;> rfl) | rfl | (simp only [List.length_drop, List.length_take]; rfl)) ?_; (with_reducible refine (impl_sum.calls k3 _ _ ((rd_L3 y103 x29_3).take (x19_2 : Int).toNat) t109 _ ?side1 ?side2 A17.out).mono ?_); (case side1 => repeat (first | exact HR108.out | (with_reducible refine Kd.C_alloc ?_ _) | (with_reducible refine Kd.C_drewN ?_ _) | (with_reducible refine Kd.C_drew ?_))); (case side2 => exact HC108.out); rintro e w' ⟨rfl, ⟨nd, rfl⟩⟩; refine ⟨_, rfl, ?_⟩))
                    go_roundg k3
                    case measure => have := HK1.out; have := HK2.out; have := HK3.out; omega
                    case rel => exact ⟨(wrap64 (x3_3 + (wrap64 ((rd (rd_L3 l0 x12_1) x19_2) * t109)))), (wrap64 (x29_3 + 1)), tc6_, tc6_, H', ⟨by have := HK1.out; have := HK2.out; have := HK3.out; omega⟩, by repeat (first | exact Drawn0.refl _ | apply Drawn0.step)⟩
                   ·rw [if_neg c16] at H
                    exact absurd H (by simp)
                  ·rw [if_neg c15] at H
                   exact absurd H (by simp)
                 ·rw [if_neg c14] at H
                  exact absurd H (by simp)
                ·rw [if_neg c13] at H
                 exact absurd H (by simp)
               ·rw [if_neg c12] at H
                have c12b0 : decide (x29_3 < (y103.length : Int)) = false := decide_eq_false c12
                clear c12
                have H' := am_ H
                clear H
                go_wp2
                go_roundg k3
                case measure => have := HK1.out; have := HK2.out; have := HK3.out; omega
                case rel => exact ⟨(x3_3), (wrap64 (x19_2 + 1)), tc6_, tc6_, H', ⟨by have := HK1.out; have := HK2.out; have := HK3.out; omega⟩, by repeat (first | exact Drawn0.refl _ | apply Drawn0.step)⟩
            ·rw [if_neg c10] at H
             exact absurd H (by simp)
           ·rw [if_neg c9] at H
            exact absurd H (by simp)
          ·rw [if_neg c7] at H
           exact absurd H (by simp)
         ·rw [if_neg c6] at H
          exact absurd H (by simp)
        ·rw [if_neg c5] at H
         have c5b0 : decide (x19_2 < ((rd_L3 l0 x12_1).length : Int)) = false := decide_eq_false c5
         clear c5
         have H' := am_ H
         clear H
         go_wp2
         go_roundg k2
         case measure => have := HK1.out; have := HK2.out; omega
         case rel => exact ⟨(x3_2), (wrap64 (x12_1 + 1)), tc6_, tc6_, H', ⟨by have := HK1.out; have := HK2.out; omega⟩, by repeat (first | exact Drawn0.refl _ | apply Drawn0.step)⟩
     ·rw [if_neg c4] at H
      exact absurd H (by simp)
    ·rw [if_neg c3] at H
     exact absurd H (by simp)
   ·rw [if_neg c2] at H
    have c2b0 : decide (x12_1 < (l0.length : Int)) = false := decide_eq_false c2
    clear c2
    obtain rfl := Option.some.inj H
    go_wp2
    go_ret
    exact ⟨by first | rfl | (simp; done) | (simp [*]; done), by repeat (first | exact Drawn0.refl _ | apply Drawn0.step)⟩

/-! ### impl_InversionsOf: function 17 -/
def impl_InversionsOf.f (k : Nat) (l0 : List (List Int)) : Option (Int × Bool) := (impl_IsSignMatrix.f k l0).bind fun t101 => (if t101 = true then ((impl_inversions.f k l0).bind fun t102 => (some (t102, true))) else (some (0, false)))
set_option maxHeartbeats 8000000 in
set_option maxRecDepth 100000 in
theorem impl_InversionsOf.calls (k : Nat) (A0 : Option Addr) (c0 : Nat) (l0 : List (List Int)) (r1 : Int) (r2 : Bool) (w : World) (hr0 : Kd.C (Kd.slice 3 (Kd.int .i64)) w A0 l0.length l0) (hc0 : l0.length ≤ c0) (h : impl_InversionsOf.f k l0 = some (r1, r2)) :
  Calls Try.prog 17 #[.slice A0 l0.length c0] w fun e w' => e = .returned (.tuple #[.int .i64 r1, .bool r2]) ∧ Below w.heap.size w w' := by
 have HR0 := am_ hr0
 have HC0 := am_ hc0
 clear hr0 hc0
 have HB := am_ (Below.refl w.heap.size w)
 have H : ((impl_IsSignMatrix.f k l0).bind fun t101 => (if t101 = true then ((impl_inversions.f k l0).bind fun t102 => (some (t102, true))) else (some (0, false)))) = some (r1, r2) := h
 clear h
 replace H := Option.bind_eq_some_iff.mp H
 obtain ⟨t101, A20, H⟩ := H
 replace H : (if t101 = true then ((impl_inversions.f k l0).bind fun t102 => (some (t102, true))) else (some (0, false))) = some (r1, r2) := H
 have A2 := am_ A20
 clear A20
 by_cases c3 : t101 = true
 ·subst c3
  have H1 : ((impl_inversions.f k l0).bind fun t102 => (some (t102, true))) = some (r1, r2) := by rw [if_pos rfl] at H; exact H
  clear H
  have H := H1
  clear H1
  replace H := Option.bind_eq_some_iff.mp H
  obtain ⟨t102, A40, H⟩ := H
  replace H : (some (t102, true)) = some (r1, r2) := H
  have A4 := am_ A40
  clear A40
  simp only [Option.some.injEq, Prod.mk.injEq] at H
  obtain ⟨rfl, rfl⟩ := H
  go_enter Try.func17, Try.ntmps17
  go_wp2_with (first | ((with_reducible refine gate_callee (f := 13) rfl ?_); refine goesL_ (some 5) rfl rfl Try.func13 (by kernel_rfl) rfl #[.slice A0 l0.length c0] rfl tc0_ ?_; (with_reducible refine (impl_IsSignMatrix.calls k _ _ l0 true _ ?side1 ?side2 A2.out).mono ?_); (case side1 => exact tc8_); (case side2 => exact HC0.out); rintro e w5 ⟨rfl, hb⟩; refine ⟨_, rfl, ?_⟩; have n0_ := am_ (below_step tc1_ hb); clear HB; have HB := n0_; clear n0_; (try clear hb)) | ((with_reducible refine gate_callee (f := 55) rfl ?_); refine goesL_ (some 8) rfl rfl Try.func55 (by kernel_rfl) rfl #[.slice A0 l0.length c0] rfl tc0_ ?_; (with_reducible refine (impl_inversions.calls k _ _ l0 t102 _ ?side1 ?side2 A4.out).mono ?_); (case side1 => exact tc13_); (case side2 => exact HC0.out); rintro e w' ⟨rfl, ⟨nd, rfl⟩⟩; refine ⟨_, rfl, ?_⟩))
  go_ret2
  exact ⟨by first | rfl | (simp [errW_none, errW_some] <;> rfl) | (simp [*, errW_none, errW_some] <;> rfl), by repeat (first | (with_reducible first | exact HB.out | apply below_alloc | apply pw_below_drewN | apply below_drew1) | exact HB.out)⟩
 ·replace c3 := Bool.eq_false_iff.mpr c3
  subst c3
  have H1 : (some (0, false)) = some (r1, r2) := by rw [if_neg (show ¬ (false = true) by decide)] at H; exact H
  clear H
  have H := H1
  clear H1
  simp only [Option.some.injEq, Prod.mk.injEq] at H
  obtain ⟨rfl, rfl⟩ := H
  go_enter Try.func17, Try.ntmps17
  go_wp2_with (first | ((with_reducible refine gate_callee (f := 13) rfl ?_); refine goesL_ (some 5) rfl rfl Try.func13 (by kernel_rfl) rfl #[.slice A0 l0.length c0] rfl tc0_ ?_; (with_reducible refine (impl_IsSignMatrix.calls k _ _ l0 false _ ?side1 ?side2 A2.out).mono ?_); (case side1 => exact tc8_); (case side2 => exact HC0.out); rintro e w6 ⟨rfl, hb⟩; refine ⟨_, rfl, ?_⟩; have n0_ := am_ (below_step tc1_ hb); clear HB; have HB := n0_; clear n0_; (try clear hb)))
  go_ret2
  exact ⟨by first | rfl | (simp [errW_none, errW_some] <;> rfl) | (simp [*, errW_none, errW_some] <;> rfl), by repeat (first | (with_reducible first | exact HB.out | apply below_alloc | apply pw_below_drewN | apply below_drew1) | exact HB.out)⟩

/-! ### impl_countOf: function 56 -/
mutual
def impl_countOf.l0 : Nat → Int → Int → List (List Int) → Int → Int → Option (Int)
 | 0, _, _, _, _, _ => none
 | k + 1, x1, x5, x10, x11, x12 => if x12 < x11 then (if 0 ≤ x12 then (if x12 < (x10.length : Int) then (impl_countOf.l1 k x1 x5 x10 x11 x12 (rd_L3 x10 x12) ((rd_L3 x10 x12).length : Int) 0) else (none)) else (none)) else (some x5)
def impl_countOf.l1 : Nat → Int → Int → List (List Int) → Int → Int → List Int → Int → Int → Option (Int)
 | 0, _, _, _, _, _, _, _, _ => none
 | k + 1, x1, x5, x10, x11, x12, x16, x17, x18 => if x18 < x17 then (if 0 ≤ x18 then (if x18 < (x16.length : Int) then ((impl_bit.f ((rd x16 x18) == x1)).bind fun t103 => (impl_countOf.l1 k x1 (wrap64 (x5 + t103)) x10 x11 x12 x16 x17 (wrap64 (x18 + 1)))) else (none)) else (none)) else (impl_countOf.l0 k x1 x5 x10 x11 (wrap64 (x12 + 1)))
end
def impl_countOf.f (k : Nat) (l0 : List (List Int)) (a1 : Int) : Option (Int) := impl_countOf.l0 k a1 0 l0 (l0.length : Int) 0
set_option maxHeartbeats 8000000 in
set_option maxRecDepth 100000 in
theorem impl_countOf.calls (k : Nat) (A0 : Option Addr) (c0 : Nat) (l0 : List (List Int)) (a1 : Int) (r : Int) (w : World) (hr0 : Kd.C (Kd.slice 3 (Kd.int .i64)) w A0 l0.length l0) (hc0 : l0.length ≤ c0) (h : impl_countOf.f k l0 a1 = some r) :
  Calls Try.prog 56 #[.slice A0 l0.length c0, .int .i64 a1] w fun e w' => e = .returned (.int .i64 r) ∧ Drawn0 w w' := by
 have HR0 := am_ hr0
 have HC0 := am_ hc0
 clear hr0 hc0
 have H : (impl_countOf.l0 k a1 0 l0 (l0.length : Int) 0) = some r := h
 clear h
 have H' := am_ H
 clear H
 go_enter Try.func56, Try.ntmps56
 go_wp2
 go_loopg [5, 12] k (fun kq v5 v12 w' => ∃ (x5_1 : Int) (x12_1 : Int), v5 = .int .i64 x5_1 ∧ v12 = .int .i64 x12_1 ∧ Aside0 (impl_countOf.l0 kq a1 x5_1 l0 (l0.length : Int) x12_1 = some r) ∧ Aside0 (kq ≤ k) ∧ Drawn0 w w')
 case atStart => exact ⟨(0), (0), tc6_, tc6_, H', ⟨Nat.le_refl _⟩, by repeat (first | exact Drawn0.refl _ | apply Drawn0.step)⟩
 case round =>
  clear H'
  try clear p2
  obtain ⟨x5_1, x12_1, rfl, rfl, HA, HK1, ⟨m1, rfl⟩⟩ := hrel
  cases gk with
  | zero => exact absurd HA.out (by simp [impl_countOf.l0])
  | succ k1 =>
   have H := HA.out
   clear HA
   simp only [impl_countOf.l0] at H
   by_cases c3 : x12_1 < (l0.length : Int)
   ·rw [if_pos c3] at H
    have c3b0 : decide (x12_1 < (l0.length : Int)) = true := decide_eq_true c3
    clear c3
    by_cases c4 : 0 ≤ x12_1
    ·rw [if_pos c4] at H
     have c4b0 : decide (0 ≤ x12_1) = true := decide_eq_true c4
     clear c4
     by_cases c5 : x12_1 < (l0.length : Int)
     ·rw [if_pos c5] at H
      have c5b0 : decide (x12_1 < (l0.length : Int)) = true := decide_eq_true c5
      clear c5
      have H' := am_ H
      clear H
      have p101 : 0 ≤ (x12_1 : Int) := of_decide_eq_true tc2_
      have q101 : x12_1 < (l0.length : Int) := of_decide_eq_true tc2_
      obtain ⟨ad101, A101_0, c101_0, e101, hx101_0, hl101_0, hi101_0⟩ := at_L3 HR0.out x12_1 p101 q101
      cases e101
      have HR101_0 := am_ hi101_0
      have HC101_0 := am_ hl101_0
      clear hi101_0 hl101_0
      replace p101 := eq_true p101
      replace q101 := eq_true q101
      go_wp2
      go_loopg [5, 18] k1 (fun kq v5 v18 w' => ∃ (x5_2 : Int) (x18_2 : Int), v5 = .int .i64 x5_2 ∧ v18 = .int .i64 x18_2 ∧ Aside0 (impl_countOf.l1 kq a1 x5_2 l0 (l0.length : Int) x12_1 (rd_L3 l0 x12_1) ((rd_L3 l0 x12_1).length : Int) x18_2 = some r) ∧ Aside0 (kq ≤ k1) ∧ Drawn0 w w')
      case atStart => exact ⟨(x5_1), (0), tc6_, tc6_, H', ⟨Nat.le_refl _⟩, by repeat (first | exact Drawn0.refl _ | apply Drawn0.step)⟩
      case round =>
       clear H'
       try clear c1
       try clear p1
       try clear q1
       try clear hx1
       try clear p2
       try clear c3
       try clear c3b0
       try clear c4
       try clear c4b0
       try clear c5
       try clear c5b0
       try clear hx101_0
       try clear p101
       try clear p2
       try clear q101
       obtain ⟨x5_2, x18_2, rfl, rfl, HA, HK2, ⟨m2, rfl⟩⟩ := hrel
       cases gk with
       | zero => exact absurd HA.out (by simp [impl_countOf.l1])
       | succ k2 =>
        have H := HA.out
        clear HA
        simp only [impl_countOf.l1] at H
        by_cases c6 : x18_2 < ((rd_L3 l0 x12_1).length : Int)
        ·rw [if_pos c6] at H
         have c6b0 : decide (x18_2 < ((rd_L3 l0 x12_1).length : Int)) = true := decide_eq_true c6
         clear c6
         by_cases c7 : 0 ≤ x18_2
         ·rw [if_pos c7] at H
          have c7b0 : decide (0 ≤ x18_2) = true := decide_eq_true c7
          clear c7
          by_cases c8 : x18_2 < ((rd_L3 l0 x12_1).length : Int)
          ·rw [if_pos c8] at H
           have c8b0 : decide (x18_2 < ((rd_L3 l0 x12_1).length : Int)) = true := decide_eq_true c8
           clear c8
           replace H := Option.bind_eq_some_iff.mp H
           obtain ⟨t103, A90, H⟩ := H
           replace H : (impl_countOf.l1 k2 a1 (wrap64 (x5_2 + t103)) l0 (l0.length : Int) x12_1 (rd_L3 l0 x12_1) ((rd_L3 l0 x12_1).length : Int) (wrap64 (x18_2 + 1))) = some r := H
           have A9 := am_ A90
           clear A90
           have H' := am_ H
           clear H
           have p102 : 0 ≤ (x18_2 : Int) := of_decide_eq_true tc2_
           have q102 : x18_2 < ((rd_L3 l0 x12_1).length : Int) := of_decide_eq_true tc2_
           obtain ⟨ad102, e102, hx102_0⟩ := Kd.at_int HR101_0.out x18_2 p102 q102
           cases e102
           replace p102 := eq_true p102
           replace q102 := eq_true q102
           go_wp2_with (first | ((with_reducible refine gate_callee (f := 50) rfl ?_); refine goesL_ (some 26) rfl rfl Try.func50 (by kernel_rfl) rfl #[.bool ((rd (rd_L3 l0 x12_1) x18_2) == a1)] rfl tc0_ ?_; (with_reducible refine (impl_bit.calls ((rd (rd_L3 l0 x12_1) x18_2) == a1) t103 _ A9.out).mono ?_); rintro e w' ⟨rfl, ⟨nd, rfl⟩⟩; refine ⟨_, rfl, ?_⟩))
           go_roundg k2
           case measure => have := HK1.out; have := HK2.out; omega
           case rel => exact ⟨(wrap64 (x5_2 + t103)), (wrap64 (x18_2 + 1)), tc6_, tc6_, H', ⟨by have := HK1.out; have := HK2.out; omega⟩, by repeat (first | exact Drawn0.refl _ | apply Drawn0.step)⟩
          ·rw [if_neg c8] at H
           exact absurd H (by simp)
         ·rw [if_neg c7] at H
          exact absurd H (by simp)
        ·rw [if_neg c6] at H
         have c6b0 : decide (x18_2 < ((rd_L3 l0 x12_1).length : Int)) = false := decide_eq_false c6
         clear c6
         have H' := am_ H
         clear H
         go_wp2
         go_roundg k2
         case measure => have := HK1.out; have := HK2.out; omega
         case rel => exact ⟨(x5_2), (wrap64 (x12_1 + 1)), tc6_, tc6_, H', ⟨by have := HK1.out; have := HK2.out; omega⟩, by repeat (first | exact Drawn0.refl _ | apply Drawn0.step)⟩
     ·rw [if_neg c5] at H
      exact absurd H (by simp)
    ·rw [if_neg c4] at H
     exact absurd H (by simp)
   ·rw [if_neg c3] at H
    have c3b0 : decide (x12_1 < (l0.length : Int)) = false := decide_eq_false c3
    clear c3
    obtain rfl := Option.some.inj H
    go_wp2
    go_ret
    exact ⟨by first | rfl | (simp; done) | (simp [*]; done), by repeat (first | exact Drawn0.refl _ | apply Drawn0.step)⟩

/-! ### impl_MinusOnes: function 18 -/
def impl_MinusOnes.f (k : Nat) (l0 : List (List Int)) : Option (Int × Bool) := (impl_IsSignMatrix.f k l0).bind fun t101 => (if t101 = true then ((impl_countOf.f k l0 (-1)).bind fun t102 => (some (t102, true))) else (some (0, false)))
set_option maxHeartbeats 8000000 in
set_option maxRecDepth 100000 in
theorem impl_MinusOnes.calls (k : Nat) (A0 : Option Addr) (c0 : Nat) (l0 : List (List Int)) (r1 : Int) (r2 : Bool) (w : World) (hr0 : Kd.C (Kd.slice 3 (Kd.int .i64)) w A0 l0.length l0) (hc0 : l0.length ≤ c0) (h : impl_MinusOnes.f k l0 = some (r1, r2)) :
  Calls Try.prog 18 #[.slice A0 l0.length c0] w fun e w' => e = .returned (.tuple #[.int .i64 r1, .bool r2]) ∧ Below w.heap.size w w' := by
 have HR0 := am_ hr0
 have HC0 := am_ hc0
 clear hr0 hc0
 have HB := am_ (Below.refl w.heap.size w)
 have H : ((impl_IsSignMatrix.f k l0).bind fun t101 => (if t101 = true then ((impl_countOf.f k l0 (-1)).bind fun t102 => (some (t102, true))) else (some (0, false)))) = some (r1, r2) := h
 clear h
 replace H := Option.bind_eq_some_iff.mp H
 obtain ⟨t101, A20, H⟩ := H
 replace H : (if t101 = true then ((impl_countOf.f k l0 (-1)).bind fun t102 => (some (t102, true))) else (some (0, false))) = some (r1, r2) := H
 have A2 := am_ A20
 clear A20
 by_cases c3 : t101 = true
 ·subst c3
  have H1 : ((impl_countOf.f k l0 (-1)).bind fun t102 => (some (t102, true))) = some (r1, r2) := by rw [if_pos rfl] at H; exact H
  clear H
  have H := H1
  clear H1
  replace H := Option.bind_eq_some_iff.mp H
  obtain ⟨t102, A40, H⟩ := H
  replace H : (some (t102, true)) = some (r1, r2) := H
  have A4 := am_ A40
  clear A40
  simp only [Option.some.injEq, Prod.mk.injEq] at H
  obtain ⟨rfl, rfl⟩ := H
  go_enter Try.func18, Try.ntmps18
  go_wp2_with (first | ((with_reducible refine gate_callee (f := 13) rfl ?_); refine goesL_ (some 5) rfl rfl Try.func13 (by kernel_rfl) rfl #[.slice A0 l0.length c0] rfl tc0_ ?_; (with_reducible refine (impl_IsSignMatrix.calls k _ _ l0 true _ ?side1 ?side2 A2.out).mono ?_); (case side1 => exact tc8_); (case side2 => exact HC0.out); rintro e w5 ⟨rfl, hb⟩; refine ⟨_, rfl, ?_⟩; have n0_ := am_ (below_step tc1_ hb); clear HB; have HB := n0_; clear n0_; (try clear hb)) | ((with_reducible refine gate_callee (f := 56) rfl ?_); refine goesL_ (some 8) rfl rfl Try.func56 (by kernel_rfl) rfl #[.slice A0 l0.length c0, .int .i64 (-1)] rfl tc0_ ?_; (with_reducible refine (impl_countOf.calls k _ _ l0 (-1) t102 _ ?side1 ?side2 A4.out).mono ?_); (case side1 => exact tc13_); (case side2 => exact HC0.out); rintro e w' ⟨rfl, ⟨nd, rfl⟩⟩; refine ⟨_, rfl, ?_⟩))
  go_ret2
  exact ⟨by first | rfl | (simp [errW_none, errW_some] <;> rfl) | (simp [*, errW_none, errW_some] <;> rfl), by repeat (first | (with_reducible first | exact HB.out | apply below_alloc | apply pw_below_drewN | apply below_drew1) | exact HB.out)⟩
 ·replace c3 := Bool.eq_false_iff.mpr c3
  subst c3
  have H1 : (some (0, false)) = some (r1, r2) := by rw [if_neg (show ¬ (false = true) by decide)] at H; exact H
  clear H
  have H := H1
  clear H1
  simp only [Option.some.injEq, Prod.mk.injEq] at H
  obtain ⟨rfl, rfl⟩ := H
  go_enter Try.func18, Try.ntmps18
  go_wp2_with (first | ((with_reducible refine gate_callee (f := 13) rfl ?_); refine goesL_ (some 5) rfl rfl Try.func13 (by kernel_rfl) rfl #[.slice A0 l0.length c0] rfl tc0_ ?_; (with_reducible refine (impl_IsSignMatrix.calls k _ _ l0 false _ ?side1 ?side2 A2.out).mono ?_); (case side1 => exact tc8_); (case side2 => exact HC0.out); rintro e w6 ⟨rfl, hb⟩; refine ⟨_, rfl, ?_⟩; have n0_ := am_ (below_step tc1_ hb); clear HB; have HB := n0_; clear n0_; (try clear hb)))
  go_ret2
  exact ⟨by first | rfl | (simp [errW_none, errW_some] <;> rfl) | (simp [*, errW_none, errW_some] <;> rfl), by repeat (first | (with_reducible first | exact HB.out | apply below_alloc | apply pw_below_drewN | apply below_drew1) | exact HB.out)⟩

/-! ### laws_uSum: function 19 -/
def laws_uSum.l0 : Nat → Int → List Int → Int → Int → Option (Int)
 | 0, _, _, _, _ => none
 | k + 1, x3, x6, x7, x8 => if x8 < x7 then (if 0 ≤ x8 then (if x8 < (x6.length : Int) then (laws_uSum.l0 k (wrap64 (x3 + (rd x6 x8))) x6 x7 (wrap64 (x8 + 1))) else (none)) else (none)) else (some x3)
def laws_uSum.f (k : Nat) (l0 : List Int) : Option (Int) := laws_uSum.l0 k 0 l0 (l0.length : Int) 0
set_option maxHeartbeats 8000000 in
set_option maxRecDepth 100000 in
theorem laws_uSum.calls (k : Nat) (A0 : Option Addr) (c0 : Nat) (l0 : List Int) (r : Int) (w : World) (hr0 : Kd.C (Kd.int .i64) w A0 l0.length l0) (hc0 : l0.length ≤ c0) (h : laws_uSum.f k l0 = some r) :
  Calls Try.prog 19 #[.slice A0 l0.length c0] w fun e w' => e = .returned (.int .i64 r) ∧ Drawn0 w w' := by
 have HR0 := am_ hr0
 have HC0 := am_ hc0
 clear hr0 hc0
 have H : (laws_uSum.l0 k 0 l0 (l0.length : Int) 0) = some r := h
 clear h
 have H' := am_ H
 clear H
 go_enter Try.func19, Try.ntmps19
 go_wp2
 go_loopg [3, 8] k (fun kq v3 v8 w' => ∃ (x3_1 : Int) (x8_1 : Int), v3 = .int .i64 x3_1 ∧ v8 = .int .i64 x8_1 ∧ Aside0 (laws_uSum.l0 kq x3_1 l0 (l0.length : Int) x8_1 = some r) ∧ Aside0 (kq ≤ k) ∧ Drawn0 w w')
 case atStart => exact ⟨(0), (0), tc6_, tc6_, H', ⟨Nat.le_refl _⟩, by repeat (first | exact Drawn0.refl _ | apply Drawn0.step)⟩
 case round =>
  clear H'
  try clear c1
  obtain ⟨x3_1, x8_1, rfl, rfl, HA, HK1, ⟨m1, rfl⟩⟩ := hrel
  cases gk with
  | zero => exact absurd HA.out (by simp [laws_uSum.l0])
  | succ k1 =>
   have H := HA.out
   clear HA
   simp only [laws_uSum.l0] at H
   by_cases c2 : x8_1 < (l0.length : Int)
   ·rw [if_pos c2] at H
    have c2b0 : decide (x8_1 < (l0.length : Int)) = true := decide_eq_true c2
    clear c2
    by_cases c3 : 0 ≤ x8_1
    ·rw [if_pos c3] at H
     have c3b0 : decide (0 ≤ x8_1) = true := decide_eq_true c3
     clear c3
     by_cases c4 : x8_1 < (l0.length : Int)
     ·rw [if_pos c4] at H
      have c4b0 : decide (x8_1 < (l0.length : Int)) = true := decide_eq_true c4
      clear c4
      have H' := am_ H
      clear H
      have p101 : 0 ≤ (x8_1 : Int) := of_decide_eq_true tc2_
      have q101 : x8_1 < (l0.length : Int) := of_decide_eq_true tc2_
      obtain ⟨ad101, e101, hx101_0⟩ := Kd.at_int HR0.out x8_1 p101 q101
      cases e101
      replace p101 := eq_true p101
      replace q101 := eq_true q101
      go_wp2
      go_roundg k1
      case measure => have := HK1.out; omega
      case rel => exact ⟨(wrap64 (x3_1 + (rd l0 x8_1))), (wrap64 (x8_1 + 1)), tc6_, tc6_, H', ⟨by have := HK1.out; omega⟩, by repeat (first | exact Drawn0.refl _ | apply Drawn0.step)⟩
     ·rw [if_neg c4] at H
      exact absurd H (by simp)
    ·rw [if_neg c3] at H
     exact absurd H (by simp)
   ·rw [if_neg c2] at H
    have c2b0 : decide (x8_1 < (l0.length : Int)) = false := decide_eq_false c2
    clear c2
    obtain rfl := Option.some.inj H
    go_wp2
    go_ret
    exact ⟨by first | rfl | (simp; done) | (simp [*]; done), by repeat (first | exact Drawn0.refl _ | apply Drawn0.step)⟩

end Go.Proofs.Ytkfoockclldieaa.X
