-- Written by a program of this session (wip/xprint.py) that drives the kit's print; the contracts of what it does not take are this session's own.
import Derived.Test.YthpnfjdpomadaaaCFnExactMiddleOfx0
import Derived.Test.YthpnfjdpomadaaaCFnExactMiddleOfx1
import Derived.Test.YthpnfjdpomadaaaCFnExactMiddleOfx2
namespace Go.Proofs.Ythpnfjdpomadaaa.X
open Go.RowKit Go.Proofs.YthpnfjdpomadaaaW.PrintWords Go.Proofs.YthpnfjdpomadaaaW.PrintLast Go.Proofs.YthpnfjdpomadaaaW.PrintMore
attribute [local go_sem] max2_int min2_int max_two min_two max_three min_three max_four min_four   -- for this text's walks alone
set_option linter.unusedVariables false
set_option linter.unusedSimpArgs false

/-! ### impl_HasSymmetry: function 21 -/
def impl_HasSymmetry.f (k : Nat) (l0 : List (List Int)) (a1 : Int) : Option (Bool × Bool) := (impl_IsSignMatrix.f k l0).bind fun t101 => (if t101 = true then ((impl_isKind.f a1).bind fun t102 => (if t102 = true then ((impl_hasKind.f k l0 a1).bind fun t103 => (some (t103, true))) else (some (false, false)))) else (some (false, false)))
theorem impl_HasSymmetry.mono : ∀ a0 a1  k, LeO (impl_HasSymmetry.f k a0 a1) (impl_HasSymmetry.f (k + 1) a0 a1) := by
  intro a0 a1 k
  unfold impl_HasSymmetry.f
  repeat' first
      | (with_reducible exact impl_IsSignMatrix.mono _ _)
      | (with_reducible exact impl_hasKind.mono _ _ _)
      | (with_reducible exact LeO.refl _)
      | (with_reducible exact LeO.none _)
      | (with_reducible refine LeO.ite ?_ ?_)
      | (with_reducible refine LeO.bind ?_ (fun _ => ?_))
      | exact impl_IsSignMatrix.mono _ _
      | exact impl_hasKind.mono _ _ _
      | exact LeO.none _
      | refine LeO.ite ?_ ?_
      | refine LeO.bind ?_ (fun _ => ?_)
set_option maxHeartbeats 8000000 in
set_option maxRecDepth 100000 in
theorem impl_HasSymmetry.calls (k : Nat) (A0 : Option Addr) (c0 : Nat) (l0 : List (List Int)) (a1 : Int) (r1 : Bool) (r2 : Bool) (w : World) (hr0 : Kd.C (Kd.slice 3 (Kd.int .i64)) w A0 l0.length l0) (hc0 : l0.length ≤ c0) (h : impl_HasSymmetry.f k l0 a1 = some (r1, r2)) :
    Calls Try.prog 21 #[.slice A0 l0.length c0, .int .i64 a1] w fun e w' => e = .returned (.tuple #[.bool r1, .bool r2]) ∧ Below w.heap.size w w' := by
  have HR0 := Aside0.mk hr0
  have HC0 := Aside0.mk hc0
  clear hr0 hc0
  have HB := Aside0.mk (Below.refl w.heap.size w)
  have H : ((impl_IsSignMatrix.f k l0).bind fun t101 => (if t101 = true then ((impl_isKind.f a1).bind fun t102 => (if t102 = true then ((impl_hasKind.f k l0 a1).bind fun t103 => (some (t103, true))) else (some (false, false)))) else (some (false, false)))) = some (r1, r2) := h
  clear h
  replace H := Option.bind_eq_some_iff.mp H
  obtain ⟨t101, A30, H⟩ := H
  replace H : (if t101 = true then ((impl_isKind.f a1).bind fun t102 => (if t102 = true then ((impl_hasKind.f k l0 a1).bind fun t103 => (some (t103, true))) else (some (false, false)))) else (some (false, false))) = some (r1, r2) := H
  have A3 := Aside0.mk A30
  clear A30
  by_cases c4 : t101 = true
  · subst c4
    have H1 : ((impl_isKind.f a1).bind fun t102 => (if t102 = true then ((impl_hasKind.f k l0 a1).bind fun t103 => (some (t103, true))) else (some (false, false)))) = some (r1, r2) := by rw [if_pos rfl] at H; exact H
    clear H
    have H := H1
    clear H1
    replace H := Option.bind_eq_some_iff.mp H
    obtain ⟨t102, A50, H⟩ := H
    replace H : (if t102 = true then ((impl_hasKind.f k l0 a1).bind fun t103 => (some (t103, true))) else (some (false, false))) = some (r1, r2) := H
    have A5 := Aside0.mk A50
    clear A50
    by_cases c6 : t102 = true
    · subst c6
      have H1 : ((impl_hasKind.f k l0 a1).bind fun t103 => (some (t103, true))) = some (r1, r2) := by rw [if_pos rfl] at H; exact H
      clear H
      have H := H1
      clear H1
      replace H := Option.bind_eq_some_iff.mp H
      obtain ⟨t103, A70, H⟩ := H
      replace H : (some (t103, true)) = some (r1, r2) := H
      have A7 := Aside0.mk A70
      clear A70
      simp only [Option.some.injEq, Prod.mk.injEq] at H
      obtain ⟨rfl, rfl⟩ := H
      go_enter Try.func21, Try.ntmps21
      go_wp2_with (first | ((with_reducible refine gate_callee (f := 73) rfl ?_); refine goesL_ (some 7) rfl rfl Try.func73 (by kernel_rfl) rfl #[.slice A0 l0.length c0] rfl (by (try simp only [List.map_toArray, List.map_cons, List.map_nil]); first | done | rfl | (simp only [List.length_drop, List.length_take]; rfl)) ?_; (with_reducible refine (impl_IsSignMatrix.calls k _ _ l0 true _ ?side1 ?side2 A3.out).mono ?_); (case side1 => repeat (first | exact HR0.out | (with_reducible refine Kd.C_alloc ?_ _) | (with_reducible refine Kd.C_drewN ?_ _) | (with_reducible refine Kd.C_drew ?_))); (case side2 => exact HC0.out); rintro e w8 ⟨rfl, hb⟩; refine ⟨_, rfl, ?_⟩; have n0_ := Aside0.mk (below_step (by repeat (first | (with_reducible first | exact HB.out | apply below_alloc | apply pw_below_drewN | apply below_drew1) | exact HB.out)) hb); clear HB; have HB := n0_; clear n0_; (try clear hb); (try clear hb2); (try clear hk); (try clear hi)) | (go_at_call 66; (with_reducible refine (impl_isKind.calls a1 true _ A5.out).mono ?_); rintro e w' ⟨rfl, ⟨nd, rfl⟩⟩) | ((with_reducible refine gate_callee (f := 68) rfl ?_); refine goesL_ (some 16) rfl rfl Try.func68 (by kernel_rfl) rfl #[.slice A0 l0.length c0, .int .i64 a1] rfl (by (try simp only [List.map_toArray, List.map_cons, List.map_nil]); first | done | rfl | (simp only [List.length_drop, List.length_take]; rfl)) ?_; (with_reducible refine (impl_hasKind.calls k _ _ l0 a1 t103 _ ?side1 ?side2 A7.out).mono ?_); (case side1 => repeat (first | exact (Kd.C_below HR0.out (by repeat (first | (with_reducible first | exact HB.out | apply below_alloc | apply pw_below_drewN | apply below_drew1) | exact HB.out))) | (with_reducible refine Kd.C_alloc ?_ _) | (with_reducible refine Kd.C_drewN ?_ _) | (with_reducible refine Kd.C_drew ?_))); (case side2 => exact HC0.out); rintro e w9 ⟨rfl, hb⟩; refine ⟨_, rfl, ?_⟩; have n0_ := Aside0.mk (below_step (by repeat (first | (with_reducible first | exact HB.out | apply below_alloc | apply pw_below_drewN | apply below_drew1) | exact HB.out)) hb); clear HB; have HB := n0_; clear n0_; (try clear hb); (try clear hb2); (try clear hk); (try clear hi)))
      go_ret2
      exact ⟨by first | rfl | (simp [errW_none, errW_some] <;> rfl) | (simp [*, errW_none, errW_some] <;> rfl), by repeat (first | (with_reducible first | exact HB.out | apply below_alloc | apply pw_below_drewN | apply below_drew1) | exact HB.out)⟩
    · replace c6 := Bool.eq_false_iff.mpr c6
      subst c6
      have H1 : (some (false, false)) = some (r1, r2) := by rw [if_neg (show ¬ (false = true) by decide)] at H; exact H
      clear H
      have H := H1
      clear H1
      simp only [Option.some.injEq, Prod.mk.injEq] at H
      obtain ⟨rfl, rfl⟩ := H
      go_enter Try.func21, Try.ntmps21
      go_wp2_with (first | ((with_reducible refine gate_callee (f := 73) rfl ?_); refine goesL_ (some 7) rfl rfl Try.func73 (by kernel_rfl) rfl #[.slice A0 l0.length c0] rfl (by (try simp only [List.map_toArray, List.map_cons, List.map_nil]); first | done | rfl | (simp only [List.length_drop, List.length_take]; rfl)) ?_; (with_reducible refine (impl_IsSignMatrix.calls k _ _ l0 true _ ?side1 ?side2 A3.out).mono ?_); (case side1 => repeat (first | exact HR0.out | (with_reducible refine Kd.C_alloc ?_ _) | (with_reducible refine Kd.C_drewN ?_ _) | (with_reducible refine Kd.C_drew ?_))); (case side2 => exact HC0.out); rintro e w10 ⟨rfl, hb⟩; refine ⟨_, rfl, ?_⟩; have n0_ := Aside0.mk (below_step (by repeat (first | (with_reducible first | exact HB.out | apply below_alloc | apply pw_below_drewN | apply below_drew1) | exact HB.out)) hb); clear HB; have HB := n0_; clear n0_; (try clear hb); (try clear hb2); (try clear hk); (try clear hi)) | (go_at_call 66; (with_reducible refine (impl_isKind.calls a1 false _ A5.out).mono ?_); rintro e w' ⟨rfl, ⟨nd, rfl⟩⟩))
      go_ret2
      exact ⟨by first | rfl | (simp [errW_none, errW_some] <;> rfl) | (simp [*, errW_none, errW_some] <;> rfl), by repeat (first | (with_reducible first | exact HB.out | apply below_alloc | apply pw_below_drewN | apply below_drew1) | exact HB.out)⟩
  · replace c4 := Bool.eq_false_iff.mpr c4
    subst c4
    have H1 : (some (false, false)) = some (r1, r2) := by rw [if_neg (show ¬ (false = true) by decide)] at H; exact H
    clear H
    have H := H1
    clear H1
    simp only [Option.some.injEq, Prod.mk.injEq] at H
    obtain ⟨rfl, rfl⟩ := H
    go_enter Try.func21, Try.ntmps21
    go_wp2_with (first | ((with_reducible refine gate_callee (f := 73) rfl ?_); refine goesL_ (some 7) rfl rfl Try.func73 (by kernel_rfl) rfl #[.slice A0 l0.length c0] rfl (by (try simp only [List.map_toArray, List.map_cons, List.map_nil]); first | done | rfl | (simp only [List.length_drop, List.length_take]; rfl)) ?_; (with_reducible refine (impl_IsSignMatrix.calls k _ _ l0 false _ ?side1 ?side2 A3.out).mono ?_); (case side1 => repeat (first | exact HR0.out | (with_reducible refine Kd.C_alloc ?_ _) | (with_reducible refine Kd.C_drewN ?_ _) | (with_reducible refine Kd.C_drew ?_))); (case side2 => exact HC0.out); rintro e w11 ⟨rfl, hb⟩; refine ⟨_, rfl, ?_⟩; have n0_ := Aside0.mk (below_step (by repeat (first | (with_reducible first | exact HB.out | apply below_alloc | apply pw_below_drewN | apply below_drew1) | exact HB.out)) hb); clear HB; have HB := n0_; clear n0_; (try clear hb); (try clear hb2); (try clear hk); (try clear hi)))
    go_ret2
    exact ⟨by first | rfl | (simp [errW_none, errW_some] <;> rfl) | (simp [*, errW_none, errW_some] <;> rfl), by repeat (first | (with_reducible first | exact HB.out | apply below_alloc | apply pw_below_drewN | apply below_drew1) | exact HB.out)⟩

/-! ### impl_MiddleOf: function 30 -/
def impl_MiddleOf.f (k : Nat) (l0 : List (List Int)) : Option (List Int × Bool) := (impl_HasSymmetry.f k l0 2).bind fun bt101 => (if bt101.1 = true then ((impl_column.f k l0 (wrap64 ((l0.length : Int) / 2))).bind fun t103 => (some (t103, true))) else (some (([] : List Int), false)))
theorem impl_MiddleOf.mono : ∀ a0  k, LeO (impl_MiddleOf.f k a0) (impl_MiddleOf.f (k + 1) a0) := by
  intro a0 k
  unfold impl_MiddleOf.f
  repeat' first
      | (with_reducible exact impl_HasSymmetry.mono _ _ _)
      | (with_reducible exact impl_column.mono _ _ _)
      | (with_reducible exact LeO.refl _)
      | (with_reducible exact LeO.none _)
      | (with_reducible refine LeO.ite ?_ ?_)
      | (with_reducible refine LeO.bind ?_ (fun _ => ?_))
      | exact impl_HasSymmetry.mono _ _ _
      | exact impl_column.mono _ _ _
      | exact LeO.none _
      | refine LeO.ite ?_ ?_
      | refine LeO.bind ?_ (fun _ => ?_)
set_option maxHeartbeats 8000000 in
set_option maxRecDepth 100000 in
theorem impl_MiddleOf.calls (k : Nat) (A0 : Option Addr) (c0 : Nat) (l0 : List (List Int)) (r1 : List Int) (r2 : Bool) (w : World) (hr0 : Kd.C (Kd.slice 3 (Kd.int .i64)) w A0 l0.length l0) (hc0 : l0.length ≤ c0) (h : impl_MiddleOf.f k l0 = some (r1, r2)) :
    Calls Try.prog 30 #[.slice A0 l0.length c0] w fun e w' => ∃ v0_ : Value, e = .returned (.tuple #[v0_, .bool r2]) ∧ Kd.R (Kd.int .i64) 3 w' w.heap.size (fun _ => True) v0_ r1 ∧ Below w.heap.size w w' := by
  have HR0 := Aside0.mk hr0
  have HC0 := Aside0.mk hc0
  clear hr0 hc0
  have HB := Aside0.mk (Below.refl w.heap.size w)
  have H : ((impl_HasSymmetry.f k l0 2).bind fun bt101 => (if bt101.1 = true then ((impl_column.f k l0 (wrap64 ((l0.length : Int) / 2))).bind fun t103 => (some (t103, true))) else (some (([] : List Int), false)))) = some (r1, r2) := h
  clear h
  replace H := Option.bind_eq_some_iff.mp H
  obtain ⟨⟨t101, t102⟩, A20, H⟩ := H
  replace H : (if t101 = true then ((impl_column.f k l0 (wrap64 ((l0.length : Int) / 2))).bind fun t103 => (some (t103, true))) else (some (([] : List Int), false))) = some (r1, r2) := H
  have A2 := Aside0.mk A20
  clear A20
  by_cases c3 : t101 = true
  · subst c3
    have H1 : ((impl_column.f k l0 (wrap64 ((l0.length : Int) / 2))).bind fun t103 => (some (t103, true))) = some (r1, r2) := by rw [if_pos rfl] at H; exact H
    clear H
    have H := H1
    clear H1
    replace H := Option.bind_eq_some_iff.mp H
    obtain ⟨t103, A40, H⟩ := H
    replace H : (some (t103, true)) = some (r1, r2) := H
    have A4 := Aside0.mk A40
    clear A40
    simp only [Option.some.injEq, Prod.mk.injEq] at H
    obtain ⟨rfl, rfl⟩ := H
    go_enter Try.func30, Try.ntmps30
    go_wp2_with (first | ((with_reducible refine gate_callee (f := 21) rfl ?_); refine goesL_ (some 8) rfl rfl Try.func21 (by kernel_rfl) rfl #[.slice A0 l0.length c0, .int .i64 2] rfl (by (try simp only [List.map_toArray, List.map_cons, List.map_nil]); first | done | rfl | (simp only [List.length_drop, List.length_take]; rfl)) ?_; (with_reducible refine (impl_HasSymmetry.calls k _ _ l0 2 true t102 _ ?side1 ?side2 A2.out).mono ?_); (case side1 => repeat (first | exact HR0.out | (with_reducible refine Kd.C_alloc ?_ _) | (with_reducible refine Kd.C_drewN ?_ _) | (with_reducible refine Kd.C_drew ?_))); (case side2 => exact HC0.out); rintro e w5 ⟨rfl, hb⟩; refine ⟨_, rfl, ?_⟩; have n0_ := Aside0.mk (below_step (by repeat (first | (with_reducible first | exact HB.out | apply below_alloc | apply pw_below_drewN | apply below_drew1) | exact HB.out)) hb); clear HB; have HB := n0_; clear n0_; (try clear hb); (try clear hb2); (try clear hk); (try clear hi)) | ((with_reducible refine gate_callee (f := 74) rfl ?_); refine goesL_ (some 17) rfl rfl Try.func74 (by kernel_rfl) rfl #[.slice A0 l0.length c0, .int .i64 (wrap64 ((l0.length : Int) / 2))] rfl (by (try simp only [List.map_toArray, List.map_cons, List.map_nil]); first | done | rfl | (simp only [List.length_drop, List.length_take]; rfl)) ?_; (with_reducible refine (impl_column.calls k _ _ l0 (wrap64 ((l0.length : Int) / 2)) t103 _ ?side1 ?side2 A4.out).mono ?_); (case side1 => repeat (first | exact (Kd.C_below HR0.out HB.out) | (with_reducible refine Kd.C_alloc ?_ _) | (with_reducible refine Kd.C_drewN ?_ _) | (with_reducible refine Kd.C_drew ?_))); (case side2 => exact HC0.out); rintro e w6 ⟨v104, rfl, ho0, hb⟩; refine ⟨_, rfl, ?_⟩; have n0_ := Aside0.mk (Kd.R_lower ho0 (below_size (by repeat (first | (with_reducible first | exact HB.out | apply below_alloc | apply pw_below_drewN | apply below_drew1) | exact HB.out)))); have n1_ := Aside0.mk (below_step (by repeat (first | (with_reducible first | exact HB.out | apply below_alloc | apply pw_below_drewN | apply below_drew1) | exact HB.out)) hb); clear HB; have HO105 := n0_; have HB := n1_; clear n0_ n1_; (try clear hb); (try clear hb2); (try clear hk); (try clear hi); (try clear ho0)))
    go_ret2
    exact ⟨_, by first | rfl | (simp [errW_none, errW_some] <;> rfl) | (simp [*, errW_none, errW_some] <;> rfl), by (with_reducible repeat (first | apply Kd.R_alloc | apply Kd.R_drewN | apply Kd.R_drew)); exact HO105.out, by repeat (first | (with_reducible first | exact HB.out | apply below_alloc | apply pw_below_drewN | apply below_drew1) | exact HB.out)⟩
  · replace c3 := Bool.eq_false_iff.mpr c3
    subst c3
    have H1 : (some (([] : List Int), false)) = some (r1, r2) := by rw [if_neg (show ¬ (false = true) by decide)] at H; exact H
    clear H
    have H := H1
    clear H1
    simp only [Option.some.injEq, Prod.mk.injEq] at H
    obtain ⟨rfl, rfl⟩ := H
    go_enter Try.func30, Try.ntmps30
    go_wp2_with (first | ((with_reducible refine gate_callee (f := 21) rfl ?_); refine goesL_ (some 8) rfl rfl Try.func21 (by kernel_rfl) rfl #[.slice A0 l0.length c0, .int .i64 2] rfl (by (try simp only [List.map_toArray, List.map_cons, List.map_nil]); first | done | rfl | (simp only [List.length_drop, List.length_take]; rfl)) ?_; (with_reducible refine (impl_HasSymmetry.calls k _ _ l0 2 false t102 _ ?side1 ?side2 A2.out).mono ?_); (case side1 => repeat (first | exact HR0.out | (with_reducible refine Kd.C_alloc ?_ _) | (with_reducible refine Kd.C_drewN ?_ _) | (with_reducible refine Kd.C_drew ?_))); (case side2 => exact HC0.out); rintro e w7 ⟨rfl, hb⟩; refine ⟨_, rfl, ?_⟩; have n0_ := Aside0.mk (below_step (by repeat (first | (with_reducible first | exact HB.out | apply below_alloc | apply pw_below_drewN | apply below_drew1) | exact HB.out)) hb); clear HB; have HB := n0_; clear n0_; (try clear hb); (try clear hb2); (try clear hk); (try clear hi)))
    go_ret2
    exact ⟨_, by first | rfl | (simp [errW_none, errW_some] <;> rfl) | (simp [*, errW_none, errW_some] <;> rfl), by first | exact Kd.R_nil _ _ _ _ _ | exact Kd.N_nil _ _ _ _ _ | exact Kd.V_nil _ _ _ _ _ | exact Kd.Q_nil _ _ _ _ _ | exact Kd.S_nil _ _ _ _ _, by repeat (first | (with_reducible first | exact HB.out | apply below_alloc | apply pw_below_drewN | apply below_drew1) | exact HB.out)⟩

/-! ### laws_FnExactMiddleOf: function 7 (by hand) -/
/-- What the calls of this law answer: the plain law's part. -/
def laws_FnExactMiddleOf.Says (l0 : List (List Int)) : Prop :=
  ∃ k_1 s_1, laws_szIntSS.f k_1 l0 1048576 = some s_1 ∧ (0 ≤ s_1 → ∃ (k : Nat) (r1 : List Int) (r2 : Bool) (n_1 : Int) (y_1 : List (List Int)) (n_2 : Int) (y_2 : List Int), (laws_toIntSS.f k l0 = some l0) ∧ (spec_MiddleOf.f k l0 = some (r1, r2)) ∧ (impl_MiddleOf.f k l0 = some (r1, r2)) ∧ (laws_eqIntS.f k r1 r1 = some true) ∧ (laws_eqIntSS.f k l0 l0 = some true) ∧ (laws_markIntSS.f k l0 1 = some (n_1, y_1)) ∧ (0 ≤ n_1) ∧ (laws_markIntS.f k r1 1 = some (n_2, y_2)) ∧ (0 ≤ n_2) ∧ (laws_heldIntS.f k y_2 1 = some n_2))
/-- THE ONE PURE STATEMENT of laws_FnExactMiddleOf. -/
def laws_FnExactMiddleOf.Pure : Prop := ∀ (l0 : List (List Int)), l0.length ≤ maxLen → (∀ x ∈ l0, x.length ≤ maxLen ∧ ∀ n ∈ x, (Lit.int .i64 n).wf = true) → laws_FnExactMiddleOf.Says l0
set_option maxHeartbeats 4000000 in
set_option maxRecDepth 100000 in
theorem laws_FnExactMiddleOf.calls (A0 : Option Addr) (c0 : Nat) (l0 : List (List Int)) (w : World) (hr0 : Kd.C (Kd.slice 3 (Kd.int .i64)) w A0 l0.length l0) (hc0 : l0.length ≤ c0) (P : laws_FnExactMiddleOf.Says l0) :
    Calls Try.prog 7 #[.slice A0 l0.length c0] w fun e w' => e = .returned (.bool true) ∧ Below w.heap.size w w' := by
  have HB := Aside0.mk (Below.refl w.heap.size w)
  have HR0 := Aside0.mk hr0
  have HC0 := Aside0.mk hc0
  clear hr0 hc0
  unfold laws_FnExactMiddleOf.Says at P
  obtain ⟨k_1, s_1, G1, P⟩ := P
  go_enter Try.func7, Try.ntmps7
  go_wp2_with fail
  refine (laws_szIntSS.calls (w := _) (hr0 := (Kd.C_below HR0.out HB.out)) (hc0 := HC0.out) (h := G1)).mono ?_
  rintro e w1 ⟨rfl, hb⟩
  have HZ1 := Aside0.mk (hb.below.size)
  replace HB := Aside0.mk (below_step HB.out hb.below)
  clear hb
  by_cases c1g : s_1 < 0
  · have c1a : decide (s_1 < 0) = true := decide_eq_true c1g
    go_wp2
    go_ret
    exact ⟨rfl, HB.out⟩
  · have c1a : decide (s_1 < 0) = false := decide_eq_false c1g
    replace P := P (Int.not_lt.mp c1g)
    clear c1g
    obtain ⟨k, r1, r2, n_1, y_1, n_2, y_2, C0, C1, C2, C3, C4, C5, C6, C7, C8, C9⟩ := P
    have C6b : decide (n_1 < 0) = false := decide_eq_false (Int.not_lt.mpr C6)
    have C8b : decide (n_2 < 0) = false := decide_eq_false (Int.not_lt.mpr C8)
    have E1 : (r2 != r2) = false := by simp
    have E1m : (n_1 != n_1) = false := by simp
    have E1l : decide (n_1 = n_1) = true := by simp
    have E2m : (n_2 != n_2) = false := by simp
    have E2l : decide (n_2 = n_2) = true := by simp
    go_wp2_with fail
    refine (laws_toIntSS.calls (w := _) (hr0 := (Kd.C_below HR0.out HB.out)) (hc0 := HC0.out) (h := C0)).mono ?_
    rintro e w2 ⟨v2_0, rfl, ho0, hb⟩
    obtain ⟨A20, c20, rfl⟩ := Kd.S_slice ho0
    have HZ2 := Aside0.mk (hb.size)
    have HO20 := Aside0.mk (ObS.new_ ho0 HB.out)
    replace HB := Aside0.mk (below_step HB.out hb)
    clear hb ho0
    go_wp2_with fail
    refine (spec_MiddleOf.calls (w := _) (hr0 := (Kd.S_reads' HO20.out.2).2.2) (hc0 := (Kd.S_reads' HO20.out.2).2.1) (h := C1)).mono ?_
    rintro e w3 ⟨v3_0, rfl, ho0, hb⟩
    obtain ⟨A30, c30, rfl⟩ := Kd.R_slice ho0
    have HZ3 := Aside0.mk (hb.size)
    replace HO20 := Aside0.mk (HO20.out.later hb)
    have HO30 := Aside0.mk (ObR.new_ ho0 HB.out)
    replace HB := Aside0.mk (below_step HB.out hb)
    clear hb ho0
    go_wp2_with fail
    refine (laws_toIntSS.calls (w := _) (hr0 := (Kd.C_below HR0.out HB.out)) (hc0 := HC0.out) (h := C0)).mono ?_
    rintro e w4 ⟨v4_0, rfl, ho0, hb⟩
    obtain ⟨A40, c40, rfl⟩ := Kd.S_slice ho0
    have HZ4 := Aside0.mk (hb.size)
    replace HO30 := Aside0.mk (HO30.out.later hb)
    have HO40 := Aside0.mk (ObS.new_ ho0 HB.out)
    replace HB := Aside0.mk (below_step HB.out hb)
    clear hb ho0
    go_wp2_with fail
    refine (impl_MiddleOf.calls (w := _) (hr0 := (Kd.S_reads' HO40.out.2).2.2) (hc0 := (Kd.S_reads' HO40.out.2).2.1) (h := C2)).mono ?_
    rintro e w5 ⟨v5_0, rfl, ho0, hb⟩
    obtain ⟨A50, c50, rfl⟩ := Kd.R_slice ho0
    have HZ5 := Aside0.mk (hb.size)
    replace HO30 := Aside0.mk (HO30.out.later hb)
    replace HO40 := Aside0.mk (HO40.out.later hb)
    have HO50 := Aside0.mk (ObR.new_ ho0 HB.out)
    replace HB := Aside0.mk (below_step HB.out hb)
    clear hb ho0
    go_wp2_with fail
    refine (laws_eqIntS.calls (w := _) (hr0 := (Kd.R_reads' HO50.out.2).2.2) (hc0 := (Kd.R_reads' HO50.out.2).2.1) (hr1 := (Kd.R_reads' HO30.out.2).2.2) (hc1 := (Kd.R_reads' HO30.out.2).2.1) (h := C3)).mono ?_
    rintro e w6 ⟨rfl, hb⟩
    have HZ6 := Aside0.mk (hb.below.size)
    replace HO30 := Aside0.mk (HO30.out.later hb.below)
    replace HO40 := Aside0.mk (HO40.out.later hb.below)
    replace HO50 := Aside0.mk (HO50.out.later hb.below)
    replace HB := Aside0.mk (below_step HB.out hb.below)
    clear hb
    go_wp2_with fail
    refine (laws_toIntSS.calls (w := _) (hr0 := (Kd.C_below HR0.out HB.out)) (hc0 := HC0.out) (h := C0)).mono ?_
    rintro e w7 ⟨v7_0, rfl, ho0, hb⟩
    obtain ⟨A70, c70, rfl⟩ := Kd.S_slice ho0
    have HZ7 := Aside0.mk (hb.size)
    replace HO30 := Aside0.mk (HO30.out.later hb)
    replace HO40 := Aside0.mk (HO40.out.later hb)
    replace HO50 := Aside0.mk (HO50.out.later hb)
    have HO70 := Aside0.mk (ObS.new_ ho0 HB.out)
    replace HB := Aside0.mk (below_step HB.out hb)
    clear hb ho0
    go_wp2_with fail
    refine (laws_eqIntSS.calls (w := _) (hr0 := (Kd.S_reads' HO40.out.2).2.2) (hc0 := (Kd.S_reads' HO40.out.2).2.1) (hr1 := (Kd.S_reads' HO70.out.2).2.2) (hc1 := (Kd.S_reads' HO70.out.2).2.1) (h := C4)).mono ?_
    rintro e w8 ⟨rfl, hb⟩
    have HZ8 := Aside0.mk (hb.below.size)
    replace HO30 := Aside0.mk (HO30.out.later hb.below)
    replace HO40 := Aside0.mk (HO40.out.later hb.below)
    replace HO50 := Aside0.mk (HO50.out.later hb.below)
    replace HO70 := Aside0.mk (HO70.out.later hb.below)
    replace HB := Aside0.mk (below_step HB.out hb.below)
    clear hb
    go_wp2_with fail
    refine (laws_markIntSS.calls (w := _) (hB := HB.out) (ho0 := HO40.out.2) (h := C5)).mono ?_
    rintro e w9 ⟨rfl, ho0, hb, hk⟩
    obtain ⟨el1, _, _⟩ := Kd.S_reads' ho0
    have EL1 := Aside0.mk el1
    clear el1
    have HZ9 := Aside0.mk hk.1
    replace HO30 := Aside0.mk (HO30.out.kept_ hk (by have := HZ1.out; have := HZ2.out; have := HZ3.out; have := HZ4.out; have := HZ5.out; have := HZ6.out; have := HZ7.out; have := HZ8.out; have := HZ9.out; omega))
    replace HO40 := Aside0.mk (show ObS (Kd.slice 3 (Kd.int .i64)) 34 w w9 w3.heap.size w4.heap.size _ y_1 from ⟨Nat.le_trans HO40.out.1 hk.1, ho0⟩)
    replace HO50 := Aside0.mk (HO50.out.kept_ hk (by have := HZ1.out; have := HZ2.out; have := HZ3.out; have := HZ4.out; have := HZ5.out; have := HZ6.out; have := HZ7.out; have := HZ8.out; have := HZ9.out; omega))
    replace HO70 := Aside0.mk (HO70.out.kept_ hk (by have := HZ1.out; have := HZ2.out; have := HZ3.out; have := HZ4.out; have := HZ5.out; have := HZ6.out; have := HZ7.out; have := HZ8.out; have := HZ9.out; omega))
    replace HB := Aside0.mk hb
    clear ho0 hb hk
    go_wp2_with fail
    refine (laws_eqIntS.calls (w := _) (hr0 := (Kd.R_reads' HO50.out.2).2.2) (hc0 := (Kd.R_reads' HO50.out.2).2.1) (hr1 := (Kd.R_reads' HO30.out.2).2.2) (hc1 := (Kd.R_reads' HO30.out.2).2.1) (h := C3)).mono ?_
    rintro e w10 ⟨rfl, hb⟩
    have HZ10 := Aside0.mk (hb.below.size)
    replace HO30 := Aside0.mk (HO30.out.later hb.below)
    replace HO40 := Aside0.mk (HO40.out.later hb.below)
    replace HO50 := Aside0.mk (HO50.out.later hb.below)
    replace HO70 := Aside0.mk (HO70.out.later hb.below)
    replace HB := Aside0.mk (below_step HB.out hb.below)
    clear hb
    go_wp2_with fail
    refine (laws_markIntS.calls (w := _) (hB := HB.out) (ho0 := HO50.out.2) (h := C7)).mono ?_
    rintro e w11 ⟨rfl, ho0, hb, hk⟩
    replace ho0 := Kd.R_mono (Kd.R_tight rfl ho0) (fun k_ hk_ => HO50.out.2.1 k_ hk_.symm)
    obtain ⟨el2, _, _⟩ := Kd.R_reads' ho0
    have EL2 := Aside0.mk el2
    clear el2
    have HZ11 := Aside0.mk hk.1
    replace HO30 := Aside0.mk (HO30.out.kept_ hk (by have := HZ1.out; have := HZ2.out; have := HZ3.out; have := HZ4.out; have := HZ5.out; have := HZ6.out; have := HZ7.out; have := HZ8.out; have := HZ9.out; have := HZ10.out; have := HZ11.out; omega))
    replace HO40 := Aside0.mk (HO40.out.kept_ hk (by have := HZ1.out; have := HZ2.out; have := HZ3.out; have := HZ4.out; have := HZ5.out; have := HZ6.out; have := HZ7.out; have := HZ8.out; have := HZ9.out; have := HZ10.out; have := HZ11.out; omega))
    replace HO50 := Aside0.mk (show ObR (Kd.int .i64) 3 w w11 w4.heap.size w5.heap.size _ y_2 from ⟨Nat.le_trans HO50.out.1 hk.1, ho0⟩)
    replace HO70 := Aside0.mk (HO70.out.kept_ hk (by have := HZ1.out; have := HZ2.out; have := HZ3.out; have := HZ4.out; have := HZ5.out; have := HZ6.out; have := HZ7.out; have := HZ8.out; have := HZ9.out; have := HZ10.out; have := HZ11.out; omega))
    replace HB := Aside0.mk hb
    clear ho0 hb hk
    go_wp2_with fail
    refine calls_of_args (show (#[.slice A50 r1.length c50, .int .i64 1] : Array Value) = #[.slice A50 y_2.length c50, .int .i64 1] by rw [EL2.out]) ?_
    refine (laws_heldIntS.calls (w := _) (hr0 := (Kd.R_reads' HO50.out.2).2.2) (hc0 := (EL2.out ▸ (Kd.R_reads' HO50.out.2).2.1)) (h := C9)).mono ?_
    rintro e w12 ⟨rfl, hb⟩
    have HZ12 := Aside0.mk (hb.below.size)
    replace HO30 := Aside0.mk (HO30.out.later hb.below)
    replace HO40 := Aside0.mk (HO40.out.later hb.below)
    replace HO50 := Aside0.mk (HO50.out.later hb.below)
    replace HO70 := Aside0.mk (HO70.out.later hb.below)
    replace HB := Aside0.mk (below_step HB.out hb.below)
    clear hb
    go_wp2_with fail
    refine (laws_toIntSS.calls (w := _) (hr0 := (Kd.C_below HR0.out HB.out)) (hc0 := HC0.out) (h := C0)).mono ?_
    rintro e w13 ⟨v13_0, rfl, ho0, hb⟩
    obtain ⟨A130, c130, rfl⟩ := Kd.S_slice ho0
    have HZ13 := Aside0.mk (hb.size)
    replace HO30 := Aside0.mk (HO30.out.later hb)
    replace HO40 := Aside0.mk (HO40.out.later hb)
    replace HO50 := Aside0.mk (HO50.out.later hb)
    replace HO70 := Aside0.mk (HO70.out.later hb)
    have HO130 := Aside0.mk (ObS.new_ ho0 HB.out)
    replace HB := Aside0.mk (below_step HB.out hb)
    clear hb ho0
    go_wp2_with fail
    refine (impl_MiddleOf.calls (w := _) (hr0 := (Kd.S_reads' HO130.out.2).2.2) (hc0 := (Kd.S_reads' HO130.out.2).2.1) (h := C2)).mono ?_
    rintro e w14 ⟨v14_0, rfl, ho0, hb⟩
    obtain ⟨A140, c140, rfl⟩ := Kd.R_slice ho0
    have HZ14 := Aside0.mk (hb.size)
    replace HO30 := Aside0.mk (HO30.out.later hb)
    replace HO40 := Aside0.mk (HO40.out.later hb)
    replace HO50 := Aside0.mk (HO50.out.later hb)
    replace HO70 := Aside0.mk (HO70.out.later hb)
    replace HO130 := Aside0.mk (HO130.out.later hb)
    have HO140 := Aside0.mk (ObR.new_ ho0 HB.out)
    replace HB := Aside0.mk (below_step HB.out hb)
    clear hb ho0
    go_wp2_with fail
    refine (laws_eqIntS.calls (w := _) (hr0 := (Kd.R_reads' HO140.out.2).2.2) (hc0 := (Kd.R_reads' HO140.out.2).2.1) (hr1 := (Kd.R_reads' HO30.out.2).2.2) (hc1 := (Kd.R_reads' HO30.out.2).2.1) (h := C3)).mono ?_
    rintro e w15 ⟨rfl, hb⟩
    have HZ15 := Aside0.mk (hb.below.size)
    replace HO30 := Aside0.mk (HO30.out.later hb.below)
    replace HO40 := Aside0.mk (HO40.out.later hb.below)
    replace HO50 := Aside0.mk (HO50.out.later hb.below)
    replace HO140 := Aside0.mk (HO140.out.later hb.below)
    replace HB := Aside0.mk (below_step HB.out hb.below)
    clear hb
    go_wp2_with fail
    refine calls_of_args (show (#[.slice A50 r1.length c50, .int .i64 1] : Array Value) = #[.slice A50 y_2.length c50, .int .i64 1] by rw [EL2.out]) ?_
    refine (laws_heldIntS.calls (w := _) (hr0 := (Kd.R_reads' HO50.out.2).2.2) (hc0 := (EL2.out ▸ (Kd.R_reads' HO50.out.2).2.1)) (h := C9)).mono ?_
    rintro e w16 ⟨rfl, hb⟩
    have HZ16 := Aside0.mk (hb.below.size)
    replace HO30 := Aside0.mk (HO30.out.later hb.below)
    replace HO40 := Aside0.mk (HO40.out.later hb.below)
    replace HO50 := Aside0.mk (HO50.out.later hb.below)
    replace HO140 := Aside0.mk (HO140.out.later hb.below)
    replace HB := Aside0.mk (below_step HB.out hb.below)
    clear hb
    go_wp2
    go_ret
    exact ⟨rfl, HB.out⟩
theorem laws_FnExactMiddleOf.walk (P : laws_FnExactMiddleOf.Pure) (a0 : Option Addr) (len0 cap0 : Nat) (w : World) (w0 : ∃ l : List (List Int), len0 = l.length ∧ Kd.C (Kd.slice 3 (Kd.int .i64)) w a0 l.length l ∧ l.length ≤ maxLen ∧ (∀ x ∈ l, x.length ≤ maxLen ∧ ∀ n ∈ x, (Lit.int .i64 n).wf = true) ∧ l.length ≤ cap0) :
    Calls Try.prog 7 #[.slice a0 len0 cap0] w fun e w' => e = .returned (.bool true) ∧ Below w.heap.size w w' := by
  obtain ⟨l0, rfl, hr0, hm0, hw0, hc0⟩ := w0
  exact laws_FnExactMiddleOf.calls _ _ l0 w hr0 hc0 (P l0 hm0 hw0)

end Go.Proofs.Ythpnfjdpomadaaa.X
