-- Written by a program of this session (wip/xprint.py) that drives the kit's print; the contracts of what it does not take are this session's own.
import Derived.Test.YthpnfjdpomadaaaCFnExactFromLeftHalfx0
import Derived.Test.YthpnfjdpomadaaaCFnExactFromLeftHalfx1
namespace Go.Proofs.Ythpnfjdpomadaaa.X
open Go.RowKit Go.Proofs.YthpnfjdpomadaaaW.PrintWords Go.Proofs.YthpnfjdpomadaaaW.PrintLast Go.Proofs.YthpnfjdpomadaaaW.PrintMore
attribute [local go_sem] max2_int min2_int max_two min_two max_three min_three max_four min_four   -- for this text's walks alone
set_option linter.unusedVariables false
set_option linter.unusedSimpArgs false

/-! ### impl_IsSignMatrix: function 73 -/
mutual
def impl_IsSignMatrix.j0 : Nat → List (List Int) → Bool → Option (Bool)
  | 0, _, _ => none
  | k + 1, x0, x12 => if x12 = true then (some false) else (impl_IsSignMatrix.l0 k x0 (x0.length : Int) 0)
def impl_IsSignMatrix.l0 : Nat → List (List Int) → Int → Int → Option (Bool)
  | 0, _, _, _ => none
  | k + 1, x0, x14, x15 => if x15 < x14 then (if 0 ≤ x15 then (if x15 < (x0.length : Int) then ((impl_alternate.f k (rd_L1 x0 x15)).bind fun t104 => (if t104 = true then ((impl_column.f k x0 x15).bind fun t105 => ((impl_alternate.f k t105).bind fun t108 => (if t108 = true then (impl_IsSignMatrix.l0 k x0 x14 (wrap64 (x15 + 1))) else (some false)))) else (some false))) else (none)) else (none)) else (some true)
end
def impl_IsSignMatrix.f (k : Nat) (l0 : List (List Int)) : Option (Bool) := (impl_isSide.f (l0.length : Int)).bind fun t101 => (if t101 = true then ((impl_isSquare.f k l0).bind fun t102 => (impl_IsSignMatrix.j0 k l0 (!t102))) else (impl_IsSignMatrix.j0 k l0 true))
theorem impl_IsSignMatrix.mono_l : ∀ k, (∀ y0 y1, LeO (impl_IsSignMatrix.j0 k y0 y1) (impl_IsSignMatrix.j0 (k + 1) y0 y1)) ∧ (∀ y0 y1 y2, LeO (impl_IsSignMatrix.l0 k y0 y1 y2) (impl_IsSignMatrix.l0 (k + 1) y0 y1 y2))
  | 0 => ⟨fun _ _ r h => by simp [impl_IsSignMatrix.j0] at h, fun _ _ _ r h => by simp [impl_IsSignMatrix.l0] at h⟩
  | k + 1 => by
    obtain ⟨ih0, ih1⟩ := impl_IsSignMatrix.mono_l k
    refine ⟨?_, ?_⟩
    · intro y0 y1
      unfold impl_IsSignMatrix.j0
      repeat' first
      | (with_reducible exact ih0 _ _)
      | (with_reducible exact ih1 _ _ _)
      | (with_reducible exact impl_alternate.mono _ _)
      | (with_reducible exact impl_column.mono _ _ _)
      | (with_reducible exact impl_isSquare.mono _ _)
      | (with_reducible exact LeO.refl _)
      | (with_reducible exact LeO.none _)
      | (with_reducible refine LeO.ite ?_ ?_)
      | (with_reducible refine LeO.bind ?_ (fun _ => ?_))
      | exact ih0 _ _
      | exact ih1 _ _ _
      | exact impl_alternate.mono _ _
      | exact impl_column.mono _ _ _
      | exact impl_isSquare.mono _ _
      | exact LeO.none _
      | refine LeO.ite ?_ ?_
      | refine LeO.bind ?_ (fun _ => ?_)
    · intro y0 y1 y2
      unfold impl_IsSignMatrix.l0
      repeat' first
      | (with_reducible exact ih0 _ _)
      | (with_reducible exact ih1 _ _ _)
      | (with_reducible exact impl_alternate.mono _ _)
      | (with_reducible exact impl_column.mono _ _ _)
      | (with_reducible exact impl_isSquare.mono _ _)
      | (with_reducible exact LeO.refl _)
      | (with_reducible exact LeO.none _)
      | (with_reducible refine LeO.ite ?_ ?_)
      | (with_reducible refine LeO.bind ?_ (fun _ => ?_))
      | exact ih0 _ _
      | exact ih1 _ _ _
      | exact impl_alternate.mono _ _
      | exact impl_column.mono _ _ _
      | exact impl_isSquare.mono _ _
      | exact LeO.none _
      | refine LeO.ite ?_ ?_
      | refine LeO.bind ?_ (fun _ => ?_)
theorem impl_IsSignMatrix.mono : ∀ a0  k, LeO (impl_IsSignMatrix.f k a0) (impl_IsSignMatrix.f (k + 1) a0) := by
  intro a0 k
  obtain ⟨ih0, ih1⟩ := impl_IsSignMatrix.mono_l k
  unfold impl_IsSignMatrix.f
  repeat' first
      | (with_reducible exact ih0 _ _)
      | (with_reducible exact ih1 _ _ _)
      | (with_reducible exact impl_alternate.mono _ _)
      | (with_reducible exact impl_column.mono _ _ _)
      | (with_reducible exact impl_isSquare.mono _ _)
      | (with_reducible exact LeO.refl _)
      | (with_reducible exact LeO.none _)
      | (with_reducible refine LeO.ite ?_ ?_)
      | (with_reducible refine LeO.bind ?_ (fun _ => ?_))
      | exact ih0 _ _
      | exact ih1 _ _ _
      | exact impl_alternate.mono _ _
      | exact impl_column.mono _ _ _
      | exact impl_isSquare.mono _ _
      | exact LeO.none _
      | refine LeO.ite ?_ ?_
      | refine LeO.bind ?_ (fun _ => ?_)
set_option maxHeartbeats 8000000 in
set_option maxRecDepth 100000 in
theorem impl_IsSignMatrix.calls (k : Nat) (A0 : Option Addr) (c0 : Nat) (l0 : List (List Int)) (r : Bool) (w : World) (hr0 : Kd.C (Kd.slice 3 (Kd.int .i64)) w A0 l0.length l0) (hc0 : l0.length ≤ c0) (h : impl_IsSignMatrix.f k l0 = some r) :
    Calls Try.prog 73 #[.slice A0 l0.length c0] w fun e w' => e = .returned (.bool r) ∧ Below w.heap.size w w' := by
  have HR0 := Aside0.mk hr0
  have HC0 := Aside0.mk hc0
  clear hr0 hc0
  have HB := Aside0.mk (Below.refl w.heap.size w)
  have H : ((impl_isSide.f (l0.length : Int)).bind fun t101 => (if t101 = true then ((impl_isSquare.f k l0).bind fun t102 => (impl_IsSignMatrix.j0 k l0 (!t102))) else (impl_IsSignMatrix.j0 k l0 true))) = some r := h
  clear h
  have HC2 := Aside0.mk H
  clear H
  go_enter Try.func73, Try.ntmps73
  go_upto_region 1 with (fail)
  go_cut [12] (fun v12 wc => ∃ (kq : Nat) (x12_1 : Bool), v12 = .bool x12_1 ∧ Aside0 (impl_IsSignMatrix.j0 kq l0 x12_1 = some r) ∧ Aside0 (kq ≤ k) ∧ Aside0 (Below w.heap.size w wc))
  case first =>
    have H := HC2.out
    clear HC2
    replace H := Option.bind_eq_some_iff.mp H
    obtain ⟨t101, A30, H⟩ := H
    replace H : (if t101 = true then ((impl_isSquare.f k l0).bind fun t102 => (impl_IsSignMatrix.j0 k l0 (!t102))) else (impl_IsSignMatrix.j0 k l0 true)) = some r := H
    have A3 := Aside0.mk A30
    clear A30
    by_cases c4 : t101 = true
    · subst c4
      have H1 : ((impl_isSquare.f k l0).bind fun t102 => (impl_IsSignMatrix.j0 k l0 (!t102))) = some r := by rw [if_pos rfl] at H; exact H
      clear H
      have H := H1
      clear H1
      replace H := Option.bind_eq_some_iff.mp H
      obtain ⟨t102, A50, H⟩ := H
      replace H : (impl_IsSignMatrix.j0 k l0 (!t102)) = some r := H
      have A5 := Aside0.mk A50
      clear A50
      have H' := Aside0.mk H
      clear H
      go_wp2_with (first | ((with_reducible refine gate_callee (f := 65) rfl ?_); refine goesL_ (some 6) rfl rfl Try.func65 (by kernel_rfl) rfl #[.int .i64 (l0.length : Int)] rfl (by (try simp only [List.map_toArray, List.map_cons, List.map_nil]); first | done | rfl | (simp only [List.length_drop, List.length_take]; rfl)) ?_; (with_reducible refine (impl_isSide.calls (l0.length : Int) true _ A3.out).mono ?_); rintro e w' ⟨rfl, ⟨nd, rfl⟩⟩; refine ⟨_, rfl, ?_⟩) | (go_at_call 110; (with_reducible refine (impl_isSquare.calls k _ _ l0 t102 _ ?side1 ?side2 A5.out).mono ?_); (case side1 => repeat (first | exact (Kd.C_below HR0.out (by repeat (first | (with_reducible first | exact HB.out | apply below_alloc | apply pw_below_drewN | apply below_drew1) | exact HB.out))) | (with_reducible refine Kd.C_alloc ?_ _) | (with_reducible refine Kd.C_drewN ?_ _) | (with_reducible refine Kd.C_drew ?_))); (case side2 => exact HC0.out); rintro e w6 ⟨rfl, hb⟩; have n0_ := Aside0.mk (below_step (by repeat (first | (with_reducible first | exact HB.out | apply below_alloc | apply pw_below_drewN | apply below_drew1) | exact HB.out)) hb); clear HB; have HB := n0_; clear n0_; (try clear hb); (try clear hb2); (try clear hk); (try clear hi)))
      go_meet
      case rel => exact ⟨_, (!t102), (by first | rfl | (simp; done) | (simp [*]; done)), H', ⟨by first | omega | exact Nat.le_refl _⟩, ⟨by repeat (first | (with_reducible first | exact HB.out | apply below_alloc | apply pw_below_drewN | apply below_drew1) | exact HB.out)⟩⟩
    · replace c4 := Bool.eq_false_iff.mpr c4
      subst c4
      have H1 : (impl_IsSignMatrix.j0 k l0 true) = some r := by rw [if_neg (show ¬ (false = true) by decide)] at H; exact H
      clear H
      have H := H1
      clear H1
      have H' := Aside0.mk H
      clear H
      go_wp2_with (first | ((with_reducible refine gate_callee (f := 65) rfl ?_); refine goesL_ (some 6) rfl rfl Try.func65 (by kernel_rfl) rfl #[.int .i64 (l0.length : Int)] rfl (by (try simp only [List.map_toArray, List.map_cons, List.map_nil]); first | done | rfl | (simp only [List.length_drop, List.length_take]; rfl)) ?_; (with_reducible refine (impl_isSide.calls (l0.length : Int) false _ A3.out).mono ?_); rintro e w' ⟨rfl, ⟨nd, rfl⟩⟩; refine ⟨_, rfl, ?_⟩))
      go_meet
      case rel => exact ⟨_, (true), (by first | rfl | (simp; done) | (simp [*]; done)), H', ⟨by first | omega | exact Nat.le_refl _⟩, ⟨by repeat (first | (with_reducible first | exact HB.out | apply below_alloc | apply pw_below_drewN | apply below_drew1) | exact HB.out)⟩⟩
  case rest =>
    clear HC2
    try clear p2
    try clear c4
    try clear c6
    obtain ⟨kq, x12_1, rfl, HA, HJ1, HB⟩ := hcut
    cases kq with
    | zero => exact absurd HA.out (by simp [impl_IsSignMatrix.j0])
    | succ kj1 =>
      have H := HA.out
      clear HA
      simp only [impl_IsSignMatrix.j0] at H
      by_cases c7 : x12_1 = true
      · subst c7
        have H1 : (some false) = some r := by rw [if_pos rfl] at H; exact H
        clear H
        have H := H1
        clear H1
        obtain rfl := Option.some.inj H
        go_wp2
        go_ret
        exact ⟨by first | rfl | (simp [errW_none, errW_some] <;> rfl) | (simp [*, errW_none, errW_some] <;> rfl), by repeat (first | (with_reducible first | exact HB.out | apply below_alloc | apply pw_below_drewN | apply below_drew1) | exact HB.out)⟩
      · replace c7 := Bool.eq_false_iff.mpr c7
        subst c7
        have H1 : (impl_IsSignMatrix.l0 kj1 l0 (l0.length : Int) 0) = some r := by rw [if_neg (show ¬ (false = true) by decide)] at H; exact H
        clear H
        have H := H1
        clear H1
        have H' := Aside0.mk H
        clear H
        go_wp2
        go_loopg [15] kj1 (fun kq v15 w' => ∃ (x15_2 : Int), v15 = .int .i64 x15_2 ∧ Aside0 (impl_IsSignMatrix.l0 kq l0 (l0.length : Int) x15_2 = some r) ∧ Aside0 (kq ≤ kj1) ∧ Aside0 (Below w.heap.size w w'))
        case atStart => exact ⟨(0), (by first | rfl | (simp; done) | (simp [*]; done)), H', ⟨Nat.le_refl _⟩, ⟨by repeat (first | (with_reducible first | exact HB.out | apply below_alloc | apply pw_below_drewN | apply below_drew1) | exact HB.out)⟩⟩
        case round =>
          clear H'
          try clear p2
          try clear c4
          try clear c6
          try clear c7
          try clear p2
          obtain ⟨x15_2, rfl, HA, HK2, HB⟩ := hrel
          cases gk with
          | zero => exact absurd HA.out (by simp [impl_IsSignMatrix.l0])
          | succ k2 =>
            have H := HA.out
            clear HA
            simp only [impl_IsSignMatrix.l0] at H
            by_cases c8 : x15_2 < (l0.length : Int)
            · rw [if_pos c8] at H
              have c8b0 : decide (x15_2 < (l0.length : Int)) = true := decide_eq_true c8
              clear c8
              by_cases c9 : 0 ≤ x15_2
              · rw [if_pos c9] at H
                have c9b0 : decide (0 ≤ x15_2) = true := decide_eq_true c9
                clear c9
                by_cases c10 : x15_2 < (l0.length : Int)
                · rw [if_pos c10] at H
                  have c10b0 : decide (x15_2 < (l0.length : Int)) = true := decide_eq_true c10
                  clear c10
                  replace H := Option.bind_eq_some_iff.mp H
                  obtain ⟨t104, A110, H⟩ := H
                  replace H : (if t104 = true then ((impl_column.f k2 l0 x15_2).bind fun t105 => ((impl_alternate.f k2 t105).bind fun t108 => (if t108 = true then (impl_IsSignMatrix.l0 k2 l0 (l0.length : Int) (wrap64 (x15_2 + 1))) else (some false)))) else (some false)) = some r := H
                  have A11 := Aside0.mk A110
                  clear A110
                  by_cases c12 : t104 = true
                  · subst c12
                    have H1 : ((impl_column.f k2 l0 x15_2).bind fun t105 => ((impl_alternate.f k2 t105).bind fun t108 => (if t108 = true then (impl_IsSignMatrix.l0 k2 l0 (l0.length : Int) (wrap64 (x15_2 + 1))) else (some false)))) = some r := by rw [if_pos rfl] at H; exact H
                    clear H
                    have H := H1
                    clear H1
                    replace H := Option.bind_eq_some_iff.mp H
                    obtain ⟨t105, A130, H⟩ := H
                    replace H : ((impl_alternate.f k2 t105).bind fun t108 => (if t108 = true then (impl_IsSignMatrix.l0 k2 l0 (l0.length : Int) (wrap64 (x15_2 + 1))) else (some false))) = some r := H
                    have A13 := Aside0.mk A130
                    clear A130
                    replace H := Option.bind_eq_some_iff.mp H
                    obtain ⟨t108, A140, H⟩ := H
                    replace H : (if t108 = true then (impl_IsSignMatrix.l0 k2 l0 (l0.length : Int) (wrap64 (x15_2 + 1))) else (some false)) = some r := H
                    have A14 := Aside0.mk A140
                    clear A140
                    by_cases c15 : t108 = true
                    · subst c15
                      have H1 : (impl_IsSignMatrix.l0 k2 l0 (l0.length : Int) (wrap64 (x15_2 + 1))) = some r := by rw [if_pos rfl] at H; exact H
                      clear H
                      have H := H1
                      clear H1
                      have H' := Aside0.mk H
                      clear H
                      have p103 : 0 ≤ (x15_2 : Int) := of_decide_eq_true (by first | (with_reducible assumption) | assumption)
                      have q103 : x15_2 < (l0.length : Int) := of_decide_eq_true (by first | (with_reducible assumption) | assumption)
                      obtain ⟨ad103, A103_0, c103_0, e103, hx103_0, hl103_0, hi103_0⟩ := at_L1 HR0.out x15_2 p103 q103
                      cases e103
                      replace hx103_0 := (HB.out.cell (World.block_lt_of_cell? w _ hx103_0)).trans hx103_0
                      have HR103_0 := Aside0.mk hi103_0
                      have HC103_0 := Aside0.mk hl103_0
                      clear hi103_0 hl103_0
                      replace p103 := eq_true p103
                      replace q103 := eq_true q103
                      go_wp2_with (first | ((with_reducible refine gate_callee (f := 111) rfl ?_); refine goesL_ (some 22) rfl rfl Try.func111 (by kernel_rfl) rfl #[.slice A103_0 (rd_L1 l0 x15_2).length c103_0] rfl (by (try simp only [List.map_toArray, List.map_cons, List.map_nil]); first | done | rfl | (simp only [List.length_drop, List.length_take]; rfl)) ?_; (with_reducible refine (impl_alternate.calls k2 _ _ (rd_L1 l0 x15_2) true _ ?side1 ?side2 A11.out).mono ?_); (case side1 => repeat (first | exact (Kd.C_below HR103_0.out HB.out) | (with_reducible refine Kd.C_alloc ?_ _) | (with_reducible refine Kd.C_drewN ?_ _) | (with_reducible refine Kd.C_drew ?_))); (case side2 => exact HC103_0.out); rintro e w' ⟨rfl, ⟨nd, rfl⟩⟩; refine ⟨_, rfl, ?_⟩) | (go_at_call 74; (with_reducible refine (impl_column.calls k2 _ _ l0 x15_2 t105 _ ?side1 ?side2 A13.out).mono ?_); (case side1 => repeat (first | exact (Kd.C_below HR0.out (by repeat (first | (with_reducible first | exact HB.out | apply below_alloc | apply pw_below_drewN | apply below_drew1) | exact HB.out))) | (with_reducible refine Kd.C_alloc ?_ _) | (with_reducible refine Kd.C_drewN ?_ _) | (with_reducible refine Kd.C_drew ?_))); (case side2 => exact HC0.out); rintro e w16 ⟨v106, rfl, ho0, hb⟩; have n0_ := Aside0.mk (Kd.R_lower ho0 (below_size (by repeat (first | (with_reducible first | exact HB.out | apply below_alloc | apply pw_below_drewN | apply below_drew1) | exact HB.out)))); have n1_ := Aside0.mk (below_step (by repeat (first | (with_reducible first | exact HB.out | apply below_alloc | apply pw_below_drewN | apply below_drew1) | exact HB.out)) hb); clear HB; have HO107 := n0_; have HB := n1_; clear n0_ n1_; (try clear hb); (try clear hb2); (try clear hk); (try clear hi); (try clear ho0); obtain ⟨Ao17, co17, eo17⟩ := Kd.R_slice HO107.out; subst eo17) | (go_at_call 111; (with_reducible refine (impl_alternate.calls k2 _ _ t105 true _ ?side1 ?side2 A14.out).mono ?_); (case side1 => repeat (first | exact (Kd.R_reads' HO107.out).2.2 | (with_reducible refine Kd.C_alloc ?_ _) | (with_reducible refine Kd.C_drewN ?_ _) | (with_reducible refine Kd.C_drew ?_))); (case side2 => exact (Kd.R_reads' HO107.out).2.1); rintro e w' ⟨rfl, ⟨nd, rfl⟩⟩))
                      go_roundg k2
                      case measure => have := HJ1.out; have := HK2.out; omega
                      case rel => exact ⟨(wrap64 (x15_2 + 1)), (by first | rfl | (simp; done) | (simp [*]; done)), H', ⟨by have := HJ1.out; have := HK2.out; omega⟩, ⟨by repeat (first | (with_reducible first | exact HB.out | apply below_alloc | apply pw_below_drewN | apply below_drew1) | exact HB.out)⟩⟩
                    · replace c15 := Bool.eq_false_iff.mpr c15
                      subst c15
                      have H1 : (some false) = some r := by rw [if_neg (show ¬ (false = true) by decide)] at H; exact H
                      clear H
                      have H := H1
                      clear H1
                      obtain rfl := Option.some.inj H
                      have p103 : 0 ≤ (x15_2 : Int) := of_decide_eq_true (by first | (with_reducible assumption) | assumption)
                      have q103 : x15_2 < (l0.length : Int) := of_decide_eq_true (by first | (with_reducible assumption) | assumption)
                      obtain ⟨ad103, A103_0, c103_0, e103, hx103_0, hl103_0, hi103_0⟩ := at_L1 HR0.out x15_2 p103 q103
                      cases e103
                      replace hx103_0 := (HB.out.cell (World.block_lt_of_cell? w _ hx103_0)).trans hx103_0
                      have HR103_0 := Aside0.mk hi103_0
                      have HC103_0 := Aside0.mk hl103_0
                      clear hi103_0 hl103_0
                      replace p103 := eq_true p103
                      replace q103 := eq_true q103
                      go_wp2_with (first | ((with_reducible refine gate_callee (f := 111) rfl ?_); refine goesL_ (some 22) rfl rfl Try.func111 (by kernel_rfl) rfl #[.slice A103_0 (rd_L1 l0 x15_2).length c103_0] rfl (by (try simp only [List.map_toArray, List.map_cons, List.map_nil]); first | done | rfl | (simp only [List.length_drop, List.length_take]; rfl)) ?_; (with_reducible refine (impl_alternate.calls k2 _ _ (rd_L1 l0 x15_2) true _ ?side1 ?side2 A11.out).mono ?_); (case side1 => repeat (first | exact (Kd.C_below HR103_0.out HB.out) | (with_reducible refine Kd.C_alloc ?_ _) | (with_reducible refine Kd.C_drewN ?_ _) | (with_reducible refine Kd.C_drew ?_))); (case side2 => exact HC103_0.out); rintro e w' ⟨rfl, ⟨nd, rfl⟩⟩; refine ⟨_, rfl, ?_⟩) | (go_at_call 74; (with_reducible refine (impl_column.calls k2 _ _ l0 x15_2 t105 _ ?side1 ?side2 A13.out).mono ?_); (case side1 => repeat (first | exact (Kd.C_below HR0.out (by repeat (first | (with_reducible first | exact HB.out | apply below_alloc | apply pw_below_drewN | apply below_drew1) | exact HB.out))) | (with_reducible refine Kd.C_alloc ?_ _) | (with_reducible refine Kd.C_drewN ?_ _) | (with_reducible refine Kd.C_drew ?_))); (case side2 => exact HC0.out); rintro e w18 ⟨v106, rfl, ho0, hb⟩; have n0_ := Aside0.mk (Kd.R_lower ho0 (below_size (by repeat (first | (with_reducible first | exact HB.out | apply below_alloc | apply pw_below_drewN | apply below_drew1) | exact HB.out)))); have n1_ := Aside0.mk (below_step (by repeat (first | (with_reducible first | exact HB.out | apply below_alloc | apply pw_below_drewN | apply below_drew1) | exact HB.out)) hb); clear HB; have HO107 := n0_; have HB := n1_; clear n0_ n1_; (try clear hb); (try clear hb2); (try clear hk); (try clear hi); (try clear ho0); obtain ⟨Ao19, co19, eo19⟩ := Kd.R_slice HO107.out; subst eo19) | (go_at_call 111; (with_reducible refine (impl_alternate.calls k2 _ _ t105 false _ ?side1 ?side2 A14.out).mono ?_); (case side1 => repeat (first | exact (Kd.R_reads' HO107.out).2.2 | (with_reducible refine Kd.C_alloc ?_ _) | (with_reducible refine Kd.C_drewN ?_ _) | (with_reducible refine Kd.C_drew ?_))); (case side2 => exact (Kd.R_reads' HO107.out).2.1); rintro e w' ⟨rfl, ⟨nd, rfl⟩⟩))
                      go_ret
                      exact ⟨by first | rfl | (simp [errW_none, errW_some] <;> rfl) | (simp [*, errW_none, errW_some] <;> rfl), by repeat (first | (with_reducible first | exact HB.out | apply below_alloc | apply pw_below_drewN | apply below_drew1) | exact HB.out)⟩
                  · replace c12 := Bool.eq_false_iff.mpr c12
                    subst c12
                    have H1 : (some false) = some r := by rw [if_neg (show ¬ (false = true) by decide)] at H; exact H
                    clear H
                    have H := H1
                    clear H1
                    obtain rfl := Option.some.inj H
                    have p103 : 0 ≤ (x15_2 : Int) := of_decide_eq_true (by first | (with_reducible assumption) | assumption)
                    have q103 : x15_2 < (l0.length : Int) := of_decide_eq_true (by first | (with_reducible assumption) | assumption)
                    obtain ⟨ad103, A103_0, c103_0, e103, hx103_0, hl103_0, hi103_0⟩ := at_L1 HR0.out x15_2 p103 q103
                    cases e103
                    replace hx103_0 := (HB.out.cell (World.block_lt_of_cell? w _ hx103_0)).trans hx103_0
                    have HR103_0 := Aside0.mk hi103_0
                    have HC103_0 := Aside0.mk hl103_0
                    clear hi103_0 hl103_0
                    replace p103 := eq_true p103
                    replace q103 := eq_true q103
                    go_wp2_with (first | ((with_reducible refine gate_callee (f := 111) rfl ?_); refine goesL_ (some 22) rfl rfl Try.func111 (by kernel_rfl) rfl #[.slice A103_0 (rd_L1 l0 x15_2).length c103_0] rfl (by (try simp only [List.map_toArray, List.map_cons, List.map_nil]); first | done | rfl | (simp only [List.length_drop, List.length_take]; rfl)) ?_; (with_reducible refine (impl_alternate.calls k2 _ _ (rd_L1 l0 x15_2) false _ ?side1 ?side2 A11.out).mono ?_); (case side1 => repeat (first | exact (Kd.C_below HR103_0.out HB.out) | (with_reducible refine Kd.C_alloc ?_ _) | (with_reducible refine Kd.C_drewN ?_ _) | (with_reducible refine Kd.C_drew ?_))); (case side2 => exact HC103_0.out); rintro e w' ⟨rfl, ⟨nd, rfl⟩⟩; refine ⟨_, rfl, ?_⟩))
                    go_ret
                    exact ⟨by first | rfl | (simp [errW_none, errW_some] <;> rfl) | (simp [*, errW_none, errW_some] <;> rfl), by repeat (first | (with_reducible first | exact HB.out | apply below_alloc | apply pw_below_drewN | apply below_drew1) | exact HB.out)⟩
                · rw [if_neg c10] at H
                  exact absurd H (by simp)
              · rw [if_neg c9] at H
                exact absurd H (by simp)
            · rw [if_neg c8] at H
              have c8b0 : decide (x15_2 < (l0.length : Int)) = false := decide_eq_false c8
              clear c8
              obtain rfl := Option.some.inj H
              go_wp2
              go_ret
              exact ⟨by first | rfl | (simp [errW_none, errW_some] <;> rfl) | (simp [*, errW_none, errW_some] <;> rfl), by repeat (first | (with_reducible first | exact HB.out | apply below_alloc | apply pw_below_drewN | apply below_drew1) | exact HB.out)⟩

/-! ### impl_table: function 76 -/
mutual
def impl_table.l0 : Nat → Int → (Int → Int → Option Int) → List (List Int) → Int → Int → Option ((List (List Int)))
  | 0, _, _, _, _, _ => none
  | k + 1, x1, x2, x7, x13, x14 => if x14 < x13 then (if 0 ≤ x1 then (if (x1 : Int).toNat ≤ 35184372088832 then (if 0 ≤ x14 then (if x14 < (x7.length : Int) then ((some (x7.set (x14 : Int).toNat (List.replicate (x1 : Int).toNat 0) : List (List Int))).bind fun y107 => (impl_table.l1 k x1 x2 y107 x14 x13 x14 ((rd_L1 y107 x14).length : Int) 0)) else (none)) else (none)) else (none)) else (none)) else (some x7)
def impl_table.l1 : Nat → Int → (Int → Int → Option Int) → List (List Int) → Int → Int → Int → Int → Int → Option ((List (List Int)))
  | 0, _, _, _, _, _, _, _, _ => none
  | k + 1, x1, x2, x7, x8, x13, x14, x26, x27 => if x27 < x26 then (if 0 ≤ x8 then (if x8 < (x7.length : Int) then ((x2 x8 x27).bind fun t110 => (if 0 ≤ x27 then (if x27 < ((rd_L1 x7 x8).length : Int) then (impl_table.l1 k x1 x2 (x7.set (x8 : Int).toNat ((rd_L1 x7 x8).set (x27 : Int).toNat t110)) x8 x13 x14 x26 (wrap64 (x27 + 1))) else (none)) else (none))) else (none)) else (none)) else (impl_table.l0 k x1 x2 x7 x13 (wrap64 (x14 + 1)))
end
def impl_table.f (k : Nat) (a0 : Int) (a1 : Int) (a2 : (Int → Int → Option Int)) : Option ((List (List Int))) := if 0 ≤ a0 then (if (a0 : Int).toNat ≤ 11728124029610 then ((some (List.replicate (a0 : Int).toNat [] : List (List Int))).bind fun y101 => (impl_table.l0 k a1 a2 y101 (y101.length : Int) 0)) else (none)) else (none)
theorem impl_table.mono_l : ∀ k, (∀ y0 y1 y1' y2 y3 y4 (hy1 : ∀ z0 z1, LeO (y1 z0 z1) (y1' z0 z1)), LeO (impl_table.l0 k y0 y1 y2 y3 y4) (impl_table.l0 (k + 1) y0 y1' y2 y3 y4)) ∧ (∀ y0 y1 y1' y2 y3 y4 y5 y6 y7 (hy1 : ∀ z0 z1, LeO (y1 z0 z1) (y1' z0 z1)), LeO (impl_table.l1 k y0 y1 y2 y3 y4 y5 y6 y7) (impl_table.l1 (k + 1) y0 y1' y2 y3 y4 y5 y6 y7))
  | 0 => ⟨fun _ _ _ _ _ _ _ r h => by simp [impl_table.l0] at h, fun _ _ _ _ _ _ _ _ _ _ r h => by simp [impl_table.l1] at h⟩
  | k + 1 => by
    obtain ⟨ih0, ih1⟩ := impl_table.mono_l k
    refine ⟨?_, ?_⟩
    · intro y0 y1 y1' y2 y3 y4 hy1
      unfold impl_table.l0
      repeat' first
      | (with_reducible exact ih0 _ _ _ _ _ _ hy1)
      | (with_reducible exact ih1 _ _ _ _ _ _ _ _ _ hy1)
      | (with_reducible exact hy1 _ _)
      | (with_reducible exact LeO.refl _)
      | (with_reducible exact LeO.none _)
      | (with_reducible refine LeO.ite ?_ ?_)
      | (with_reducible refine LeO.bind ?_ (fun _ => ?_))
      | exact ih0 _ _ _ _ _ _ hy1
      | exact ih1 _ _ _ _ _ _ _ _ _ hy1
      | exact hy1 _ _
      | exact LeO.none _
      | refine LeO.ite ?_ ?_
      | refine LeO.bind ?_ (fun _ => ?_)
    · intro y0 y1 y1' y2 y3 y4 y5 y6 y7 hy1
      unfold impl_table.l1
      repeat' first
      | (with_reducible exact ih0 _ _ _ _ _ _ hy1)
      | (with_reducible exact ih1 _ _ _ _ _ _ _ _ _ hy1)
      | (with_reducible exact hy1 _ _)
      | (with_reducible exact LeO.refl _)
      | (with_reducible exact LeO.none _)
      | (with_reducible refine LeO.ite ?_ ?_)
      | (with_reducible refine LeO.bind ?_ (fun _ => ?_))
      | exact ih0 _ _ _ _ _ _ hy1
      | exact ih1 _ _ _ _ _ _ _ _ _ hy1
      | exact hy1 _ _
      | exact LeO.none _
      | refine LeO.ite ?_ ?_
      | refine LeO.bind ?_ (fun _ => ?_)
theorem impl_table.mono : ∀ a0 a1 a2 a2' (ha2 : ∀ z0 z1, LeO (a2 z0 z1) (a2' z0 z1)) k, LeO (impl_table.f k a0 a1 a2) (impl_table.f (k + 1) a0 a1 a2') := by
  intro a0 a1 a2 a2' ha2 k
  obtain ⟨ih0, ih1⟩ := impl_table.mono_l k
  unfold impl_table.f
  repeat' first
      | (with_reducible exact ih0 _ _ _ _ _ _ ha2)
      | (with_reducible exact ih1 _ _ _ _ _ _ _ _ _ ha2)
      | (with_reducible exact ha2 _ _)
      | (with_reducible exact LeO.refl _)
      | (with_reducible exact LeO.none _)
      | (with_reducible refine LeO.ite ?_ ?_)
      | (with_reducible refine LeO.bind ?_ (fun _ => ?_))
      | exact ih0 _ _ _ _ _ _ ha2
      | exact ih1 _ _ _ _ _ _ _ _ _ ha2
      | exact ha2 _ _
      | exact LeO.none _
      | refine LeO.ite ?_ ?_
      | refine LeO.bind ?_ (fun _ => ?_)
def impl_table.T9 : Bool × List (List Nat × List Nat) := (true, [([], []), ([], []), ([0, 1], [0, 1]), ([2], [2]), ([], []), ([], []), ([], []), ([], []), ([5, 6, 7], [5, 6, 7]), ([3, 4, 0, 1, 2, 3, 4, 5, 6, 7, 8], [3, 4]), ([9, 8, 8, 0, 1, 2, 3, 4, 5, 6, 7, 8], [8, 9])])
def impl_table.B9 : List Nat := [0, 0, 3, 7, 0, 0, 0, 0, 224, 511, 1023]
theorem impl_table.tab9 : rtab .any (opsOf Try.f76 9) = impl_table.T9 := by kernel_rfl
theorem impl_table.bits9 : waitsOk impl_table.T9.2 impl_table.B9 = true := by kernel_rfl
set_option maxHeartbeats 8000000 in
set_option maxRecDepth 100000 in
theorem impl_table.calls (k : Nat) (a0 : Int) (a1 : Int) (g2 : Nat) (b2 : Array Value) (a2 : (Int → Int → Option Int)) (r : List (List Int)) (w : World) (hf2 : Fn2 (Kd.int .i64) (Kd.int .i64) (Value.int .i64) Try.prog g2 b2 a2 w) (h : impl_table.f k a0 a1 a2 = some r) :
    Calls Try.prog 76 #[.int .i64 a0, .int .i64 a1, .func (.func g2) #[] b2] w fun e w' => ∃ v0_ : Value, e = .returned (v0_) ∧ Kd.S (Kd.slice 3 (Kd.int .i64)) 34 w' w.heap.size (fun _ => True) v0_ r ∧ Below w.heap.size w w' := by
  have HF2 := Aside0.mk hf2.cl
  have eg2 := hf2.eg
  clear hf2
  have HB := Aside0.mk (Below.refl w.heap.size w)
  have H : (if 0 ≤ a0 then (if (a0 : Int).toNat ≤ 11728124029610 then ((some (List.replicate (a0 : Int).toNat [] : List (List Int))).bind fun y101 => (impl_table.l0 k a1 a2 y101 (y101.length : Int) 0)) else (none)) else (none)) = some r := h
  clear h
  by_cases c4 : 0 ≤ a0
  · rw [if_pos c4] at H
    have c4b0 := eq_true c4
    have c4b1 : decide (0 ≤ a0) = true := decide_eq_true c4
    clear c4
    by_cases c5 : (a0 : Int).toNat ≤ 11728124029610
    · rw [if_pos c5] at H
      have c5b0 := eq_true c5
      have c5b1 : decide ((a0 : Int).toNat ≤ 11728124029610) = true := decide_eq_true c5
      clear c5
      obtain ⟨y101, hy101⟩ : ∃ y_ : List (List Int), y_ = (List.replicate (a0 : Int).toNat []) := ⟨_, rfl⟩
      replace H : (impl_table.l0 k a1 a2 y101 (y101.length : Int) 0) = some r := by first | (rw [hy101]; with_reducible exact H) | (have H2_ := (Option.bind_some _ _).symm.trans H; rw [hy101]; with_reducible exact H2_) | (have H2_ := (Option.bind_some _ _).symm.trans H; with_reducible exact H2_) | with_reducible exact H | (rw [hy101]; exact H) | exact H
      have Ny101 := Aside0.mk hy101
      clear hy101
      have H' := Aside0.mk H
      clear H
      go_enter Try.func76, Try.ntmps76
      go_wp2_with (first | ((with_reducible refine gate_dst (N := 11) rfl ?_); refine Kd.S_make (Kd.slice 3 (Kd.int .i64)) _ 34 rfl (N := 11) rfl 27 _ _ rfl a0 rfl rfl Try.underlying27 (.slice none 0 0) 24 info34 rfl (by decide) (by omega) [] (ok := fun _ => True) (okp := fun _ => True) ⟨_, rfl, Kd.R_nil _ _ _ _ _⟩ (fun _ hk => hk) trivial (of_decide_eq_true (by first | (with_reducible assumption) | assumption)) (Nat.le_trans (Nat.mul_le_mul_right _ (of_decide_eq_true (by first | (with_reducible assumption) | assumption) : a0.toNat ≤ 11728124029610)) (by omega)) (Below.refl _ _) (Nat.le_refl _) ?_; intro v102 w6 ho7 hb hg_ hnew_; clear hg_ hnew_; (first | rw [← Ny101.out] at ho7 | (simp only [Int.reduceToNat] at ho7; rw [← Ny101.out] at ho7)); have n0_ := Aside0.mk (Kd.S_lower ho7 (below_size (by repeat (first | (with_reducible first | exact HB.out | apply below_alloc | apply pw_below_drewN | apply below_drew1) | exact HB.out)))); have n1_ := Aside0.mk (below_step (by repeat (first | (with_reducible first | exact HB.out | apply below_alloc | apply pw_below_drewN | apply below_drew1) | exact HB.out)) hb); clear HB; have HO103 := n0_; have HB := n1_; clear n0_ n1_; clear hb ho7; obtain ⟨Ao8, co8, eo8⟩ := Kd.S_slice HO103.out; subst eo8))
      go_loopg [14] k (fun kq v14 w' => ∃ (x7_1 : List (List Int)) (x14_1 : Int), v14 = .int .i64 x14_1 ∧ Aside0 (impl_table.l0 kq a1 a2 x7_1 (y101.length : Int) x14_1 = some r) ∧ Aside0 (kq ≤ k) ∧ Aside0 (Kd.S (Kd.slice 3 (Kd.int .i64)) 34 w' w.heap.size (fun _ => True) (.slice Ao8 y101.length co8) x7_1) ∧ Aside0 (Below w.heap.size w w'))
      case atStart => exact ⟨(y101), (0), (by first | rfl | (simp; done) | (simp [*]; done)), H', ⟨Nat.le_refl _⟩, ⟨by (with_reducible repeat (first | apply Kd.S_alloc | apply Kd.S_drewN | apply Kd.S_drew)); exact HO103.out⟩, ⟨by repeat (first | (with_reducible first | exact HB.out | apply below_alloc | apply pw_below_drewN | apply below_drew1) | exact HB.out)⟩⟩
      case round =>
        clear H'
        try clear p2
        try clear c4
        try clear c4b0
        try clear c4b1
        try clear c5
        try clear c5b0
        try clear c5b1
        try clear c7
        obtain ⟨x7_1, x14_1, rfl, HA, HK1, HO_7, HB⟩ := hrel
        have hl7_1 := (Kd.S_reads' HO_7.out).1
        rw [hl7_1] at HO_7
        (try simp only [hl7_1])
        cases gk with
        | zero => exact absurd HA.out (by simp [impl_table.l0])
        | succ k1 =>
          have H := HA.out
          clear HA
          simp only [impl_table.l0] at H
          by_cases c9 : x14_1 < (y101.length : Int)
          · rw [if_pos c9] at H
            have c9b0 : decide (x14_1 < (y101.length : Int)) = true := decide_eq_true c9
            (try simp only [hl7_1] at c9b0)
            clear c9
            by_cases c10 : 0 ≤ a1
            · rw [if_pos c10] at H
              have c10b0 := eq_true c10
              have c10b1 : decide (0 ≤ a1) = true := decide_eq_true c10
              clear c10
              by_cases c11 : (a1 : Int).toNat ≤ 35184372088832
              · rw [if_pos c11] at H
                have c11b0 := eq_true c11
                have c11b1 : decide ((a1 : Int).toNat ≤ 35184372088832) = true := decide_eq_true c11
                clear c11
                obtain ⟨y104, hy104⟩ : ∃ y_ : List Int, y_ = (List.replicate (a1 : Int).toNat 0) := ⟨_, rfl⟩
                replace H : (if 0 ≤ x14_1 then (if x14_1 < (x7_1.length : Int) then ((some (x7_1.set (x14_1 : Int).toNat y104 : List (List Int))).bind fun y107 => (impl_table.l1 k1 a1 a2 y107 x14_1 (y101.length : Int) x14_1 ((rd_L1 y107 x14_1).length : Int) 0)) else (none)) else (none)) = some r := by first | (rw [hy104]; with_reducible exact H) | (have H2_ := (Option.bind_some _ _).symm.trans H; rw [hy104]; with_reducible exact H2_) | (have H2_ := (Option.bind_some _ _).symm.trans H; with_reducible exact H2_) | with_reducible exact H | (rw [hy104]; exact H) | exact H
                have Ny104 := Aside0.mk hy104
                clear hy104
                by_cases c12 : 0 ≤ x14_1
                · rw [if_pos c12] at H
                  have c12b0 : decide (0 ≤ x14_1) = true := decide_eq_true c12
                  clear c12
                  by_cases c13 : x14_1 < (x7_1.length : Int)
                  · rw [if_pos c13] at H
                    have c13b0 : decide (x14_1 < (x7_1.length : Int)) = true := decide_eq_true c13
                    (try simp only [hl7_1] at c13b0)
                    clear c13
                    obtain ⟨y107, hy107⟩ : ∃ y_ : List (List Int), y_ = (x7_1.set (x14_1 : Int).toNat y104) := ⟨_, rfl⟩
                    replace H : (impl_table.l1 k1 a1 a2 y107 x14_1 (y101.length : Int) x14_1 ((rd_L1 y107 x14_1).length : Int) 0) = some r := by first | (rw [hy107]; with_reducible exact H) | (have H2_ := (Option.bind_some _ _).symm.trans H; rw [hy107]; with_reducible exact H2_) | (have H2_ := (Option.bind_some _ _).symm.trans H; with_reducible exact H2_) | with_reducible exact H | (rw [hy107]; exact H) | exact H
                    have Ny107 := Aside0.mk hy107
                    clear hy107
                    have H' := Aside0.mk H
                    clear H
                    go_wp2_with (first | ((with_reducible refine gate_dst (N := 20) rfl ?_); refine Kd.R_make (Kd.int .i64) _ 3 rfl (N := 20) rfl 34 _ _ rfl a1 rfl rfl Try.underlying34 (.int .i64 0) 8 info3 rfl (by decide) (by omega) 0 (ok := fun _ => True) (okp := fun _ => True) rfl (fun _ hk => hk) trivial (of_decide_eq_true (by first | (with_reducible assumption) | assumption)) (Nat.le_trans (Nat.mul_le_mul_right _ (of_decide_eq_true (by first | (with_reducible assumption) | assumption) : a1.toNat ≤ 35184372088832)) (by omega)) (Below.refl _ _) (Nat.le_refl _) ?_; intro v105 w15 ho16 hb hg_ hnew_; clear hg_ hnew_; (first | rw [← Ny104.out] at ho16 | (simp only [Int.reduceToNat] at ho16; rw [← Ny104.out] at ho16)); have n0_ := Aside0.mk (Kd.S_elder' (by (with_reducible repeat (first | apply Kd.S_alloc | apply Kd.S_drewN | apply Kd.S_drew)); exact HO_7.out) (Kd.R_base ho16) hb); have n1_ := Aside0.mk (Kd.R_lower ho16 (below_size (by repeat (first | (with_reducible first | exact HB.out | apply below_alloc | apply pw_below_drewN | apply below_drew1) | exact HB.out)))); have n2_ := Aside0.mk (below_step (by repeat (first | (with_reducible first | exact HB.out | apply below_alloc | apply pw_below_drewN | apply below_drew1) | exact HB.out)) hb); clear HO_7; clear HB; have HO_7 := n0_; have HO106 := n1_; have HB := n2_; clear n0_ n1_ n2_; clear hb ho16; have p14 : 0 ≤ (x14_1 : Int) := of_decide_eq_true (by first | (with_reducible assumption) | assumption); have q14 : (x14_1 : Int) < ((x7_1.length : Int) : Int) := of_decide_eq_true (by first | (with_reducible assumption) | assumption); obtain ⟨go14, co14, eo14, gb14, gl14, cl14, HG14⟩ := Kd.S_form HO_7.out (by omega); (first | cases eo14 | (injection eo14 with ea_ en_ ec_; (first | subst ea_ | (injection ea_ with ea_; subst ea_)); subst ec_; clear en_)); have GB14 := Aside0.mk gb14; have GG14 := Aside0.mk HG14; clear gb14 gl14 HG14; obtain ⟨_, ce14, hcl14, hM14, hcc14, hfr14, _, _⟩ := Kd.S_elem HO_7.out [] (x14_1 : Int) p14 q14; obtain ⟨ve14_0, rfl, ge14_0⟩ := hM14; have hx14_0 := hcc14 0 _ rfl; have hf14_0 := hfr14 0; (try simp only [show ((Kd.slice 3 (Kd.int .i64))).sz = 1 from rfl, Nat.mul_one, Nat.add_zero] at hx14_0); (try simp only [show ((Kd.slice 3 (Kd.int .i64))).sz = 1 from rfl, Nat.mul_one, Nat.add_zero] at hf14_0); (try clear hcl14); (try clear hcc14); (try clear hfr14); (try clear hM14); replace p14 := eq_true p14; replace q14 := eq_true q14; obtain ⟨Ao19, co19, eo19⟩ := Kd.R_slice HO106.out; subst eo19; have n_ := Aside0.mk (Kd.S_mono (ok' := (fun k_ => some k_ ≠ (.slice Ao19 y104.length co19 : Value).ownBlock)) HO_7.out (fun k_ hk => hk.2)); clear HO_7; have HO_7 := n_; clear n_; have HX17 := Aside0.mk (show Kd.S (Kd.slice 3 (Kd.int .i64)) 34 w15 w.heap.size (fun k_ => ((fun _ => True)) k_ ∧ ¬ ((fun k_ => some k_ = (.slice Ao19 y104.length co19 : Value).ownBlock)) k_) (.slice (some ⟨go14, 0, none⟩) x7_1.length co8) x7_1 from (by (with_reducible repeat (first | apply Kd.S_alloc | apply Kd.S_drewN | apply Kd.S_drew)); exact Kd.S_mono HO_7.out (fun k_ hk => ⟨trivial, fun e_ => hk e_⟩))); obtain ⟨oki17, ce17, hcl17, hM17, hcc17, hfr17, hoki17, hH17⟩ := Kd.S_elem HX17.out [] (x14_1 : Int) (of_decide_eq_true (by first | (with_reducible assumption) | assumption)) (by have h_ : (x14_1 : Int) < ((x7_1.length : Int) : Int) := of_decide_eq_true (by first | (with_reducible assumption) | assumption); first | exact h_ | (have e_ := (Kd.S_reads' HO_7.out).1; omega) | simpa using h_); obtain ⟨ve17_0, rfl, ge17_0⟩ := hM17; have HP17 := Kd.S_seg hH17 (of_decide_eq_true (by first | (with_reducible assumption) | assumption)) (by have h_ : (x14_1 : Int) < ((x7_1.length : Int) : Int) := of_decide_eq_true (by first | (with_reducible assumption) | assumption); first | exact h_ | (have e_ := (Kd.S_reads' HO_7.out).1; omega) | simpa using h_) (seg := [.slice Ao19 y104.length co19]) (j := 0) (show 1 ≤ 1 from by decide) (x' := y104) (Kd.M_row (Kd.R_mono (Kd.R_tight rfl (Kd.R_mono (ok' := fun k_ => ((fun _ => True)) k_ ∧ k_ ≠ go14) (Kd.R_apart' (HO106.out) (Kd.S_typed HO_7.out) (by decide)) (fun k_ hk => ⟨trivial, fun e_ => (hk.2) (by rw [e_]; rfl)⟩))) (fun _ h_ => Or.inr (h_)))) (fun _ hk => hk) (fun k_ hk_ => ((Kd.R_mono (ok' := fun k_ => ((fun _ => True)) k_ ∧ k_ ≠ go14) (Kd.R_apart' (HO106.out) (Kd.S_typed HO_7.out) (by decide)) (fun k_ hk => ⟨trivial, fun e_ => (hk.2) (by rw [e_]; rfl)⟩))).1 k_ hk_.symm); have hx17_0 := hcc17 0 _ rfl; (try simp only [show ((Kd.slice 3 (Kd.int .i64))).sz = 1 from rfl, Nat.mul_one, Nat.add_zero] at hx17_0); have hf17_0 := hfr17 0; (try simp only [show ((Kd.slice 3 (Kd.int .i64))).sz = 1 from rfl, Nat.mul_one, Nat.add_zero] at hf17_0); (try clear hcl17); (try clear hcc17); (try clear hfr17); (try clear hM17); (try clear hoki17); (try clear hH17); (try simp only [show ((Kd.slice 3 (Kd.int .i64))).sz = 1 from rfl, Nat.mul_one, Nat.add_zero] at HP17)) | ((with_reducible refine gate_store (t := 34) (p := 21) rfl ?_); refine store_event (t := 34) (p := 21) (v := ?vo_w18) (w1 := (w15.setCell ⟨go14, (x14_1 : Int).toNat, none⟩ (.slice Ao19 y104.length co19))) ?hg ?ho ?hn ?hr ?_; (case ho => rfl); (case hg => rfl); (case hn => rfl); (case hr => first | (go_simp; done) | (go_simp; rfl)); intro w18 hw; have hg : w15.grownBy w18 (some go14) := (by rw [hw]; exact HP17.2); have hp_ : Kd.S (Kd.slice 3 (Kd.int .i64)) 34 w18 w.heap.size (fun _ => True) (.slice (some ⟨go14, 0, none⟩) x7_1.length co8) y107 := (by rw [hw, Ny107.out]; exact HP17.1); clear HP17; have n0_ := Aside0.mk (hp_); have n1_ := Aside0.mk ((by rw [hw]; exact below_set (HB.out) GB14.out : Below w.heap.size w w18)); clear HO_7; clear HB; clear HO106; have HO_7 := n0_; have HB := n1_; clear n0_ n1_; clear hg hw hp_; have p108 : 0 ≤ (x14_1 : Int) := of_decide_eq_true (by first | (with_reducible assumption) | assumption); have q108 : x14_1 < (y107.length : Int) := (by have h_ : (x14_1 : Int) < ((x7_1.length : Int) : Int) := of_decide_eq_true (by first | (with_reducible assumption) | assumption); first | (have e_ := (Kd.S_reads' HO_7.out).1; omega) | simpa only [Ny107.out, List.length_set] using h_); have ql108 : ((x14_1 : Int) < ((x7_1.length : Int) : Int)) = True := eq_true (of_decide_eq_true (by first | (with_reducible assumption) | assumption)); obtain ⟨ad108, A108_0, c108_0, e108, hx108_0, hl108_0, hi108_0⟩ := at_L1 (Kd.S_reads' HO_7.out).2.2 x14_1 p108 q108; obtain rfl : (⟨go14, 0, none⟩ : Addr) = ad108 := (by injection e108); obtain ⟨ce108, hce108, hMe108, hcc108⟩ := Kd.S_get HO_7.out [] x14_1 p108 (by first | exact q108 | exact of_decide_eq_true (by first | (with_reducible assumption) | assumption) | (have e_ := (Kd.S_reads' HO_7.out).1; omega)); obtain ⟨ve108_0, rfl, ge108_0⟩ := hMe108; have hv108_0 := hcc108 0 _ rfl; rw [Nat.add_zero, show ((Kd.slice 3 (Kd.int .i64))).sz = 1 from rfl, Nat.mul_one] at hv108_0; replace hv108_0 := Option.some.inj (hv108_0.symm.trans hx108_0); rw [hv108_0] at ge108_0; have HL108_0 := Aside0.mk (show Kd.R (Kd.int .i64) 3 _ _ _ _ (rd_L1 y107 x14_1) from ge108_0); clear hv108_0 ge108_0; have HX108_0 := Aside0.mk hx108_0; clear hcc108 hce108; (first | simp only [add_plain] at hx108_0 | simp only [add_at] at hx108_0 | simp only [Addr.add, Nat.zero_add] at hx108_0 | skip); have HR108_0 := Aside0.mk hi108_0; have HC108_0 := Aside0.mk hl108_0; clear hi108_0 hl108_0; replace p108 := eq_true p108; replace q108 := eq_true q108))
                    go_loopg [27] k1 (fun kq v27 w' => ∃ (x7_2 : List (List Int)) (x27_2 : Int), v27 = .int .i64 x27_2 ∧ Aside0 (impl_table.l1 kq a1 a2 x7_2 x14_1 (y101.length : Int) x14_1 ((rd_L1 y107 x14_1).length : Int) x27_2 = some r) ∧ Aside0 (kq ≤ k1) ∧ Aside0 (Kd.S (Kd.slice 3 (Kd.int .i64)) 34 w' w.heap.size (fun _ => True) (.slice (some ⟨go14, 0, none⟩) x7_1.length co8) x7_2) ∧ Aside0 (Below w.heap.size w w'))
                    case atStart => exact ⟨(y107), (0), (by first | rfl | (simp; done) | (simp [*]; done)), H', ⟨Nat.le_refl _⟩, ⟨by (try simp only [hl7_1]); (with_reducible repeat (first | apply Kd.S_alloc | apply Kd.S_drewN | apply Kd.S_drew)); exact HO_7.out⟩, ⟨by repeat (first | (with_reducible first | exact HB.out | apply below_alloc | apply pw_below_drewN | apply below_drew1) | exact HB.out)⟩⟩
                    case round =>
                      clear H'
                      try clear c1
                      try clear p1
                      try clear q1
                      try clear hx1
                      try clear p2
                      try clear c4
                      try clear c4b0
                      try clear c4b1
                      try clear c5
                      try clear c5b0
                      try clear c5b1
                      try clear c7
                      try clear c9
                      try clear c9b0
                      try clear c10
                      try clear c10b0
                      try clear c10b1
                      try clear p10
                      try clear q10
                      try clear hx10
                      try clear c11
                      try clear c11b0
                      try clear c11b1
                      try clear c12
                      try clear c12b0
                      try clear c13
                      try clear c13b0
                      try clear c14
                      try clear p14
                      try clear q14
                      try clear hx14
                      try clear hf14
                      try clear c17
                      try clear hx17
                      try clear hf17
                      try clear hx108_0
                      try clear hx14_0
                      try clear hx17_0
                      try clear p108
                      try clear p14
                      try clear p2
                      try clear q108
                      try clear q14
                      obtain ⟨x7_2, x27_2, rfl, HA, HK2, HO_7, HB⟩ := hrel
                      have hl7_2 := (Kd.S_reads' HO_7.out).1
                      rw [hl7_2] at HO_7
                      (try simp only [hl7_2])
                      cases gk with
                      | zero => exact absurd HA.out (by simp [impl_table.l1])
                      | succ k2 =>
                        have H := HA.out
                        clear HA
                        simp only [impl_table.l1] at H
                        by_cases c20 : x27_2 < ((rd_L1 y107 x14_1).length : Int)
                        · rw [if_pos c20] at H
                          have c20b0 : decide (x27_2 < ((rd_L1 y107 x14_1).length : Int)) = true := decide_eq_true c20
                          (try simp only [hl7_1, hl7_2] at c20b0)
                          clear c20
                          by_cases c21 : 0 ≤ x14_1
                          · rw [if_pos c21] at H
                            have c21b0 : decide (0 ≤ x14_1) = true := decide_eq_true c21
                            clear c21
                            by_cases c22 : x14_1 < (x7_2.length : Int)
                            · rw [if_pos c22] at H
                              have c22b0 : decide (x14_1 < (x7_2.length : Int)) = true := decide_eq_true c22
                              (try simp only [hl7_1, hl7_2] at c22b0)
                              clear c22
                              replace H := Option.bind_eq_some_iff.mp H
                              obtain ⟨t110, A230, H⟩ := H
                              replace H : (if 0 ≤ x27_2 then (if x27_2 < ((rd_L1 x7_2 x14_1).length : Int) then (impl_table.l1 k2 a1 a2 (x7_2.set (x14_1 : Int).toNat ((rd_L1 x7_2 x14_1).set (x27_2 : Int).toNat t110)) x14_1 (y101.length : Int) x14_1 ((rd_L1 y107 x14_1).length : Int) (wrap64 (x27_2 + 1))) else (none)) else (none)) = some r := H
                              have A23 := Aside0.mk A230
                              clear A230
                              by_cases c24 : 0 ≤ x27_2
                              · rw [if_pos c24] at H
                                have c24b0 : decide (0 ≤ x27_2) = true := decide_eq_true c24
                                clear c24
                                by_cases c25 : x27_2 < ((rd_L1 x7_2 x14_1).length : Int)
                                · rw [if_pos c25] at H
                                  have c25b0 : decide (x27_2 < ((rd_L1 x7_2 x14_1).length : Int)) = true := decide_eq_true c25
                                  (try simp only [hl7_1, hl7_2] at c25b0)
                                  clear c25
                                  obtain ⟨y111, hy111⟩ : ∃ y_ : List Int, y_ = ((rd_L1 x7_2 x14_1).set (x27_2 : Int).toNat t110) := ⟨_, rfl⟩
                                  replace H : (impl_table.l1 k2 a1 a2 (x7_2.set (x14_1 : Int).toNat y111) x14_1 (y101.length : Int) x14_1 ((rd_L1 y107 x14_1).length : Int) (wrap64 (x27_2 + 1))) = some r := by first | (rw [hy111]; with_reducible exact H) | (have H2_ := (Option.bind_some _ _).symm.trans H; rw [hy111]; with_reducible exact H2_) | (have H2_ := (Option.bind_some _ _).symm.trans H; with_reducible exact H2_) | with_reducible exact H | (rw [hy111]; exact H) | exact H
                                  have Ny111 := Aside0.mk hy111
                                  clear hy111
                                  obtain ⟨y113, hy113⟩ : ∃ y_ : List (List Int), y_ = (x7_2.set (x14_1 : Int).toNat y111) := ⟨_, rfl⟩
                                  replace H : (impl_table.l1 k2 a1 a2 y113 x14_1 (y101.length : Int) x14_1 ((rd_L1 y107 x14_1).length : Int) (wrap64 (x27_2 + 1))) = some r := by first | (rw [hy113]; with_reducible exact H) | (have H2_ := (Option.bind_some _ _).symm.trans H; rw [hy113]; with_reducible exact H2_) | (have H2_ := (Option.bind_some _ _).symm.trans H; with_reducible exact H2_) | with_reducible exact H | (rw [hy113]; exact H) | exact H
                                  have Ny113 := Aside0.mk hy113
                                  clear hy113
                                  have H' := Aside0.mk H
                                  clear H
                                  try go_wp2
                                  have n0_ := Aside0.mk (Kd.S_drew HO_7.out)
                                  have n1_ := Aside0.mk (below_drew1 HB.out)
                                  clear HO_7
                                  clear HB
                                  have HO_7 := n0_
                                  have HB := n1_
                                  clear n0_ n1_
                                  have p109 : 0 ≤ (x14_1 : Int) := of_decide_eq_true (by first | (with_reducible assumption) | assumption)
                                  have q109 : x14_1 < (x7_2.length : Int) := of_decide_eq_true (by first | (with_reducible assumption) | assumption)
                                  obtain ⟨ad109, A109_0, c109_0, e109, hx109_0, hl109_0, hi109_0⟩ := at_L1 (Kd.S_reads' HO_7.out).2.2 x14_1 p109 q109
                                  obtain rfl : (⟨go14, 0, none⟩ : Addr) = ad109 := (by injection e109)
                                  obtain ⟨ce109, hce109, hMe109, hcc109⟩ := Kd.S_get HO_7.out [] x14_1 p109 (by first | exact q109 | exact of_decide_eq_true (by first | (with_reducible assumption) | assumption) | (have e_ := (Kd.S_reads' HO_7.out).1; omega))
                                  obtain ⟨ve109_0, rfl, ge109_0⟩ := hMe109
                                  have hv109_0 := hcc109 0 _ rfl
                                  rw [Nat.add_zero, show ((Kd.slice 3 (Kd.int .i64))).sz = 1 from rfl, Nat.mul_one] at hv109_0
                                  replace hv109_0 := Option.some.inj (hv109_0.symm.trans hx109_0)
                                  rw [hv109_0] at ge109_0
                                  have HL109_0 := Aside0.mk (show Kd.R (Kd.int .i64) 3 _ _ _ _ (rd_L1 x7_2 x14_1) from ge109_0)
                                  clear hv109_0 ge109_0
                                  have HX109_0 := Aside0.mk hx109_0
                                  clear hcc109 hce109
                                  (first | simp only [add_plain] at hx109_0 | simp only [add_at] at hx109_0 | simp only [Addr.add, Nat.zero_add] at hx109_0 | skip)
                                  have HR109_0 := Aside0.mk hi109_0
                                  have HC109_0 := Aside0.mk hl109_0
                                  clear hi109_0 hl109_0
                                  replace p109 := eq_true p109
                                  replace q109 := eq_true q109
                                  refine start_ (n := 11) (S := fun w' => w'.cell? ⟨go14, (x14_1).toNat, none⟩ = some (.slice A109_0 (rd_L1 x7_2 x14_1).length c109_0)) (ds := [10]) #[false, false, false, false, false, false, false, false, false, false, false] (by kernel_rfl) rfl rfl (hx109_0) (fun hHeld => ?_); refine with_tabW impl_table.tab9 impl_table.bits9 (fun HT_ HW_ => ?_)
                                  generalize wr.drew = w27 at HO_7 HB HL109_0 HR109_0 HX109_0 hx109_0 hHeld ⊢
                                  refine pure_ (i := 0) (N := some 30) (v := ?_) (a' := ?_) #[true, false, false, false, false, false, false, false, false, false, false] rfl rfl (any_of HT_.out (by kernel_rfl)) (fun _ _ _ h => h) (Or.inl ⟨by rfl, ?_⟩) ?_ ?_
                                  rotate_left
                                  · intro w'
                                    go_simp
                                    with_reducible rfl
                                  rotate_left
                                  · simp only [Act.put, List.setIfInBounds_toArray, List.set_cons_zero, List.set_cons_succ, i64_w, i32_w]
                                    rfl
                                  refine pure_ (i := 1) (N := some 31) (v := ?_) (a' := ?_) #[true, true, false, false, false, false, false, false, false, false, false] rfl rfl (any_of HT_.out (by kernel_rfl)) (fun _ _ _ h => h) (Or.inl ⟨by rfl, ?_⟩) ?_ ?_
                                  rotate_left
                                  · intro w'
                                    go_simp
                                    with_reducible rfl
                                  rotate_left
                                  · simp only [Act.put, List.setIfInBounds_toArray, List.set_cons_zero, List.set_cons_succ, i64_w, i32_w]
                                    rfl
                                  refine pure_ (i := 2) (N := some 32) (v := ?_) (a' := ?_) #[true, true, true, false, false, false, false, false, false, false, false] rfl rfl (any_of HT_.out (by kernel_rfl)) (fun _ _ _ h => h) (Or.inl ⟨by rfl, ?_⟩) ?_ ?_
                                  rotate_left
                                  · intro w'
                                    go_simp
                                    with_reducible rfl
                                  rotate_left
                                  · simp only [Act.put, List.setIfInBounds_toArray, List.set_cons_zero, List.set_cons_succ, i64_w, i32_w]
                                    rfl
                                  refine pure_ (i := 4) (N := some 34) (v := ?_) (a' := ?_) #[true, true, true, false, true, false, false, false, false, false, false] rfl rfl (any_of HT_.out (by kernel_rfl)) (fun _ _ _ h => h) (Or.inl ⟨by rfl, ?_⟩) ?_ ?_
                                  rotate_left
                                  · intro w'
                                    go_simp
                                    with_reducible rfl
                                  rotate_left
                                  · simp only [Act.put, List.setIfInBounds_toArray, List.set_cons_zero, List.set_cons_succ, i64_w, i32_w]
                                    rfl
                                  refine pure_ (i := 5) (N := some 35) (v := ?_) (a' := ?_) #[true, true, true, false, true, true, false, false, false, false, false] rfl rfl (any_of HT_.out (by kernel_rfl)) (fun _ _ _ h => h) (Or.inl ⟨by rfl, ?_⟩) ?_ ?_
                                  rotate_left
                                  · intro w'
                                    go_simp
                                    with_reducible rfl
                                  rotate_left
                                  · simp only [Act.put, List.setIfInBounds_toArray, List.set_cons_zero, List.set_cons_succ, i64_w, i32_w]
                                    rfl
                                  refine pure_ (i := 6) (N := some 36) (v := ?_) (a' := ?_) #[true, true, true, false, true, true, true, false, false, false, false] rfl rfl (any_of HT_.out (by kernel_rfl)) (fun _ _ _ h => h) (Or.inl ⟨by rfl, ?_⟩) ?_ ?_
                                  rotate_left
                                  · intro w'
                                    go_simp
                                    with_reducible rfl
                                  rotate_left
                                  · simp only [Act.put, List.setIfInBounds_toArray, List.set_cons_zero, List.set_cons_succ, i64_w, i32_w]
                                    rfl
                                  refine pure_ (i := 7) (N := some 37) (v := ?_) (a' := ?_) #[true, true, true, false, true, true, true, true, false, false, false] rfl rfl (any_of HT_.out (by kernel_rfl)) (fun _ _ _ h => h) (Or.inl ⟨by rfl, ?_⟩) ?_ ?_
                                  rotate_left
                                  · intro w'
                                    go_simp
                                    with_reducible rfl
                                  rotate_left
                                  · simp only [Act.put, List.setIfInBounds_toArray, List.set_cons_zero, List.set_cons_succ, i64_w, i32_w]
                                    rfl
                                  refine take_ (i := 3) (N := some 33) (v := ?_) (a' := ?_) #[true, true, true, true, true, true, true, true, false, false, false] rfl rfl (take_ofW HT_.out HW_.out (by kernel_rfl)) (fun _ _ _ h => h) (Or.inl ⟨by rfl, ?_⟩) hHeld ?_ ?_
                                  rotate_left
                                  · intro w' s0
                                    go_simp
                                    with_reducible rfl
                                  rotate_left
                                  · simp only [Act.put, List.setIfInBounds_toArray, List.set_cons_zero, List.set_cons_succ, i64_w, i32_w]
                                    rfl
                                  refine one_ (i := 8) (N := some 38) #[true, true, true, true, true, true, true, true, true, false, false] rfl rfl (one_of HT_.out (by kernel_rfl)) (by decide) (fun K hK => ?_)
                                  refine goesF_ eg2 #[.int .i64 x14_1, .int .i64 x27_2] (by rfl) rfl rfl (by first | rfl | (simp [Act.eval]; done)) (by (try simp only [List.map_toArray, List.map_cons, List.map_nil]); first | done | rfl) ?_
                                  refine (HF2.out _ ?side1 x14_1 _ K_int x27_2 _ K_int t110 A23.out).mono ?_
                                  (case side1 => exact (by repeat (first | (with_reducible first | exact HB.out | apply below_alloc | apply pw_below_drewN | apply below_drew1) | exact HB.out)))
                                  rintro e w28 ⟨rfl, hb⟩
                                  have HS0_ := (hb.cell (World.block_lt_of_cell? _ _ (hHeld))).trans (hHeld)
                                  refine ⟨_, rfl, ?_⟩
                                  have n0_ := Aside0.mk (Kd.S_below (by (with_reducible repeat (first | apply Kd.S_alloc | apply Kd.S_drewN | apply Kd.S_drew)); exact HO_7.out) hb)
                                  have n1_ := Aside0.mk (Kd.R_below (by (with_reducible repeat (first | apply Kd.R_alloc | apply Kd.R_drewN | apply Kd.R_drew)); exact HL109_0.out) hb)
                                  have n2_ := Aside0.mk (Kd.C_below (by repeat (first | (with_reducible exact HR109_0.out) | (with_reducible refine Kd.C_alloc ?_ _) | (with_reducible refine Kd.C_drewN ?_ _) | (with_reducible refine Kd.C_drew ?_) | exact HR109_0.out)) hb)
                                  have n3_ := Aside0.mk (pw_cell_below hb HX109_0.out)
                                  have n4_ := Aside0.mk (below_step (by repeat (first | (with_reducible first | exact HB.out | apply below_alloc | apply pw_below_drewN | apply below_drew1) | exact HB.out)) hb)
                                  clear HO_7
                                  clear HL109_0
                                  clear HR109_0
                                  clear HX109_0
                                  clear HB
                                  have HO_7 := n0_
                                  have HL109_0 := n1_
                                  have HR109_0 := n2_
                                  have HX109_0 := n3_
                                  have HB := n4_
                                  clear n0_ n1_ n2_ n3_ n4_
                                  (try clear hb)
                                  (try clear hb2)
                                  (try clear hk)
                                  (try clear hi)
                                  have p26 : 0 ≤ (x27_2 : Int) := of_decide_eq_true (by first | (with_reducible assumption) | assumption)
                                  have q26 : (x27_2 : Int) < (((rd_L1 x7_2 x14_1).length : Int) : Int) := of_decide_eq_true (by first | (with_reducible assumption) | assumption)
                                  obtain ⟨go26, co26, eo26, gb26, gl26, cl26, HG26⟩ := Kd.R_form HL109_0.out (by omega)
                                  (first | cases eo26 | (injection eo26 with ea_ en_ ec_; (first | subst ea_ | (injection ea_ with ea_; subst ea_)); subst ec_; clear en_))
                                  have GB26 := Aside0.mk gb26
                                  have GG26 := Aside0.mk HG26
                                  clear gb26 gl26 HG26
                                  obtain ⟨hx26_0, hf26_0⟩ := Kd.R_celln 0 HL109_0.out (x27_2 : Int) p26 q26
                                  replace p26 := eq_true p26
                                  replace q26 := eq_true q26
                                  have hq29 : (x14_1 : Int) < (x7_2.length : Int) := (by have h_ : (x14_1 : Int) < ((x7_2.length : Int) : Int) := of_decide_eq_true (by first | (with_reducible assumption) | assumption); first | exact h_ | (have e_ := (Kd.S_reads' HO_7.out).1; omega) | simpa only [List.length_set, List.length_set] using h_)
                                  obtain ⟨oki29, ce29, hcl29, hM29, hcc29, hok29, hbk29⟩ := Kd.S_borrow HO_7.out [] (x14_1 : Int) (of_decide_eq_true (by first | (with_reducible assumption) | assumption)) hq29
                                  obtain ⟨ve29_0, rfl, ge29_0⟩ := hM29
                                  have hv29 := hcc29 0 _ rfl
                                  rw [Nat.add_zero, show ((Kd.slice 3 (Kd.int .i64))).sz = 1 from rfl, Nat.mul_one] at hv29
                                  replace hv29 := Option.some.inj (hv29.symm.trans HX109_0.out)
                                  subst hv29
                                  clear hcc29 hcl29
                                  replace ge29_0 := (show Kd.R (Kd.int .i64) 3 _ _ _ _ (rd_L1 x7_2 x14_1) from ge29_0)
                                  have HP29 := Kd.R_putg ge29_0 (x27_2 : Int) t110
                                  rw [← Ny111.out] at HP29
                                  have HS29 := hbk29 HP29.2 (fun k_ e_ => by injection e_ with e_; subst e_; exact ge29_0.1 _ rfl) (x' := y111) (Kd.M_row HP29.1)
                                  rw [← Ny113.out] at HS29
                                  have HQ29 := Aside0.mk HS29
                                  clear HP29 HS29 hbk29 hok29
                                  refine hK.out _ _ (HS0_) (fun hHeld => ?_)
                                  clear hK K
                                  refine norm_ (a' := ?_) ?_ ?_
                                  rotate_left
                                  · show Act.put _ (some 38) _ = _
                                    simp only [Act.put, List.setIfInBounds_toArray, List.set_cons_zero, List.set_cons_succ, i64_w, i32_w]
                                    rfl
                                  refine pure_ (i := 9) (N := some 39) (v := ?_) (a' := ?_) #[true, true, true, true, true, true, true, true, true, true, false] rfl rfl (any_of HT_.out (by kernel_rfl)) (fun _ _ _ h => h) (Or.inl ⟨by rfl, ?_⟩) ?_ ?_
                                  rotate_left
                                  · intro w'
                                    go_simp
                                    with_reducible rfl
                                  rotate_left
                                  · simp only [Act.put, List.setIfInBounds_toArray, List.set_cons_zero, List.set_cons_succ, i64_w, i32_w]
                                    rfl
                                  refine last_ (i := 10) (N := none) #[true, true, true, true, true, true, true, true, true, true, true] rfl rfl (one_of HT_.out (by kernel_rfl)) (by decide) (fun K hK => ?_)
                                  refine skip_ (w1 := ?_) (by rfl) rfl ?_ ?_
                                  rotate_left
                                  · go_simp
                                    rfl
                                  refine hK.out _ _ ?_
                                  clear hK K
                                  refine done_ (done_of HT_.out (by kernel_rfl)) ?_
                                  try go_wp2
                                  (try simp only [← hl7_2])
                                  go_roundg k2
                                  case measure => have := HK1.out; have := HK2.out; omega
                                  case rel => exact ⟨(y113), (wrap64 (x27_2 + 1)), (by first | rfl | (simp; done) | (simp [*]; done)), H', ⟨by have := HK1.out; have := HK2.out; omega⟩, ⟨by (try simp only [hl7_1]); (try simp only [hl7_2]); (with_reducible repeat (first | apply Kd.S_alloc | apply Kd.S_drewN | apply Kd.S_drew)); exact HQ29.out⟩, ⟨by repeat (first | (with_reducible first | exact HB.out | apply below_alloc | apply pw_below_drewN | apply below_drew1 | refine below_set ?_ GB26.out) | exact HB.out)⟩⟩
                                · rw [if_neg c25] at H
                                  exact absurd H (by simp)
                              · rw [if_neg c24] at H
                                exact absurd H (by simp)
                            · rw [if_neg c22] at H
                              exact absurd H (by simp)
                          · rw [if_neg c21] at H
                            exact absurd H (by simp)
                        · rw [if_neg c20] at H
                          have c20b0 : decide (x27_2 < ((rd_L1 y107 x14_1).length : Int)) = false := decide_eq_false c20
                          (try simp only [hl7_1, hl7_2] at c20b0)
                          clear c20
                          have H' := Aside0.mk H
                          clear H
                          go_wp2
                          (try simp only [← hl7_1, ← hl7_2])
                          go_roundg k2
                          case measure => have := HK1.out; have := HK2.out; omega
                          case rel => exact ⟨(x7_2), (wrap64 (x14_1 + 1)), (by first | rfl | (simp; done) | (simp [*]; done)), H', ⟨by have := HK1.out; have := HK2.out; omega⟩, ⟨by (try simp only [hl7_1]); (try simp only [hl7_2]); (with_reducible repeat (first | apply Kd.S_alloc | apply Kd.S_drewN | apply Kd.S_drew)); exact HO_7.out⟩, ⟨by repeat (first | (with_reducible first | exact HB.out | apply below_alloc | apply pw_below_drewN | apply below_drew1) | exact HB.out)⟩⟩
                  · rw [if_neg c13] at H
                    exact absurd H (by simp)
                · rw [if_neg c12] at H
                  exact absurd H (by simp)
              · rw [if_neg c11] at H
                exact absurd H (by simp)
            · rw [if_neg c10] at H
              exact absurd H (by simp)
          · rw [if_neg c9] at H
            have c9b0 : decide (x14_1 < (y101.length : Int)) = false := decide_eq_false c9
            (try simp only [hl7_1] at c9b0)
            clear c9
            obtain rfl := Option.some.inj H
            go_wp2
            go_ret
            exact ⟨_, by first | rfl | (simp [errW_none, errW_some] <;> rfl) | (simp [*, errW_none, errW_some] <;> rfl), by (with_reducible repeat (first | apply Kd.S_alloc | apply Kd.S_drewN | apply Kd.S_drew)); exact HO_7.out, by repeat (first | (with_reducible first | exact HB.out | apply below_alloc | apply pw_below_drewN | apply below_drew1) | exact HB.out)⟩
    · rw [if_neg c5] at H
      exact absurd H (by simp)
  · rw [if_neg c4] at H
    exact absurd H (by simp)

/-! ### impl_FromLeftHalf_1: function 84 -/
def impl_FromLeftHalf_1.f (l0 : List Int) (a1_0 : Int) : Option (Bool) := some ((l0.length : Int) != (wrap64 (Int.tdiv a1_0 2)))
set_option maxHeartbeats 8000000 in
set_option maxRecDepth 100000 in
theorem impl_FromLeftHalf_1.calls (A0 : Option Addr) (c0 : Nat) (l0 : List Int) (B1 : Nat) (a1_0 : Int) (r : Bool) (w : World) (hr0 : Kd.C (Kd.int .i64) w A0 l0.length l0) (hc0 : l0.length ≤ c0) (hb1 : w.heap[B1]? = some (.cells #[.int .i64 a1_0] 3 (0, 0))) (h : impl_FromLeftHalf_1.f l0 a1_0 = some r) :
    Calls Try.prog 84 #[.slice A0 l0.length c0, .pointer (some ⟨B1, 0, none⟩)] w fun e w' => e = .returned (.bool r) ∧ Drawn0 w w' := by
  have HR0 := Aside0.mk hr0
  have HC0 := Aside0.mk hc0
  clear hr0 hc0
  have BK61 := Aside0.mk hb1
  clear hb1
  have H : (some ((l0.length : Int) != (wrap64 (Int.tdiv a1_0 2)))) = some r := h
  clear h
  obtain rfl := Option.some.inj H
  have hcz3_0 : w.cell? ⟨B1, 0, none⟩ = some (.int .i64 a1_0) := (blk_cell BK61.out 0).trans rfl
  have hfz3_0 := blk_frozen BK61.out 0
  go_enter Try.func84, Try.ntmps84
  go_wp2
  go_ret
  exact ⟨by first | rfl | (simp; done) | (simp [*]; done), by repeat (first | exact Drawn0.refl _ | apply Drawn0.step)⟩

/-! ### impl_FromLeftHalf_2: function 85 -/
def impl_FromLeftHalf_2.f (a0 : Int) (a1 : Int) (a2_0 : Int) (l3_0 : List (List Int)) : Option (Int) := if a1 < (wrap64 (Int.tdiv a2_0 2)) then (if 0 ≤ a0 then (if a0 < (l3_0.length : Int) then (if 0 ≤ a1 then (if a1 < ((rd_L1 l3_0 a0).length : Int) then (some (rd (rd_L1 l3_0 a0) a1)) else (none)) else (none)) else (none)) else (none)) else (if a1 > (wrap64 (Int.tdiv a2_0 2)) then (if 0 ≤ a0 then (if a0 < (l3_0.length : Int) then (if 0 ≤ (wrap64 ((wrap64 (a2_0 - 1)) - a1)) then (if (wrap64 ((wrap64 (a2_0 - 1)) - a1)) < ((rd_L1 l3_0 a0).length : Int) then (some (rd (rd_L1 l3_0 a0) (wrap64 ((wrap64 (a2_0 - 1)) - a1)))) else (none)) else (none)) else (none)) else (none)) else (some (wrap64 (1 - (wrap64 ((Int.tmod a0 2) * 2))))))
set_option maxHeartbeats 8000000 in
set_option maxRecDepth 100000 in
theorem impl_FromLeftHalf_2.calls (a0 : Int) (a1 : Int) (B2 : Nat) (a2_0 : Int) (B3 : Nat) (A3_0 : Option Addr) (c3_0 : Nat) (l3_0 : List (List Int)) (r : Int) (w : World) (hb2 : w.heap[B2]? = some (.cells #[.int .i64 a2_0] 3 (0, 0))) (hb3 : w.heap[B3]? = some (.cells #[.slice A3_0 l3_0.length c3_0] 27 (0, 0))) (hr3_0 : Kd.C (Kd.slice 3 (Kd.int .i64)) w A3_0 l3_0.length l3_0) (hc3_0 : l3_0.length ≤ c3_0) (h : impl_FromLeftHalf_2.f a0 a1 a2_0 l3_0 = some r) :
    Calls Try.prog 85 #[.int .i64 a0, .int .i64 a1, .pointer (some ⟨B2, 0, none⟩), .pointer (some ⟨B3, 0, none⟩)] w fun e w' => e = .returned (.int .i64 r) ∧ Drawn0 w w' := by
  have HR3_0 := Aside0.mk hr3_0
  have HC3_0 := Aside0.mk hc3_0
  clear hr3_0 hc3_0
  have BK62 := Aside0.mk hb2
  clear hb2
  have BK63 := Aside0.mk hb3
  clear hb3
  have H : (if a1 < (wrap64 (Int.tdiv a2_0 2)) then (if 0 ≤ a0 then (if a0 < (l3_0.length : Int) then (if 0 ≤ a1 then (if a1 < ((rd_L1 l3_0 a0).length : Int) then (some (rd (rd_L1 l3_0 a0) a1)) else (none)) else (none)) else (none)) else (none)) else (if a1 > (wrap64 (Int.tdiv a2_0 2)) then (if 0 ≤ a0 then (if a0 < (l3_0.length : Int) then (if 0 ≤ (wrap64 ((wrap64 (a2_0 - 1)) - a1)) then (if (wrap64 ((wrap64 (a2_0 - 1)) - a1)) < ((rd_L1 l3_0 a0).length : Int) then (some (rd (rd_L1 l3_0 a0) (wrap64 ((wrap64 (a2_0 - 1)) - a1)))) else (none)) else (none)) else (none)) else (none)) else (some (wrap64 (1 - (wrap64 ((Int.tmod a0 2) * 2))))))) = some r := h
  clear h
  by_cases c5 : a1 < (wrap64 (Int.tdiv a2_0 2))
  · rw [if_pos c5] at H
    have c5b0 : decide (a1 < (wrap64 (Int.tdiv a2_0 2))) = true := decide_eq_true c5
    clear c5
    by_cases c6 : 0 ≤ a0
    · rw [if_pos c6] at H
      have c6b0 : decide (0 ≤ a0) = true := decide_eq_true c6
      clear c6
      by_cases c7 : a0 < (l3_0.length : Int)
      · rw [if_pos c7] at H
        have c7b0 : decide (a0 < (l3_0.length : Int)) = true := decide_eq_true c7
        clear c7
        by_cases c8 : 0 ≤ a1
        · rw [if_pos c8] at H
          have c8b0 : decide (0 ≤ a1) = true := decide_eq_true c8
          clear c8
          by_cases c9 : a1 < ((rd_L1 l3_0 a0).length : Int)
          · rw [if_pos c9] at H
            have c9b0 : decide (a1 < ((rd_L1 l3_0 a0).length : Int)) = true := decide_eq_true c9
            clear c9
            obtain rfl := Option.some.inj H
            have hcz10_0 : w.cell? ⟨B2, 0, none⟩ = some (.int .i64 a2_0) := (blk_cell BK62.out 0).trans rfl
            have hfz10_0 := blk_frozen BK62.out 0
            have hcz11_0 : w.cell? ⟨B3, 0, none⟩ = some (.slice A3_0 l3_0.length c3_0) := (blk_cell BK63.out 0).trans rfl
            have hfz11_0 := blk_frozen BK63.out 0
            have p101 : 0 ≤ (a0 : Int) := of_decide_eq_true (by first | (with_reducible assumption) | assumption)
            have q101 : a0 < (l3_0.length : Int) := of_decide_eq_true (by first | (with_reducible assumption) | assumption)
            obtain ⟨ad101, A101_0, c101_0, e101, hx101_0, hl101_0, hi101_0⟩ := at_L1 HR3_0.out a0 p101 q101
            cases e101
            have HR101_0 := Aside0.mk hi101_0
            have HC101_0 := Aside0.mk hl101_0
            clear hi101_0 hl101_0
            replace p101 := eq_true p101
            replace q101 := eq_true q101
            have p102 : 0 ≤ (a1 : Int) := of_decide_eq_true (by first | (with_reducible assumption) | assumption)
            have q102 : a1 < ((rd_L1 l3_0 a0).length : Int) := of_decide_eq_true (by first | (with_reducible assumption) | assumption)
            obtain ⟨ad102, e102, hx102_0⟩ := Kd.at_int HR101_0.out a1 p102 q102
            cases e102
            replace p102 := eq_true p102
            replace q102 := eq_true q102
            go_enter Try.func85, Try.ntmps85
            go_wp2
            repeat (go_quiet (fail); try go_wp2)
            go_ret
            exact ⟨by first | rfl | (simp; done) | (simp [*]; done), by repeat (first | exact Drawn0.refl _ | apply Drawn0.step)⟩
          · rw [if_neg c9] at H
            exact absurd H (by simp)
        · rw [if_neg c8] at H
          exact absurd H (by simp)
      · rw [if_neg c7] at H
        exact absurd H (by simp)
    · rw [if_neg c6] at H
      exact absurd H (by simp)
  · rw [if_neg c5] at H
    have c5b0 : decide (a1 < (wrap64 (Int.tdiv a2_0 2))) = false := decide_eq_false c5
    clear c5
    by_cases c12 : a1 > (wrap64 (Int.tdiv a2_0 2))
    · rw [if_pos c12] at H
      have c12b0 : decide ((wrap64 (Int.tdiv a2_0 2)) < a1) = true := decide_eq_true c12
      clear c12
      by_cases c13 : 0 ≤ a0
      · rw [if_pos c13] at H
        have c13b0 : decide (0 ≤ a0) = true := decide_eq_true c13
        clear c13
        by_cases c14 : a0 < (l3_0.length : Int)
        · rw [if_pos c14] at H
          have c14b0 : decide (a0 < (l3_0.length : Int)) = true := decide_eq_true c14
          clear c14
          obtain ⟨ji15, hji15⟩ : ∃ j_ : Int, (wrap64 ((wrap64 (a2_0 - 1)) - a1)) = j_ := ⟨_, rfl⟩
          replace H : (if 0 ≤ (ji15) then (if (ji15) < ((rd_L1 l3_0 a0).length : Int) then (some (rd (rd_L1 l3_0 a0) (ji15))) else (none)) else (none)) = some r := by first | (rw [hji15] at H; exact H) | (simp only [hji15] at H ⊢; exact H)
          have hji15w : (IntKind.i64.wrap ((wrap64 (a2_0 - 1)) - a1)) = ji15 := (i64_w _).trans hji15
          by_cases c16 : 0 ≤ (ji15)
          · rw [if_pos c16] at H
            have c16b0 : decide (0 ≤ (ji15)) = true := decide_eq_true c16
            clear c16
            by_cases c17 : (ji15) < ((rd_L1 l3_0 a0).length : Int)
            · rw [if_pos c17] at H
              have c17b0 : decide ((ji15) < ((rd_L1 l3_0 a0).length : Int)) = true := decide_eq_true c17
              clear c17
              obtain rfl := Option.some.inj H
              have hcz18_0 : w.cell? ⟨B2, 0, none⟩ = some (.int .i64 a2_0) := (blk_cell BK62.out 0).trans rfl
              have hfz18_0 := blk_frozen BK62.out 0
              have hcz19_0 : w.cell? ⟨B3, 0, none⟩ = some (.slice A3_0 l3_0.length c3_0) := (blk_cell BK63.out 0).trans rfl
              have hfz19_0 := blk_frozen BK63.out 0
              have p103 : 0 ≤ (a0 : Int) := of_decide_eq_true (by first | (with_reducible assumption) | assumption)
              have q103 : a0 < (l3_0.length : Int) := of_decide_eq_true (by first | (with_reducible assumption) | assumption)
              obtain ⟨ad103, A103_0, c103_0, e103, hx103_0, hl103_0, hi103_0⟩ := at_L1 HR3_0.out a0 p103 q103
              cases e103
              have HR103_0 := Aside0.mk hi103_0
              have HC103_0 := Aside0.mk hl103_0
              clear hi103_0 hl103_0
              replace p103 := eq_true p103
              replace q103 := eq_true q103
              have p104 : 0 ≤ ((ji15) : Int) := of_decide_eq_true (by first | (with_reducible assumption) | assumption)
              have q104 : (ji15) < ((rd_L1 l3_0 a0).length : Int) := of_decide_eq_true (by first | (with_reducible assumption) | assumption)
              obtain ⟨ad104, e104, hx104_0⟩ := Kd.at_int HR103_0.out (ji15) p104 q104
              cases e104
              replace p104 := eq_true p104
              replace q104 := eq_true q104
              go_enter Try.func85, Try.ntmps85
              go_wp2
              repeat (go_quiet (fail); try go_wp2)
              go_ret
              exact ⟨by first | rfl | (simp; done) | (simp only [← hji15] <;> (first | rfl | simp)) | (simp [*]; done), by repeat (first | exact Drawn0.refl _ | apply Drawn0.step)⟩
            · rw [if_neg c17] at H
              exact absurd H (by simp)
          · rw [if_neg c16] at H
            exact absurd H (by simp)
        · rw [if_neg c14] at H
          exact absurd H (by simp)
      · rw [if_neg c13] at H
        exact absurd H (by simp)
    · rw [if_neg c12] at H
      have c12b0 : decide ((wrap64 (Int.tdiv a2_0 2)) < a1) = false := decide_eq_false c12
      clear c12
      obtain rfl := Option.some.inj H
      have hcz20_0 : w.cell? ⟨B2, 0, none⟩ = some (.int .i64 a2_0) := (blk_cell BK62.out 0).trans rfl
      have hfz20_0 := blk_frozen BK62.out 0
      go_enter Try.func85, Try.ntmps85
      go_wp2
      repeat (go_quiet (fail); try go_wp2)
      go_ret
      exact ⟨by first | rfl | (simp; done) | (simp [*]; done), by repeat (first | exact Drawn0.refl _ | apply Drawn0.step)⟩

/-! ### impl_FromLeftHalf: function 42 -/
def impl_FromLeftHalf.j0 : Nat → Bool → List (List Int) → Int → Option ((List (List Int)) × Bool)
  | 0, _, _, _ => none
  | k + 1, x25, x102000, x103000 => if x25 = true then (some (([] : List (List Int)), false)) else ((impl_table.f k x103000 x103000 (fun x0_ x1_ => impl_FromLeftHalf_2.f x0_ x1_ x103000 x102000)).bind fun t105 => ((impl_IsSignMatrix.f k t105).bind fun t108 => (if t108 = true then (some (t105, true)) else (some (([] : List (List Int)), false)))))
def impl_FromLeftHalf.f (k : Nat) (l0 : List (List Int)) : Option ((List (List Int)) × Bool) := (impl_isSide.f (l0.length : Int)).bind fun t103 => (if t103 = true then (if ((l0.length : Int) % 2) = 0 then (impl_FromLeftHalf.j0 k true l0 (l0.length : Int)) else (if (wrap64 ((l0.length : Int) / 2)) > 2 then (impl_FromLeftHalf.j0 k true l0 (l0.length : Int)) else ((slices_ContainsFunc_int_int.f k l0 (fun x0_ => impl_FromLeftHalf_1.f x0_ (l0.length : Int))).bind fun t104 => (impl_FromLeftHalf.j0 k t104 l0 (l0.length : Int))))) else (impl_FromLeftHalf.j0 k true l0 (l0.length : Int)))
theorem impl_FromLeftHalf.mono_l : ∀ k, (∀ y0 y1 y2, LeO (impl_FromLeftHalf.j0 k y0 y1 y2) (impl_FromLeftHalf.j0 (k + 1) y0 y1 y2))
  | 0 => fun _ _ _ r h => by simp [impl_FromLeftHalf.j0] at h
  | k + 1 => by
    have ih0 := impl_FromLeftHalf.mono_l k
    · intro y0 y1 y2
      unfold impl_FromLeftHalf.j0
      repeat' first
      | (with_reducible exact ih0 _ _ _)
      | (with_reducible exact impl_IsSignMatrix.mono _ _)
      | (with_reducible refine impl_table.mono _ _ _ _ (fun _ _ => ?_) _)
      | (with_reducible refine slices_ContainsFunc_int_int.mono _ _ _ (fun _ => ?_) _)
      | (with_reducible exact LeO.refl _)
      | (with_reducible exact LeO.none _)
      | (with_reducible refine LeO.ite ?_ ?_)
      | (with_reducible refine LeO.bind ?_ (fun _ => ?_))
      | exact ih0 _ _ _
      | exact impl_IsSignMatrix.mono _ _
      | exact LeO.none _
      | refine LeO.ite ?_ ?_
      | refine LeO.bind ?_ (fun _ => ?_)
theorem impl_FromLeftHalf.mono : ∀ a0  k, LeO (impl_FromLeftHalf.f k a0) (impl_FromLeftHalf.f (k + 1) a0) := by
  intro a0 k
  have ih0 := impl_FromLeftHalf.mono_l k
  unfold impl_FromLeftHalf.f
  repeat' first
      | (with_reducible exact ih0 _ _ _)
      | (with_reducible exact impl_IsSignMatrix.mono _ _)
      | (with_reducible refine impl_table.mono _ _ _ _ (fun _ _ => ?_) _)
      | (with_reducible refine slices_ContainsFunc_int_int.mono _ _ _ (fun _ => ?_) _)
      | (with_reducible exact LeO.refl _)
      | (with_reducible exact LeO.none _)
      | (with_reducible refine LeO.ite ?_ ?_)
      | (with_reducible refine LeO.bind ?_ (fun _ => ?_))
      | exact ih0 _ _ _
      | exact impl_IsSignMatrix.mono _ _
      | exact LeO.none _
      | refine LeO.ite ?_ ?_
      | refine LeO.bind ?_ (fun _ => ?_)
set_option maxHeartbeats 8000000 in
set_option maxRecDepth 100000 in
theorem impl_FromLeftHalf.calls (k : Nat) (A0 : Option Addr) (c0 : Nat) (l0 : List (List Int)) (r1 : List (List Int)) (r2 : Bool) (w : World) (hr0 : Kd.C (Kd.slice 3 (Kd.int .i64)) w A0 l0.length l0) (hc0 : l0.length ≤ c0) (h : impl_FromLeftHalf.f k l0 = some (r1, r2)) :
    Calls Try.prog 42 #[.slice A0 l0.length c0] w fun e w' => ∃ v0_ : Value, e = .returned (.tuple #[v0_, .bool r2]) ∧ Kd.S (Kd.slice 3 (Kd.int .i64)) 34 w' w.heap.size (fun _ => True) v0_ r1 ∧ Below w.heap.size w w' := by
  have HR0 := Aside0.mk hr0
  have HC0 := Aside0.mk hc0
  clear hr0 hc0
  have HB := Aside0.mk (Below.refl w.heap.size w)
  have H : ((impl_isSide.f (l0.length : Int)).bind fun t103 => (if t103 = true then (if ((l0.length : Int) % 2) = 0 then (impl_FromLeftHalf.j0 k true l0 (l0.length : Int)) else (if (wrap64 ((l0.length : Int) / 2)) > 2 then (impl_FromLeftHalf.j0 k true l0 (l0.length : Int)) else ((slices_ContainsFunc_int_int.f k l0 (fun x0_ => impl_FromLeftHalf_1.f x0_ (l0.length : Int))).bind fun t104 => (impl_FromLeftHalf.j0 k t104 l0 (l0.length : Int))))) else (impl_FromLeftHalf.j0 k true l0 (l0.length : Int)))) = some (r1, r2) := h
  clear h
  have HC2 := Aside0.mk H
  clear H
  go_enter Try.func42, Try.ntmps42
  go_upto_region 2 with (first | ((with_reducible refine gate_dst (N := 1) rfl ?_); refine box_event ?hg (N := 1) ?hd (cs := #[.slice A0 l0.length c0]) (t := 27) ?hr ?_; (case hd => rfl); (case hg => rfl); (case hr => first | (go_simp; done) | (go_simp; rfl)); intro gb101 hg w3 hbox hb; have n0_ := Aside0.mk (below_step (by repeat (first | (with_reducible first | exact HB.out | apply below_alloc | apply pw_below_drewN | apply below_drew1) | exact HB.out)) hb); have n1_ := Aside0.mk (hbox); have n2_ := Aside0.mk ((by rw [hg]; exact (below_size (by repeat (first | (with_reducible first | exact HB.out | apply below_alloc | apply pw_below_drewN | apply below_drew1) | exact HB.out))) : w.heap.size ≤ gb101)); have n3_ := Aside0.mk ((by rw [hg]; exact (below_size (by repeat (first | (with_reducible first | exact HB.out | apply below_alloc | apply pw_below_drewN | apply below_drew1) | exact HB.out))) : w.heap.size ≤ gb101)); clear HB; have HB := n0_; have BK101 := n1_; have GW101 := n2_; have GE101 := n3_; clear n0_ n1_ n2_ n3_; clear hb hbox hg; have hcz4_0 : w3.cell? ⟨gb101, 0, none⟩ = some (.slice A0 l0.length c0) := (blk_cell BK101.out 0).trans rfl; have hfz4_0 := blk_frozen BK101.out 0) | ((with_reducible refine gate_dst (N := 4) rfl ?_); refine box_event ?hg (N := 4) ?hd (cs := #[.int .i64 0]) (t := 3) ?hr ?_; (case hd => rfl); (case hg => rfl); (case hr => first | (go_simp; done) | (go_simp; rfl)); intro gb102 hg w5 hbox hb; have n0_ := Aside0.mk (blk_below (g := gb101) (o := .cells #[.slice A0 l0.length c0] 27 (0, 0)) (by (with_reducible repeat (first | refine blk_drewN ?_ _ | refine blk_drew ?_ | refine blk_alloc ?_ _)); exact BK101.out) hb); have n1_ := Aside0.mk (below_step (by repeat (first | (with_reducible first | exact HB.out | apply below_alloc | apply pw_below_drewN | apply below_drew1 | refine below_set ?_ GE101.out) | exact HB.out)) hb); have n2_ := Aside0.mk (hbox); have n3_ := Aside0.mk ((by rw [hg]; exact (below_size (by repeat (first | (with_reducible first | exact HB.out | apply below_alloc | apply pw_below_drewN | apply below_drew1 | refine below_set ?_ GE101.out) | exact HB.out))) : w.heap.size ≤ gb102)); have n4_ := Aside0.mk ((by rw [hg]; exact (below_size (by repeat (first | (with_reducible first | exact HB.out | apply below_alloc | apply pw_below_drewN | apply below_drew1 | refine below_set ?_ GE101.out) | exact HB.out))) : w.heap.size ≤ gb102)); have n5_ := Aside0.mk ((by rw [hg]; exact Nat.ne_of_lt (blk_lt (g := gb101) (o := .cells #[.slice A0 l0.length c0] 27 (0, 0)) (by (with_reducible repeat (first | refine blk_drewN ?_ _ | refine blk_drew ?_ | refine blk_alloc ?_ _)); exact BK101.out)) : gb101 ≠ gb102)); have n6_ := Aside0.mk ((by rw [hg]; exact Nat.ne_of_gt (blk_lt (g := gb101) (o := .cells #[.slice A0 l0.length c0] 27 (0, 0)) (by (with_reducible repeat (first | refine blk_drewN ?_ _ | refine blk_drew ?_ | refine blk_alloc ?_ _)); exact BK101.out)) : gb102 ≠ gb101)); clear BK101; clear HB; have BK101 := n0_; have HB := n1_; have BK102 := n2_; have GW102 := n3_; have GE102 := n4_; have NB101_102 := n5_; have NB102_101 := n6_; clear n0_ n1_ n2_ n3_ n4_ n5_ n6_; clear hb hbox hg; have hnb6 := NB102_101.out; have hnc6 := NB101_102.out; have hcz7_0 : w5.cell? ⟨gb102, 0, none⟩ = some (.int .i64 0) := (blk_cell BK102.out 0).trans rfl; have hfz7_0 := blk_frozen BK102.out 0))
  (try simp only [Act.put, List.setIfInBounds_toArray, List.set_cons_zero, List.set_cons_succ])
  go_cut [25] (fun v25 wc => ∃ (kq : Nat) (x25_1 : Bool), v25 = .bool x25_1 ∧ Aside0 (impl_FromLeftHalf.j0 kq x25_1 l0 (l0.length : Int) = some (r1, r2)) ∧ Aside0 (kq ≤ k) ∧ Aside0 (wc.heap[gb101]? = some (.cells #[(.slice A0 l0.length c0)] 27 (0, 0))) ∧ Aside0 (wc.heap[gb102]? = some (.cells #[.int .i64 (l0.length : Int)] 3 (0, 0))) ∧ Aside0 (Below w.heap.size w wc))
  case first =>
    have H := HC2.out
    clear HC2
    replace H := Option.bind_eq_some_iff.mp H
    obtain ⟨t103, A80, H⟩ := H
    replace H : (if t103 = true then (if ((l0.length : Int) % 2) = 0 then (impl_FromLeftHalf.j0 k true l0 (l0.length : Int)) else (if (wrap64 ((l0.length : Int) / 2)) > 2 then (impl_FromLeftHalf.j0 k true l0 (l0.length : Int)) else ((slices_ContainsFunc_int_int.f k l0 (fun x0_ => impl_FromLeftHalf_1.f x0_ (l0.length : Int))).bind fun t104 => (impl_FromLeftHalf.j0 k t104 l0 (l0.length : Int))))) else (impl_FromLeftHalf.j0 k true l0 (l0.length : Int))) = some (r1, r2) := H
    have A8 := Aside0.mk A80
    clear A80
    by_cases c9 : t103 = true
    · subst c9
      have H1 : (if ((l0.length : Int) % 2) = 0 then (impl_FromLeftHalf.j0 k true l0 (l0.length : Int)) else (if (wrap64 ((l0.length : Int) / 2)) > 2 then (impl_FromLeftHalf.j0 k true l0 (l0.length : Int)) else ((slices_ContainsFunc_int_int.f k l0 (fun x0_ => impl_FromLeftHalf_1.f x0_ (l0.length : Int))).bind fun t104 => (impl_FromLeftHalf.j0 k t104 l0 (l0.length : Int))))) = some (r1, r2) := by rw [if_pos rfl] at H; exact H
      clear H
      have H := H1
      clear H1
      by_cases c10 : ((l0.length : Int) % 2) = 0
      · rw [if_pos c10] at H
        have c10b0 : (((l0.length : Int) % 2) == 0) = true := beq_iff_eq.mpr c10
        have c10b1 : (((l0.length : Int) % 2) != 0) = false := bne_eq_false_iff_eq.mpr c10
        clear c10
        (first | rw [c10b0] | (simp only [i64_w, i32_w]; rw [c10b0]) | skip)
        have H' := Aside0.mk H
        clear H
        have hnb11 := NB102_101.out
        have hnc11 := NB101_102.out
        have hcz12_0 : w5.cell? ⟨gb102, 0, none⟩ = some (.int .i64 0) := (blk_cell BK102.out 0).trans rfl
        have hfz12_0 := blk_frozen BK102.out 0
        go_wp2_with (first | ((with_reducible refine gate_callee (f := 65) rfl ?_); refine goesL_ (some 9) rfl rfl Try.func65 (by kernel_rfl) rfl #[.int .i64 (l0.length : Int)] rfl (by (try simp only [List.map_toArray, List.map_cons, List.map_nil]); first | done | rfl | (simp only [List.length_drop, List.length_take]; rfl)) ?_; (with_reducible refine (impl_isSide.calls (l0.length : Int) true _ A8.out).mono ?_); rintro e w' ⟨rfl, ⟨nd, rfl⟩⟩; refine ⟨_, rfl, ?_⟩))
        go_meet
        case rel => exact ⟨_, (true), (by first | rfl | (simp; done) | (simp [*]; done)), H', ⟨by first | omega | exact Nat.le_refl _⟩, ⟨by (with_reducible repeat (first | refine blk_drewN ?_ _ | refine blk_drew ?_ | refine blk_alloc ?_ _)); refine blk_far ?_ NB101_102.out _; (with_reducible repeat (first | refine blk_drewN ?_ _ | refine blk_drew ?_ | refine blk_alloc ?_ _)); exact BK101.out⟩, ⟨by (with_reducible repeat (first | refine blk_drewN ?_ _ | refine blk_drew ?_ | refine blk_alloc ?_ _)); refine blk_put (cs := #[.int .i64 0]) ?_ 0 _ rfl; (with_reducible repeat (first | refine blk_drewN ?_ _ | refine blk_drew ?_ | refine blk_alloc ?_ _)); exact BK102.out⟩, ⟨by repeat (first | (with_reducible first | exact HB.out | apply below_alloc | apply pw_below_drewN | apply below_drew1 | refine below_set ?_ GE101.out | refine below_set ?_ GE102.out) | exact HB.out)⟩⟩
      · rw [if_neg c10] at H
        have c10b0 : (((l0.length : Int) % 2) == 0) = false := beq_eq_false_iff_ne.mpr c10
        have c10b1 : (((l0.length : Int) % 2) != 0) = true := bne_iff_ne.mpr c10
        (first | rw [c10b0] | (simp only [i64_w, i32_w]; rw [c10b0]) | skip)
        by_cases c13 : (wrap64 ((l0.length : Int) / 2)) > 2
        · rw [if_pos c13] at H
          have c13b0 : decide (2 < (wrap64 ((l0.length : Int) / 2))) = true := decide_eq_true c13
          clear c13
          have H' := Aside0.mk H
          clear H
          have hnb14 := NB102_101.out
          have hnc14 := NB101_102.out
          have hcz15_0 : w5.cell? ⟨gb102, 0, none⟩ = some (.int .i64 0) := (blk_cell BK102.out 0).trans rfl
          have hfz15_0 := blk_frozen BK102.out 0
          go_wp2_with (first | ((with_reducible refine gate_callee (f := 65) rfl ?_); refine goesL_ (some 9) rfl rfl Try.func65 (by kernel_rfl) rfl #[.int .i64 (l0.length : Int)] rfl (by (try simp only [List.map_toArray, List.map_cons, List.map_nil]); first | done | rfl | (simp only [List.length_drop, List.length_take]; rfl)) ?_; (with_reducible refine (impl_isSide.calls (l0.length : Int) true _ A8.out).mono ?_); rintro e w' ⟨rfl, ⟨nd, rfl⟩⟩; refine ⟨_, rfl, ?_⟩))
          go_meet
          case rel => exact ⟨_, (true), (by first | rfl | (simp; done) | (simp [*]; done)), H', ⟨by first | omega | exact Nat.le_refl _⟩, ⟨by (with_reducible repeat (first | refine blk_drewN ?_ _ | refine blk_drew ?_ | refine blk_alloc ?_ _)); refine blk_far ?_ NB101_102.out _; (with_reducible repeat (first | refine blk_drewN ?_ _ | refine blk_drew ?_ | refine blk_alloc ?_ _)); exact BK101.out⟩, ⟨by (with_reducible repeat (first | refine blk_drewN ?_ _ | refine blk_drew ?_ | refine blk_alloc ?_ _)); refine blk_put (cs := #[.int .i64 0]) ?_ 0 _ rfl; (with_reducible repeat (first | refine blk_drewN ?_ _ | refine blk_drew ?_ | refine blk_alloc ?_ _)); exact BK102.out⟩, ⟨by repeat (first | (with_reducible first | exact HB.out | apply below_alloc | apply pw_below_drewN | apply below_drew1 | refine below_set ?_ GE101.out | refine below_set ?_ GE102.out) | exact HB.out)⟩⟩
        · rw [if_neg c13] at H
          have c13b0 : decide (2 < (wrap64 ((l0.length : Int) / 2))) = false := decide_eq_false c13
          clear c13
          replace H := Option.bind_eq_some_iff.mp H
          obtain ⟨t104, A160, H⟩ := H
          replace H : (impl_FromLeftHalf.j0 k t104 l0 (l0.length : Int)) = some (r1, r2) := H
          have A16 := Aside0.mk A160
          clear A160
          have H' := Aside0.mk H
          clear H
          have hnb17 := NB102_101.out
          have hnc17 := NB101_102.out
          have hcz18_0 : w5.cell? ⟨gb102, 0, none⟩ = some (.int .i64 0) := (blk_cell BK102.out 0).trans rfl
          have hfz18_0 := blk_frozen BK102.out 0
          go_wp2_with (first | ((with_reducible refine gate_callee (f := 65) rfl ?_); refine goesL_ (some 9) rfl rfl Try.func65 (by kernel_rfl) rfl #[.int .i64 (l0.length : Int)] rfl (by (try simp only [List.map_toArray, List.map_cons, List.map_nil]); first | done | rfl | (simp only [List.length_drop, List.length_take]; rfl)) ?_; (with_reducible refine (impl_isSide.calls (l0.length : Int) true _ A8.out).mono ?_); rintro e w' ⟨rfl, ⟨nd, rfl⟩⟩; refine ⟨_, rfl, ?_⟩; have hcz19_0 : w5.cell? ⟨gb101, 0, none⟩ = some (.slice A0 l0.length c0) := (blk_cell BK101.out 0).trans rfl; have hfz19_0 := blk_frozen BK101.out 0) | (go_at_call 83; (with_reducible refine (slices_ContainsFunc_int_int.calls k _ _ l0 _ _ (fun x0_ => impl_FromLeftHalf_1.f x0_ (l0.length : Int)) t104 _ ?side1 ?side2 ?side3 A16.out).mono ?_); (case side1 => exact Kd.C_below HR0.out (by repeat (first | (with_reducible first | exact HB.out | apply below_alloc | apply pw_below_drewN | apply below_drew1 | refine below_set ?_ GE101.out | refine below_set ?_ GE102.out) | exact HB.out))); (case side2 => exact HC0.out); (case side3 => refine ⟨enters_of Try.func84 (by kernel_rfl) rfl, fun W_ hW_ x0_ v0_ hK0_ r_ hr_ => ?_⟩; obtain ⟨A0_, c0_, e0_, hl0_, hC0_⟩ := hK0_; cases e0_; refine (impl_FromLeftHalf_1.calls A0_ c0_ x0_ _ (l0.length : Int) r_ W_ hC0_ hl0_ ?cb1 hr_).mono ?_; (case cb1 => exact blk_below (by (with_reducible repeat (first | refine blk_drewN ?_ _ | refine blk_drew ?_ | refine blk_alloc ?_ _)); refine blk_put (cs := #[.int .i64 0]) ?_ 0 _ rfl; (with_reducible repeat (first | refine blk_drewN ?_ _ | refine blk_drew ?_ | refine blk_alloc ?_ _)); exact BK102.out) hW_); exact fun _ _ h_ => ⟨h_.1, h_.2.below⟩); rintro e w20 ⟨rfl, hb⟩; have n0_ := Aside0.mk (blk_below (g := gb101) (o := .cells #[.slice A0 l0.length c0] 27 (0, 0)) (by (with_reducible repeat (first | refine blk_drewN ?_ _ | refine blk_drew ?_ | refine blk_alloc ?_ _)); refine blk_far ?_ NB101_102.out _; (with_reducible repeat (first | refine blk_drewN ?_ _ | refine blk_drew ?_ | refine blk_alloc ?_ _)); exact BK101.out) hb); have n1_ := Aside0.mk (blk_below (g := gb102) (o := .cells #[.int .i64 (l0.length : Int)] 3 (0, 0)) (by (with_reducible repeat (first | refine blk_drewN ?_ _ | refine blk_drew ?_ | refine blk_alloc ?_ _)); refine blk_put (cs := #[.int .i64 0]) ?_ 0 _ rfl; (with_reducible repeat (first | refine blk_drewN ?_ _ | refine blk_drew ?_ | refine blk_alloc ?_ _)); exact BK102.out) hb); have n2_ := Aside0.mk (below_step (by repeat (first | (with_reducible first | exact HB.out | apply below_alloc | apply pw_below_drewN | apply below_drew1 | refine below_set ?_ GE101.out | refine below_set ?_ GE102.out) | exact HB.out)) hb); clear BK101; clear BK102; clear HB; have BK101 := n0_; have BK102 := n1_; have HB := n2_; clear n0_ n1_ n2_; (try clear hb); (try clear hb2); (try clear hk); (try clear hi)))
          go_meet
          case rel => exact ⟨_, (t104), (by first | rfl | (simp; done) | (simp [*]; done)), H', ⟨by first | omega | exact Nat.le_refl _⟩, ⟨by (with_reducible repeat (first | refine blk_drewN ?_ _ | refine blk_drew ?_ | refine blk_alloc ?_ _)); exact BK101.out⟩, ⟨by (with_reducible repeat (first | refine blk_drewN ?_ _ | refine blk_drew ?_ | refine blk_alloc ?_ _)); exact BK102.out⟩, ⟨by repeat (first | (with_reducible first | exact HB.out | apply below_alloc | apply pw_below_drewN | apply below_drew1 | refine below_set ?_ GE101.out | refine below_set ?_ GE102.out) | exact HB.out)⟩⟩
    · replace c9 := Bool.eq_false_iff.mpr c9
      subst c9
      have H1 : (impl_FromLeftHalf.j0 k true l0 (l0.length : Int)) = some (r1, r2) := by rw [if_neg (show ¬ (false = true) by decide)] at H; exact H
      clear H
      have H := H1
      clear H1
      have H' := Aside0.mk H
      clear H
      have hnb21 := NB102_101.out
      have hnc21 := NB101_102.out
      have hcz22_0 : w5.cell? ⟨gb102, 0, none⟩ = some (.int .i64 0) := (blk_cell BK102.out 0).trans rfl
      have hfz22_0 := blk_frozen BK102.out 0
      go_wp2_with (first | ((with_reducible refine gate_callee (f := 65) rfl ?_); refine goesL_ (some 9) rfl rfl Try.func65 (by kernel_rfl) rfl #[.int .i64 (l0.length : Int)] rfl (by (try simp only [List.map_toArray, List.map_cons, List.map_nil]); first | done | rfl | (simp only [List.length_drop, List.length_take]; rfl)) ?_; (with_reducible refine (impl_isSide.calls (l0.length : Int) false _ A8.out).mono ?_); rintro e w' ⟨rfl, ⟨nd, rfl⟩⟩; refine ⟨_, rfl, ?_⟩))
      go_meet
      case rel => exact ⟨_, (true), (by first | rfl | (simp; done) | (simp [*]; done)), H', ⟨by first | omega | exact Nat.le_refl _⟩, ⟨by (with_reducible repeat (first | refine blk_drewN ?_ _ | refine blk_drew ?_ | refine blk_alloc ?_ _)); refine blk_far ?_ NB101_102.out _; (with_reducible repeat (first | refine blk_drewN ?_ _ | refine blk_drew ?_ | refine blk_alloc ?_ _)); exact BK101.out⟩, ⟨by (with_reducible repeat (first | refine blk_drewN ?_ _ | refine blk_drew ?_ | refine blk_alloc ?_ _)); refine blk_put (cs := #[.int .i64 0]) ?_ 0 _ rfl; (with_reducible repeat (first | refine blk_drewN ?_ _ | refine blk_drew ?_ | refine blk_alloc ?_ _)); exact BK102.out⟩, ⟨by repeat (first | (with_reducible first | exact HB.out | apply below_alloc | apply pw_below_drewN | apply below_drew1 | refine below_set ?_ GE101.out | refine below_set ?_ GE102.out) | exact HB.out)⟩⟩
  case rest =>
    clear HC2
    try clear c1
    try clear c2
    try clear p2
    try clear c4
    try clear c6
    try clear p6
    try clear c8
    try clear c9
    try clear c10
    try clear c10b0
    try clear c10b1
    try clear c11
    try clear c13
    try clear c13b0
    try clear c14
    try clear c17
    try clear c21
    try clear hcz12_0
    try clear hcz15_0
    try clear hcz18_0
    try clear hcz19_0
    try clear hcz22_0
    try clear hcz4_0
    try clear hcz7_0
    try clear hfz12_0
    try clear hfz15_0
    try clear hfz18_0
    try clear hfz19_0
    try clear hfz22_0
    try clear hfz4_0
    try clear hfz7_0
    obtain ⟨kq, x25_1, rfl, HA, HJ1, BK101, BK102, HB⟩ := hcut
    cases kq with
    | zero => exact absurd HA.out (by simp [impl_FromLeftHalf.j0])
    | succ kj1 =>
      have H := HA.out
      clear HA
      simp only [impl_FromLeftHalf.j0] at H
      by_cases c23 : x25_1 = true
      · subst c23
        have H1 : (some (([] : List (List Int)), false)) = some (r1, r2) := by rw [if_pos rfl] at H; exact H
        clear H
        have H := H1
        clear H1
        simp only [Option.some.injEq, Prod.mk.injEq] at H
        obtain ⟨rfl, rfl⟩ := H
        go_wp2
        go_ret2
        exact ⟨_, by first | rfl | (simp [errW_none, errW_some] <;> rfl) | (simp [*, errW_none, errW_some] <;> rfl), by first | exact Kd.S_nil _ _ _ _ _ | exact Kd.N_nil _ _ _ _ _ | exact Kd.V_nil _ _ _ _ _ | exact Kd.Q_nil _ _ _ _ _ | exact Kd.R_nil _ _ _ _ _, by repeat (first | (with_reducible first | exact HB.out | apply below_alloc | apply pw_below_drewN | apply below_drew1 | refine below_set ?_ GE101.out | refine below_set ?_ GE102.out) | exact HB.out)⟩
      · replace c23 := Bool.eq_false_iff.mpr c23
        subst c23
        have H1 : ((impl_table.f kj1 (l0.length : Int) (l0.length : Int) (fun x0_ x1_ => impl_FromLeftHalf_2.f x0_ x1_ (l0.length : Int) l0)).bind fun t105 => ((impl_IsSignMatrix.f kj1 t105).bind fun t108 => (if t108 = true then (some (t105, true)) else (some (([] : List (List Int)), false))))) = some (r1, r2) := by rw [if_neg (show ¬ (false = true) by decide)] at H; exact H
        clear H
        have H := H1
        clear H1
        replace H := Option.bind_eq_some_iff.mp H
        obtain ⟨t105, A240, H⟩ := H
        replace H : ((impl_IsSignMatrix.f kj1 t105).bind fun t108 => (if t108 = true then (some (t105, true)) else (some (([] : List (List Int)), false)))) = some (r1, r2) := H
        have A24 := Aside0.mk A240
        clear A240
        replace H := Option.bind_eq_some_iff.mp H
        obtain ⟨t108, A250, H⟩ := H
        replace H : (if t108 = true then (some (t105, true)) else (some (([] : List (List Int)), false))) = some (r1, r2) := H
        have A25 := Aside0.mk A250
        clear A250
        by_cases c26 : t108 = true
        · subst c26
          have H1 : (some (t105, true)) = some (r1, r2) := by rw [if_pos rfl] at H; exact H
          clear H
          have H := H1
          clear H1
          simp only [Option.some.injEq, Prod.mk.injEq] at H
          obtain ⟨rfl, rfl⟩ := H
          have hnb27 := NB102_101.out
          have hnc27 := NB101_102.out
          have hcz28_0 : wc.cell? ⟨gb102, 0, none⟩ = some (.int .i64 (l0.length : Int)) := (blk_cell BK102.out 0).trans rfl
          have hfz28_0 := blk_frozen BK102.out 0
          go_wp2_with (first | ((with_reducible refine gate_callee (f := 76) rfl ?_); refine goesL_ (some 29) rfl rfl Try.func76 (by kernel_rfl) rfl #[.int .i64 (l0.length : Int), .int .i64 (l0.length : Int), .func (.func 85) #[] #[.pointer (some ⟨gb102, 0, none⟩), .pointer (some ⟨gb101, 0, none⟩)]] rfl (by (try simp only [List.map_toArray, List.map_cons, List.map_nil]); first | done | rfl | (simp only [List.length_drop, List.length_take]; rfl)) ?_; (with_reducible refine (impl_table.calls kj1 (l0.length : Int) (l0.length : Int) _ _ (fun x0_ x1_ => impl_FromLeftHalf_2.f x0_ x1_ (l0.length : Int) l0) t105 _ ?side1 A24.out).mono ?_); (case side1 => refine ⟨enters_of Try.func85 (by kernel_rfl) rfl, fun W_ hW_ x0_ v0_ hK0_ x1_ v1_ hK1_ r_ hr_ => ?_⟩; cases (show v0_ = .int .i64 x0_ from by simpa [Kd.int, Kd.bool, Kd.string, Kd.scalar] using hK0_); cases (show v1_ = .int .i64 x1_ from by simpa [Kd.int, Kd.bool, Kd.string, Kd.scalar] using hK1_); refine (impl_FromLeftHalf_2.calls x0_ x1_ _ (l0.length : Int) _ A0 c0 l0 r_ W_ ?cb1 ?cb2 ?cb3 ?cb4 hr_).mono ?_; (case cb1 => exact blk_below (by (with_reducible repeat (first | refine blk_drewN ?_ _ | refine blk_drew ?_ | refine blk_alloc ?_ _)); exact BK102.out) hW_); (case cb2 => exact blk_below (by (with_reducible repeat (first | refine blk_drewN ?_ _ | refine blk_drew ?_ | refine blk_alloc ?_ _)); exact BK101.out) hW_); (case cb3 => refine Kd.C_below ?_ hW_; repeat (first | exact (Kd.C_below HR0.out HB.out) | (with_reducible refine Kd.C_alloc ?_ _) | (with_reducible refine Kd.C_drewN ?_ _) | (with_reducible refine Kd.C_drew ?_))); (case cb4 => exact HC0.out); exact fun _ _ h_ => ⟨h_.1, h_.2.below⟩); rintro e w29 ⟨v106, rfl, ho0, hb⟩; refine ⟨_, rfl, ?_⟩; have n0_ := Aside0.mk (Kd.S_lower (Kd.S_newB ho0 (g := gb102) (o := .cells #[.int .i64 (l0.length : Int)] 3 (0, 0)) (by (with_reducible repeat (first | refine blk_drewN ?_ _ | refine blk_drew ?_ | refine blk_alloc ?_ _)); exact BK102.out)) (below_size (by repeat (first | (with_reducible first | exact HB.out | apply below_alloc | apply pw_below_drewN | apply below_drew1 | refine below_set ?_ GE101.out | refine below_set ?_ GE102.out) | exact HB.out)))); have n1_ := Aside0.mk (blk_below (g := gb101) (o := .cells #[.slice A0 l0.length c0] 27 (0, 0)) (by (with_reducible repeat (first | refine blk_drewN ?_ _ | refine blk_drew ?_ | refine blk_alloc ?_ _)); exact BK101.out) hb); have n2_ := Aside0.mk (blk_below (g := gb102) (o := .cells #[.int .i64 (l0.length : Int)] 3 (0, 0)) (by (with_reducible repeat (first | refine blk_drewN ?_ _ | refine blk_drew ?_ | refine blk_alloc ?_ _)); exact BK102.out) hb); have n3_ := Aside0.mk (below_step (by repeat (first | (with_reducible first | exact HB.out | apply below_alloc | apply pw_below_drewN | apply below_drew1 | refine below_set ?_ GE101.out | refine below_set ?_ GE102.out) | exact HB.out)) hb); clear BK101; clear BK102; clear HB; have HO107 := n0_; have BK101 := n1_; have BK102 := n2_; have HB := n3_; clear n0_ n1_ n2_ n3_; (try clear hb); (try clear hb2); (try clear hk); (try clear hi); (try clear ho0); obtain ⟨Ao30, co30, eo30⟩ := Kd.S_slice HO107.out; subst eo30) | ((with_reducible refine gate_callee (f := 73) rfl ?_); refine goesL_ (some 31) rfl rfl Try.func73 (by kernel_rfl) rfl #[.slice Ao30 t105.length co30] rfl (by (try simp only [List.map_toArray, List.map_cons, List.map_nil]); first | done | rfl | (simp only [List.length_drop, List.length_take]; rfl)) ?_; (with_reducible refine (impl_IsSignMatrix.calls kj1 _ _ t105 true _ ?side1 ?side2 A25.out).mono ?_); (case side1 => repeat (first | exact (Kd.S_reads' HO107.out).2.2 | (with_reducible refine Kd.C_alloc ?_ _) | (with_reducible refine Kd.C_drewN ?_ _) | (with_reducible refine Kd.C_drew ?_))); (case side2 => exact (Kd.S_reads' HO107.out).2.1); rintro e w31 ⟨rfl, hb⟩; refine ⟨_, rfl, ?_⟩; have n0_ := Aside0.mk (Kd.S_below (by (with_reducible repeat (first | apply Kd.S_alloc | apply Kd.S_drewN | apply Kd.S_drew)); exact HO107.out) hb); have n1_ := Aside0.mk (blk_below (g := gb101) (o := .cells #[.slice A0 l0.length c0] 27 (0, 0)) (by (with_reducible repeat (first | refine blk_drewN ?_ _ | refine blk_drew ?_ | refine blk_alloc ?_ _)); exact BK101.out) hb); have n2_ := Aside0.mk (blk_below (g := gb102) (o := .cells #[.int .i64 (l0.length : Int)] 3 (0, 0)) (by (with_reducible repeat (first | refine blk_drewN ?_ _ | refine blk_drew ?_ | refine blk_alloc ?_ _)); exact BK102.out) hb); have n3_ := Aside0.mk (below_step (by repeat (first | (with_reducible first | exact HB.out | apply below_alloc | apply pw_below_drewN | apply below_drew1 | refine below_set ?_ GE101.out | refine below_set ?_ GE102.out) | exact HB.out)) hb); clear HO107; clear BK101; clear BK102; clear HB; have HO107 := n0_; have BK101 := n1_; have BK102 := n2_; have HB := n3_; clear n0_ n1_ n2_ n3_; (try clear hb); (try clear hb2); (try clear hk); (try clear hi)))
          go_ret2
          exact ⟨_, by first | rfl | (simp [errW_none, errW_some] <;> rfl) | (simp [*, errW_none, errW_some] <;> rfl), by (with_reducible repeat (first | apply Kd.S_alloc | apply Kd.S_drewN | apply Kd.S_drew)); exact Kd.S_mono HO107.out (fun _ hk => trivial), by repeat (first | (with_reducible first | exact HB.out | apply below_alloc | apply pw_below_drewN | apply below_drew1 | refine below_set ?_ GE101.out | refine below_set ?_ GE102.out) | exact HB.out)⟩
        · replace c26 := Bool.eq_false_iff.mpr c26
          subst c26
          have H1 : (some (([] : List (List Int)), false)) = some (r1, r2) := by rw [if_neg (show ¬ (false = true) by decide)] at H; exact H
          clear H
          have H := H1
          clear H1
          simp only [Option.some.injEq, Prod.mk.injEq] at H
          obtain ⟨rfl, rfl⟩ := H
          have hnb32 := NB102_101.out
          have hnc32 := NB101_102.out
          have hcz33_0 : wc.cell? ⟨gb102, 0, none⟩ = some (.int .i64 (l0.length : Int)) := (blk_cell BK102.out 0).trans rfl
          have hfz33_0 := blk_frozen BK102.out 0
          go_wp2_with (first | ((with_reducible refine gate_callee (f := 76) rfl ?_); refine goesL_ (some 29) rfl rfl Try.func76 (by kernel_rfl) rfl #[.int .i64 (l0.length : Int), .int .i64 (l0.length : Int), .func (.func 85) #[] #[.pointer (some ⟨gb102, 0, none⟩), .pointer (some ⟨gb101, 0, none⟩)]] rfl (by (try simp only [List.map_toArray, List.map_cons, List.map_nil]); first | done | rfl | (simp only [List.length_drop, List.length_take]; rfl)) ?_; (with_reducible refine (impl_table.calls kj1 (l0.length : Int) (l0.length : Int) _ _ (fun x0_ x1_ => impl_FromLeftHalf_2.f x0_ x1_ (l0.length : Int) l0) t105 _ ?side1 A24.out).mono ?_); (case side1 => refine ⟨enters_of Try.func85 (by kernel_rfl) rfl, fun W_ hW_ x0_ v0_ hK0_ x1_ v1_ hK1_ r_ hr_ => ?_⟩; cases (show v0_ = .int .i64 x0_ from by simpa [Kd.int, Kd.bool, Kd.string, Kd.scalar] using hK0_); cases (show v1_ = .int .i64 x1_ from by simpa [Kd.int, Kd.bool, Kd.string, Kd.scalar] using hK1_); refine (impl_FromLeftHalf_2.calls x0_ x1_ _ (l0.length : Int) _ A0 c0 l0 r_ W_ ?cb1 ?cb2 ?cb3 ?cb4 hr_).mono ?_; (case cb1 => exact blk_below (by (with_reducible repeat (first | refine blk_drewN ?_ _ | refine blk_drew ?_ | refine blk_alloc ?_ _)); exact BK102.out) hW_); (case cb2 => exact blk_below (by (with_reducible repeat (first | refine blk_drewN ?_ _ | refine blk_drew ?_ | refine blk_alloc ?_ _)); exact BK101.out) hW_); (case cb3 => refine Kd.C_below ?_ hW_; repeat (first | exact (Kd.C_below HR0.out HB.out) | (with_reducible refine Kd.C_alloc ?_ _) | (with_reducible refine Kd.C_drewN ?_ _) | (with_reducible refine Kd.C_drew ?_))); (case cb4 => exact HC0.out); exact fun _ _ h_ => ⟨h_.1, h_.2.below⟩); rintro e w34 ⟨v106, rfl, ho0, hb⟩; refine ⟨_, rfl, ?_⟩; have n0_ := Aside0.mk (Kd.S_lower (Kd.S_newB ho0 (g := gb102) (o := .cells #[.int .i64 (l0.length : Int)] 3 (0, 0)) (by (with_reducible repeat (first | refine blk_drewN ?_ _ | refine blk_drew ?_ | refine blk_alloc ?_ _)); exact BK102.out)) (below_size (by repeat (first | (with_reducible first | exact HB.out | apply below_alloc | apply pw_below_drewN | apply below_drew1 | refine below_set ?_ GE101.out | refine below_set ?_ GE102.out) | exact HB.out)))); have n1_ := Aside0.mk (blk_below (g := gb101) (o := .cells #[.slice A0 l0.length c0] 27 (0, 0)) (by (with_reducible repeat (first | refine blk_drewN ?_ _ | refine blk_drew ?_ | refine blk_alloc ?_ _)); exact BK101.out) hb); have n2_ := Aside0.mk (blk_below (g := gb102) (o := .cells #[.int .i64 (l0.length : Int)] 3 (0, 0)) (by (with_reducible repeat (first | refine blk_drewN ?_ _ | refine blk_drew ?_ | refine blk_alloc ?_ _)); exact BK102.out) hb); have n3_ := Aside0.mk (below_step (by repeat (first | (with_reducible first | exact HB.out | apply below_alloc | apply pw_below_drewN | apply below_drew1 | refine below_set ?_ GE101.out | refine below_set ?_ GE102.out) | exact HB.out)) hb); clear BK101; clear BK102; clear HB; have HO107 := n0_; have BK101 := n1_; have BK102 := n2_; have HB := n3_; clear n0_ n1_ n2_ n3_; (try clear hb); (try clear hb2); (try clear hk); (try clear hi); (try clear ho0); obtain ⟨Ao35, co35, eo35⟩ := Kd.S_slice HO107.out; subst eo35) | ((with_reducible refine gate_callee (f := 73) rfl ?_); refine goesL_ (some 31) rfl rfl Try.func73 (by kernel_rfl) rfl #[.slice Ao35 t105.length co35] rfl (by (try simp only [List.map_toArray, List.map_cons, List.map_nil]); first | done | rfl | (simp only [List.length_drop, List.length_take]; rfl)) ?_; (with_reducible refine (impl_IsSignMatrix.calls kj1 _ _ t105 false _ ?side1 ?side2 A25.out).mono ?_); (case side1 => repeat (first | exact (Kd.S_reads' HO107.out).2.2 | (with_reducible refine Kd.C_alloc ?_ _) | (with_reducible refine Kd.C_drewN ?_ _) | (with_reducible refine Kd.C_drew ?_))); (case side2 => exact (Kd.S_reads' HO107.out).2.1); rintro e w36 ⟨rfl, hb⟩; refine ⟨_, rfl, ?_⟩; have n0_ := Aside0.mk (Kd.S_below (by (with_reducible repeat (first | apply Kd.S_alloc | apply Kd.S_drewN | apply Kd.S_drew)); exact HO107.out) hb); have n1_ := Aside0.mk (blk_below (g := gb101) (o := .cells #[.slice A0 l0.length c0] 27 (0, 0)) (by (with_reducible repeat (first | refine blk_drewN ?_ _ | refine blk_drew ?_ | refine blk_alloc ?_ _)); exact BK101.out) hb); have n2_ := Aside0.mk (blk_below (g := gb102) (o := .cells #[.int .i64 (l0.length : Int)] 3 (0, 0)) (by (with_reducible repeat (first | refine blk_drewN ?_ _ | refine blk_drew ?_ | refine blk_alloc ?_ _)); exact BK102.out) hb); have n3_ := Aside0.mk (below_step (by repeat (first | (with_reducible first | exact HB.out | apply below_alloc | apply pw_below_drewN | apply below_drew1 | refine below_set ?_ GE101.out | refine below_set ?_ GE102.out) | exact HB.out)) hb); clear HO107; clear BK101; clear BK102; clear HB; have HO107 := n0_; have BK101 := n1_; have BK102 := n2_; have HB := n3_; clear n0_ n1_ n2_ n3_; (try clear hb); (try clear hb2); (try clear hk); (try clear hi)))
          go_ret2
          exact ⟨_, by first | rfl | (simp [errW_none, errW_some] <;> rfl) | (simp [*, errW_none, errW_some] <;> rfl), by first | exact Kd.S_nil _ _ _ _ _ | exact Kd.N_nil _ _ _ _ _ | exact Kd.V_nil _ _ _ _ _ | exact Kd.Q_nil _ _ _ _ _ | exact Kd.R_nil _ _ _ _ _, by repeat (first | (with_reducible first | exact HB.out | apply below_alloc | apply pw_below_drewN | apply below_drew1 | refine below_set ?_ GE101.out | refine below_set ?_ GE102.out) | exact HB.out)⟩

/-! ### laws_FnExactFromLeftHalf: function 11 (by hand) -/
/-- What the calls of this law answer: the plain law's part. -/
def laws_FnExactFromLeftHalf.Says (l0 : List (List Int)) : Prop :=
  ∃ k_1 s_1, laws_szIntSS.f k_1 l0 1048576 = some s_1 ∧ (0 ≤ s_1 → ∃ (k : Nat) (r1 : List (List Int)) (r2 : Bool) (n_1 : Int) (y_1 : List (List Int)) (n_2 : Int) (y_2 : List (List Int)), (laws_toIntSS.f k l0 = some l0) ∧ (spec_FromLeftHalf.f k l0 = some (r1, r2)) ∧ (impl_FromLeftHalf.f k l0 = some (r1, r2)) ∧ (laws_eqIntSS.f k r1 r1 = some true) ∧ (laws_eqIntSS.f k l0 l0 = some true) ∧ (laws_markIntSS.f k l0 1 = some (n_1, y_1)) ∧ (0 ≤ n_1) ∧ (laws_markIntSS.f k r1 1 = some (n_2, y_2)) ∧ (0 ≤ n_2) ∧ (laws_heldIntSS.f k y_2 1 = some n_2))
/-- THE ONE PURE STATEMENT of laws_FnExactFromLeftHalf. -/
def laws_FnExactFromLeftHalf.Pure : Prop := ∀ (l0 : List (List Int)), l0.length ≤ maxLen → (∀ x ∈ l0, x.length ≤ maxLen ∧ ∀ n ∈ x, (Lit.int .i64 n).wf = true) → laws_FnExactFromLeftHalf.Says l0
set_option maxHeartbeats 4000000 in
set_option maxRecDepth 100000 in
theorem laws_FnExactFromLeftHalf.calls (A0 : Option Addr) (c0 : Nat) (l0 : List (List Int)) (w : World) (hr0 : Kd.C (Kd.slice 3 (Kd.int .i64)) w A0 l0.length l0) (hc0 : l0.length ≤ c0) (P : laws_FnExactFromLeftHalf.Says l0) :
    Calls Try.prog 11 #[.slice A0 l0.length c0] w fun e w' => e = .returned (.bool true) ∧ Below w.heap.size w w' := by
  have HB := Aside0.mk (Below.refl w.heap.size w)
  have HR0 := Aside0.mk hr0
  have HC0 := Aside0.mk hc0
  clear hr0 hc0
  unfold laws_FnExactFromLeftHalf.Says at P
  obtain ⟨k_1, s_1, G1, P⟩ := P
  go_enter Try.func11, Try.ntmps11
  go_wp2_with fail
  refine (laws_szIntSS.calls (w := _) (hr0 := (Kd.C_below HR0.out HB.out)) (hc0 := HC0.out) (h := G1)).mono ?_
  rintro e w1 ⟨rfl, hb⟩
  have HZ1 := Aside0.mk (hb.below.size)
  replace HB := Aside0.mk (below_step HB.out hb.below)
  clear hb
  by_cases c1g : s_1 < 0
  · have c1a : decide (s_1 < 0) = true := decide_eq_true c1g
    go_wp2
    go_ret
    exact ⟨rfl, HB.out⟩
  · have c1a : decide (s_1 < 0) = false := decide_eq_false c1g
    replace P := P (Int.not_lt.mp c1g)
    clear c1g
    obtain ⟨k, r1, r2, n_1, y_1, n_2, y_2, C0, C1, C2, C3, C4, C5, C6, C7, C8, C9⟩ := P
    have C6b : decide (n_1 < 0) = false := decide_eq_false (Int.not_lt.mpr C6)
    have C8b : decide (n_2 < 0) = false := decide_eq_false (Int.not_lt.mpr C8)
    have E1 : (r2 != r2) = false := by simp
    have E1m : (n_1 != n_1) = false := by simp
    have E1l : decide (n_1 = n_1) = true := by simp
    have E2m : (n_2 != n_2) = false := by simp
    have E2l : decide (n_2 = n_2) = true := by simp
    go_wp2_with fail
    refine (laws_toIntSS.calls (w := _) (hr0 := (Kd.C_below HR0.out HB.out)) (hc0 := HC0.out) (h := C0)).mono ?_
    rintro e w2 ⟨v2_0, rfl, ho0, hb⟩
    obtain ⟨A20, c20, rfl⟩ := Kd.S_slice ho0
    have HZ2 := Aside0.mk (hb.size)
    have HO20 := Aside0.mk (ObS.new_ ho0 HB.out)
    replace HB := Aside0.mk (below_step HB.out hb)
    clear hb ho0
    go_wp2_with fail
    refine (spec_FromLeftHalf.calls (w := _) (hr0 := (Kd.S_reads' HO20.out.2).2.2) (hc0 := (Kd.S_reads' HO20.out.2).2.1) (h := C1)).mono ?_
    rintro e w3 ⟨v3_0, rfl, ho0, hb⟩
    obtain ⟨A30, c30, rfl⟩ := Kd.S_slice ho0
    have HZ3 := Aside0.mk (hb.size)
    replace HO20 := Aside0.mk (HO20.out.later hb)
    have HO30 := Aside0.mk (ObS.new_ ho0 HB.out)
    replace HB := Aside0.mk (below_step HB.out hb)
    clear hb ho0
    go_wp2_with fail
    refine (laws_toIntSS.calls (w := _) (hr0 := (Kd.C_below HR0.out HB.out)) (hc0 := HC0.out) (h := C0)).mono ?_
    rintro e w4 ⟨v4_0, rfl, ho0, hb⟩
    obtain ⟨A40, c40, rfl⟩ := Kd.S_slice ho0
    have HZ4 := Aside0.mk (hb.size)
    replace HO30 := Aside0.mk (HO30.out.later hb)
    have HO40 := Aside0.mk (ObS.new_ ho0 HB.out)
    replace HB := Aside0.mk (below_step HB.out hb)
    clear hb ho0
    go_wp2_with fail
    refine (impl_FromLeftHalf.calls (w := _) (hr0 := (Kd.S_reads' HO40.out.2).2.2) (hc0 := (Kd.S_reads' HO40.out.2).2.1) (h := C2)).mono ?_
    rintro e w5 ⟨v5_0, rfl, ho0, hb⟩
    obtain ⟨A50, c50, rfl⟩ := Kd.S_slice ho0
    have HZ5 := Aside0.mk (hb.size)
    replace HO30 := Aside0.mk (HO30.out.later hb)
    replace HO40 := Aside0.mk (HO40.out.later hb)
    have HO50 := Aside0.mk (ObS.new_ ho0 HB.out)
    replace HB := Aside0.mk (below_step HB.out hb)
    clear hb ho0
    go_wp2_with fail
    refine (laws_eqIntSS.calls (w := _) (hr0 := (Kd.S_reads' HO50.out.2).2.2) (hc0 := (Kd.S_reads' HO50.out.2).2.1) (hr1 := (Kd.S_reads' HO30.out.2).2.2) (hc1 := (Kd.S_reads' HO30.out.2).2.1) (h := C3)).mono ?_
    rintro e w6 ⟨rfl, hb⟩
    have HZ6 := Aside0.mk (hb.below.size)
    replace HO30 := Aside0.mk (HO30.out.later hb.below)
    replace HO40 := Aside0.mk (HO40.out.later hb.below)
    replace HO50 := Aside0.mk (HO50.out.later hb.below)
    replace HB := Aside0.mk (below_step HB.out hb.below)
    clear hb
    go_wp2_with fail
    refine (laws_toIntSS.calls (w := _) (hr0 := (Kd.C_below HR0.out HB.out)) (hc0 := HC0.out) (h := C0)).mono ?_
    rintro e w7 ⟨v7_0, rfl, ho0, hb⟩
    obtain ⟨A70, c70, rfl⟩ := Kd.S_slice ho0
    have HZ7 := Aside0.mk (hb.size)
    replace HO30 := Aside0.mk (HO30.out.later hb)
    replace HO40 := Aside0.mk (HO40.out.later hb)
    replace HO50 := Aside0.mk (HO50.out.later hb)
    have HO70 := Aside0.mk (ObS.new_ ho0 HB.out)
    replace HB := Aside0.mk (below_step HB.out hb)
    clear hb ho0
    go_wp2_with fail
    refine (laws_eqIntSS.calls (w := _) (hr0 := (Kd.S_reads' HO40.out.2).2.2) (hc0 := (Kd.S_reads' HO40.out.2).2.1) (hr1 := (Kd.S_reads' HO70.out.2).2.2) (hc1 := (Kd.S_reads' HO70.out.2).2.1) (h := C4)).mono ?_
    rintro e w8 ⟨rfl, hb⟩
    have HZ8 := Aside0.mk (hb.below.size)
    replace HO30 := Aside0.mk (HO30.out.later hb.below)
    replace HO40 := Aside0.mk (HO40.out.later hb.below)
    replace HO50 := Aside0.mk (HO50.out.later hb.below)
    replace HO70 := Aside0.mk (HO70.out.later hb.below)
    replace HB := Aside0.mk (below_step HB.out hb.below)
    clear hb
    go_wp2_with fail
    refine (laws_markIntSS.calls (w := _) (hB := HB.out) (ho0 := HO40.out.2) (h := C5)).mono ?_
    rintro e w9 ⟨rfl, ho0, hb, hk⟩
    obtain ⟨el1, _, _⟩ := Kd.S_reads' ho0
    have EL1 := Aside0.mk el1
    clear el1
    have HZ9 := Aside0.mk hk.1
    replace HO30 := Aside0.mk (HO30.out.kept_ hk (by have := HZ1.out; have := HZ2.out; have := HZ3.out; have := HZ4.out; have := HZ5.out; have := HZ6.out; have := HZ7.out; have := HZ8.out; have := HZ9.out; omega))
    replace HO40 := Aside0.mk (show ObS (Kd.slice 3 (Kd.int .i64)) 34 w w9 w3.heap.size w4.heap.size _ y_1 from ⟨Nat.le_trans HO40.out.1 hk.1, ho0⟩)
    replace HO50 := Aside0.mk (HO50.out.kept_ hk (by have := HZ1.out; have := HZ2.out; have := HZ3.out; have := HZ4.out; have := HZ5.out; have := HZ6.out; have := HZ7.out; have := HZ8.out; have := HZ9.out; omega))
    replace HO70 := Aside0.mk (HO70.out.kept_ hk (by have := HZ1.out; have := HZ2.out; have := HZ3.out; have := HZ4.out; have := HZ5.out; have := HZ6.out; have := HZ7.out; have := HZ8.out; have := HZ9.out; omega))
    replace HB := Aside0.mk hb
    clear ho0 hb hk
    go_wp2_with fail
    refine (laws_eqIntSS.calls (w := _) (hr0 := (Kd.S_reads' HO50.out.2).2.2) (hc0 := (Kd.S_reads' HO50.out.2).2.1) (hr1 := (Kd.S_reads' HO30.out.2).2.2) (hc1 := (Kd.S_reads' HO30.out.2).2.1) (h := C3)).mono ?_
    rintro e w10 ⟨rfl, hb⟩
    have HZ10 := Aside0.mk (hb.below.size)
    replace HO30 := Aside0.mk (HO30.out.later hb.below)
    replace HO40 := Aside0.mk (HO40.out.later hb.below)
    replace HO50 := Aside0.mk (HO50.out.later hb.below)
    replace HO70 := Aside0.mk (HO70.out.later hb.below)
    replace HB := Aside0.mk (below_step HB.out hb.below)
    clear hb
    go_wp2_with fail
    refine (laws_markIntSS.calls (w := _) (hB := HB.out) (ho0 := HO50.out.2) (h := C7)).mono ?_
    rintro e w11 ⟨rfl, ho0, hb, hk⟩
    obtain ⟨el2, _, _⟩ := Kd.S_reads' ho0
    have EL2 := Aside0.mk el2
    clear el2
    have HZ11 := Aside0.mk hk.1
    replace HO30 := Aside0.mk (HO30.out.kept_ hk (by have := HZ1.out; have := HZ2.out; have := HZ3.out; have := HZ4.out; have := HZ5.out; have := HZ6.out; have := HZ7.out; have := HZ8.out; have := HZ9.out; have := HZ10.out; have := HZ11.out; omega))
    replace HO40 := Aside0.mk (HO40.out.kept_ hk (by have := HZ1.out; have := HZ2.out; have := HZ3.out; have := HZ4.out; have := HZ5.out; have := HZ6.out; have := HZ7.out; have := HZ8.out; have := HZ9.out; have := HZ10.out; have := HZ11.out; omega))
    replace HO50 := Aside0.mk (show ObS (Kd.slice 3 (Kd.int .i64)) 34 w w11 w4.heap.size w5.heap.size _ y_2 from ⟨Nat.le_trans HO50.out.1 hk.1, ho0⟩)
    replace HO70 := Aside0.mk (HO70.out.kept_ hk (by have := HZ1.out; have := HZ2.out; have := HZ3.out; have := HZ4.out; have := HZ5.out; have := HZ6.out; have := HZ7.out; have := HZ8.out; have := HZ9.out; have := HZ10.out; have := HZ11.out; omega))
    replace HB := Aside0.mk hb
    clear ho0 hb hk
    go_wp2_with fail
    refine calls_of_args (show (#[.slice A50 r1.length c50, .int .i64 1] : Array Value) = #[.slice A50 y_2.length c50, .int .i64 1] by rw [EL2.out]) ?_
    refine (laws_heldIntSS.calls (w := _) (hr0 := (Kd.S_reads' HO50.out.2).2.2) (hc0 := (EL2.out ▸ (Kd.S_reads' HO50.out.2).2.1)) (h := C9)).mono ?_
    rintro e w12 ⟨rfl, hb⟩
    have HZ12 := Aside0.mk (hb.below.size)
    replace HO30 := Aside0.mk (HO30.out.later hb.below)
    replace HO40 := Aside0.mk (HO40.out.later hb.below)
    replace HO50 := Aside0.mk (HO50.out.later hb.below)
    replace HO70 := Aside0.mk (HO70.out.later hb.below)
    replace HB := Aside0.mk (below_step HB.out hb.below)
    clear hb
    go_wp2_with fail
    refine (laws_toIntSS.calls (w := _) (hr0 := (Kd.C_below HR0.out HB.out)) (hc0 := HC0.out) (h := C0)).mono ?_
    rintro e w13 ⟨v13_0, rfl, ho0, hb⟩
    obtain ⟨A130, c130, rfl⟩ := Kd.S_slice ho0
    have HZ13 := Aside0.mk (hb.size)
    replace HO30 := Aside0.mk (HO30.out.later hb)
    replace HO40 := Aside0.mk (HO40.out.later hb)
    replace HO50 := Aside0.mk (HO50.out.later hb)
    replace HO70 := Aside0.mk (HO70.out.later hb)
    have HO130 := Aside0.mk (ObS.new_ ho0 HB.out)
    replace HB := Aside0.mk (below_step HB.out hb)
    clear hb ho0
    go_wp2_with fail
    refine (impl_FromLeftHalf.calls (w := _) (hr0 := (Kd.S_reads' HO130.out.2).2.2) (hc0 := (Kd.S_reads' HO130.out.2).2.1) (h := C2)).mono ?_
    rintro e w14 ⟨v14_0, rfl, ho0, hb⟩
    obtain ⟨A140, c140, rfl⟩ := Kd.S_slice ho0
    have HZ14 := Aside0.mk (hb.size)
    replace HO30 := Aside0.mk (HO30.out.later hb)
    replace HO40 := Aside0.mk (HO40.out.later hb)
    replace HO50 := Aside0.mk (HO50.out.later hb)
    replace HO70 := Aside0.mk (HO70.out.later hb)
    replace HO130 := Aside0.mk (HO130.out.later hb)
    have HO140 := Aside0.mk (ObS.new_ ho0 HB.out)
    replace HB := Aside0.mk (below_step HB.out hb)
    clear hb ho0
    go_wp2_with fail
    refine (laws_eqIntSS.calls (w := _) (hr0 := (Kd.S_reads' HO140.out.2).2.2) (hc0 := (Kd.S_reads' HO140.out.2).2.1) (hr1 := (Kd.S_reads' HO30.out.2).2.2) (hc1 := (Kd.S_reads' HO30.out.2).2.1) (h := C3)).mono ?_
    rintro e w15 ⟨rfl, hb⟩
    have HZ15 := Aside0.mk (hb.below.size)
    replace HO30 := Aside0.mk (HO30.out.later hb.below)
    replace HO40 := Aside0.mk (HO40.out.later hb.below)
    replace HO50 := Aside0.mk (HO50.out.later hb.below)
    replace HO140 := Aside0.mk (HO140.out.later hb.below)
    replace HB := Aside0.mk (below_step HB.out hb.below)
    clear hb
    go_wp2_with fail
    refine calls_of_args (show (#[.slice A50 r1.length c50, .int .i64 1] : Array Value) = #[.slice A50 y_2.length c50, .int .i64 1] by rw [EL2.out]) ?_
    refine (laws_heldIntSS.calls (w := _) (hr0 := (Kd.S_reads' HO50.out.2).2.2) (hc0 := (EL2.out ▸ (Kd.S_reads' HO50.out.2).2.1)) (h := C9)).mono ?_
    rintro e w16 ⟨rfl, hb⟩
    have HZ16 := Aside0.mk (hb.below.size)
    replace HO30 := Aside0.mk (HO30.out.later hb.below)
    replace HO40 := Aside0.mk (HO40.out.later hb.below)
    replace HO50 := Aside0.mk (HO50.out.later hb.below)
    replace HO140 := Aside0.mk (HO140.out.later hb.below)
    replace HB := Aside0.mk (below_step HB.out hb.below)
    clear hb
    go_wp2
    go_ret
    exact ⟨rfl, HB.out⟩
theorem laws_FnExactFromLeftHalf.walk (P : laws_FnExactFromLeftHalf.Pure) (a0 : Option Addr) (len0 cap0 : Nat) (w : World) (w0 : ∃ l : List (List Int), len0 = l.length ∧ Kd.C (Kd.slice 3 (Kd.int .i64)) w a0 l.length l ∧ l.length ≤ maxLen ∧ (∀ x ∈ l, x.length ≤ maxLen ∧ ∀ n ∈ x, (Lit.int .i64 n).wf = true) ∧ l.length ≤ cap0) :
    Calls Try.prog 11 #[.slice a0 len0 cap0] w fun e w' => e = .returned (.bool true) ∧ Below w.heap.size w w' := by
  obtain ⟨l0, rfl, hr0, hm0, hw0, hc0⟩ := w0
  exact laws_FnExactFromLeftHalf.calls _ _ l0 w hr0 hc0 (P l0 hm0 hw0)

end Go.Proofs.Ythpnfjdpomadaaa.X
