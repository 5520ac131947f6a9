-- Written by a program of this session (wip/xprint.py) that drives the kit's print; the contracts of what it does not take are this session's own.
import Derived.Test.YtnabhfbcaocljaaCFnDescendingListedx0
import Derived.Test.YtnabhfbcaocljaaCFnDescendingListedx1
namespace Go.Proofs.Ytnabhfbcaocljaa.X
open Go.RowKit Go.Proofs.YtnabhfbcaocljaaW.PrintWords Go.Proofs.YtnabhfbcaocljaaW.PrintLast Go.Proofs.YtnabhfbcaocljaaW.PrintMore
set_option maxHeartbeats 8000000
set_option maxRecDepth 100000
attribute [local go_sem] max2_int min2_int max_two min_two max_three min_three max_four min_four   -- for this text's walks alone
set_option linter.unusedVariables false
set_option linter.unusedSimpArgs false

/-! ### spec_dpRows: function 56 -/
mutual
def spec_dpRows.j0 : Nat → List Int → Int → Tb_ → Option (Tb_)
 | 0, _, _, _ => none
 | k + 1, x0, x1, x5 => if (wrap64 ((x0.length : Int) + 1)) ≥ x1 then (some x5) else (if (x0.length : Int) > 0 then (if 0 ≤ (wrap64 ((x0.length : Int) - 1)) then (if (wrap64 ((x0.length : Int) - 1)) < (x0.length : Int) then (spec_dpRows.j1 k x0 x1 x5 (rd x0 (wrap64 ((x0.length : Int) - 1)))) else (none)) else (none)) else (spec_dpRows.j1 k x0 x1 x5 x1))
def spec_dpRows.j1 : Nat → List Int → Int → Tb_ → Int → Option (Tb_)
 | 0, _, _, _, _ => none
 | k + 1, x0, x1, x5, x6 => spec_dpRows.l0 k x0 x1 x5 x6 1
def spec_dpRows.l0 : Nat → List Int → Int → Tb_ → Int → Int → Option (Tb_)
 | 0, _, _, _, _, _ => none
 | k + 1, x0, x1, x5, x6, x7 => if x7 ≤ x6 then ((spec_l1Own.f x0).bind fun t106 => (if t106.length < 17592186044416 then ((spec_dpRows.f k (t106 ++ [x7]) x1).bind fun t112 => (if x5.length + t112.length < 5864062014805 then (spec_dpRows.l0 k x0 x1 (x5 ++ t112) x6 (wrap64 (x7 + 1))) else (none))) else (none))) else (some x5)
def spec_dpRows.f : Nat → List Int → Int → Option (Tb_)
 | 0, _, _ => none
 | k + 1, l0, a1 => (spec_dpRow.f k l0 a1).bind fun t101 => (if t101 = true then (if ([] : Tb_).length < 5864062014805 then (spec_dpRows.j0 k l0 a1 (([] : Tb_) ++ [l0])) else (none)) else (spec_dpRows.j0 k l0 a1 ([] : Tb_)))
end
theorem spec_dpRows.mono_l : ∀ k, (∀ y0 y1, LeO (spec_dpRows.f k y0 y1) (spec_dpRows.f (k + 1) y0 y1)) ∧ (∀ y0 y1 y2, LeO (spec_dpRows.j0 k y0 y1 y2) (spec_dpRows.j0 (k + 1) y0 y1 y2)) ∧ (∀ y0 y1 y2 y3, LeO (spec_dpRows.j1 k y0 y1 y2 y3) (spec_dpRows.j1 (k + 1) y0 y1 y2 y3)) ∧ (∀ y0 y1 y2 y3 y4, LeO (spec_dpRows.l0 k y0 y1 y2 y3 y4) (spec_dpRows.l0 (k + 1) y0 y1 y2 y3 y4))
 | 0 => ⟨fun _ _ r h => by simp [spec_dpRows.f] at h, fun _ _ _ r h => by simp [spec_dpRows.j0] at h, fun _ _ _ _ r h => by simp [spec_dpRows.j1] at h, fun _ _ _ _ _ r h => by simp [spec_dpRows.l0] at h⟩
 | k + 1 => by
  obtain ⟨ih0, ih1, ih2, ih3⟩ := spec_dpRows.mono_l k; refine ⟨?_, ?_, ?_, ?_⟩
  ·intro y0 y1; unfold spec_dpRows.f
   repeat' first
   | (with_reducible exact ih0 _ _)
   | (with_reducible exact ih1 _ _ _)
   | (with_reducible exact ih2 _ _ _ _)
   | (with_reducible exact ih3 _ _ _ _ _)
   | (with_reducible exact spec_dpRow.mono _ _ _)
   | (with_reducible exact LeO.refl _)
   | (with_reducible exact LeO.none _)
   | (with_reducible refine LeO.ite ?_ ?_)
   | (with_reducible refine LeO.bind ?_ (fun _ => ?_))
   | exact ih0 _ _
   | exact ih1 _ _ _
   | exact ih2 _ _ _ _
   | exact ih3 _ _ _ _ _
   | exact spec_dpRow.mono _ _ _
   | exact LeO.none _
   | refine LeO.ite ?_ ?_
   | refine LeO.bind ?_ (fun _ => ?_)
  ·intro y0 y1 y2; unfold spec_dpRows.j0
   repeat' first
   | (with_reducible exact ih0 _ _)
   | (with_reducible exact ih1 _ _ _)
   | (with_reducible exact ih2 _ _ _ _)
   | (with_reducible exact ih3 _ _ _ _ _)
   | (with_reducible exact spec_dpRow.mono _ _ _)
   | (with_reducible exact LeO.refl _)
   | (with_reducible exact LeO.none _)
   | (with_reducible refine LeO.ite ?_ ?_)
   | (with_reducible refine LeO.bind ?_ (fun _ => ?_))
   | exact ih0 _ _
   | exact ih1 _ _ _
   | exact ih2 _ _ _ _
   | exact ih3 _ _ _ _ _
   | exact spec_dpRow.mono _ _ _
   | exact LeO.none _
   | refine LeO.ite ?_ ?_
   | refine LeO.bind ?_ (fun _ => ?_)
  ·intro y0 y1 y2 y3; unfold spec_dpRows.j1
   repeat' first
   | (with_reducible exact ih0 _ _)
   | (with_reducible exact ih1 _ _ _)
   | (with_reducible exact ih2 _ _ _ _)
   | (with_reducible exact ih3 _ _ _ _ _)
   | (with_reducible exact spec_dpRow.mono _ _ _)
   | (with_reducible exact LeO.refl _)
   | (with_reducible exact LeO.none _)
   | (with_reducible refine LeO.ite ?_ ?_)
   | (with_reducible refine LeO.bind ?_ (fun _ => ?_))
   | exact ih0 _ _
   | exact ih1 _ _ _
   | exact ih2 _ _ _ _
   | exact ih3 _ _ _ _ _
   | exact spec_dpRow.mono _ _ _
   | exact LeO.none _
   | refine LeO.ite ?_ ?_
   | refine LeO.bind ?_ (fun _ => ?_)
  ·intro y0 y1 y2 y3 y4; unfold spec_dpRows.l0
   repeat' first
   | (with_reducible exact ih0 _ _)
   | (with_reducible exact ih1 _ _ _)
   | (with_reducible exact ih2 _ _ _ _)
   | (with_reducible exact ih3 _ _ _ _ _)
   | (with_reducible exact spec_dpRow.mono _ _ _)
   | (with_reducible exact LeO.refl _)
   | (with_reducible exact LeO.none _)
   | (with_reducible refine LeO.ite ?_ ?_)
   | (with_reducible refine LeO.bind ?_ (fun _ => ?_))
   | exact ih0 _ _
   | exact ih1 _ _ _
   | exact ih2 _ _ _ _
   | exact ih3 _ _ _ _ _
   | exact spec_dpRow.mono _ _ _
   | exact LeO.none _
   | refine LeO.ite ?_ ?_
   | refine LeO.bind ?_ (fun _ => ?_)
theorem spec_dpRows.mono : ∀ a0 a1  k, LeO (spec_dpRows.f k a0 a1) (spec_dpRows.f (k + 1) a0 a1) := by
 intro a0 a1 k; obtain ⟨ih0, ih1, ih2, ih3⟩ := spec_dpRows.mono_l k; exact ih0 a0 a1
theorem spec_dpRows.calls (k : Nat) : ∀ (P0_ : Nat → Prop) (A0 : Option Addr) (c0 : Nat) (l0 : List Int) (a1 : Int) (r : Tb_) (w : World) (hs0 : Kd.V (Kd.int .i64) 3 w w.heap.size (fun k_ => P0_ k_) (.slice A0 l0.length c0) l0) (h : spec_dpRows.f k l0 a1 = some r),
  Calls Try.prog 56 #[.slice A0 l0.length c0, .int .i64 a1] w fun e w' => ∃ v0_ : Value, e = .returned (v0_) ∧ Kd.N (Kd.slice 3 (Kd.int .i64)) 46 w' w.heap.size (fun k_ => (P0_ k_ ∨ w.heap.size ≤ k_)) v0_ r ∧ Below w.heap.size w w' := by
 induction k using Nat.strongRecOn with
 | _ k ih =>
 intro P0_ A0 c0 l0 a1 r w hs0 h
 cases k with
 | zero => exact absurd h (by simp [spec_dpRows.f])
 | succ k =>
 simp only [spec_dpRows.f] at h; have HO0 := am_ (show Kd.V (Kd.int .i64) 3 w w.heap.size (fun k_ => (P0_ k_ ∨ w.heap.size ≤ k_)) (.slice A0 l0.length c0) l0 from Kd.V_mono hs0 (fun k_ hk => .inl hk)); have HB := am_ (Below.refl w.heap.size w); (try unfold spec_dpRows.f at h); have H := h; clear h; replace H := bd_ H; obtain ⟨t101, A3, H⟩ := H; (try dsimp only at H); have HC4 := am_ H; clear H; go_enter Try.func56, Try.ntmps56
 go_upto_if 10 with (first | (refine gc_ (some 10) Try.func65 #[.slice A0 l0.length c0, .int .i64 a1] ?_; (with_reducible refine (spec_dpRow.calls k _ _ l0 a1 t101 _ ?side1 ?side2 A3.out).mono ?_); (case side1 => repeat (first | exact (Kd.V_reads' HO0.out).2.2 | (with_reducible refine Kd.C_alloc ?_ _) | (with_reducible refine Kd.C_drewN ?_ _) | (with_reducible refine Kd.C_drew ?_))); (case side2 => exact (Kd.V_reads' HO0.out).2.1); rintro e w' ⟨rfl, ⟨nd, rfl⟩⟩; refine ⟨_, rfl, ?_⟩))
 (try simp only [Act.put, List.setIfInBounds_toArray, List.set_cons_zero, List.set_cons_succ])
 go_cut [5] (fun v5 wc => ∃ (kq : Nat) (x5_3 : Tb_), Aside0 (spec_dpRows.j0 kq l0 a1 x5_3 = some r) ∧ Aside0 (kq ≤ k) ∧ Aside0 (Kd.V (Kd.int .i64) 3 wc w.heap.size (fun k_ => (P0_ k_ ∨ w.heap.size ≤ k_) ∧ some k_ ≠ (v5 : Value).ownBlock) (.slice A0 l0.length c0) l0) ∧ Aside0 (Kd.N (Kd.slice 3 (Kd.int .i64)) 46 wc w.heap.size (fun k_ => (P0_ k_ ∨ w.heap.size ≤ k_)) v5 x5_3) ∧ Aside0 (Below w.heap.size w wc))
 case first =>
  have H := HC4.out; clear HC4
  by_cases c5 : t101 = true
  ·subst c5; have H1 : (if ([] : Tb_).length < 5864062014805 then (spec_dpRows.j0 k l0 a1 (([] : Tb_) ++ [l0])) else (none)) = some r := tc19_; clear H; have H := H1; clear H1; replace H := pp_ H; obtain ⟨c6, H⟩ := H; have LMc6 := am_ c6; clear c6; obtain ⟨y102, hy102⟩ : ∃ y_ : Tb_, y_ = (([] : Tb_) ++ [l0]) := ⟨_, rfl⟩; replace H : (spec_dpRows.j0 k l0 a1 y102) = some r := (by first | (rw [hy102]; with_reducible exact H) | (have H2_ := (Option.bind_some _ _).symm.trans H; rw [hy102]; with_reducible exact H2_) | (have H2_ := (Option.bind_some _ _).symm.trans H; with_reducible exact H2_) | with_reducible exact H | (rw [hy102]; exact H) | exact H); have Ny102 := am_ hy102; clear hy102; have H' := am_ H; clear H
   go_wp2_with (first | ((with_reducible refine gate_builtin (b := .append) (xs := #[.tmp 11, .tmp 13]) rfl ?_); at_builtin; refine Kd.N_append (Kd.slice 3 (Kd.int .i64)) (w0 := w) w.heap.size rfl (.tmp 11) (.tmp 13) 26 46 (.slice none 0 0) 24 rfl Try.underlying26 info46 rfl (by decide) (by omega) (.slice none 0 0) ([] : Tb_) l0 [.slice A0 l0.length c0] (fun k_ => (P0_ k_ ∨ w.heap.size ≤ k_)) (fun k_ => ((fun k_ => (P0_ k_ ∨ w.heap.size ≤ k_))) k_ ∧ some k_ ≠ (.slice none 0 0 : Value).ownBlock) rfl rfl ?aP (fun _ hk => hk) ?aF ?aO ?aB ?aS ?aL ?_; (case aP => exact (Kd.FK_slice_mk (Kd.V_reads' (Kd.V_mono (ok' := (fun k_ => ((fun k_ => (P0_ k_ ∨ w.heap.size ≤ k_))) k_ ∧ some k_ ≠ (.slice none 0 0 : Value).ownBlock)) (HO0.out) (fun k_ hk => ⟨hk, (by simp [Value.ownBlock])⟩))).2.1 (Kd.V_F (Kd.V_mono (ok' := (fun k_ => ((fun k_ => (P0_ k_ ∨ w.heap.size ≤ k_))) k_ ∧ some k_ ≠ (.slice none 0 0 : Value).ownBlock)) (Kd.V_drewN HO0.out _) (fun k_ hk => ⟨hk, (by simp [Value.ownBlock])⟩))))); (case aB => exact tc6_); (case aF => exact (fun k_ hk => (.inr (Nat.le_trans (below_size tc0_) hk)))); (case aO => exact ((Kd.N_nil _ _ _ _ (fun k_ => (P0_ k_ ∨ w.heap.size ≤ k_))))); (case aS => exact tc11_); (case aL => have := LMc6.out; omega); intro v103 w7 ho hb hg hat; rw [← Ny102.out] at ho; replace HO0 := am_ (Kd.V_afterv (Kd.V_apart_nil tc52_) hg hat); replace HB := am_ (hb); have HO104 := am_ (ho); clear ho hb hg hat))
   go_meet
   case rel => exact ⟨_, (y102), H', ⟨tc47_⟩, ⟨tc52_⟩, ⟨tc49_⟩, ⟨tc0_⟩⟩
  ·replace c5 := Bool.eq_false_iff.mpr c5; subst c5; have H1 : (spec_dpRows.j0 k l0 a1 ([] : Tb_)) = some r := tc8_; clear H; have H := H1; clear H1; have H' := am_ H; clear H; go_wp2
   go_meet
   case rel => exact ⟨_, (([] : Tb_)), H', ⟨tc47_⟩, ⟨(by (with_reducible repeat (first | apply Kd.V_alloc | apply Kd.V_drewN | apply Kd.V_drew)); exact Kd.V_mono HO0.out (fun _ hk => ⟨hk, (by simp [Value.ownBlock])⟩))⟩, ⟨tc29_⟩, ⟨tc0_⟩⟩
 case rest =>
  clear HC4; (try clear p2); (try clear c5); (try clear c6); obtain ⟨kq, x5_3, HA, HJ3, HO_0, HO_5, HB⟩ := hcut
  cases kq with
  | zero => exact absurd HA.out (by simp [spec_dpRows.j0])
  | succ kj3 =>
   have H := HA.out; clear HA; simp only [spec_dpRows.j0] at H
   replace H := pn_ H; obtain ⟨c8, H⟩ | ⟨c8, H⟩ := H
   ·have c8b0 : decide (a1 ≤ (wrap64 ((l0.length : Int) + 1))) = true := decide_eq_true c8; clear c8; obtain rfl := Option.some.inj H; go_wp2
    go_ret
    exact ⟨_, tc4_, tc15_, tc0_⟩
   ·have c8b0 : decide (a1 ≤ (wrap64 ((l0.length : Int) + 1))) = false := decide_eq_false c8; clear c8; have HC9 := am_ H; clear H
    go_upto_if 24 with (fail)
    go_cut [6] (fun v6 wc => ∃ (kq : Nat) (x6_8 : Int), v6 = .int .i64 x6_8 ∧ Aside0 (spec_dpRows.j1 kq l0 a1 x5_3 x6_8 = some r) ∧ Aside0 (kq ≤ kj3) ∧ Aside0 (Kd.V (Kd.int .i64) 3 wc w.heap.size (fun k_ => (P0_ k_ ∨ w.heap.size ≤ k_) ∧ some k_ ≠ (u5 : Value).ownBlock) (.slice A0 l0.length c0) l0) ∧ Aside0 (Kd.N (Kd.slice 3 (Kd.int .i64)) 46 wc w.heap.size (fun k_ => (P0_ k_ ∨ w.heap.size ≤ k_)) u5 x5_3) ∧ Aside0 (Below w.heap.size w wc))
    case first =>
     have H := HC9.out; clear HC9
     replace H := pn_ H; obtain ⟨c10, H⟩ | ⟨c10, H⟩ := H
     ·have c10b0 : decide (0 < (l0.length : Int)) = true := decide_eq_true c10; have c10b1 : decide (0 < l0.length) = true := decide_eq_true (by omega); clear c10; (first | rw [c10b0] | rw [c10b1] | (simp only [i64_w, i32_w]; rw [c10b0]) | skip); obtain ⟨ji11, hji11⟩ : ∃ j_ : Int, (wrap64 ((l0.length : Int) - 1)) = j_ := ⟨_, rfl⟩; replace H : (if 0 ≤ (ji11) then (if (ji11) < (l0.length : Int) then (spec_dpRows.j1 kj3 l0 a1 x5_3 (rd l0 (ji11))) else (none)) else (none)) = some r := (by first | (rw [hji11] at H; exact H) | (simp only [hji11] at H ⊢; exact H)); have hji11w : (IntKind.i64.wrap ((l0.length : Int) - 1)) = ji11 := (i64_w _).trans hji11; replace H := ps_ H; obtain ⟨c12b0, H⟩ := H; replace H := ps_ H; obtain ⟨c13b0, H⟩ := H; have H' := am_ H; clear H; have p105 : 0 ≤ ((ji11) : Int) := od_; have q105 : (ji11) < (l0.length : Int) := od_; obtain ⟨ad105, e105, hx105_0⟩ := Kd.at_int (Kd.V_reads' HO_0.out).2.2 (ji11) p105 q105; cases e105; replace p105 := eq_true p105; replace q105 := eq_true q105; go_wp2
      go_meet
      case rel => exact ⟨_, (rd l0 (ji11)), (by first | rfl | (simp; done) | (simp only [← hji11] <;> (first | rfl | simp)) | (simp [*]; done)), H', ⟨(by have := HJ3.out; first | omega | exact Nat.le_refl _)⟩, ⟨tc28_⟩, ⟨tc15_⟩, ⟨tc0_⟩⟩
     ·have c10b0 : decide (0 < (l0.length : Int)) = false := decide_eq_false c10; have c10b1 : decide (0 < l0.length) = false := decide_eq_false (by omega); clear c10; (first | rw [c10b0] | rw [c10b1] | (simp only [i64_w, i32_w]; rw [c10b0]) | skip); have H' := am_ H; clear H; go_wp2
      go_meet
      case rel => exact ⟨_, (a1), tc3_, H', ⟨(by have := HJ3.out; first | omega | exact Nat.le_refl _)⟩, ⟨tc28_⟩, ⟨tc15_⟩, ⟨tc0_⟩⟩
    case rest =>
     clear HC9; (try clear c1); (try clear p1); (try clear q1); (try clear hx1); (try clear p2); (try clear c5); (try clear c6); (try clear p6); (try clear c8); (try clear c8b0); (try clear c10); (try clear c10b0); (try clear c10b1); (try clear p10); (try clear q10); (try clear hx10); (try clear c12); (try clear c12b0); (try clear c13); (try clear c13b0); (try clear hx105_0); (try clear p105); (try clear p2); (try clear q105); obtain ⟨kq, x6_8, rfl, HA, HJ8, HO_0, HO_5, HB⟩ := hcut
     cases kq with
     | zero => exact absurd HA.out (by simp [spec_dpRows.j1])
     | succ kj8 =>
      have H := HA.out; clear HA; simp only [spec_dpRows.j1] at H; have H' := am_ H; clear H; go_wp2
      go_loopg [5, 7] kj8 (fun kq v5 v7 w' => ∃ (x5_3 : Tb_) (x7_3 : Int), v7 = .int .i64 x7_3 ∧ Aside0 (spec_dpRows.l0 kq l0 a1 x5_3 x6_8 x7_3 = some r) ∧ Aside0 (kq ≤ kj8) ∧ Aside0 (Kd.V (Kd.int .i64) 3 w' w.heap.size (fun k_ => (P0_ k_ ∨ w.heap.size ≤ k_) ∧ some k_ ≠ (v5 : Value).ownBlock) (.slice A0 l0.length c0) l0) ∧ Aside0 (Kd.N (Kd.slice 3 (Kd.int .i64)) 46 w' w.heap.size (fun k_ => (P0_ k_ ∨ w.heap.size ≤ k_)) v5 x5_3) ∧ Aside0 (Below w.heap.size w w'))
      case atStart => exact ⟨(x5_3), (1), tc3_, H', ⟨Nat.le_refl _⟩, ⟨tc28_⟩, ⟨tc15_⟩, ⟨tc0_⟩⟩
      case round =>
       clear H'; (try clear c1); (try clear p1); (try clear q1); (try clear hx1); (try clear p2); (try clear c5); (try clear c6); (try clear p6); (try clear c8); (try clear c8b0); (try clear c10); (try clear c10b0); (try clear c10b1); (try clear p10); (try clear q10); (try clear hx10); (try clear c12); (try clear c12b0); (try clear c13); (try clear c13b0); (try clear hx105_0); (try clear p1); (try clear p10); (try clear p105); (try clear p2); (try clear p6); (try clear q1); (try clear q10); (try clear q105); obtain ⟨x5_3, x7_3, rfl, HA, HK3, HO_0, HO_5, HB⟩ := hrel
       cases gk with
       | zero => exact absurd HA.out (by simp [spec_dpRows.l0])
       | succ k3 =>
        have H := HA.out; clear HA; simp only [spec_dpRows.l0] at H
        replace H := sp_ H; obtain ⟨c14b0, H⟩ | ⟨c14b0, H⟩ := H
        ·replace H := bd_ H; obtain ⟨t106, A15, H⟩ := H; (try dsimp only at H); replace H := pp_ H; obtain ⟨c16, H⟩ := H; have LMc16 := am_ c16; clear c16; obtain ⟨y109, hy109⟩ : ∃ y_ : List Int, y_ = (t106 ++ [x7_3]) := ⟨_, rfl⟩; replace H : ((spec_dpRows.f k3 y109 a1).bind fun t112 => (if x5_3.length + t112.length < 5864062014805 then (spec_dpRows.l0 k3 l0 a1 (x5_3 ++ t112) x6_8 (wrap64 (x7_3 + 1))) else (none))) = some r := tc34_; have Ny109 := am_ hy109; clear hy109; replace H := bd_ H; obtain ⟨t112, A17, H⟩ := H; (try dsimp only at H); replace H := pp_ H; obtain ⟨c18, H⟩ := H; have LMc18 := am_ c18; clear c18; obtain ⟨y115, hy115⟩ : ∃ y_ : Tb_, y_ = (x5_3 ++ t112) := ⟨_, rfl⟩; replace H : (spec_dpRows.l0 k3 l0 a1 y115 x6_8 (wrap64 (x7_3 + 1))) = some r := (by first | (rw [hy115]; with_reducible exact H) | (have H2_ := (Option.bind_some _ _).symm.trans H; rw [hy115]; with_reducible exact H2_) | (have H2_ := (Option.bind_some _ _).symm.trans H; with_reducible exact H2_) | with_reducible exact H | (rw [hy115]; exact H) | exact H); have Ny115 := am_ hy115; clear hy115; have H' := am_ H; clear H
         go_wp2_with (first | (refine gc_ (some 38) Try.func45 #[.slice A0 l0.length c0] ?_; (with_reducible refine (spec_l1Own.calls _ _ l0 t106 _ ?side1 ?side2 A15.out).mono ?_); (case side1 => repeat (first | exact (Kd.V_reads' HO_0.out).2.2 | (with_reducible refine Kd.C_alloc ?_ _) | (with_reducible refine Kd.C_drewN ?_ _) | (with_reducible refine Kd.C_drew ?_))); (case side2 => exact (Kd.V_reads' HO_0.out).2.1); rintro e w19 ⟨v107, rfl, ho0, hb⟩; refine ⟨_, rfl, ?_⟩; replace HO_0 := am_ (Kd.V_elder' tc28_ (Kd.R_base ho0) hb); replace HO_5 := am_ (Kd.N_elder' tc15_ (Kd.R_base ho0) hb); have HO108 := am_ (Kd.R_lower (Kd.R_newM (M := fun k_ => (w.heap.size ≤ k_)) ho0 (below_size tc0_) (fun k_ h_ => h_)) (below_size tc0_)); replace HB := am_ (below_step tc0_ hb); (try clear hb ho0)) | ((with_reducible refine gate_builtin (b := .append) (xs := #[.tmp 38, .tmp 40]) rfl ?_); at_builtin; refine Kd.R_append (Kd.int .i64) (w0 := w) w.heap.size rfl (.tmp 38) (.tmp 40) 46 3 (.int .i64 0) 8 rfl Try.underlying46 info3 rfl (by decide) (by omega) v107 t106 x7_3 [.int .i64 x7_3] (fun k_ => (w.heap.size ≤ k_)) (fun _ => False) rfl rfl ?aP (fun _ hk => hk.elim) ?aF ?aO ?aB ?aS ?aL ?_; (case aP => exact rfl); (case aB => exact tc6_); (case aF => exact (fun k_ hk => (Nat.le_trans (below_size tc0_) hk))); (case aO => exact (by (with_reducible repeat (first | apply Kd.R_alloc | apply Kd.R_drewN | apply Kd.R_drew)); exact Kd.R_mono HO108.out (fun _ hk => hk.1))); (case aS => exact tc11_); (case aL => have := LMc16.out; omega); intro v110 w20 ho hb hg hat; rw [← Ny109.out] at ho; replace HO_0 := am_ (Kd.V_afterv (ok := (fun k_ => (P0_ k_ ∨ w.heap.size ≤ k_) ∧ some k_ ≠ (u5 : Value).ownBlock)) tc28_ hg hat); replace HO_5 := am_ (Kd.N_afterv (ok := (fun k_ => (P0_ k_ ∨ w.heap.size ≤ k_))) tc15_ hg hat); replace HB := am_ (hb); have HO111 := am_ (ho); clear HO108; clear ho hb hg hat; obtain ⟨Ao21, co21, eo21⟩ := Kd.R_slice HO111.out; subst eo21) | (refine gc_ (some 43) Try.func56 #[.slice Ao21 y109.length co21, .int .i64 a1] ?_; (with_reducible refine (ih k3 (by have := HJ3.out; have := HJ8.out; have := HK3.out; omega) (fun k_ => some k_ = (.slice Ao21 y109.length co21 : Value).ownBlock) _ _ y109 a1 t112 _ ?side1 A17.out).mono ?_); (case side1 => exact Kd.R_V (Kd.R_tight rfl (Kd.R_apart' (HO111.out) (Kd.N_typed HO_5.out) (by decide)))); rintro e w22 ⟨v113, rfl, ho0, hb⟩; refine ⟨_, rfl, ?_⟩; replace HO_0 := am_ (Kd.V_elder' tc28_ (Kd.N_base ho0) hb); have HO114 := am_ (Kd.N_lower (Kd.N_mono (ok' := fun k_ => (P0_ k_ ∨ w.heap.size ≤ k_) ∧ some k_ ≠ (u5 : Value).ownBlock) ho0 (fun k_ hk_ => ⟨Or.elim hk_ (fun hs_ => (.inr (((Kd.R_apart' (HO111.out) (Kd.N_typed HO_5.out) (by decide)).1 k_ hs_.symm).1))) (fun hn_ => (.inr (Nat.le_trans (below_size tc0_) hn_))), Or.elim hk_ (fun hs_ => ((Kd.R_apart' (HO111.out) (Kd.N_typed HO_5.out) (by decide)).1 k_ hs_.symm).2) (fun hn_ => (Kd.fresh' (Kd.N_lt tc15_) k_ hn_))⟩)) (below_size tc0_)); replace HO_5 := am_ (Kd.N_elder' tc15_ (Kd.N_base ho0) hb); replace HO111 := am_ (Kd.R_below tc64_ hb); replace HB := am_ (below_step tc0_ hb); (try clear hb ho0); obtain ⟨Ao24, co24, eo24⟩ := Kd.N_slice HO114.out; subst eo24) | ((with_reducible refine gate_builtin (b := .append) (xs := #[.tmp 36, .tmp 43]) rfl ?_); at_builtin; refine Kd.N_append_rows (Kd.slice 3 (Kd.int .i64)) (w0 := w) w.heap.size rfl (.tmp 36) (.tmp 43) 26 46 (.slice none 0 0) 24 rfl Try.underlying26 info46 rfl (by decide) (by omega) u5 x5_3 t112 _ _ _ (fun k_ => (P0_ k_ ∨ w.heap.size ≤ k_)) (fun k_ => ((fun k_ => (P0_ k_ ∨ w.heap.size ≤ k_))) k_ ∧ some k_ ≠ (u5 : Value).ownBlock) rfl rfl ?aO ?aR (fun _ hk => hk) ?aF ?aB ?aS ?aL ?_; (case aR => exact (by skip; exact Kd.N_F (Kd.N_mono (ok' := (fun k_ => ((fun k_ => (P0_ k_ ∨ w.heap.size ≤ k_))) k_ ∧ some k_ ≠ (u5 : Value).ownBlock)) (HO114.out) (fun k_ hk => ⟨hk.1, hk.2⟩)))); (case aB => exact tc6_); (case aF => exact (fun k_ hk => (.inr (Nat.le_trans (below_size tc0_) hk)))); (case aO => exact (by (with_reducible repeat (first | apply Kd.N_alloc | apply Kd.N_drewN | apply Kd.N_drew)); exact Kd.N_mono HO_5.out (fun _ hk => hk.1.1))); (case aS => exact tc11_); (case aL => have := LMc18.out; omega); intro v116 w23 ho hb hg hat; rw [← Ny115.out] at ho; have n0_ := am_ (Kd.V_afterv (ok := (fun k_ => (P0_ k_ ∨ w.heap.size ≤ k_) ∧ some k_ ≠ (.slice Ao21 y109.length co21 : Value).ownBlock ∧ some k_ ≠ (.slice Ao24 t112.length co24 : Value).ownBlock)) (by (with_reducible repeat (first | apply Kd.V_alloc | apply Kd.V_drewN | apply Kd.V_drew)); exact Kd.V_mono HO_0.out (fun _ hk => ⟨⟨hk.1.1.1, ⟨hk.1.2, hk.2⟩⟩, hk.1.1.2⟩)) hg hat); have n1_ := am_ (Kd.R_over' tc64_ (Kd.N_typed tc15_) (by decide) hg); have n2_ := am_ (Kd.N_afterv (ok := (fun k_ => (P0_ k_ ∨ w.heap.size ≤ k_))) (by (with_reducible repeat (first | apply Kd.N_alloc | apply Kd.N_drewN | apply Kd.N_drew)); exact HO114.out) hg hat); have n3_ := am_ (hb); have n4_ := am_ (ho); clear HO_0 HO111; clear HO114 HB HO_5; have HO_0 := n0_; have HO111 := n1_; have HO114 := n2_; have HB := n3_; have HO117 := n4_; clear n0_ n1_ n2_ n3_ n4_; clear ho hb hg hat))
         go_roundg k3
         case measure => have := HJ3.out; have := HJ8.out; have := HK3.out; omega
         case rel => exact ⟨(y115), (wrap64 (x7_3 + 1)), tc3_, H', ⟨(by have := HJ3.out; have := HJ8.out; have := HK3.out; omega)⟩, ⟨(by (with_reducible repeat (first | apply Kd.V_alloc | apply Kd.V_drewN | apply Kd.V_drew)); exact Kd.V_mono HO_0.out (fun _ hk => ⟨hk.1.1, hk.2⟩))⟩, ⟨(by (with_reducible repeat (first | apply Kd.N_alloc | apply Kd.N_drewN | apply Kd.N_drew)); exact HO117.out)⟩, ⟨tc0_⟩⟩
        ·obtain rfl := Option.some.inj H; go_wp2
         go_ret
         exact ⟨_, tc4_, tc15_, tc0_⟩

/-! ### spec_dpBelow: function 57 -/
mutual
def spec_dpBelow.j0 : Nat → List Int → List Int → Bool → Option (Bool)
 | 0, _, _, _ => none
 | k + 1, x0, x1, x19 => if x19 = true then (some false) else (spec_dpBelow.l0 k x1 x0 (x0.length : Int) 0)
def spec_dpBelow.l0 : Nat → List Int → List Int → Int → Int → Option (Bool)
 | 0, _, _, _, _ => none
 | k + 1, x1, x20, x21, x22 => if x22 < x21 then (if 0 ≤ x22 then (if x22 < (x20.length : Int) then (if 0 ≤ (wrap64 (x22 + 1)) then (if (wrap64 (x22 + 1)) < (x1.length : Int) then (if (rd x20 x22) ≥ (rd x1 (wrap64 (x22 + 1))) then (some false) else (spec_dpBelow.l0 k x1 x20 x21 (wrap64 (x22 + 1)))) else (none)) else (none)) else (none)) else (none)) else (some true)
end
def spec_dpBelow.f (k : Nat) (l0 : List Int) (l1 : List Int) : Option (Bool) := if (l0.length : Int) ≥ (l1.length : Int) then (spec_dpBelow.j0 k l0 l1 true) else (if 0 < (l0.length : Int) then (spec_dpBelow.j0 k l0 l1 (decide ((rd l0 0) > (l1.length : Int)))) else (none))
theorem spec_dpBelow.mono_l : ∀ k, (∀ y0 y1 y2, LeO (spec_dpBelow.j0 k y0 y1 y2) (spec_dpBelow.j0 (k + 1) y0 y1 y2)) ∧ (∀ y0 y1 y2 y3, LeO (spec_dpBelow.l0 k y0 y1 y2 y3) (spec_dpBelow.l0 (k + 1) y0 y1 y2 y3))
 | 0 => ⟨fun _ _ _ r h => by simp [spec_dpBelow.j0] at h, fun _ _ _ _ r h => by simp [spec_dpBelow.l0] at h⟩
 | k + 1 => by
  obtain ⟨ih0, ih1⟩ := spec_dpBelow.mono_l k; refine ⟨?_, ?_⟩
  ·intro y0 y1 y2; unfold spec_dpBelow.j0
   repeat' first
   | (with_reducible exact ih0 _ _ _)
   | (with_reducible exact ih1 _ _ _ _)
   | (with_reducible exact LeO.refl _)
   | (with_reducible exact LeO.none _)
   | (with_reducible refine LeO.ite ?_ ?_)
   | (with_reducible refine LeO.bind ?_ (fun _ => ?_))
   | exact ih0 _ _ _
   | exact ih1 _ _ _ _
   | exact LeO.none _
   | refine LeO.ite ?_ ?_
   | refine LeO.bind ?_ (fun _ => ?_)
  ·intro y0 y1 y2 y3; unfold spec_dpBelow.l0
   repeat' first
   | (with_reducible exact ih0 _ _ _)
   | (with_reducible exact ih1 _ _ _ _)
   | (with_reducible exact LeO.refl _)
   | (with_reducible exact LeO.none _)
   | (with_reducible refine LeO.ite ?_ ?_)
   | (with_reducible refine LeO.bind ?_ (fun _ => ?_))
   | exact ih0 _ _ _
   | exact ih1 _ _ _ _
   | exact LeO.none _
   | refine LeO.ite ?_ ?_
   | refine LeO.bind ?_ (fun _ => ?_)
theorem spec_dpBelow.mono : ∀ a0 a1  k, LeO (spec_dpBelow.f k a0 a1) (spec_dpBelow.f (k + 1) a0 a1) := by
 intro a0 a1 k; obtain ⟨ih0, ih1⟩ := spec_dpBelow.mono_l k; unfold spec_dpBelow.f
 repeat' first
   | (with_reducible exact ih0 _ _ _)
   | (with_reducible exact ih1 _ _ _ _)
   | (with_reducible exact LeO.refl _)
   | (with_reducible exact LeO.none _)
   | (with_reducible refine LeO.ite ?_ ?_)
   | (with_reducible refine LeO.bind ?_ (fun _ => ?_))
   | exact ih0 _ _ _
   | exact ih1 _ _ _ _
   | exact LeO.none _
   | refine LeO.ite ?_ ?_
   | refine LeO.bind ?_ (fun _ => ?_)
theorem spec_dpBelow.calls (k : Nat) (A0 : Option Addr) (c0 : Nat) (l0 : List Int) (A1 : Option Addr) (c1 : Nat) (l1 : List Int) (r : Bool) (w : World) (hr0 : Kd.C (Kd.int .i64) w A0 l0.length l0) (hc0 : l0.length ≤ c0) (hr1 : Kd.C (Kd.int .i64) w A1 l1.length l1) (hc1 : l1.length ≤ c1) (h : spec_dpBelow.f k l0 l1 = some r) :
  Calls Try.prog 57 #[.slice A0 l0.length c0, .slice A1 l1.length c1] w fun e w' => e = .returned (.bool r) ∧ Drawn0 w w' := by
 have HR0 := am_ hr0; have HC0 := am_ hc0; clear hr0 hc0; have HR1 := am_ hr1; have HC1 := am_ hc1; clear hr1 hc1; (try unfold spec_dpBelow.f at h); have H := h; clear h; have HC3 := am_ H; clear H; go_enter Try.func57, Try.ntmps57
 go_upto_region 1 with (fail)
 go_cut [19] (fun v19 wc => ∃ (kq : Nat) (x19_2 : Bool), v19 = .bool x19_2 ∧ Aside0 (spec_dpBelow.j0 kq l0 l1 x19_2 = some r) ∧ Aside0 (kq ≤ k) ∧ Drawn0 w wc)
 case first =>
  have H := HC3.out; clear HC3
  replace H := pn_ H; obtain ⟨c4, H⟩ | ⟨c4, H⟩ := H
  ·have c4b0 : decide ((l1.length : Int) ≤ (l0.length : Int)) = true := decide_eq_true c4; have c4b1 : decide (l1.length ≤ l0.length) = true := decide_eq_true (Int.ofNat_le.mp c4); clear c4; (first | rw [c4b0] | (simp only [i64_w, i32_w]; rw [c4b0]) | skip); have H' := am_ H; clear H; go_wp2
   go_meet
   case rel => exact ⟨_, (true), tc3_, H', ⟨tc47_⟩, tc5_⟩
  ·have c4b0 : decide ((l1.length : Int) ≤ (l0.length : Int)) = false := decide_eq_false c4; have c4b1 : decide (l1.length ≤ l0.length) = false := decide_eq_false (fun h => c4 (Int.ofNat_le.mpr h)); clear c4; (first | rw [c4b0] | (simp only [i64_w, i32_w]; rw [c4b0]) | skip); replace H := pp_ H; obtain ⟨c5, H⟩ := H; have c5b0 : decide (0 < (l0.length : Int)) = true := decide_eq_true c5; have c5b1 : decide (0 < l0.length) = true := decide_eq_true (by omega); clear c5; have H' := am_ H; clear H; have p101 : 0 ≤ (0 : Int) := (by omega); have q101 : 0 < (l0.length : Int) := od_; obtain ⟨ad101, e101, hx101_0⟩ := Kd.at_int HR0.out 0 p101 q101; cases e101; have qi101 : (0 < l0.length) = True := eq_true (by omega); (try rw [show ((0 : Int)).toNat = 0 from rfl] at hx101_0); (try rw [Addr.add_zero'] at hx101_0); replace p101 := eq_true p101; replace q101 := eq_true q101; go_wp2
   go_meet
   case rel => exact ⟨_, (decide ((rd l0 0) > (l1.length : Int))), tc3_, H', ⟨tc47_⟩, tc5_⟩
 case rest =>
  clear HC3; (try clear c1); (try clear p1); (try clear q1); (try clear hx1); (try clear qi1); (try clear p2); (try clear c4); (try clear c4b0); (try clear c4b1); (try clear c5); (try clear c5b0); (try clear c5b1); (try clear hx101_0); (try clear p101); (try clear q101); obtain ⟨kq, x19_2, rfl, HA, HJ2, ⟨mc2, rfl⟩⟩ := hcut
  cases kq with
  | zero => exact absurd HA.out (by simp [spec_dpBelow.j0])
  | succ kj2 =>
   have H := HA.out; clear HA; simp only [spec_dpBelow.j0] at H
   by_cases c6 : x19_2 = true
   ·subst c6; have H1 : (some false) = some r := tc19_; clear H; have H := H1; clear H1; obtain rfl := Option.some.inj H; go_wp2
    go_ret
    exact ⟨tc3_, tc5_⟩
   ·replace c6 := Bool.eq_false_iff.mpr c6; subst c6; have H1 : (spec_dpBelow.l0 kj2 l1 l0 (l0.length : Int) 0) = some r := tc8_; clear H; have H := H1; clear H1; have H' := am_ H; clear H; go_wp2
    go_loopg [22] kj2 (fun kq v22 w' => ∃ (x22_2 : Int), v22 = .int .i64 x22_2 ∧ Aside0 (spec_dpBelow.l0 kq l1 l0 (l0.length : Int) x22_2 = some r) ∧ Aside0 (kq ≤ kj2) ∧ Drawn0 w w')
    case atStart => exact ⟨(0), tc3_, H', ⟨Nat.le_refl _⟩, tc5_⟩
    case round =>
     clear H'; (try clear c1); (try clear p1); (try clear q1); (try clear hx1); (try clear qi1); (try clear c2); (try clear p2); (try clear c4); (try clear c4b0); (try clear c4b1); (try clear c5); (try clear c5b0); (try clear c5b1); (try clear c6); (try clear hx101_0); (try clear p1); (try clear p101); (try clear p2); (try clear q1); (try clear q101); obtain ⟨x22_2, rfl, HA, HK2, ⟨m2, rfl⟩⟩ := hrel
     cases gk with
     | zero => exact absurd HA.out (by simp [spec_dpBelow.l0])
     | succ k2 =>
      have H := HA.out; clear HA; simp only [spec_dpBelow.l0] at H
      replace H := sp_ H; obtain ⟨c7b0, H⟩ | ⟨c7b0, H⟩ := H
      ·replace H := ps_ H; obtain ⟨c8b0, H⟩ := H; replace H := ps_ H; obtain ⟨c9b0, H⟩ := H; obtain ⟨ji10, hji10⟩ : ∃ j_ : Int, (wrap64 (x22_2 + 1)) = j_ := ⟨_, rfl⟩; replace H : (if 0 ≤ (ji10) then (if (ji10) < (l1.length : Int) then (if (rd l0 x22_2) ≥ (rd l1 (ji10)) then (some false) else (spec_dpBelow.l0 k2 l1 l0 (l0.length : Int) ji10)) else (none)) else (none)) = some r := (by first | (rw [hji10] at H; exact H) | (simp only [hji10] at H ⊢; exact H)); have hji10w : (IntKind.i64.wrap (x22_2 + 1)) = ji10 := (i64_w _).trans hji10; replace H := ps_ H; obtain ⟨c11b0, H⟩ := H; replace H := ps_ H; obtain ⟨c12b0, H⟩ := H
       replace H := pn_ H; obtain ⟨c13, H⟩ | ⟨c13, H⟩ := H
       ·have c13b0 : decide ((rd l1 (ji10)) ≤ (rd l0 x22_2)) = true := decide_eq_true c13; clear c13; obtain rfl := Option.some.inj H; have p102 : 0 ≤ (x22_2 : Int) := od_; have q102 : x22_2 < (l0.length : Int) := od_; obtain ⟨ad102, e102, hx102_0⟩ := Kd.at_int HR0.out x22_2 p102 q102; cases e102; replace p102 := eq_true p102; replace q102 := eq_true q102; have p103 : 0 ≤ ((ji10) : Int) := od_; have q103 : (ji10) < (l1.length : Int) := od_; obtain ⟨ad103, e103, hx103_0⟩ := Kd.at_int HR1.out (ji10) p103 q103; cases e103; replace p103 := eq_true p103; replace q103 := eq_true q103; go_wp2
        go_ret
        exact ⟨tc58_, tc5_⟩
       ·have c13b0 : decide ((rd l1 (ji10)) ≤ (rd l0 x22_2)) = false := decide_eq_false c13; clear c13; have H' := am_ H; clear H; have p102 : 0 ≤ (x22_2 : Int) := od_; have q102 : x22_2 < (l0.length : Int) := od_; obtain ⟨ad102, e102, hx102_0⟩ := Kd.at_int HR0.out x22_2 p102 q102; cases e102; replace p102 := eq_true p102; replace q102 := eq_true q102; have p103 : 0 ≤ ((ji10) : Int) := od_; have q103 : (ji10) < (l1.length : Int) := od_; obtain ⟨ad103, e103, hx103_0⟩ := Kd.at_int HR1.out (ji10) p103 q103; cases e103; replace p103 := eq_true p103; replace q103 := eq_true q103; go_wp2
        go_roundg k2
        case measure => have := HJ2.out; have := HK2.out; omega
        case rel => exact ⟨(ji10), tc58_, H', ⟨(by have := HJ2.out; have := HK2.out; omega)⟩, tc5_⟩
      ·obtain rfl := Option.some.inj H; go_wp2
       go_ret
       exact ⟨tc3_, tc5_⟩

/-! ### spec_dpNext: function 44 -/
def spec_dpNext.l0 : Nat → Tb_ → Tb_ → Tb_ → Int → Int → Option (Tb_)
 | 0, _, _, _, _, _ => none
 | k + 1, x0, x5, x9, x10, x11 => if x11 < x10 then (if 0 ≤ x11 then (if x11 < (x9.length : Int) then (if (x0.length : Int) = 0 then (if x5.length < 5864062014805 then (spec_dpNext.l0 k x0 (x5 ++ [rd_L3 x9 x11]) x9 x10 (wrap64 (x11 + 1))) else (none)) else (if 0 ≤ (wrap64 ((x0.length : Int) - 1)) then (if (wrap64 ((x0.length : Int) - 1)) < (x0.length : Int) then ((spec_dpBelow.f k (rd_L3 x9 x11) (rd_L3 x0 (wrap64 ((x0.length : Int) - 1)))).bind fun t109 => (if t109 = true then (if x5.length < 5864062014805 then (spec_dpNext.l0 k x0 (x5 ++ [rd_L3 x9 x11]) x9 x10 (wrap64 (x11 + 1))) else (none)) else (spec_dpNext.l0 k x0 x5 x9 x10 (wrap64 (x11 + 1))))) else (none)) else (none))) else (none)) else (none)) else (some x5)
def spec_dpNext.f (k : Nat) (l0 : Tb_) (a1 : Int) : Option (Tb_) := (spec_dpRows.f k ([] : List Int) a1).bind fun t101 => (spec_dpNext.l0 k l0 ([] : Tb_) t101 (t101.length : Int) 0)
theorem spec_dpNext.mono_l : ∀ k, (∀ y0 y1 y2 y3 y4, LeO (spec_dpNext.l0 k y0 y1 y2 y3 y4) (spec_dpNext.l0 (k + 1) y0 y1 y2 y3 y4))
 | 0 => fun _ _ _ _ _ r h => by simp [spec_dpNext.l0] at h
 | k + 1 => by
  have ih0 := spec_dpNext.mono_l k
  ·intro y0 y1 y2 y3 y4; unfold spec_dpNext.l0
   repeat' first
   | (with_reducible exact ih0 _ _ _ _ _)
   | (with_reducible exact spec_dpBelow.mono _ _ _)
   | (with_reducible exact spec_dpRows.mono _ _ _)
   | (with_reducible exact LeO.refl _)
   | (with_reducible exact LeO.none _)
   | (with_reducible refine LeO.ite ?_ ?_)
   | (with_reducible refine LeO.bind ?_ (fun _ => ?_))
   | exact ih0 _ _ _ _ _
   | exact spec_dpBelow.mono _ _ _
   | exact spec_dpRows.mono _ _ _
   | exact LeO.none _
   | refine LeO.ite ?_ ?_
   | refine LeO.bind ?_ (fun _ => ?_)
theorem spec_dpNext.mono : ∀ a0 a1  k, LeO (spec_dpNext.f k a0 a1) (spec_dpNext.f (k + 1) a0 a1) := by
 intro a0 a1 k; have ih0 := spec_dpNext.mono_l k; unfold spec_dpNext.f
 repeat' first
   | (with_reducible exact ih0 _ _ _ _ _)
   | (with_reducible exact spec_dpBelow.mono _ _ _)
   | (with_reducible exact spec_dpRows.mono _ _ _)
   | (with_reducible exact LeO.refl _)
   | (with_reducible exact LeO.none _)
   | (with_reducible refine LeO.ite ?_ ?_)
   | (with_reducible refine LeO.bind ?_ (fun _ => ?_))
   | exact ih0 _ _ _ _ _
   | exact spec_dpBelow.mono _ _ _
   | exact spec_dpRows.mono _ _ _
   | exact LeO.none _
   | refine LeO.ite ?_ ?_
   | refine LeO.bind ?_ (fun _ => ?_)
theorem spec_dpNext.calls (k : Nat) (A0 : Option Addr) (c0 : Nat) (l0 : Tb_) (a1 : Int) (r : Tb_) (w : World) (hr0 : Kd.C (Kd.slice 3 (Kd.int .i64)) w A0 l0.length l0) (hc0 : l0.length ≤ c0) (h : spec_dpNext.f k l0 a1 = some r) :
  Calls Try.prog 44 #[.slice A0 l0.length c0, .int .i64 a1] w fun e w' => ∃ v0_ : Value, e = .returned (v0_) ∧ Kd.N (Kd.slice 3 (Kd.int .i64)) 46 w' w.heap.size (fun k_ => (w.heap.size ≤ k_)) v0_ r ∧ Below w.heap.size w w' := by
 have HR0 := am_ hr0; have HC0 := am_ hc0; clear hr0 hc0; have HB := am_ (Below.refl w.heap.size w); (try unfold spec_dpNext.f at h); have H := h; clear h; replace H := bd_ H; obtain ⟨t101, A3, H⟩ := H; (try dsimp only at H); have H' := am_ H; clear H; go_enter Try.func44, Try.ntmps44
 go_wp2_with (first | (refine gc_ (some 9) Try.func56 #[.slice none 0 0, .int .i64 a1] ?_; (refine (spec_dpRows.calls k (fun k_ => False) _ _ ([] : List Int) a1 t101 _ ?side1 A3.out).mono ?_); (case side1 => exact Kd.V_nil _ _ _ _ _); rintro e w4 ⟨v102, rfl, ho0, hb⟩; refine ⟨_, rfl, ?_⟩; have HO103 := am_ (Kd.N_lower (Kd.N_mono (ok' := fun k_ => (w.heap.size ≤ k_)) ho0 (fun k_ hk_ => Or.elim hk_ (fun hs_ => (hs_).elim) (fun hn_ => (Nat.le_trans (below_size tc0_) hn_)))) (below_size tc0_)); replace HB := am_ (below_step tc0_ hb); (try clear hb ho0); obtain ⟨Ao5, co5, eo5⟩ := Kd.N_slice HO103.out; subst eo5))
 go_loopg [5, 11] k (fun kq v5 v11 w' => ∃ (x5_1 : Tb_) (x11_1 : Int), v11 = .int .i64 x11_1 ∧ Aside0 (spec_dpNext.l0 kq l0 x5_1 t101 (t101.length : Int) x11_1 = some r) ∧ Aside0 (kq ≤ k) ∧ Aside0 (Kd.N (Kd.slice 3 (Kd.int .i64)) 46 w' w.heap.size (fun k_ => (w.heap.size ≤ k_) ∧ some k_ ≠ ((.slice Ao5 t101.length co5) : Value).ownBlock) v5 x5_1) ∧ Aside0 (Kd.N (Kd.slice 3 (Kd.int .i64)) 46 w' w.heap.size (fun k_ => (w.heap.size ≤ k_) ∧ some k_ ≠ (v5 : Value).ownBlock) (.slice Ao5 t101.length co5) t101) ∧ Aside0 (Below w.heap.size w w'))
 case atStart => exact ⟨(([] : Tb_)), (0), tc3_, H', ⟨Nat.le_refl _⟩, ⟨tc29_⟩, ⟨(by (with_reducible repeat (first | apply Kd.N_alloc | apply Kd.N_drewN | apply Kd.N_drew)); exact Kd.N_mono HO103.out (fun _ hk => ⟨hk, (by simp [Value.ownBlock])⟩))⟩, ⟨tc0_⟩⟩
 case round =>
  clear H'; (try clear p2); (try clear c4); (try clear c5); obtain ⟨x5_1, x11_1, rfl, HA, HK1, HO_5, HO_9, HB⟩ := hrel
  cases gk with
  | zero => exact absurd HA.out (by simp [spec_dpNext.l0])
  | succ k1 =>
   have H := HA.out; clear HA; simp only [spec_dpNext.l0] at H
   replace H := sp_ H; obtain ⟨c6b0, H⟩ | ⟨c6b0, H⟩ := H
   ·replace H := ps_ H; obtain ⟨c7b0, H⟩ := H; replace H := ps_ H; obtain ⟨c8b0, H⟩ := H
    replace H := pn_ H; obtain ⟨c9, H⟩ | ⟨c9, H⟩ := H
    ·have c9b0 : ((l0.length : Int) == 0) = true := beq_iff_eq.mpr c9; have c9b1 : ((l0.length : Int) != 0) = false := bne_eq_false_iff_eq.mpr c9; clear c9; replace H := pp_ H; obtain ⟨c10, H⟩ := H; have LMc10 := am_ c10; clear c10; obtain ⟨y105, hy105⟩ : ∃ y_ : Tb_, y_ = (x5_1 ++ [rd_L3 t101 x11_1]) := ⟨_, rfl⟩; replace H : (spec_dpNext.l0 k1 l0 y105 t101 (t101.length : Int) (wrap64 (x11_1 + 1))) = some r := tc43_; have Ny105 := am_ hy105; clear hy105; have H' := am_ H; clear H; have p104 : 0 ≤ (x11_1 : Int) := od_; have q104 : x11_1 < (t101.length : Int) := od_; obtain ⟨ad104, A104_0, c104_0, e104, hx104_0, hl104_0, hi104_0⟩ := at_L3 (Kd.N_reads' HO_9.out).2.2 x11_1 p104 q104; cases e104; obtain ⟨ce104, hce104, hMe104, hcc104⟩ := Kd.N_get HO_9.out [] x11_1 p104 tc48_; obtain ⟨ua104_0, uc104_0, rfl, ul104_0, ge104_0⟩ := Kd.FK_slice_open hMe104; have hv104_0 := hcc104 0 _ rfl; rw [Nat.add_zero, show ((Kd.slice 3 (Kd.int .i64))).sz = 1 from rfl, Nat.mul_one] at hv104_0; replace hv104_0 := Option.some.inj (hv104_0.symm.trans hx104_0)
     injection hv104_0 with hva_ hvn_ hvc_
     rw [hva_] at ge104_0; rw [hvc_] at ul104_0; have HL104_0 := am_ (show Kd.V (Kd.int .i64) 3 _ w.heap.size _ _ (rd_L3 t101 x11_1) from Kd.V_mk ul104_0 ge104_0); clear hva_ hvn_ hvc_ ge104_0 ul104_0; clear hcc104 hce104; have HR104_0 := am_ hi104_0; have HC104_0 := am_ hl104_0; clear hi104_0 hl104_0; replace p104 := eq_true p104; replace q104 := eq_true q104
     go_wp2_with (first | ((with_reducible refine gate_builtin (b := .append) (xs := #[.tmp 28, .tmp 30]) rfl ?_); (try (refine gate_guard (by rfl) ?_; dsimp only)); at_builtin; refine Kd.N_append (Kd.slice 3 (Kd.int .i64)) (w0 := w) w.heap.size rfl (.tmp 28) (.tmp 30) 26 46 (.slice none 0 0) 24 rfl Try.underlying26 info46 rfl (by decide) (by omega) u5 x5_1 (rd_L3 t101 x11_1) [.slice A104_0 (rd_L3 t101 x11_1).length c104_0] (fun k_ => (w.heap.size ≤ k_) ∧ some k_ ≠ (.slice (some ad104) t101.length co5 : Value).ownBlock) (fun k_ => ((fun k_ => (w.heap.size ≤ k_) ∧ some k_ ≠ (.slice (some ad104) t101.length co5 : Value).ownBlock)) k_ ∧ some k_ ≠ (u5 : Value).ownBlock) rfl rfl ?aP (fun _ hk => hk) ?aF ?aO ?aB ?aS ?aL ?_; (case aP => exact (Kd.FK_slice_mk (Kd.V_reads' (Kd.V_mono (ok' := (fun k_ => ((fun k_ => (w.heap.size ≤ k_) ∧ some k_ ≠ (.slice (some ad104) t101.length co5 : Value).ownBlock)) k_ ∧ some k_ ≠ (u5 : Value).ownBlock)) (HL104_0.out) (fun k_ hk => ⟨⟨hk.1.1, hk.2⟩, hk.1.2⟩))).2.1 (Kd.V_F (Kd.V_mono (ok' := (fun k_ => ((fun k_ => (w.heap.size ≤ k_) ∧ some k_ ≠ (.slice (some ad104) t101.length co5 : Value).ownBlock)) k_ ∧ some k_ ≠ (u5 : Value).ownBlock)) (HL104_0.out) (fun k_ hk => ⟨⟨hk.1.1, hk.2⟩, hk.1.2⟩))))); (case aB => exact tc6_); (case aF => exact (fun k_ hk => ⟨(Nat.le_trans (below_size tc0_) hk), Kd.fresh' (Kd.N_lt tc37_) k_ hk⟩)); (case aO => exact tc15_); (case aS => exact tc11_); (case aL => have := LMc10.out; omega); intro v106 w11 ho hb hg hat; rw [← Ny105.out] at ho; replace HO_9 := am_ (Kd.N_afterv (ok := (fun k_ => (w.heap.size ≤ k_))) tc37_ hg hat); replace HL104_0 := am_ (Kd.V_afterv (ok := (fun k_ => (w.heap.size ≤ k_) ∧ some k_ ≠ (.slice (some ad104) t101.length co5 : Value).ownBlock)) tc69_ hg hat); replace HB := am_ (hb); have HO107 := am_ (ho); clear HO_5; clear ho hb hg hat))
     go_roundg k1
     case measure => have := HK1.out; omega
     case rel => exact ⟨(y105), (wrap64 (x11_1 + 1)), tc3_, H', ⟨tc40_⟩, ⟨(by (with_reducible repeat (first | apply Kd.N_alloc | apply Kd.N_drewN | apply Kd.N_drew)); exact HO107.out)⟩, ⟨tc37_⟩, ⟨tc0_⟩⟩
    ·have c9b0 : ((l0.length : Int) == 0) = false := beq_eq_false_iff_ne.mpr c9; have c9b1 : ((l0.length : Int) != 0) = true := bne_iff_ne.mpr c9
     have c9b2 : ¬ (l0 = []) := fun h_ => c9 (by rw [h_]; rfl)
     obtain ⟨ji12, hji12⟩ : ∃ j_ : Int, (wrap64 ((l0.length : Int) - 1)) = j_ := ⟨_, rfl⟩; replace H : (if 0 ≤ (ji12) then (if (ji12) < (l0.length : Int) then ((spec_dpBelow.f k1 (rd_L3 t101 x11_1) (rd_L3 l0 (ji12))).bind fun t109 => (if t109 = true then (if x5_1.length < 5864062014805 then (spec_dpNext.l0 k1 l0 (x5_1 ++ [rd_L3 t101 x11_1]) t101 (t101.length : Int) (wrap64 (x11_1 + 1))) else (none)) else (spec_dpNext.l0 k1 l0 x5_1 t101 (t101.length : Int) (wrap64 (x11_1 + 1))))) else (none)) else (none)) = some r := (by first | (rw [hji12] at H; exact H) | (simp only [hji12] at H ⊢; exact H)); have hji12w : (IntKind.i64.wrap ((l0.length : Int) - 1)) = ji12 := (i64_w _).trans hji12; replace H := ps_ H; obtain ⟨c13b0, H⟩ := H; replace H := ps_ H; obtain ⟨c14b0, H⟩ := H; replace H := bd_ H; obtain ⟨t109, A15, H⟩ := H; (try dsimp only at H)
     by_cases c16 : t109 = true
     ·subst c16; have H1 : (if x5_1.length < 5864062014805 then (spec_dpNext.l0 k1 l0 (x5_1 ++ [rd_L3 t101 x11_1]) t101 (t101.length : Int) (wrap64 (x11_1 + 1))) else (none)) = some r := tc19_; clear H; have H := H1; clear H1; replace H := pp_ H; obtain ⟨c17, H⟩ := H; have LMc17 := am_ c17; clear c17; obtain ⟨y110, hy110⟩ : ∃ y_ : Tb_, y_ = (x5_1 ++ [rd_L3 t101 x11_1]) := ⟨_, rfl⟩; replace H : (spec_dpNext.l0 k1 l0 y110 t101 (t101.length : Int) (wrap64 (x11_1 + 1))) = some r := (by first | (rw [hy110]; with_reducible exact H) | (have H2_ := (Option.bind_some _ _).symm.trans H; rw [hy110]; with_reducible exact H2_) | (have H2_ := (Option.bind_some _ _).symm.trans H; with_reducible exact H2_) | with_reducible exact H | (rw [hy110]; exact H) | exact H); have Ny110 := am_ hy110; clear hy110; have H' := am_ H; clear H; have p104 : 0 ≤ (x11_1 : Int) := od_; have q104 : x11_1 < (t101.length : Int) := od_; obtain ⟨ad104, A104_0, c104_0, e104, hx104_0, hl104_0, hi104_0⟩ := at_L3 (Kd.N_reads' HO_9.out).2.2 x11_1 p104 q104; cases e104; obtain ⟨ce104, hce104, hMe104, hcc104⟩ := Kd.N_get HO_9.out [] x11_1 p104 tc48_; obtain ⟨ua104_0, uc104_0, rfl, ul104_0, ge104_0⟩ := Kd.FK_slice_open hMe104; have hv104_0 := hcc104 0 _ rfl; rw [Nat.add_zero, show ((Kd.slice 3 (Kd.int .i64))).sz = 1 from rfl, Nat.mul_one] at hv104_0; replace hv104_0 := Option.some.inj (hv104_0.symm.trans hx104_0)
      injection hv104_0 with hva_ hvn_ hvc_
      rw [hva_] at ge104_0; rw [hvc_] at ul104_0; have HL104_0 := am_ (show Kd.V (Kd.int .i64) 3 _ w.heap.size _ _ (rd_L3 t101 x11_1) from Kd.V_mk ul104_0 ge104_0); clear hva_ hvn_ hvc_ ge104_0 ul104_0; clear hcc104 hce104; have HR104_0 := am_ hi104_0; have HC104_0 := am_ hl104_0; clear hi104_0 hl104_0; replace p104 := eq_true p104; replace q104 := eq_true q104; have p108 : 0 ≤ ((ji12) : Int) := od_; have q108 : (ji12) < (l0.length : Int) := od_; obtain ⟨ad108, A108_0, c108_0, e108, hx108_0, hl108_0, hi108_0⟩ := at_L3 HR0.out (ji12) p108 q108; cases e108; replace hx108_0 := (HB.out.cell (World.block_lt_of_cell? w _ hx108_0)).trans hx108_0; have HR108_0 := am_ hi108_0; have HC108_0 := am_ hl108_0; clear hi108_0 hl108_0; replace p108 := eq_true p108; replace q108 := eq_true q108
      go_wp2_with (first | (go_at_call 57; (with_reducible refine (spec_dpBelow.calls k1 _ _ (rd_L3 t101 x11_1) _ _ (rd_L3 l0 (ji12)) true _ ?side1 ?side2 ?side3 ?side4 A15.out).mono ?_); (case side1 => repeat (first | exact tc54_ | (with_reducible refine Kd.C_alloc ?_ _) | (with_reducible refine Kd.C_drewN ?_ _) | (with_reducible refine Kd.C_drew ?_))); (case side2 => exact HC104_0.out); (case side3 => repeat (first | exact (Kd.C_below HR108_0.out HB.out) | (with_reducible refine Kd.C_alloc ?_ _) | (with_reducible refine Kd.C_drewN ?_ _) | (with_reducible refine Kd.C_drew ?_))); (case side4 => exact HC108_0.out); rintro e w' ⟨rfl, ⟨nd, rfl⟩⟩) | ((with_reducible refine gate_builtin (b := .append) (xs := #[.tmp 28, .tmp 30]) rfl ?_); (try (refine gate_guard (by rfl) ?_; dsimp only)); at_builtin; refine Kd.N_append (Kd.slice 3 (Kd.int .i64)) (w0 := w) w.heap.size rfl (.tmp 28) (.tmp 30) 26 46 (.slice none 0 0) 24 rfl Try.underlying26 info46 rfl (by decide) (by omega) u5 x5_1 (rd_L3 t101 x11_1) [.slice A104_0 (rd_L3 t101 x11_1).length c104_0] (fun k_ => (w.heap.size ≤ k_) ∧ some k_ ≠ (.slice (some ad104) t101.length co5 : Value).ownBlock) (fun k_ => ((fun k_ => (w.heap.size ≤ k_) ∧ some k_ ≠ (.slice (some ad104) t101.length co5 : Value).ownBlock)) k_ ∧ some k_ ≠ (u5 : Value).ownBlock) rfl rfl ?aP (fun _ hk => hk) ?aF ?aO ?aB ?aS ?aL ?_; (case aP => exact (Kd.FK_slice_mk (Kd.V_reads' (Kd.V_mono (ok' := (fun k_ => ((fun k_ => (w.heap.size ≤ k_) ∧ some k_ ≠ (.slice (some ad104) t101.length co5 : Value).ownBlock)) k_ ∧ some k_ ≠ (u5 : Value).ownBlock)) (HL104_0.out) (fun k_ hk => ⟨⟨hk.1.1, hk.2⟩, hk.1.2⟩))).2.1 (Kd.V_F (Kd.V_mono (ok' := (fun k_ => ((fun k_ => (w.heap.size ≤ k_) ∧ some k_ ≠ (.slice (some ad104) t101.length co5 : Value).ownBlock)) k_ ∧ some k_ ≠ (u5 : Value).ownBlock)) (Kd.V_drewN HL104_0.out _) (fun k_ hk => ⟨⟨hk.1.1, hk.2⟩, hk.1.2⟩))))); (case aB => exact tc6_); (case aF => exact (fun k_ hk => ⟨(Nat.le_trans (below_size tc0_) hk), Kd.fresh' (Kd.N_lt tc37_) k_ hk⟩)); (case aO => exact tc15_); (case aS => exact tc11_); (case aL => have := LMc17.out; omega); intro v111 w18 ho hb hg hat; rw [← Ny110.out] at ho; replace HO_9 := am_ (Kd.N_afterv (ok := (fun k_ => (w.heap.size ≤ k_))) tc37_ hg hat); replace HL104_0 := am_ (Kd.V_afterv (ok := (fun k_ => (w.heap.size ≤ k_) ∧ some k_ ≠ (.slice (some ad104) t101.length co5 : Value).ownBlock)) tc69_ hg hat); replace HB := am_ (hb); have HO112 := am_ (ho); clear HO_5; clear ho hb hg hat))
      go_roundg k1
      case measure => have := HK1.out; omega
      case rel => exact ⟨(y110), (wrap64 (x11_1 + 1)), tc3_, H', ⟨tc40_⟩, ⟨(by (with_reducible repeat (first | apply Kd.N_alloc | apply Kd.N_drewN | apply Kd.N_drew)); exact HO112.out)⟩, ⟨tc37_⟩, ⟨tc0_⟩⟩
     ·replace c16 := Bool.eq_false_iff.mpr c16; subst c16; have H1 : (spec_dpNext.l0 k1 l0 x5_1 t101 (t101.length : Int) (wrap64 (x11_1 + 1))) = some r := tc8_; clear H; have H := H1; clear H1; have H' := am_ H; clear H; have p104 : 0 ≤ (x11_1 : Int) := od_; have q104 : x11_1 < (t101.length : Int) := od_; obtain ⟨ad104, A104_0, c104_0, e104, hx104_0, hl104_0, hi104_0⟩ := at_L3 (Kd.N_reads' HO_9.out).2.2 x11_1 p104 q104; cases e104; obtain ⟨ce104, hce104, hMe104, hcc104⟩ := Kd.N_get HO_9.out [] x11_1 p104 tc48_; obtain ⟨ua104_0, uc104_0, rfl, ul104_0, ge104_0⟩ := Kd.FK_slice_open hMe104; have hv104_0 := hcc104 0 _ rfl; rw [Nat.add_zero, show ((Kd.slice 3 (Kd.int .i64))).sz = 1 from rfl, Nat.mul_one] at hv104_0; replace hv104_0 := Option.some.inj (hv104_0.symm.trans hx104_0)
      injection hv104_0 with hva_ hvn_ hvc_
      rw [hva_] at ge104_0; rw [hvc_] at ul104_0; have HL104_0 := am_ (show Kd.V (Kd.int .i64) 3 _ w.heap.size _ _ (rd_L3 t101 x11_1) from Kd.V_mk ul104_0 ge104_0); clear hva_ hvn_ hvc_ ge104_0 ul104_0; clear hcc104 hce104; have HR104_0 := am_ hi104_0; have HC104_0 := am_ hl104_0; clear hi104_0 hl104_0; replace p104 := eq_true p104; replace q104 := eq_true q104; have p108 : 0 ≤ ((ji12) : Int) := od_; have q108 : (ji12) < (l0.length : Int) := od_; obtain ⟨ad108, A108_0, c108_0, e108, hx108_0, hl108_0, hi108_0⟩ := at_L3 HR0.out (ji12) p108 q108; cases e108; replace hx108_0 := (HB.out.cell (World.block_lt_of_cell? w _ hx108_0)).trans hx108_0; have HR108_0 := am_ hi108_0; have HC108_0 := am_ hl108_0; clear hi108_0 hl108_0; replace p108 := eq_true p108; replace q108 := eq_true q108
      go_wp2_with (first | (go_at_call 57; (with_reducible refine (spec_dpBelow.calls k1 _ _ (rd_L3 t101 x11_1) _ _ (rd_L3 l0 (ji12)) false _ ?side1 ?side2 ?side3 ?side4 A15.out).mono ?_); (case side1 => repeat (first | exact tc54_ | (with_reducible refine Kd.C_alloc ?_ _) | (with_reducible refine Kd.C_drewN ?_ _) | (with_reducible refine Kd.C_drew ?_))); (case side2 => exact HC104_0.out); (case side3 => repeat (first | exact (Kd.C_below HR108_0.out HB.out) | (with_reducible refine Kd.C_alloc ?_ _) | (with_reducible refine Kd.C_drewN ?_ _) | (with_reducible refine Kd.C_drew ?_))); (case side4 => exact HC108_0.out); rintro e w' ⟨rfl, ⟨nd, rfl⟩⟩))
      go_roundg k1
      case measure => have := HK1.out; omega
      case rel => exact ⟨(x5_1), (wrap64 (x11_1 + 1)), tc3_, H', ⟨tc40_⟩, ⟨tc15_⟩, ⟨tc37_⟩, ⟨tc0_⟩⟩
   ·obtain rfl := Option.some.inj H; go_wp2
    go_ret
    exact ⟨_, tc4_, tc76_, tc0_⟩

/-! ### spec_dpAll: function 26 -/
mutual
def spec_dpAll.l0 : Nat → Tb_ → Int → List Tb_ → Tb_ → Int → Int → Option ((List Tb_))
 | 0, _, _, _, _, _, _ => none
 | k + 1, x0, x1, x5, x12, x13, x14 => if x14 < x13 then (if 0 ≤ x14 then (if x14 < (x12.length : Int) then ((some (([] : Tb_) : Tb_)).bind fun y108 => (if y108.length + x0.length < 5864062014805 then ((some (y108 ++ x0 : Tb_)).bind fun y111 => (if y111.length < 5864062014805 then ((spec_dpAll.f k (y111 ++ [rd_L3 x12 x14]) x1).bind fun t117 => (if x5.length + t117.length < 5864062014805 then (spec_dpAll.l0 k x0 x1 (x5 ++ t117) x12 x13 (wrap64 (x14 + 1))) else (none))) else (none))) else (none))) else (none)) else (none)) else (some x5)
def spec_dpAll.f : Nat → Tb_ → Int → Option ((List Tb_))
 | 0, _, _ => none
 | k + 1, l0, a1 => (spec_dpNext.f k l0 a1).bind fun t104 => (spec_dpAll.l0 k l0 a1 (([l0] : List Tb_)) t104 (t104.length : Int) 0)
end
theorem spec_dpAll.mono_l : ∀ k, (∀ y0 y1, LeO (spec_dpAll.f k y0 y1) (spec_dpAll.f (k + 1) y0 y1)) ∧ (∀ y0 y1 y2 y3 y4 y5, LeO (spec_dpAll.l0 k y0 y1 y2 y3 y4 y5) (spec_dpAll.l0 (k + 1) y0 y1 y2 y3 y4 y5))
 | 0 => ⟨fun _ _ r h => by simp [spec_dpAll.f] at h, fun _ _ _ _ _ _ r h => by simp [spec_dpAll.l0] at h⟩
 | k + 1 => by
  obtain ⟨ih0, ih1⟩ := spec_dpAll.mono_l k; refine ⟨?_, ?_⟩
  ·intro y0 y1; unfold spec_dpAll.f
   repeat' first
   | (with_reducible exact ih0 _ _)
   | (with_reducible exact ih1 _ _ _ _ _ _)
   | (with_reducible exact spec_dpNext.mono _ _ _)
   | (with_reducible exact LeO.refl _)
   | (with_reducible exact LeO.none _)
   | (with_reducible refine LeO.ite ?_ ?_)
   | (with_reducible refine LeO.bind ?_ (fun _ => ?_))
   | exact ih0 _ _
   | exact ih1 _ _ _ _ _ _
   | exact spec_dpNext.mono _ _ _
   | exact LeO.none _
   | refine LeO.ite ?_ ?_
   | refine LeO.bind ?_ (fun _ => ?_)
  ·intro y0 y1 y2 y3 y4 y5; unfold spec_dpAll.l0
   repeat' first
   | (with_reducible exact ih0 _ _)
   | (with_reducible exact ih1 _ _ _ _ _ _)
   | (with_reducible exact spec_dpNext.mono _ _ _)
   | (with_reducible exact LeO.refl _)
   | (with_reducible exact LeO.none _)
   | (with_reducible refine LeO.ite ?_ ?_)
   | (with_reducible refine LeO.bind ?_ (fun _ => ?_))
   | exact ih0 _ _
   | exact ih1 _ _ _ _ _ _
   | exact spec_dpNext.mono _ _ _
   | exact LeO.none _
   | refine LeO.ite ?_ ?_
   | refine LeO.bind ?_ (fun _ => ?_)
theorem spec_dpAll.mono : ∀ a0 a1  k, LeO (spec_dpAll.f k a0 a1) (spec_dpAll.f (k + 1) a0 a1) := by
 intro a0 a1 k; obtain ⟨ih0, ih1⟩ := spec_dpAll.mono_l k; exact ih0 a0 a1
theorem spec_dpAll.calls (k : Nat) : ∀ (P0_ : Nat → Prop) (A0 : Option Addr) (c0 : Nat) (l0 : Tb_) (a1 : Int) (r : List Tb_) (w : World) (hs0 : Kd.V (Kd.slice 3 (Kd.int .i64)) 46 w w.heap.size (fun k_ => P0_ k_) (.slice A0 l0.length c0) l0) (h : spec_dpAll.f k l0 a1 = some r),
  Calls Try.prog 26 #[.slice A0 l0.length c0, .int .i64 a1] w fun e w' => ∃ v0_ : Value, e = .returned (v0_) ∧ Kd.N (Kd.slice 46 (Kd.slice 3 (Kd.int .i64))) 26 w' w.heap.size (fun k_ => (P0_ k_ ∨ w.heap.size ≤ k_)) v0_ r ∧ Below w.heap.size w w' := by
 induction k using Nat.strongRecOn with
 | _ k ih =>
 intro P0_ A0 c0 l0 a1 r w hs0 h
 cases k with
 | zero => exact absurd h (by simp [spec_dpAll.f])
 | succ k =>
 simp only [spec_dpAll.f] at h; have HO0 := am_ (show Kd.V (Kd.slice 3 (Kd.int .i64)) 46 w w.heap.size (fun k_ => (P0_ k_ ∨ w.heap.size ≤ k_)) (.slice A0 l0.length c0) l0 from Kd.V_mono hs0 (fun k_ hk => .inl hk)); have HB := am_ (Below.refl w.heap.size w); (try unfold spec_dpAll.f at h); have H := h; clear h; obtain ⟨y101, hy101⟩ : ∃ y_ : List Tb_, y_ = (([l0] : List Tb_)) := ⟨_, rfl⟩; replace H : ((spec_dpNext.f k l0 a1).bind fun t104 => (spec_dpAll.l0 k l0 a1 y101 t104 (t104.length : Int) 0)) = some r := tc27_; have Ny101 := am_ hy101; clear hy101; replace H := bd_ H; obtain ⟨t104, A3, H⟩ := H; (try dsimp only at H); have H' := am_ H; clear H; go_enter Try.func26, Try.ntmps26
 go_wp2_with (first | ((with_reducible refine gate_dst (N := 9) rfl ?_); refine Kd.N_lit (Kd.slice 46 (Kd.slice 3 (Kd.int .i64))) _ 26 ?hg (N' := 9) ?hd (xs := ([l0] : List Tb_)) (inner := [.slice A0 l0.length c0]) (ok := (fun k_ => (P0_ k_ ∨ w.heap.size ≤ k_))) (okp := (fun k_ => (P0_ k_ ∨ w.heap.size ≤ k_))) ?hr ?hp (fun _ hk => hk) ((show ∀ k_, w.heap.size ≤ k_ → (fun k_ => (P0_ k_ ∨ w.heap.size ≤ k_)) k_ from fun k_ hk => (.inr (Nat.le_trans (below_size tc0_) hk))) _ (Nat.le_refl _)) (Below.refl _ _) (Nat.le_refl _) (by simp) ?_; (case hd => rfl); (case hg => rfl); (case hr => exact tc36_); (case hp => exact (Reps.one (show Kd.FK (Kd.slice 46 (Kd.slice 3 (Kd.int .i64))) _ _ l0 [.slice A0 l0.length c0] from (Kd.FK_slice_mk (Kd.V_reads' (Kd.V_mono (ok' := (fun k_ => (P0_ k_ ∨ w.heap.size ≤ k_))) (HO0.out) (fun k_ hk => hk))).2.1 (Kd.V_F (Kd.V_mono (ok' := (fun k_ => (P0_ k_ ∨ w.heap.size ≤ k_))) (HO0.out) (fun k_ hk => hk))))) (Reps.none _ _))); intro v102 w4 ho5 hb hg_ hnew_; clear hg_ hnew_; (first | rw [← Ny101.out] at ho5 | (simp only [Int.reduceToNat] at ho5; rw [← Ny101.out] at ho5)); replace HO0 := am_ (Kd.V_elder' tc52_ (Kd.N_base ho5) hb); have HO103 := am_ (Kd.N_lower ho5 (below_size tc0_)); replace HB := am_ (below_step tc0_ hb); clear hb ho5) | (refine gc_ (some 12) Try.func44 #[.slice A0 l0.length c0, .int .i64 a1] ?_; (with_reducible refine (spec_dpNext.calls k _ _ l0 a1 t104 _ ?side1 ?side2 A3.out).mono ?_); (case side1 => repeat (first | exact (Kd.V_reads' HO0.out).2.2 | (with_reducible refine Kd.C_alloc ?_ _) | (with_reducible refine Kd.C_drewN ?_ _) | (with_reducible refine Kd.C_drew ?_))); (case side2 => exact (Kd.V_reads' HO0.out).2.1); rintro e w6 ⟨v105, rfl, ho0, hb⟩; refine ⟨_, rfl, ?_⟩; replace HO0 := am_ (Kd.V_elder' tc52_ (Kd.N_base ho0) hb); have HO106 := am_ (Kd.N_lower (Kd.N_mono (ok' := fun k_ => (P0_ k_ ∨ w.heap.size ≤ k_) ∧ some k_ ≠ (v102 : Value).ownBlock) ho0 (fun k_ hk_ => ⟨(.inr (Nat.le_trans (below_size tc0_) hk_)), (Kd.fresh' (Kd.N_lt tc65_) k_ hk_)⟩)) (below_size tc0_)); replace HO103 := am_ (Kd.N_elder' tc65_ (Kd.N_base ho0) hb); replace HB := am_ (below_step tc0_ hb); (try clear hb ho0); obtain ⟨Ao7, co7, eo7⟩ := Kd.N_slice HO106.out; subst eo7))
 go_loopg [5, 14] k (fun kq v5 v14 w' => ∃ (x5_1 : List Tb_) (x14_1 : Int), v14 = .int .i64 x14_1 ∧ Aside0 (spec_dpAll.l0 kq l0 a1 x5_1 t104 (t104.length : Int) x14_1 = some r) ∧ Aside0 (kq ≤ k) ∧ Aside0 (Kd.V (Kd.slice 3 (Kd.int .i64)) 46 w' w.heap.size (fun k_ => (P0_ k_ ∨ w.heap.size ≤ k_) ∧ some k_ ≠ (v5 : Value).ownBlock ∧ some k_ ≠ ((.slice Ao7 t104.length co7) : Value).ownBlock) (.slice A0 l0.length c0) l0) ∧ Aside0 (Kd.N (Kd.slice 46 (Kd.slice 3 (Kd.int .i64))) 26 w' w.heap.size (fun k_ => (P0_ k_ ∨ w.heap.size ≤ k_) ∧ some k_ ≠ ((.slice Ao7 t104.length co7) : Value).ownBlock) v5 x5_1) ∧ Aside0 (Kd.N (Kd.slice 3 (Kd.int .i64)) 46 w' w.heap.size (fun k_ => (P0_ k_ ∨ w.heap.size ≤ k_) ∧ some k_ ≠ (v5 : Value).ownBlock) (.slice Ao7 t104.length co7) t104) ∧ Aside0 (Below w.heap.size w w'))
 case atStart => exact ⟨(y101), (0), tc3_, H', ⟨Nat.le_refl _⟩, ⟨(by (with_reducible repeat (first | apply Kd.V_alloc | apply Kd.V_drewN | apply Kd.V_drew)); exact Kd.V_mono HO0.out (fun _ hk => ⟨hk.1.1, ⟨hk.1.2, hk.2⟩⟩))⟩, ⟨tc65_⟩, ⟨(by (with_reducible repeat (first | apply Kd.N_alloc | apply Kd.N_drewN | apply Kd.N_drew)); exact HO106.out)⟩, ⟨tc0_⟩⟩
 case round =>
  clear H'; (try clear c2); (try clear p2); (try clear c4); obtain ⟨x5_1, x14_1, rfl, HA, HK1, HO_0, HO_5, HO_12, HB⟩ := hrel
  cases gk with
  | zero => exact absurd HA.out (by simp [spec_dpAll.l0])
  | succ k1 =>
   have H := HA.out; clear HA; simp only [spec_dpAll.l0] at H
   replace H := sp_ H; obtain ⟨c8b0, H⟩ | ⟨c8b0, H⟩ := H
   ·replace H := ps_ H; obtain ⟨c9b0, H⟩ := H; replace H := ps_ H; obtain ⟨c10b0, H⟩ := H; obtain ⟨y108, hy108⟩ : ∃ y_ : Tb_, y_ = (([] : Tb_)) := ⟨_, rfl⟩; replace H : (if y108.length + l0.length < 5864062014805 then ((some (y108 ++ l0 : Tb_)).bind fun y111 => (if y111.length < 5864062014805 then ((spec_dpAll.f k1 (y111 ++ [rd_L3 t104 x14_1]) a1).bind fun t117 => (if x5_1.length + t117.length < 5864062014805 then (spec_dpAll.l0 k1 l0 a1 (x5_1 ++ t117) t104 (t104.length : Int) (wrap64 (x14_1 + 1))) else (none))) else (none))) else (none)) = some r := tc26_; have Ny108 := am_ hy108; clear hy108; replace H := pp_ H; obtain ⟨c11, H⟩ := H; have LMc11 := am_ c11; clear c11; obtain ⟨y111, hy111⟩ : ∃ y_ : Tb_, y_ = (y108 ++ l0) := ⟨_, rfl⟩; replace H : (if y111.length < 5864062014805 then ((spec_dpAll.f k1 (y111 ++ [rd_L3 t104 x14_1]) a1).bind fun t117 => (if x5_1.length + t117.length < 5864062014805 then (spec_dpAll.l0 k1 l0 a1 (x5_1 ++ t117) t104 (t104.length : Int) (wrap64 (x14_1 + 1))) else (none))) else (none)) = some r := tc44_; have Ny111 := am_ hy111; clear hy111; replace H := pp_ H; obtain ⟨c12, H⟩ := H; have LMc12 := am_ c12; clear c12; obtain ⟨y114, hy114⟩ : ∃ y_ : Tb_, y_ = (y111 ++ [rd_L3 t104 x14_1]) := ⟨_, rfl⟩; replace H : ((spec_dpAll.f k1 y114 a1).bind fun t117 => (if x5_1.length + t117.length < 5864062014805 then (spec_dpAll.l0 k1 l0 a1 (x5_1 ++ t117) t104 (t104.length : Int) (wrap64 (x14_1 + 1))) else (none))) = some r := (by first | (rw [hy114]; with_reducible exact H) | (have H2_ := (Option.bind_some _ _).symm.trans H; rw [hy114]; with_reducible exact H2_) | (have H2_ := (Option.bind_some _ _).symm.trans H; with_reducible exact H2_) | with_reducible exact H | (rw [hy114]; exact H) | exact H); have Ny114 := am_ hy114; clear hy114; replace H := bd_ H; obtain ⟨t117, A13, H⟩ := H; (try dsimp only at H); replace H := pp_ H; obtain ⟨c14, H⟩ := H; have LMc14 := am_ c14; clear c14; obtain ⟨y120, hy120⟩ : ∃ y_ : List Tb_, y_ = (x5_1 ++ t117) := ⟨_, rfl⟩; replace H : (spec_dpAll.l0 k1 l0 a1 y120 t104 (t104.length : Int) (wrap64 (x14_1 + 1))) = some r := tc45_; have Ny120 := am_ hy120; clear hy120; have H' := am_ H; clear H; have p107 : 0 ≤ (x14_1 : Int) := od_; have q107 : x14_1 < (t104.length : Int) := od_; obtain ⟨ad107, A107_0, c107_0, e107, hx107_0, hl107_0, hi107_0⟩ := at_L3 (Kd.N_reads' HO_12.out).2.2 x14_1 p107 q107; cases e107; obtain ⟨ce107, hce107, hMe107, hcc107⟩ := Kd.N_get HO_12.out [] x14_1 p107 (by first | exact q107 | exact od_ | (have e_ := (Kd.N_reads' HO_12.out).1; omega)); obtain ⟨ua107_0, uc107_0, rfl, ul107_0, ge107_0⟩ := Kd.FK_slice_open hMe107; have hv107_0 := hcc107 0 _ rfl; rw [Nat.add_zero, show ((Kd.slice 3 (Kd.int .i64))).sz = 1 from rfl, Nat.mul_one] at hv107_0; replace hv107_0 := Option.some.inj (hv107_0.symm.trans hx107_0)
    injection hv107_0 with hva_ hvn_ hvc_
    rw [hva_] at ge107_0; rw [hvc_] at ul107_0; have HL107_0 := am_ (show Kd.V (Kd.int .i64) 3 _ w.heap.size _ _ (rd_L3 t104 x14_1) from Kd.V_mk ul107_0 ge107_0); clear hva_ hvn_ hvc_ ge107_0 ul107_0; clear hcc107 hce107; have HR107_0 := am_ hi107_0; have HC107_0 := am_ hl107_0; clear hi107_0 hl107_0; replace p107 := eq_true p107; replace q107 := eq_true q107
    go_wp2_with (first | ((with_reducible refine gate_dst (N := 19) rfl ?_); refine Kd.N_lit (Kd.slice 3 (Kd.int .i64)) _ 46 ?hg (N' := 19) ?hd (xs := ([] : Tb_)) (inner := []) (ok := (fun k_ => (P0_ k_ ∨ w.heap.size ≤ k_) ∧ some k_ ≠ (u5 : Value).ownBlock ∧ some k_ ≠ (.slice (some ad107) t104.length co7 : Value).ownBlock)) (okp := (fun k_ => (P0_ k_ ∨ w.heap.size ≤ k_) ∧ some k_ ≠ (u5 : Value).ownBlock ∧ some k_ ≠ (.slice (some ad107) t104.length co7 : Value).ownBlock)) ?hr ?hp (fun _ hk => hk) ((show ∀ k_, wr.heap.size ≤ k_ → (fun k_ => (P0_ k_ ∨ w.heap.size ≤ k_) ∧ some k_ ≠ (u5 : Value).ownBlock ∧ some k_ ≠ (.slice (some ad107) t104.length co7 : Value).ownBlock) k_ from fun k_ hk => ⟨(.inr (Nat.le_trans (below_size tc0_) hk)), Kd.fresh' (Kd.N_lt tc15_) k_ hk, Kd.fresh' (Kd.N_lt tc18_) k_ hk⟩) _ (Nat.le_refl _)) (Below.refl _ _) (Nat.le_refl _) (by simp) ?_; (case hd => rfl); (case hg => rfl); (case hr => exact tc36_); (case hp => exact (Reps.none _ _)); intro v109 w15 ho16 hb hg_ hnew_; clear hg_ hnew_; (first | rw [← Ny108.out] at ho16 | (simp only [Int.reduceToNat] at ho16; rw [← Ny108.out] at ho16)); replace HO_0 := am_ (Kd.V_elder' tc28_ (Kd.N_base ho16) hb); replace HO_5 := am_ (Kd.N_elder' tc15_ (Kd.N_base ho16) hb); replace HO_12 := am_ (Kd.N_elder' tc18_ (Kd.N_base ho16) hb); replace HL107_0 := am_ (Kd.V_elder' tc62_ (Kd.N_base ho16) hb); have HO110 := am_ (Kd.N_lower ho16 (below_size tc0_)); replace HR107_0 := am_ (Kd.C_below tc55_ hb); replace HB := am_ (below_step tc0_ hb); clear hb ho16) | ((with_reducible refine gate_builtin (b := .append) (xs := #[.tmp 19, .tmp 20]) rfl ?_); at_builtin; refine Kd.N_append_rows (Kd.slice 3 (Kd.int .i64)) (w0 := w) w.heap.size rfl (.tmp 19) (.tmp 20) 26 46 (.slice none 0 0) 24 rfl Try.underlying26 info46 rfl (by decide) (by omega) v109 y108 l0 _ _ _ (fun k_ => (P0_ k_ ∨ w.heap.size ≤ k_) ∧ some k_ ≠ (u5 : Value).ownBlock ∧ some k_ ≠ (.slice (some ad107) t104.length co7 : Value).ownBlock) (fun k_ => ((fun k_ => (P0_ k_ ∨ w.heap.size ≤ k_) ∧ some k_ ≠ (u5 : Value).ownBlock ∧ some k_ ≠ (.slice (some ad107) t104.length co7 : Value).ownBlock)) k_ ∧ some k_ ≠ (v109 : Value).ownBlock) rfl rfl ?aO ?aR (fun _ hk => hk) ?aF ?aB ?aS ?aL ?_; (case aR => exact (by skip; exact Kd.V_F (Kd.V_mono (ok' := (fun k_ => ((fun k_ => (P0_ k_ ∨ w.heap.size ≤ k_) ∧ some k_ ≠ (u5 : Value).ownBlock ∧ some k_ ≠ (.slice (some ad107) t104.length co7 : Value).ownBlock)) k_ ∧ some k_ ≠ (v109 : Value).ownBlock)) (HO_0.out) (fun k_ hk => ⟨⟨hk.1.1, ⟨hk.1.2.1, hk.1.2.2⟩⟩, hk.2⟩)))); (case aB => exact tc6_); (case aF => exact (fun k_ hk => ⟨(.inr (Nat.le_trans (below_size tc0_) hk)), Kd.fresh' (Kd.N_lt tc15_) k_ hk, Kd.fresh' (Kd.N_lt tc18_) k_ hk⟩)); (case aO => exact (by (with_reducible repeat (first | apply Kd.N_alloc | apply Kd.N_drewN | apply Kd.N_drew)); exact HO110.out)); (case aS => exact tc11_); (case aL => have := LMc11.out; omega); intro v112 w17 ho hb hg hat; rw [← Ny111.out] at ho; have n0_ := am_ (Kd.V_afterv (ok := (fun k_ => (P0_ k_ ∨ w.heap.size ≤ k_) ∧ some k_ ≠ (u5 : Value).ownBlock ∧ some k_ ≠ (.slice (some ad107) t104.length co7 : Value).ownBlock)) tc28_ hg hat); have n1_ := am_ (Kd.N_afterv (ok := (fun k_ => (P0_ k_ ∨ w.heap.size ≤ k_) ∧ some k_ ≠ (.slice (some ad107) t104.length co7 : Value).ownBlock)) tc15_ hg hat); have n2_ := am_ (Kd.N_afterv (ok := (fun k_ => (P0_ k_ ∨ w.heap.size ≤ k_) ∧ some k_ ≠ (u5 : Value).ownBlock)) tc18_ hg hat); have n3_ := am_ (Kd.V_afterv (ok := (fun k_ => (P0_ k_ ∨ w.heap.size ≤ k_) ∧ some k_ ≠ (u5 : Value).ownBlock ∧ some k_ ≠ (.slice (some ad107) t104.length co7 : Value).ownBlock)) (by (with_reducible repeat (first | apply Kd.V_alloc | apply Kd.V_drewN | apply Kd.V_drew)); exact Kd.V_mono HL107_0.out (fun _ hk => ⟨⟨hk.1.1.1, ⟨hk.1.1.2, hk.1.2⟩⟩, hk.2⟩)) hg hat); have n4_ := am_ (hb); have n5_ := am_ (ho); clear HO_0 HO_5; clear HO_12 HL107_0; clear HB HO110; have HO_0 := n0_; have HO_5 := n1_; have HO_12 := n2_; have HL107_0 := n3_; have HB := n4_; have HO113 := n5_; clear n0_ n1_ n2_ n3_ n4_ n5_; clear ho hb hg hat) | ((with_reducible refine gate_builtin (b := .append) (xs := #[.tmp 21, .tmp 23]) rfl ?_); at_builtin; refine Kd.N_append (Kd.slice 3 (Kd.int .i64)) (w0 := w) w.heap.size rfl (.tmp 21) (.tmp 23) 26 46 (.slice none 0 0) 24 rfl Try.underlying26 info46 rfl (by decide) (by omega) v112 y111 (rd_L3 t104 x14_1) [.slice A107_0 (rd_L3 t104 x14_1).length c107_0] (fun k_ => (P0_ k_ ∨ w.heap.size ≤ k_) ∧ some k_ ≠ (u5 : Value).ownBlock ∧ some k_ ≠ (.slice (some ad107) t104.length co7 : Value).ownBlock) (fun k_ => ((fun k_ => (P0_ k_ ∨ w.heap.size ≤ k_) ∧ some k_ ≠ (u5 : Value).ownBlock ∧ some k_ ≠ (.slice (some ad107) t104.length co7 : Value).ownBlock)) k_ ∧ some k_ ≠ (v112 : Value).ownBlock) rfl rfl ?aP (fun _ hk => hk) ?aF ?aO ?aB ?aS ?aL ?_; (case aP => exact (Kd.FK_slice_mk (Kd.V_reads' (Kd.V_mono (ok' := (fun k_ => ((fun k_ => (P0_ k_ ∨ w.heap.size ≤ k_) ∧ some k_ ≠ (u5 : Value).ownBlock ∧ some k_ ≠ (.slice (some ad107) t104.length co7 : Value).ownBlock)) k_ ∧ some k_ ≠ (v112 : Value).ownBlock)) (HL107_0.out) (fun k_ hk => ⟨⟨hk.1.1, ⟨hk.1.2.1, hk.1.2.2⟩⟩, hk.2⟩))).2.1 (Kd.V_F (Kd.V_mono (ok' := (fun k_ => ((fun k_ => (P0_ k_ ∨ w.heap.size ≤ k_) ∧ some k_ ≠ (u5 : Value).ownBlock ∧ some k_ ≠ (.slice (some ad107) t104.length co7 : Value).ownBlock)) k_ ∧ some k_ ≠ (v112 : Value).ownBlock)) (HL107_0.out) (fun k_ hk => ⟨⟨hk.1.1, ⟨hk.1.2.1, hk.1.2.2⟩⟩, hk.2⟩))))); (case aB => exact tc6_); (case aF => exact (fun k_ hk => ⟨(.inr (Nat.le_trans (below_size tc0_) hk)), Kd.fresh' (Kd.N_lt tc15_) k_ hk, Kd.fresh' (Kd.N_lt tc18_) k_ hk⟩)); (case aO => exact (by (with_reducible repeat (first | apply Kd.N_alloc | apply Kd.N_drewN | apply Kd.N_drew)); exact HO113.out)); (case aS => exact tc11_); (case aL => have := LMc12.out; omega); intro v115 w18 ho hb hg hat; rw [← Ny114.out] at ho; replace HO_0 := am_ (Kd.V_afterv (ok := (fun k_ => (P0_ k_ ∨ w.heap.size ≤ k_) ∧ some k_ ≠ (u5 : Value).ownBlock ∧ some k_ ≠ (.slice (some ad107) t104.length co7 : Value).ownBlock)) tc28_ hg hat); replace HO_5 := am_ (Kd.N_afterv (ok := (fun k_ => (P0_ k_ ∨ w.heap.size ≤ k_) ∧ some k_ ≠ (.slice (some ad107) t104.length co7 : Value).ownBlock)) tc15_ hg hat); replace HO_12 := am_ (Kd.N_afterv (ok := (fun k_ => (P0_ k_ ∨ w.heap.size ≤ k_) ∧ some k_ ≠ (u5 : Value).ownBlock)) tc18_ hg hat); replace HL107_0 := am_ (Kd.V_afterv (ok := (fun k_ => (P0_ k_ ∨ w.heap.size ≤ k_) ∧ some k_ ≠ (u5 : Value).ownBlock ∧ some k_ ≠ (.slice (some ad107) t104.length co7 : Value).ownBlock)) tc62_ hg hat); replace HB := am_ (hb); have HO116 := am_ (ho); clear HO113; clear ho hb hg hat; obtain ⟨Ao19, co19, eo19⟩ := Kd.N_slice HO116.out; subst eo19) | (refine gc_ (some 26) Try.func26 #[.slice Ao19 y114.length co19, .int .i64 a1] ?_; (with_reducible refine (ih k1 tc40_ (fun k_ => ((P0_ k_ ∨ w.heap.size ≤ k_) ∧ (some k_ ≠ (u5 : Value).ownBlock ∧ some k_ ≠ (.slice (some ad107) t104.length co7 : Value).ownBlock))) _ _ y114 a1 t117 _ ?side1 A13.out).mono ?_); (case side1 => exact Kd.N_V (HO116.out)); rintro e w20 ⟨v118, rfl, ho0, hb⟩; refine ⟨_, rfl, ?_⟩; replace HO_0 := am_ (Kd.V_elder' tc28_ (Kd.N_base ho0) hb); replace HL107_0 := am_ (Kd.V_elder' tc62_ (Kd.N_base ho0) hb); replace HO116 := am_ (Kd.N_elder' tc50_ (Kd.N_base ho0) hb); have HO119 := am_ (Kd.N_lower (Kd.N_mono (ok' := fun k_ => (P0_ k_ ∨ w.heap.size ≤ k_) ∧ some k_ ≠ (u5 : Value).ownBlock ∧ some k_ ≠ (.slice (some ad107) t104.length co7 : Value).ownBlock) ho0 (fun k_ hk_ => ⟨Or.elim hk_ (fun hs_ => hs_.1) (fun hn_ => (.inr (Nat.le_trans (below_size tc0_) hn_))), Or.elim hk_ (fun hs_ => hs_.2.1) (fun hn_ => (Kd.fresh' (Kd.N_lt tc15_) k_ hn_)), Or.elim hk_ (fun hs_ => hs_.2.2) (fun hn_ => (Kd.fresh' (Kd.N_lt tc18_) k_ hn_))⟩)) (below_size tc0_)); replace HO_5 := am_ (Kd.N_elder' tc15_ (Kd.N_base ho0) hb); replace HO_12 := am_ (Kd.N_elder' tc18_ (Kd.N_base ho0) hb); replace HB := am_ (below_step tc0_ hb); (try clear hb ho0); obtain ⟨Ao22, co22, eo22⟩ := Kd.N_slice HO119.out; subst eo22) | ((with_reducible refine gate_builtin (b := .append) (xs := #[.tmp 18, .tmp 26]) rfl ?_); at_builtin; refine Kd.N_append_rows (Kd.slice 46 (Kd.slice 3 (Kd.int .i64))) (w0 := w) w.heap.size rfl (.tmp 18) (.tmp 26) 31 26 (.slice none 0 0) 24 rfl Try.underlying31 info26 rfl (by decide) (by omega) u5 x5_1 t117 _ _ _ (fun k_ => (P0_ k_ ∨ w.heap.size ≤ k_) ∧ some k_ ≠ (.slice (some ad107) t104.length co7 : Value).ownBlock) (fun k_ => ((fun k_ => (P0_ k_ ∨ w.heap.size ≤ k_) ∧ some k_ ≠ (.slice (some ad107) t104.length co7 : Value).ownBlock)) k_ ∧ some k_ ≠ (u5 : Value).ownBlock) rfl rfl ?aO ?aR (fun _ hk => hk) ?aF ?aB ?aS ?aL ?_; (case aR => exact (by skip; exact Kd.N_F (Kd.N_mono (ok' := (fun k_ => ((fun k_ => (P0_ k_ ∨ w.heap.size ≤ k_) ∧ some k_ ≠ (.slice (some ad107) t104.length co7 : Value).ownBlock)) k_ ∧ some k_ ≠ (u5 : Value).ownBlock)) (HO119.out) (fun k_ hk => ⟨⟨hk.1, hk.2.2⟩, hk.2.1⟩)))); (case aB => exact tc6_); (case aF => exact (fun k_ hk => ⟨(.inr (Nat.le_trans (below_size tc0_) hk)), Kd.fresh' (Kd.N_lt tc18_) k_ hk⟩)); (case aO => exact (by (with_reducible repeat (first | apply Kd.N_alloc | apply Kd.N_drewN | apply Kd.N_drew)); exact Kd.N_mono HO_5.out (fun _ hk => ⟨hk.1.1.1, hk.1.1.2⟩))); (case aS => exact tc11_); (case aL => have := LMc14.out; omega); intro v121 w21 ho hb hg hat; rw [← Ny120.out] at ho; have n0_ := am_ (Kd.V_afterv (ok := (fun k_ => (P0_ k_ ∨ w.heap.size ≤ k_) ∧ some k_ ≠ (.slice (some ad107) t104.length co7 : Value).ownBlock ∧ some k_ ≠ (.slice Ao19 y114.length co19 : Value).ownBlock ∧ some k_ ≠ (.slice Ao22 t117.length co22 : Value).ownBlock)) (by (with_reducible repeat (first | apply Kd.V_alloc | apply Kd.V_drewN | apply Kd.V_drew)); exact Kd.V_mono HO_0.out (fun _ hk => ⟨⟨hk.1.1.1, ⟨hk.1.1.2.2, ⟨hk.1.2, hk.2⟩⟩⟩, hk.1.1.2.1⟩)) hg hat); have n1_ := am_ (Kd.N_afterv (ok := (fun k_ => (P0_ k_ ∨ w.heap.size ≤ k_) ∧ some k_ ≠ (.slice Ao19 y114.length co19 : Value).ownBlock ∧ some k_ ≠ (.slice Ao22 t117.length co22 : Value).ownBlock)) (by (with_reducible repeat (first | apply Kd.N_alloc | apply Kd.N_drewN | apply Kd.N_drew)); exact Kd.N_mono HO_12.out (fun _ hk => ⟨⟨hk.1.1.1, ⟨hk.1.2, hk.2⟩⟩, hk.1.1.2⟩)) hg hat); have n2_ := am_ (Kd.V_afterv (ok := (fun k_ => (P0_ k_ ∨ w.heap.size ≤ k_) ∧ some k_ ≠ (.slice (some ad107) t104.length co7 : Value).ownBlock ∧ some k_ ≠ (.slice Ao19 y114.length co19 : Value).ownBlock ∧ some k_ ≠ (.slice Ao22 t117.length co22 : Value).ownBlock)) (by (with_reducible repeat (first | apply Kd.V_alloc | apply Kd.V_drewN | apply Kd.V_drew)); exact Kd.V_mono HL107_0.out (fun _ hk => ⟨⟨hk.1.1.1, ⟨hk.1.1.2.2, ⟨hk.1.2, hk.2⟩⟩⟩, hk.1.1.2.1⟩)) hg hat); have n3_ := am_ (Kd.N_afterv (ok := (fun k_ => (P0_ k_ ∨ w.heap.size ≤ k_) ∧ some k_ ≠ (.slice (some ad107) t104.length co7 : Value).ownBlock ∧ some k_ ≠ (.slice Ao22 t117.length co22 : Value).ownBlock)) (by (with_reducible repeat (first | apply Kd.N_alloc | apply Kd.N_drewN | apply Kd.N_drew)); exact Kd.N_mono HO116.out (fun _ hk => ⟨⟨hk.1.1, ⟨hk.1.2.2, hk.2⟩⟩, hk.1.2.1⟩)) hg hat); have n4_ := am_ (Kd.N_afterv (ok := (fun k_ => (P0_ k_ ∨ w.heap.size ≤ k_) ∧ some k_ ≠ (.slice (some ad107) t104.length co7 : Value).ownBlock)) (by (with_reducible repeat (first | apply Kd.N_alloc | apply Kd.N_drewN | apply Kd.N_drew)); exact Kd.N_mono HO119.out (fun _ hk => ⟨⟨hk.1, hk.2.2⟩, hk.2.1⟩)) hg hat); have n5_ := am_ (hb); have n6_ := am_ (ho); clear HO_0 HO_12; clear HL107_0 HO116; clear HO119 HB HO_5; have HO_0 := n0_; have HO_12 := n1_; have HL107_0 := n2_; have HO116 := n3_; have HO119 := n4_; have HB := n5_; have HO122 := n6_; clear n0_ n1_ n2_ n3_ n4_ n5_ n6_; clear ho hb hg hat))
    go_roundg k1
    case measure => have := HK1.out; omega
    case rel => exact ⟨(y120), (wrap64 (x14_1 + 1)), tc3_, H', ⟨tc40_⟩, ⟨(by (with_reducible repeat (first | apply Kd.V_alloc | apply Kd.V_drewN | apply Kd.V_drew)); exact Kd.V_mono HO_0.out (fun _ hk => ⟨hk.1.1, ⟨hk.2, hk.1.2.1⟩⟩))⟩, ⟨(by (with_reducible repeat (first | apply Kd.N_alloc | apply Kd.N_drewN | apply Kd.N_drew)); exact HO122.out)⟩, ⟨(by (with_reducible repeat (first | apply Kd.N_alloc | apply Kd.N_drewN | apply Kd.N_drew)); exact Kd.N_mono HO_12.out (fun _ hk => ⟨hk.1.1, hk.2⟩))⟩, ⟨tc0_⟩⟩
   ·obtain rfl := Option.some.inj H; go_wp2
    go_ret
    exact ⟨_, tc4_, tc76_, tc0_⟩

/-! ### spec_dpOwn: function 28 -/
def spec_dpOwn.l0 : Nat → Tb_ → Tb_ → Int → Int → Option (Tb_)
 | 0, _, _, _, _ => none
 | k + 1, x3, x6, x7, x8 => if x8 < x7 then (if 0 ≤ x8 then (if x8 < (x6.length : Int) then ((spec_l1Own.f (rd_L3 x6 x8)).bind fun t102 => (if x3.length < 5864062014805 then (spec_dpOwn.l0 k (x3 ++ [t102]) x6 x7 (wrap64 (x8 + 1))) else (none))) else (none)) else (none)) else (some x3)
def spec_dpOwn.f (k : Nat) (l0 : Tb_) : Option (Tb_) := spec_dpOwn.l0 k ([] : Tb_) l0 (l0.length : Int) 0
theorem spec_dpOwn.mono_l : ∀ k, (∀ y0 y1 y2 y3, LeO (spec_dpOwn.l0 k y0 y1 y2 y3) (spec_dpOwn.l0 (k + 1) y0 y1 y2 y3))
 | 0 => fun _ _ _ _ r h => by simp [spec_dpOwn.l0] at h
 | k + 1 => by
  have ih0 := spec_dpOwn.mono_l k
  ·intro y0 y1 y2 y3; unfold spec_dpOwn.l0
   repeat' first
   | (with_reducible exact ih0 _ _ _ _)
   | (with_reducible exact LeO.refl _)
   | (with_reducible exact LeO.none _)
   | (with_reducible refine LeO.ite ?_ ?_)
   | (with_reducible refine LeO.bind ?_ (fun _ => ?_))
   | exact ih0 _ _ _ _
   | exact LeO.none _
   | refine LeO.ite ?_ ?_
   | refine LeO.bind ?_ (fun _ => ?_)
theorem spec_dpOwn.mono : ∀ a0  k, LeO (spec_dpOwn.f k a0) (spec_dpOwn.f (k + 1) a0) := by
 intro a0 k; have ih0 := spec_dpOwn.mono_l k; unfold spec_dpOwn.f
 repeat' first
   | (with_reducible exact ih0 _ _ _ _)
   | (with_reducible exact LeO.refl _)
   | (with_reducible exact LeO.none _)
   | (with_reducible refine LeO.ite ?_ ?_)
   | (with_reducible refine LeO.bind ?_ (fun _ => ?_))
   | exact ih0 _ _ _ _
   | exact LeO.none _
   | refine LeO.ite ?_ ?_
   | refine LeO.bind ?_ (fun _ => ?_)
theorem spec_dpOwn.calls (k : Nat) (A0 : Option Addr) (c0 : Nat) (l0 : Tb_) (r : Tb_) (w : World) (hr0 : Kd.C (Kd.slice 3 (Kd.int .i64)) w A0 l0.length l0) (hc0 : l0.length ≤ c0) (h : spec_dpOwn.f k l0 = some r) :
  Calls Try.prog 28 #[.slice A0 l0.length c0] w fun e w' => ∃ v0_ : Value, e = .returned (v0_) ∧ Kd.S (Kd.slice 3 (Kd.int .i64)) 46 w' w.heap.size (fun _ => True) v0_ r ∧ Below w.heap.size w w' := by
 have HR0 := am_ hr0; have HC0 := am_ hc0; clear hr0 hc0; have HB := am_ (Below.refl w.heap.size w); (try unfold spec_dpOwn.f at h); have H := h; clear h; have H' := am_ H; clear H; go_enter Try.func28, Try.ntmps28; go_wp2
 go_loopg [3, 8] k (fun kq v3 v8 w' => ∃ (x3_1 : Tb_) (x8_1 : Int), v8 = .int .i64 x8_1 ∧ Aside0 (spec_dpOwn.l0 kq x3_1 l0 (l0.length : Int) x8_1 = some r) ∧ Aside0 (kq ≤ k) ∧ Aside0 (Kd.S (Kd.slice 3 (Kd.int .i64)) 46 w' w.heap.size (fun _ => True) v3 x3_1) ∧ Aside0 (Below w.heap.size w w'))
 case atStart => exact ⟨(([] : Tb_)), (0), tc3_, H', ⟨Nat.le_refl _⟩, ⟨tc29_⟩, ⟨tc0_⟩⟩
 case round =>
  clear H'; obtain ⟨x3_1, x8_1, rfl, HA, HK1, HO_3, HB⟩ := hrel
  cases gk with
  | zero => exact absurd HA.out (by simp [spec_dpOwn.l0])
  | succ k1 =>
   have H := HA.out; clear HA; simp only [spec_dpOwn.l0] at H
   replace H := sp_ H; obtain ⟨c2b0, H⟩ | ⟨c2b0, H⟩ := H
   ·replace H := ps_ H; obtain ⟨c3b0, H⟩ := H; replace H := ps_ H; obtain ⟨c4b0, H⟩ := H; replace H := bd_ H; obtain ⟨t102, A5, H⟩ := H; (try dsimp only at H); replace H := pp_ H; obtain ⟨c6, H⟩ := H; have LMc6 := am_ c6; clear c6; obtain ⟨y105, hy105⟩ : ∃ y_ : Tb_, y_ = (x3_1 ++ [t102]) := ⟨_, rfl⟩; replace H : (spec_dpOwn.l0 k1 y105 l0 (l0.length : Int) (wrap64 (x8_1 + 1))) = some r := tc43_; have Ny105 := am_ hy105; clear hy105; have H' := am_ H; clear H; have p101 : 0 ≤ (x8_1 : Int) := od_; have q101 : x8_1 < (l0.length : Int) := od_; obtain ⟨ad101, A101_0, c101_0, e101, hx101_0, hl101_0, hi101_0⟩ := at_L3 HR0.out x8_1 p101 q101; cases e101; replace hx101_0 := (HB.out.cell (World.block_lt_of_cell? w _ hx101_0)).trans hx101_0; have HR101_0 := am_ hi101_0; have HC101_0 := am_ hl101_0; clear hi101_0 hl101_0; replace p101 := eq_true p101; replace q101 := eq_true q101
    go_wp2_with (first | (refine gc_ (some 14) Try.func45 #[.slice A101_0 (rd_L3 l0 x8_1).length c101_0] ?_; (with_reducible refine (spec_l1Own.calls _ _ (rd_L3 l0 x8_1) t102 _ ?side1 ?side2 A5.out).mono ?_); (case side1 => exact tc14_); (case side2 => exact HC101_0.out); rintro e w7 ⟨v103, rfl, ho0, hb⟩; refine ⟨_, rfl, ?_⟩; replace HO_3 := am_ (Kd.S_elder' tc51_ (Kd.R_base ho0) hb); have HO104 := am_ (Kd.R_lower ho0 (below_size tc0_)); replace HB := am_ (below_step tc0_ hb); (try clear hb ho0); obtain ⟨Ao9, co9, eo9⟩ := Kd.R_slice HO104.out; subst eo9) | ((with_reducible refine gate_builtin (b := .append) (xs := #[.tmp 12, .tmp 15]) rfl ?_); at_builtin; refine Kd.S_append (Kd.slice 3 (Kd.int .i64)) (w0 := w) w.heap.size rfl (.tmp 12) (.tmp 15) 26 46 (.slice none 0 0) 24 rfl Try.underlying26 info46 rfl (by decide) (by omega) u3 x3_1 t102 [.slice Ao9 t102.length co9] (fun _ => True) (fun k_ => some k_ = (.slice Ao9 t102.length co9 : Value).ownBlock) rfl rfl ?aP (fun k_ hk_ => ((Kd.R_mono (ok' := fun k_ => ((fun _ => True)) k_ ∧ some k_ ≠ (u3 : Value).ownBlock) (Kd.R_apart' (HO104.out) (Kd.S_typed HO_3.out) (by decide)) (fun k_ hk => ⟨trivial, hk.2⟩))).1 k_ hk_.symm) ?aF ?aO ?aB ?aS ?aL ?_; (case aP => exact Kd.M_row (Kd.R_mono (Kd.R_tight rfl (Kd.R_mono (ok' := fun k_ => ((fun _ => True)) k_ ∧ some k_ ≠ (u3 : Value).ownBlock) (Kd.R_apart' (HO104.out) (Kd.S_typed HO_3.out) (by decide)) (fun k_ hk => ⟨trivial, hk.2⟩))) (fun _ h_ => h_))); (case aB => exact tc6_); (case aF => exact tc81_); (case aO => exact tc68_); (case aS => exact tc11_); (case aL => have := LMc6.out; omega); intro v106 w8 ho hb hg hat; rw [← Ny105.out] at ho; replace HB := am_ (hb); have HO107 := am_ (ho); clear HO_3 HO104; clear ho hb hg hat))
    go_roundg k1
    case measure => have := HK1.out; omega
    case rel => exact ⟨(y105), (wrap64 (x8_1 + 1)), tc3_, H', ⟨tc40_⟩, ⟨(by (with_reducible repeat (first | apply Kd.S_alloc | apply Kd.S_drewN | apply Kd.S_drew)); exact HO107.out)⟩, ⟨tc0_⟩⟩
   ·obtain rfl := Option.some.inj H; go_wp2
    go_ret
    exact ⟨_, tc4_, tc51_, tc0_⟩

/-! ### spec_DescendingWith: function 7 -/
def spec_DescendingWith.f (k : Nat) (a0 : Int) (a1 : Int) : Option (Tb_ × Bool) := (spec_dpSmall.f a0).bind fun t101 => (if t101 = true then ((spec_dpAll.f k ([] : Tb_) a0).bind fun t102 => ((spec_l1In.f a1 0 (wrap64 ((t102.length : Int) - 1))).bind fun t105 => (if t105 = true then (if 0 ≤ a1 then (if a1 < (t102.length : Int) then ((spec_dpOwn.f k (rd_L4 t102 a1)).bind fun t107 => (some (t107, true))) else (none)) else (none)) else (some (([] : Tb_), false))))) else (some (([] : Tb_), false)))
theorem spec_DescendingWith.mono : ∀ a0 a1  k, LeO (spec_DescendingWith.f k a0 a1) (spec_DescendingWith.f (k + 1) a0 a1) := by
 intro a0 a1 k; unfold spec_DescendingWith.f
 repeat' first
   | (with_reducible exact spec_dpAll.mono _ _ _)
   | (with_reducible exact spec_dpOwn.mono _ _)
   | (with_reducible exact LeO.refl _)
   | (with_reducible exact LeO.none _)
   | (with_reducible refine LeO.ite ?_ ?_)
   | (with_reducible refine LeO.bind ?_ (fun _ => ?_))
   | exact spec_dpAll.mono _ _ _
   | exact spec_dpOwn.mono _ _
   | exact LeO.none _
   | refine LeO.ite ?_ ?_
   | refine LeO.bind ?_ (fun _ => ?_)
theorem spec_DescendingWith.calls (k : Nat) (a0 : Int) (a1 : Int) (r1 : Tb_) (r2 : Bool) (w : World) (h : spec_DescendingWith.f k a0 a1 = some (r1, r2)) :
  Calls Try.prog 7 #[.int .i64 a0, .int .i64 a1] w fun e w' => ∃ v0_ : Value, e = .returned (.tuple #[v0_, .bool r2]) ∧ Kd.N (Kd.slice 3 (Kd.int .i64)) 46 w' w.heap.size (fun k_ => (w.heap.size ≤ k_)) v0_ r1 ∧ Below w.heap.size w w' := by
 have HB := am_ (Below.refl w.heap.size w); (try unfold spec_DescendingWith.f at h); have H := h; clear h; replace H := bd_ H; obtain ⟨t101, A3, H⟩ := H; (try dsimp only at H)
 by_cases c4 : t101 = true
 ·subst c4; have H1 : ((spec_dpAll.f k ([] : Tb_) a0).bind fun t102 => ((spec_l1In.f a1 0 (wrap64 ((t102.length : Int) - 1))).bind fun t105 => (if t105 = true then (if 0 ≤ a1 then (if a1 < (t102.length : Int) then ((spec_dpOwn.f k (rd_L4 t102 a1)).bind fun t107 => (some (t107, true))) else (none)) else (none)) else (some (([] : Tb_), false))))) = some (r1, r2) := tc19_; clear H; have H := H1; clear H1; replace H := bd_ H; obtain ⟨t102, A5, H⟩ := H; (try dsimp only at H); replace H := bd_ H; obtain ⟨t105, A6, H⟩ := H; (try dsimp only at H)
  by_cases c7 : t105 = true
  ·subst c7; have H1 : (if 0 ≤ a1 then (if a1 < (t102.length : Int) then ((spec_dpOwn.f k (rd_L4 t102 a1)).bind fun t107 => (some (t107, true))) else (none)) else (none)) = some (r1, r2) := tc19_; clear H; have H := H1; clear H1; replace H := ps_ H; obtain ⟨c8b0, H⟩ := H; replace H := ps_ H; obtain ⟨c9b0, H⟩ := H; replace H := bd_ H; obtain ⟨t107, A10, H⟩ := H; (try dsimp only at H); simp only [Option.some.injEq, Prod.mk.injEq] at H; obtain ⟨rfl, rfl⟩ := H; go_enter Try.func7, Try.ntmps7
   go_wp2_with (first | (refine gc_ (some 8) Try.func25 #[.int .i64 a0] ?_; (with_reducible refine (spec_dpSmall.calls a0 true _ A3.out).mono ?_); rintro e w' ⟨rfl, ⟨nd, rfl⟩⟩; refine ⟨_, rfl, ?_⟩) | (refine gc_ (some 11) Try.func26 #[.slice none 0 0, .int .i64 a0] ?_; (refine (spec_dpAll.calls k (fun k_ => False) _ _ ([] : Tb_) a0 t102 _ ?side1 A5.out).mono ?_); (case side1 => exact Kd.V_nil _ _ _ _ _); rintro e w11 ⟨v103, rfl, ho0, hb⟩; refine ⟨_, rfl, ?_⟩; have HO104 := am_ (Kd.N_lower (Kd.N_mono (ok' := fun k_ => (w.heap.size ≤ k_)) ho0 (fun k_ hk_ => Or.elim hk_ (fun hs_ => (hs_).elim) (fun hn_ => (Nat.le_trans (below_size tc0_) hn_)))) (below_size tc0_)); replace HB := am_ (below_step tc0_ hb); (try clear hb ho0); obtain ⟨Ao12, co12, eo12⟩ := Kd.N_slice HO104.out; subst eo12) | (refine gc_ (some 16) Try.func27 #[.int .i64 a1, .int .i64 0, .int .i64 (wrap64 ((t102.length : Int) - 1))] ?_; (with_reducible refine (spec_l1In.calls a1 0 (wrap64 ((t102.length : Int) - 1)) true _ A6.out).mono ?_); rintro e w' ⟨rfl, ⟨nd, rfl⟩⟩; refine ⟨_, rfl, ?_⟩; have p106 : 0 ≤ (a1 : Int) := od_; have q106 : a1 < (t102.length : Int) := od_; obtain ⟨ad106, A106_0, c106_0, e106, hx106_0, hl106_0, hi106_0⟩ := at_L4 (Kd.N_reads' HO104.out).2.2 a1 p106 q106; cases e106; obtain ⟨ce106, hce106, hMe106, hcc106⟩ := Kd.N_get HO104.out [] a1 p106 (by first | exact q106 | exact od_ | (have e_ := (Kd.N_reads' HO104.out).1; omega)); obtain ⟨ua106_0, uc106_0, rfl, ul106_0, ge106_0⟩ := Kd.FK_slice_open hMe106; have hv106_0 := hcc106 0 _ rfl; rw [Nat.add_zero, show ((Kd.slice 46 (Kd.slice 3 (Kd.int .i64)))).sz = 1 from rfl, Nat.mul_one] at hv106_0; replace hv106_0 := Option.some.inj (hv106_0.symm.trans hx106_0); injection hv106_0 with hva_ hvn_ hvc_; rw [hva_] at ge106_0; rw [hvc_] at ul106_0; have HL106_0 := am_ (show Kd.V (Kd.slice 3 (Kd.int .i64)) 46 _ w.heap.size _ _ (rd_L4 t102 a1) from Kd.V_mk ul106_0 ge106_0); clear hva_ hvn_ hvc_ ge106_0 ul106_0; clear hcc106 hce106; have HR106_0 := am_ hi106_0; have HC106_0 := am_ hl106_0; clear hi106_0 hl106_0; replace p106 := eq_true p106; replace q106 := eq_true q106) | (refine gc_ (some 22) Try.func28 #[.slice A106_0 (rd_L4 t102 a1).length c106_0] ?_; (with_reducible refine (spec_dpOwn.calls k _ _ (rd_L4 t102 a1) t107 _ ?side1 ?side2 A10.out).mono ?_); (case side1 => repeat (first | exact tc56_ | (with_reducible refine Kd.C_alloc ?_ _) | (with_reducible refine Kd.C_drewN ?_ _) | (with_reducible refine Kd.C_drew ?_))); (case side2 => exact HC106_0.out); rintro e w13 ⟨v108, rfl, ho0, hb⟩; refine ⟨_, rfl, ?_⟩; have n0_ := am_ (Kd.N_elder' tc49_ (Kd.S_base ho0) hb); have n1_ := am_ (Kd.V_elder' (by (with_reducible repeat (first | apply Kd.V_alloc | apply Kd.V_drewN | apply Kd.V_drew)); exact HL106_0.out) (Kd.S_base ho0) hb); have n2_ := am_ (Kd.N_lower (Kd.N_mono (ok' := fun k_ => (w.heap.size ≤ k_) ∧ some k_ ≠ (.slice (some ad106) t102.length co12 : Value).ownBlock) (Kd.S_N (Kd.S_bound ho0)) (fun k_ hk_ => ⟨(Nat.le_trans (below_size tc0_) hk_.2.1), (Kd.fresh' (Kd.N_lt tc49_) k_ hk_.2.1)⟩)) (below_size tc0_)); have n3_ := am_ (Kd.C_below tc56_ hb); have n4_ := am_ (below_step tc0_ hb); clear HO104 HL106_0; clear HR106_0 HB; have HO104 := n0_; have HL106_0 := n1_; have HO109 := n2_; have HR106_0 := n3_; have HB := n4_; clear n0_ n1_ n2_ n3_ n4_; (try clear hb ho0)))
   go_ret2
   exact ⟨_, tc4_, (by (with_reducible repeat (first | apply Kd.N_alloc | apply Kd.N_drewN | apply Kd.N_drew)); exact Kd.N_mono HO109.out (fun _ hk => hk.1)), tc0_⟩
  ·replace c7 := Bool.eq_false_iff.mpr c7; subst c7; have H1 : (some (([] : Tb_), false)) = some (r1, r2) := tc8_; clear H; have H := H1; clear H1; simp only [Option.some.injEq, Prod.mk.injEq] at H; obtain ⟨rfl, rfl⟩ := H; go_enter Try.func7, Try.ntmps7
   go_wp2_with (first | (refine gc_ (some 8) Try.func25 #[.int .i64 a0] ?_; (with_reducible refine (spec_dpSmall.calls a0 true _ A3.out).mono ?_); rintro e w' ⟨rfl, ⟨nd, rfl⟩⟩; refine ⟨_, rfl, ?_⟩) | (refine gc_ (some 11) Try.func26 #[.slice none 0 0, .int .i64 a0] ?_; (refine (spec_dpAll.calls k (fun k_ => False) _ _ ([] : Tb_) a0 t102 _ ?side1 A5.out).mono ?_); (case side1 => exact Kd.V_nil _ _ _ _ _); rintro e w14 ⟨v103, rfl, ho0, hb⟩; refine ⟨_, rfl, ?_⟩; have HO104 := am_ (Kd.N_lower (Kd.N_mono (ok' := fun k_ => (w.heap.size ≤ k_)) ho0 (fun k_ hk_ => Or.elim hk_ (fun hs_ => (hs_).elim) (fun hn_ => (Nat.le_trans (below_size tc0_) hn_)))) (below_size tc0_)); replace HB := am_ (below_step tc0_ hb); (try clear hb ho0); obtain ⟨Ao15, co15, eo15⟩ := Kd.N_slice HO104.out; subst eo15) | (refine gc_ (some 16) Try.func27 #[.int .i64 a1, .int .i64 0, .int .i64 (wrap64 ((t102.length : Int) - 1))] ?_; (with_reducible refine (spec_l1In.calls a1 0 (wrap64 ((t102.length : Int) - 1)) false _ A6.out).mono ?_); rintro e w' ⟨rfl, ⟨nd, rfl⟩⟩; refine ⟨_, rfl, ?_⟩))
   go_ret2
   exact ⟨_, tc4_, tc29_, tc0_⟩
 ·replace c4 := Bool.eq_false_iff.mpr c4; subst c4; have H1 : (some (([] : Tb_), false)) = some (r1, r2) := tc8_; clear H; have H := H1; clear H1; simp only [Option.some.injEq, Prod.mk.injEq] at H; obtain ⟨rfl, rfl⟩ := H; go_enter Try.func7, Try.ntmps7
  go_wp2_with (first | (refine gc_ (some 8) Try.func25 #[.int .i64 a0] ?_; (with_reducible refine (spec_dpSmall.calls a0 false _ A3.out).mono ?_); rintro e w' ⟨rfl, ⟨nd, rfl⟩⟩; refine ⟨_, rfl, ?_⟩))
  go_ret2
  exact ⟨_, tc4_, tc29_, tc0_⟩

/-! ### laws_uSame: function 29 -/
def laws_uSame.l0 : Nat → List Int → List Int → Int → Int → Option (Bool)
 | 0, _, _, _, _ => none
 | k + 1, x0, x1, x12, x13 => if x13 < x12 then (if 0 ≤ x13 then (if x13 < (x0.length : Int) then (if x13 < (x1.length : Int) then (if (rd x0 x13) = (rd x1 x13) then (laws_uSame.l0 k x0 x1 x12 (wrap64 (x13 + 1))) else (some false)) else (none)) else (none)) else (none)) else (some true)
def laws_uSame.f (k : Nat) (l0 : List Int) (l1 : List Int) : Option (Bool) := if (l0.length : Int) = (l1.length : Int) then (laws_uSame.l0 k l0 l1 (l0.length : Int) 0) else (some false)
theorem laws_uSame.mono_l : ∀ k, (∀ y0 y1 y2 y3, LeO (laws_uSame.l0 k y0 y1 y2 y3) (laws_uSame.l0 (k + 1) y0 y1 y2 y3))
 | 0 => fun _ _ _ _ r h => by simp [laws_uSame.l0] at h
 | k + 1 => by
  have ih0 := laws_uSame.mono_l k
  ·intro y0 y1 y2 y3; unfold laws_uSame.l0
   repeat' first
   | (with_reducible exact ih0 _ _ _ _)
   | (with_reducible exact LeO.refl _)
   | (with_reducible exact LeO.none _)
   | (with_reducible refine LeO.ite ?_ ?_)
   | (with_reducible refine LeO.bind ?_ (fun _ => ?_))
   | exact ih0 _ _ _ _
   | exact LeO.none _
   | refine LeO.ite ?_ ?_
   | refine LeO.bind ?_ (fun _ => ?_)
theorem laws_uSame.mono : ∀ a0 a1  k, LeO (laws_uSame.f k a0 a1) (laws_uSame.f (k + 1) a0 a1) := by
 intro a0 a1 k; have ih0 := laws_uSame.mono_l k; unfold laws_uSame.f
 repeat' first
   | (with_reducible exact ih0 _ _ _ _)
   | (with_reducible exact LeO.refl _)
   | (with_reducible exact LeO.none _)
   | (with_reducible refine LeO.ite ?_ ?_)
   | (with_reducible refine LeO.bind ?_ (fun _ => ?_))
   | exact ih0 _ _ _ _
   | exact LeO.none _
   | refine LeO.ite ?_ ?_
   | refine LeO.bind ?_ (fun _ => ?_)
theorem laws_uSame.calls (k : Nat) (A0 : Option Addr) (c0 : Nat) (l0 : List Int) (A1 : Option Addr) (c1 : Nat) (l1 : List Int) (r : Bool) (w : World) (hr0 : Kd.C (Kd.int .i64) w A0 l0.length l0) (hc0 : l0.length ≤ c0) (hr1 : Kd.C (Kd.int .i64) w A1 l1.length l1) (hc1 : l1.length ≤ c1) (h : laws_uSame.f k l0 l1 = some r) :
  Calls Try.prog 29 #[.slice A0 l0.length c0, .slice A1 l1.length c1] w fun e w' => e = .returned (.bool r) ∧ Drawn0 w w' := by
 have HR0 := am_ hr0; have HC0 := am_ hc0; clear hr0 hc0; have HR1 := am_ hr1; have HC1 := am_ hc1; clear hr1 hc1; (try unfold laws_uSame.f at h); have H := h; clear h
 replace H := pn_ H; obtain ⟨c3, H⟩ | ⟨c3, H⟩ := H
 ·have c3b0 : ((l0.length : Int) == (l1.length : Int)) = true := beq_iff_eq.mpr c3; have c3b1 : ((l0.length : Int) != (l1.length : Int)) = false := bne_eq_false_iff_eq.mpr c3; have c3b2 : (l0.length == l1.length) = true := tc83_; clear c3; have H' := am_ H; clear H; go_enter Try.func29, Try.ntmps29; go_wp2
  repeat (go_quiet (fail); try go_wp2)
  go_loopg [13] k (fun kq v13 w' => ∃ (x13_1 : Int), v13 = .int .i64 x13_1 ∧ Aside0 (laws_uSame.l0 kq l0 l1 (l0.length : Int) x13_1 = some r) ∧ Aside0 (kq ≤ k) ∧ Drawn0 w w')
  case atStart => exact ⟨(0), tc3_, H', ⟨Nat.le_refl _⟩, tc5_⟩
  case round =>
   clear H'; (try clear c1); (try clear c2); (try clear p2); (try clear c3); (try clear c3b0); (try clear c3b1); (try clear c3b2); obtain ⟨x13_1, rfl, HA, HK1, ⟨m1, rfl⟩⟩ := hrel
   cases gk with
   | zero => exact absurd HA.out (by simp [laws_uSame.l0])
   | succ k1 =>
    have H := HA.out; clear HA; simp only [laws_uSame.l0] at H
    replace H := sp_ H; obtain ⟨c4b0, H⟩ | ⟨c4b0, H⟩ := H
    ·replace H := ps_ H; obtain ⟨c5b0, H⟩ := H; replace H := ps_ H; obtain ⟨c6b0, H⟩ := H; replace H := ps_ H; obtain ⟨c7b0, H⟩ := H
     replace H := pn_ H; obtain ⟨c8, H⟩ | ⟨c8, H⟩ := H
     ·have c8b0 : ((rd l0 x13_1) == (rd l1 x13_1)) = true := beq_iff_eq.mpr c8; have c8b1 : ((rd l0 x13_1) != (rd l1 x13_1)) = false := bne_eq_false_iff_eq.mpr c8; clear c8; have H' := am_ H; clear H; have p101 : 0 ≤ (x13_1 : Int) := od_; have q101 : x13_1 < (l0.length : Int) := od_; obtain ⟨ad101, e101, hx101_0⟩ := Kd.at_int HR0.out x13_1 p101 q101; cases e101; replace p101 := eq_true p101; replace q101 := eq_true q101; have p102 : 0 ≤ (x13_1 : Int) := od_; have q102 : x13_1 < (l1.length : Int) := od_; obtain ⟨ad102, e102, hx102_0⟩ := Kd.at_int HR1.out x13_1 p102 q102; cases e102; replace p102 := eq_true p102; replace q102 := eq_true q102; go_wp2
      repeat (go_quiet (fail); try go_wp2)
      go_roundg k1
      case measure => have := HK1.out; omega
      case rel => exact ⟨(wrap64 (x13_1 + 1)), tc3_, H', ⟨tc40_⟩, tc5_⟩
     ·have c8b0 : ((rd l0 x13_1) == (rd l1 x13_1)) = false := beq_eq_false_iff_ne.mpr c8; have c8b1 : ((rd l0 x13_1) != (rd l1 x13_1)) = true := bne_iff_ne.mpr c8; obtain rfl := Option.some.inj H; have p101 : 0 ≤ (x13_1 : Int) := od_; have q101 : x13_1 < (l0.length : Int) := od_; obtain ⟨ad101, e101, hx101_0⟩ := Kd.at_int HR0.out x13_1 p101 q101; cases e101; replace p101 := eq_true p101; replace q101 := eq_true q101; have p102 : 0 ≤ (x13_1 : Int) := od_; have q102 : x13_1 < (l1.length : Int) := od_; obtain ⟨ad102, e102, hx102_0⟩ := Kd.at_int HR1.out x13_1 p102 q102; cases e102; replace p102 := eq_true p102; replace q102 := eq_true q102; go_wp2
      repeat (go_quiet (fail); try go_wp2)
      go_ret
      exact ⟨tc3_, tc5_⟩
    ·obtain rfl := Option.some.inj H; go_wp2
     repeat (go_quiet (fail); try go_wp2)
     go_ret
     exact ⟨tc3_, tc5_⟩
 ·have c3b0 : ((l0.length : Int) == (l1.length : Int)) = false := beq_eq_false_iff_ne.mpr c3; have c3b1 : ((l0.length : Int) != (l1.length : Int)) = true := bne_iff_ne.mpr c3; have c3b2 : (l0.length == l1.length) = false := tc83_; obtain rfl := Option.some.inj H; go_enter Try.func29, Try.ntmps29; go_wp2
  repeat (go_quiet (fail); try go_wp2)
  go_ret
  exact ⟨tc3_, tc5_⟩

/-! ### laws_uSameRows: function 8 -/
def laws_uSameRows.l0 : Nat → Tb_ → Tb_ → Int → Int → Option (Bool)
 | 0, _, _, _, _ => none
 | k + 1, x0, x1, x12, x13 => if x13 < x12 then (if 0 ≤ x13 then (if x13 < (x0.length : Int) then (if x13 < (x1.length : Int) then ((laws_uSame.f k (rd_L3 x0 x13) (rd_L3 x1 x13)).bind fun t103 => (if t103 = true then (laws_uSameRows.l0 k x0 x1 x12 (wrap64 (x13 + 1))) else (some false))) else (none)) else (none)) else (none)) else (some true)
def laws_uSameRows.f (k : Nat) (l0 : Tb_) (l1 : Tb_) : Option (Bool) := if (l0.length : Int) = (l1.length : Int) then (laws_uSameRows.l0 k l0 l1 (l0.length : Int) 0) else (some false)
theorem laws_uSameRows.mono_l : ∀ k, (∀ y0 y1 y2 y3, LeO (laws_uSameRows.l0 k y0 y1 y2 y3) (laws_uSameRows.l0 (k + 1) y0 y1 y2 y3))
 | 0 => fun _ _ _ _ r h => by simp [laws_uSameRows.l0] at h
 | k + 1 => by
  have ih0 := laws_uSameRows.mono_l k
  ·intro y0 y1 y2 y3; unfold laws_uSameRows.l0
   repeat' first
   | (with_reducible exact ih0 _ _ _ _)
   | (with_reducible exact laws_uSame.mono _ _ _)
   | (with_reducible exact LeO.refl _)
   | (with_reducible exact LeO.none _)
   | (with_reducible refine LeO.ite ?_ ?_)
   | (with_reducible refine LeO.bind ?_ (fun _ => ?_))
   | exact ih0 _ _ _ _
   | exact laws_uSame.mono _ _ _
   | exact LeO.none _
   | refine LeO.ite ?_ ?_
   | refine LeO.bind ?_ (fun _ => ?_)
theorem laws_uSameRows.mono : ∀ a0 a1  k, LeO (laws_uSameRows.f k a0 a1) (laws_uSameRows.f (k + 1) a0 a1) := by
 intro a0 a1 k; have ih0 := laws_uSameRows.mono_l k; unfold laws_uSameRows.f
 repeat' first
   | (with_reducible exact ih0 _ _ _ _)
   | (with_reducible exact laws_uSame.mono _ _ _)
   | (with_reducible exact LeO.refl _)
   | (with_reducible exact LeO.none _)
   | (with_reducible refine LeO.ite ?_ ?_)
   | (with_reducible refine LeO.bind ?_ (fun _ => ?_))
   | exact ih0 _ _ _ _
   | exact laws_uSame.mono _ _ _
   | exact LeO.none _
   | refine LeO.ite ?_ ?_
   | refine LeO.bind ?_ (fun _ => ?_)
theorem laws_uSameRows.calls (k : Nat) (A0 : Option Addr) (c0 : Nat) (l0 : Tb_) (A1 : Option Addr) (c1 : Nat) (l1 : Tb_) (r : Bool) (w : World) (hr0 : Kd.C (Kd.slice 3 (Kd.int .i64)) w A0 l0.length l0) (hc0 : l0.length ≤ c0) (hr1 : Kd.C (Kd.slice 3 (Kd.int .i64)) w A1 l1.length l1) (hc1 : l1.length ≤ c1) (h : laws_uSameRows.f k l0 l1 = some r) :
  Calls Try.prog 8 #[.slice A0 l0.length c0, .slice A1 l1.length c1] w fun e w' => e = .returned (.bool r) ∧ Drawn0 w w' := by
 have HR0 := am_ hr0; have HC0 := am_ hc0; clear hr0 hc0; have HR1 := am_ hr1; have HC1 := am_ hc1; clear hr1 hc1; (try unfold laws_uSameRows.f at h); have H := h; clear h
 replace H := pn_ H; obtain ⟨c3, H⟩ | ⟨c3, H⟩ := H
 ·have c3b0 : ((l0.length : Int) == (l1.length : Int)) = true := beq_iff_eq.mpr c3; have c3b1 : ((l0.length : Int) != (l1.length : Int)) = false := bne_eq_false_iff_eq.mpr c3; have c3b2 : (l0.length == l1.length) = true := tc83_; clear c3; have H' := am_ H; clear H; go_enter Try.func8, Try.ntmps8; go_wp2
  repeat (go_quiet (fail); try go_wp2)
  go_loopg [13] k (fun kq v13 w' => ∃ (x13_1 : Int), v13 = .int .i64 x13_1 ∧ Aside0 (laws_uSameRows.l0 kq l0 l1 (l0.length : Int) x13_1 = some r) ∧ Aside0 (kq ≤ k) ∧ Drawn0 w w')
  case atStart => exact ⟨(0), tc3_, H', ⟨Nat.le_refl _⟩, tc5_⟩
  case round =>
   clear H'; (try clear c1); (try clear p2); (try clear c3); (try clear c3b0); (try clear c3b1); (try clear c3b2); obtain ⟨x13_1, rfl, HA, HK1, ⟨m1, rfl⟩⟩ := hrel
   cases gk with
   | zero => exact absurd HA.out (by simp [laws_uSameRows.l0])
   | succ k1 =>
    have H := HA.out; clear HA; simp only [laws_uSameRows.l0] at H
    replace H := sp_ H; obtain ⟨c4b0, H⟩ | ⟨c4b0, H⟩ := H
    ·replace H := ps_ H; obtain ⟨c5b0, H⟩ := H; replace H := ps_ H; obtain ⟨c6b0, H⟩ := H; replace H := ps_ H; obtain ⟨c7b0, H⟩ := H; replace H := bd_ H; obtain ⟨t103, A8, H⟩ := H; (try dsimp only at H)
     by_cases c9 : t103 = true
     ·subst c9; have H1 : (laws_uSameRows.l0 k1 l0 l1 (l0.length : Int) (wrap64 (x13_1 + 1))) = some r := tc19_; clear H; have H := H1; clear H1; have H' := am_ H; clear H; have p101 : 0 ≤ (x13_1 : Int) := od_; have q101 : x13_1 < (l0.length : Int) := od_; obtain ⟨ad101, A101_0, c101_0, e101, hx101_0, hl101_0, hi101_0⟩ := at_L3 HR0.out x13_1 p101 q101; cases e101; have HR101_0 := am_ hi101_0; have HC101_0 := am_ hl101_0; clear hi101_0 hl101_0; replace p101 := eq_true p101; replace q101 := eq_true q101; have p102 : 0 ≤ (x13_1 : Int) := od_; have q102 : x13_1 < (l1.length : Int) := od_; obtain ⟨ad102, A102_0, c102_0, e102, hx102_0, hl102_0, hi102_0⟩ := at_L3 HR1.out x13_1 p102 q102; cases e102; have HR102_0 := am_ hi102_0; have HC102_0 := am_ hl102_0; clear hi102_0 hl102_0; replace p102 := eq_true p102; replace q102 := eq_true q102
      go_wp2_with (first | (go_at_call 29; (with_reducible refine (laws_uSame.calls k1 _ _ (rd_L3 l0 x13_1) _ _ (rd_L3 l1 x13_1) true _ ?side1 ?side2 ?side3 ?side4 A8.out).mono ?_); (case side1 => exact tc30_); (case side2 => exact HC101_0.out); (case side3 => exact tc31_); (case side4 => exact HC102_0.out); rintro e w' ⟨rfl, ⟨nd, rfl⟩⟩; (try first | exact ⟨rfl, _, World.drewN_drewN _ _ _⟩ | exact ⟨rfl, _, Eq.trans (World.drewN_drewN _ _ _) (congrArg (World.drewN _) (Nat.add_assoc _ _ _))⟩)))
      repeat (go_quiet (first | (go_at_call 29; (with_reducible refine (laws_uSame.calls k1 _ _ (rd_L3 l0 x13_1) _ _ (rd_L3 l1 x13_1) true _ ?side1 ?side2 ?side3 ?side4 A8.out).mono ?_); (case side1 => exact tc30_); (case side2 => exact HC101_0.out); (case side3 => exact tc31_); (case side4 => exact HC102_0.out); rintro e w' ⟨rfl, ⟨nd, rfl⟩⟩; (try first | exact ⟨rfl, _, World.drewN_drewN _ _ _⟩ | exact ⟨rfl, _, Eq.trans (World.drewN_drewN _ _ _) (congrArg (World.drewN _) (Nat.add_assoc _ _ _))⟩))); try go_wp2_with (first | (go_at_call 29; (with_reducible refine (laws_uSame.calls k1 _ _ (rd_L3 l0 x13_1) _ _ (rd_L3 l1 x13_1) true _ ?side1 ?side2 ?side3 ?side4 A8.out).mono ?_); (case side1 => exact tc30_); (case side2 => exact HC101_0.out); (case side3 => exact tc31_); (case side4 => exact HC102_0.out); rintro e w' ⟨rfl, ⟨nd, rfl⟩⟩; (try first | exact ⟨rfl, _, World.drewN_drewN _ _ _⟩ | exact ⟨rfl, _, Eq.trans (World.drewN_drewN _ _ _) (congrArg (World.drewN _) (Nat.add_assoc _ _ _))⟩))))
      go_roundg k1
      case measure => have := HK1.out; omega
      case rel => exact ⟨(wrap64 (x13_1 + 1)), tc3_, H', ⟨tc40_⟩, tc5_⟩
     ·replace c9 := Bool.eq_false_iff.mpr c9; subst c9; have H1 : (some false) = some r := tc8_; clear H; have H := H1; clear H1; obtain rfl := Option.some.inj H; have p101 : 0 ≤ (x13_1 : Int) := od_; have q101 : x13_1 < (l0.length : Int) := od_; obtain ⟨ad101, A101_0, c101_0, e101, hx101_0, hl101_0, hi101_0⟩ := at_L3 HR0.out x13_1 p101 q101; cases e101; have HR101_0 := am_ hi101_0; have HC101_0 := am_ hl101_0; clear hi101_0 hl101_0; replace p101 := eq_true p101; replace q101 := eq_true q101; have p102 : 0 ≤ (x13_1 : Int) := od_; have q102 : x13_1 < (l1.length : Int) := od_; obtain ⟨ad102, A102_0, c102_0, e102, hx102_0, hl102_0, hi102_0⟩ := at_L3 HR1.out x13_1 p102 q102; cases e102; have HR102_0 := am_ hi102_0; have HC102_0 := am_ hl102_0; clear hi102_0 hl102_0; replace p102 := eq_true p102; replace q102 := eq_true q102
      go_wp2_with (first | (go_at_call 29; (with_reducible refine (laws_uSame.calls k1 _ _ (rd_L3 l0 x13_1) _ _ (rd_L3 l1 x13_1) false _ ?side1 ?side2 ?side3 ?side4 A8.out).mono ?_); (case side1 => exact tc30_); (case side2 => exact HC101_0.out); (case side3 => exact tc31_); (case side4 => exact HC102_0.out); rintro e w' ⟨rfl, ⟨nd, rfl⟩⟩; (try first | exact ⟨rfl, _, World.drewN_drewN _ _ _⟩ | exact ⟨rfl, _, Eq.trans (World.drewN_drewN _ _ _) (congrArg (World.drewN _) (Nat.add_assoc _ _ _))⟩)))
      repeat (go_quiet (first | (go_at_call 29; (with_reducible refine (laws_uSame.calls k1 _ _ (rd_L3 l0 x13_1) _ _ (rd_L3 l1 x13_1) false _ ?side1 ?side2 ?side3 ?side4 A8.out).mono ?_); (case side1 => exact tc30_); (case side2 => exact HC101_0.out); (case side3 => exact tc31_); (case side4 => exact HC102_0.out); rintro e w' ⟨rfl, ⟨nd, rfl⟩⟩; (try first | exact ⟨rfl, _, World.drewN_drewN _ _ _⟩ | exact ⟨rfl, _, Eq.trans (World.drewN_drewN _ _ _) (congrArg (World.drewN _) (Nat.add_assoc _ _ _))⟩))); try go_wp2_with (first | (go_at_call 29; (with_reducible refine (laws_uSame.calls k1 _ _ (rd_L3 l0 x13_1) _ _ (rd_L3 l1 x13_1) false _ ?side1 ?side2 ?side3 ?side4 A8.out).mono ?_); (case side1 => exact tc30_); (case side2 => exact HC101_0.out); (case side3 => exact tc31_); (case side4 => exact HC102_0.out); rintro e w' ⟨rfl, ⟨nd, rfl⟩⟩; (try first | exact ⟨rfl, _, World.drewN_drewN _ _ _⟩ | exact ⟨rfl, _, Eq.trans (World.drewN_drewN _ _ _) (congrArg (World.drewN _) (Nat.add_assoc _ _ _))⟩))))
      go_ret
      exact ⟨tc3_, tc5_⟩
    ·obtain rfl := Option.some.inj H; go_wp2
     repeat (go_quiet (fail); try go_wp2)
     go_ret
     exact ⟨tc3_, tc5_⟩
 ·have c3b0 : ((l0.length : Int) == (l1.length : Int)) = false := beq_eq_false_iff_ne.mpr c3; have c3b1 : ((l0.length : Int) != (l1.length : Int)) = true := bne_iff_ne.mpr c3; have c3b2 : (l0.length == l1.length) = false := tc83_; obtain rfl := Option.some.inj H; go_enter Try.func8, Try.ntmps8; go_wp2
  repeat (go_quiet (fail); try go_wp2)
  go_ret
  exact ⟨tc3_, tc5_⟩

/-! ### spec_DrawAllDescending: function 9 -/
def spec_DrawAllDescending.f (l0 : List Int) : Option (Int) := (spec_l1Cur_side.f l0 0 0 4).bind fun bt102 => (some bt102.1)
theorem spec_DrawAllDescending.calls (A0 : Option Addr) (c0 : Nat) (l0 : List Int) (r : Int) (w : World) (hr0 : Kd.C (Kd.int .u8) w A0 l0.length l0) (hc0 : l0.length ≤ c0) (h : spec_DrawAllDescending.f l0 = some r) :
  Calls Try.prog 9 #[.slice A0 l0.length c0] w fun e w' => e = .returned (.int .i64 r) ∧ Below w.heap.size w w' := by
 have hu42 := Try.underlying42; have HR0 := am_ hr0; have HC0 := am_ hc0; clear hr0 hc0; have HB := am_ (Below.refl w.heap.size w); (try unfold spec_DrawAllDescending.f at h); have H := h; clear h; replace H := Option.bind_eq_some_iff.mp H; obtain ⟨⟨t102, t103, t104⟩, A20, H⟩ := H; (try dsimp only at H); have A2 := am_ A20; clear A20; obtain rfl := Option.some.inj H; go_enter Try.func9, Try.ntmps9
 go_wp2_with (first | ((with_reducible refine gate_dst (N := 6) rfl ?_); refine box_event ?hg (N := 6) ?hd (cs := #[.slice A0 l0.length c0, .int .i64 0, .int .u64 0]) (t := 42) ?hr ?_; (case hd => rfl); (case hg => rfl); (case hr => exact tc36_); intro gb101 hg w3 hbox hb; have GW101 := am_ ((by rw [hg]; exact (below_size tc0_) : w.heap.size ≤ gb101)); have GE101 := am_ ((by rw [hg]; exact (below_size tc0_) : w.heap.size ≤ gb101)); have HI101 := am_ ((show IsS42 w w3 gb101 l0 0 0 from ⟨A0, c0, hbox, (by rw [hg]; exact (below_size tc0_) : w.heap.size ≤ gb101), HR0.out⟩)); replace HB := am_ (below_step tc0_ hb); clear hb hbox hg) | (refine gc_ (some 8) Try.func20 #[.pointer (some ⟨gb101, 0, none⟩), .int .i64 4] ?_; (with_reducible refine (spec_l1Cur_side.calls gb101 l0 0 0 4 t102 t103 t104 w _ ?side1 ?side2 A2.out).mono ?_); (case side1 => exact tc20_); (case side2 => exact tc12_); rintro e w4 ⟨rfl, hi, hb, hk⟩; refine ⟨_, rfl, ?_⟩; replace HB := am_ (hb); replace HI101 := am_ (hi); (try clear hb hk hi)))
 go_ret
 exact ⟨tc4_, tc12_⟩

/-! ### spec_AllDescending: function 11 -/
def spec_AllDescending.l0 : Nat → List Tb_ → List Tb_ → Int → Int → Option ((List Tb_) × Bool)
 | 0, _, _, _, _ => none
 | k + 1, x4, x11, x12, x13 => if x13 < x12 then (if 0 ≤ x13 then (if x13 < (x11.length : Int) then ((spec_dpOwn.f k (rd_L4 x11 x13)).bind fun t106 => (if x4.length < 5864062014805 then (spec_AllDescending.l0 k (x4 ++ [t106]) x11 x12 (wrap64 (x13 + 1))) else (none))) else (none)) else (none)) else (some (x4, true))
def spec_AllDescending.f (k : Nat) (a0 : Int) : Option ((List Tb_) × Bool) := (spec_dpSmall.f a0).bind fun t101 => (if t101 = true then ((spec_dpAll.f k ([] : Tb_) a0).bind fun t102 => (spec_AllDescending.l0 k ([] : List Tb_) t102 (t102.length : Int) 0)) else (some (([] : List Tb_), false)))
theorem spec_AllDescending.mono_l : ∀ k, (∀ y0 y1 y2 y3, LeO (spec_AllDescending.l0 k y0 y1 y2 y3) (spec_AllDescending.l0 (k + 1) y0 y1 y2 y3))
 | 0 => fun _ _ _ _ r h => by simp [spec_AllDescending.l0] at h
 | k + 1 => by
  have ih0 := spec_AllDescending.mono_l k
  ·intro y0 y1 y2 y3; unfold spec_AllDescending.l0
   repeat' first
   | (with_reducible exact ih0 _ _ _ _)
   | (with_reducible exact spec_dpAll.mono _ _ _)
   | (with_reducible exact spec_dpOwn.mono _ _)
   | (with_reducible exact LeO.refl _)
   | (with_reducible exact LeO.none _)
   | (with_reducible refine LeO.ite ?_ ?_)
   | (with_reducible refine LeO.bind ?_ (fun _ => ?_))
   | exact ih0 _ _ _ _
   | exact spec_dpAll.mono _ _ _
   | exact spec_dpOwn.mono _ _
   | exact LeO.none _
   | refine LeO.ite ?_ ?_
   | refine LeO.bind ?_ (fun _ => ?_)
theorem spec_AllDescending.mono : ∀ a0  k, LeO (spec_AllDescending.f k a0) (spec_AllDescending.f (k + 1) a0) := by
 intro a0 k; have ih0 := spec_AllDescending.mono_l k; unfold spec_AllDescending.f
 repeat' first
   | (with_reducible exact ih0 _ _ _ _)
   | (with_reducible exact spec_dpAll.mono _ _ _)
   | (with_reducible exact spec_dpOwn.mono _ _)
   | (with_reducible exact LeO.refl _)
   | (with_reducible exact LeO.none _)
   | (with_reducible refine LeO.ite ?_ ?_)
   | (with_reducible refine LeO.bind ?_ (fun _ => ?_))
   | exact ih0 _ _ _ _
   | exact spec_dpAll.mono _ _ _
   | exact spec_dpOwn.mono _ _
   | exact LeO.none _
   | refine LeO.ite ?_ ?_
   | refine LeO.bind ?_ (fun _ => ?_)
theorem spec_AllDescending.calls (k : Nat) (a0 : Int) (r1 : List Tb_) (r2 : Bool) (w : World) (h : spec_AllDescending.f k a0 = some (r1, r2)) :
  Calls Try.prog 11 #[.int .i64 a0] w fun e w' => ∃ v0_ : Value, e = .returned (.tuple #[v0_, .bool r2]) ∧ Kd.N (Kd.slice 46 (Kd.slice 3 (Kd.int .i64))) 26 w' w.heap.size (fun k_ => (w.heap.size ≤ k_)) v0_ r1 ∧ Below w.heap.size w w' := by
 have HB := am_ (Below.refl w.heap.size w); (try unfold spec_AllDescending.f at h); have H := h; clear h; replace H := bd_ H; obtain ⟨t101, A2, H⟩ := H; (try dsimp only at H)
 by_cases c3 : t101 = true
 ·subst c3; have H1 : ((spec_dpAll.f k ([] : Tb_) a0).bind fun t102 => (spec_AllDescending.l0 k ([] : List Tb_) t102 (t102.length : Int) 0)) = some (r1, r2) := tc19_; clear H; have H := H1; clear H1; replace H := bd_ H; obtain ⟨t102, A4, H⟩ := H; (try dsimp only at H); have H' := am_ H; clear H; go_enter Try.func11, Try.ntmps11
  go_wp2_with (first | (refine gc_ (some 8) Try.func25 #[.int .i64 a0] ?_; (with_reducible refine (spec_dpSmall.calls a0 true _ A2.out).mono ?_); rintro e w' ⟨rfl, ⟨nd, rfl⟩⟩; refine ⟨_, rfl, ?_⟩) | (refine gc_ (some 11) Try.func26 #[.slice none 0 0, .int .i64 a0] ?_; (refine (spec_dpAll.calls k (fun k_ => False) _ _ ([] : Tb_) a0 t102 _ ?side1 A4.out).mono ?_); (case side1 => exact Kd.V_nil _ _ _ _ _); rintro e w5 ⟨v103, rfl, ho0, hb⟩; refine ⟨_, rfl, ?_⟩; have HO104 := am_ (Kd.N_lower (Kd.N_mono (ok' := fun k_ => (w.heap.size ≤ k_)) ho0 (fun k_ hk_ => Or.elim hk_ (fun hs_ => (hs_).elim) (fun hn_ => (Nat.le_trans (below_size tc0_) hn_)))) (below_size tc0_)); replace HB := am_ (below_step tc0_ hb); (try clear hb ho0); obtain ⟨Ao6, co6, eo6⟩ := Kd.N_slice HO104.out; subst eo6))
  go_loopg [4, 13] k (fun kq v4 v13 w' => ∃ (x4_1 : List Tb_) (x13_1 : Int), v13 = .int .i64 x13_1 ∧ Aside0 (spec_AllDescending.l0 kq x4_1 t102 (t102.length : Int) x13_1 = some (r1, r2)) ∧ Aside0 (kq ≤ k) ∧ Aside0 (Kd.N (Kd.slice 46 (Kd.slice 3 (Kd.int .i64))) 26 w' w.heap.size (fun k_ => (w.heap.size ≤ k_) ∧ some k_ ≠ ((.slice Ao6 t102.length co6) : Value).ownBlock) v4 x4_1) ∧ Aside0 (Kd.N (Kd.slice 46 (Kd.slice 3 (Kd.int .i64))) 26 w' w.heap.size (fun k_ => (w.heap.size ≤ k_) ∧ some k_ ≠ (v4 : Value).ownBlock) (.slice Ao6 t102.length co6) t102) ∧ Aside0 (Below w.heap.size w w'))
  case atStart => exact ⟨(([] : List Tb_)), (0), tc3_, H', ⟨Nat.le_refl _⟩, ⟨tc42_⟩, ⟨(by (with_reducible repeat (first | apply Kd.N_alloc | apply Kd.N_drewN | apply Kd.N_drew)); exact Kd.N_mono HO104.out (fun _ hk => ⟨hk, (by simp [Value.ownBlock])⟩))⟩, ⟨tc0_⟩⟩
  case round =>
   clear H'; (try clear c1); (try clear c2); (try clear p2); (try clear c3); obtain ⟨x4_1, x13_1, rfl, HA, HK1, HO_4, HO_11, HB⟩ := hrel
   cases gk with
   | zero => exact absurd HA.out (by simp [spec_AllDescending.l0])
   | succ k1 =>
    have H := HA.out; clear HA; simp only [spec_AllDescending.l0] at H
    replace H := sp_ H; obtain ⟨c7b0, H⟩ | ⟨c7b0, H⟩ := H
    ·replace H := ps_ H; obtain ⟨c8b0, H⟩ := H; replace H := ps_ H; obtain ⟨c9b0, H⟩ := H; replace H := bd_ H; obtain ⟨t106, A10, H⟩ := H; (try dsimp only at H); replace H := pp_ H; obtain ⟨c11, H⟩ := H; have LMc11 := am_ c11; clear c11; obtain ⟨y109, hy109⟩ : ∃ y_ : List Tb_, y_ = (x4_1 ++ [t106]) := ⟨_, rfl⟩; replace H : (spec_AllDescending.l0 k1 y109 t102 (t102.length : Int) (wrap64 (x13_1 + 1))) = some (r1, r2) := tc34_; have Ny109 := am_ hy109; clear hy109; have H' := am_ H; clear H; have p105 : 0 ≤ (x13_1 : Int) := od_; have q105 : x13_1 < (t102.length : Int) := od_; obtain ⟨ad105, A105_0, c105_0, e105, hx105_0, hl105_0, hi105_0⟩ := at_L4 (Kd.N_reads' HO_11.out).2.2 x13_1 p105 q105; cases e105; obtain ⟨ce105, hce105, hMe105, hcc105⟩ := Kd.N_get HO_11.out [] x13_1 p105 (by first | exact q105 | exact od_ | (have e_ := (Kd.N_reads' HO_11.out).1; omega)); obtain ⟨ua105_0, uc105_0, rfl, ul105_0, ge105_0⟩ := Kd.FK_slice_open hMe105; have hv105_0 := hcc105 0 _ rfl; rw [Nat.add_zero, show ((Kd.slice 46 (Kd.slice 3 (Kd.int .i64)))).sz = 1 from rfl, Nat.mul_one] at hv105_0; replace hv105_0 := Option.some.inj (hv105_0.symm.trans hx105_0)
     injection hv105_0 with hva_ hvn_ hvc_
     rw [hva_] at ge105_0; rw [hvc_] at ul105_0; have HL105_0 := am_ (show Kd.V (Kd.slice 3 (Kd.int .i64)) 46 _ w.heap.size _ _ (rd_L4 t102 x13_1) from Kd.V_mk ul105_0 ge105_0); clear hva_ hvn_ hvc_ ge105_0 ul105_0; clear hcc105 hce105; have HR105_0 := am_ hi105_0; have HC105_0 := am_ hl105_0; clear hi105_0 hl105_0; replace p105 := eq_true p105; replace q105 := eq_true q105
     go_wp2_with (first | (refine gc_ (some 19) Try.func28 #[.slice A105_0 (rd_L4 t102 x13_1).length c105_0] ?_; (with_reducible refine (spec_dpOwn.calls k1 _ _ (rd_L4 t102 x13_1) t106 _ ?side1 ?side2 A10.out).mono ?_); (case side1 => repeat (first | exact tc41_ | (with_reducible refine Kd.C_alloc ?_ _) | (with_reducible refine Kd.C_drewN ?_ _) | (with_reducible refine Kd.C_drew ?_))); (case side2 => exact HC105_0.out); rintro e w12 ⟨v107, rfl, ho0, hb⟩; refine ⟨_, rfl, ?_⟩; have n0_ := am_ (Kd.N_elder' (by (with_reducible repeat (first | apply Kd.N_alloc | apply Kd.N_drewN | apply Kd.N_drew)); exact HO_4.out) (Kd.S_base ho0) hb); have n1_ := am_ (Kd.N_elder' tc66_ (Kd.S_base ho0) hb); have n2_ := am_ (Kd.V_elder' (by (with_reducible repeat (first | apply Kd.V_alloc | apply Kd.V_drewN | apply Kd.V_drew)); exact HL105_0.out) (Kd.S_base ho0) hb); have n3_ := am_ (Kd.N_lower (Kd.N_mono (ok' := fun k_ => (w.heap.size ≤ k_) ∧ some k_ ≠ (u4 : Value).ownBlock ∧ some k_ ≠ (.slice (some ad105) t102.length co6 : Value).ownBlock) (Kd.S_N (Kd.S_bound ho0)) (fun k_ hk_ => ⟨(Nat.le_trans (below_size tc0_) hk_.2.1), (Kd.fresh' (Kd.N_lt (by (with_reducible repeat (first | apply Kd.N_alloc | apply Kd.N_drewN | apply Kd.N_drew)); exact HO_4.out)) k_ hk_.2.1), (Kd.fresh' (Kd.N_lt tc66_) k_ hk_.2.1)⟩)) (below_size tc0_)); have n4_ := am_ (Kd.C_below tc41_ hb); have n5_ := am_ (below_step tc0_ hb); clear HO_4 HO_11; clear HL105_0 HR105_0 HB; have HO_4 := n0_; have HO_11 := n1_; have HL105_0 := n2_; have HO108 := n3_; have HR105_0 := n4_; have HB := n5_; clear n0_ n1_ n2_ n3_ n4_ n5_; (try clear hb ho0); obtain ⟨Ao14, co14, eo14⟩ := Kd.N_slice HO108.out; subst eo14) | ((with_reducible refine gate_builtin (b := .append) (xs := #[.tmp 17, .tmp 20]) rfl ?_); at_builtin; refine Kd.N_append (Kd.slice 46 (Kd.slice 3 (Kd.int .i64))) (w0 := w) w.heap.size rfl (.tmp 17) (.tmp 20) 31 26 (.slice none 0 0) 24 rfl Try.underlying31 info26 rfl (by decide) (by omega) u4 x4_1 t106 [.slice Ao14 t106.length co14] (fun k_ => (w.heap.size ≤ k_) ∧ some k_ ≠ (.slice (some ad105) t102.length co6 : Value).ownBlock) (fun k_ => ((fun k_ => (w.heap.size ≤ k_) ∧ some k_ ≠ (.slice (some ad105) t102.length co6 : Value).ownBlock)) k_ ∧ some k_ ≠ (u4 : Value).ownBlock) rfl rfl ?aP (fun _ hk => hk) ?aF ?aO ?aB ?aS ?aL ?_; (case aP => exact (Kd.FK_slice_mk (Kd.N_reads' (Kd.N_mono (ok' := (fun k_ => ((fun k_ => (w.heap.size ≤ k_) ∧ some k_ ≠ (.slice (some ad105) t102.length co6 : Value).ownBlock)) k_ ∧ some k_ ≠ (u4 : Value).ownBlock)) (HO108.out) (fun k_ hk => ⟨⟨hk.1, hk.2.2⟩, hk.2.1⟩))).2.1 (Kd.N_F (Kd.N_mono (ok' := (fun k_ => ((fun k_ => (w.heap.size ≤ k_) ∧ some k_ ≠ (.slice (some ad105) t102.length co6 : Value).ownBlock)) k_ ∧ some k_ ≠ (u4 : Value).ownBlock)) (HO108.out) (fun k_ hk => ⟨⟨hk.1, hk.2.2⟩, hk.2.1⟩))))); (case aB => exact tc6_); (case aF => exact (fun k_ hk => ⟨(Nat.le_trans (below_size tc0_) hk), Kd.fresh' (Kd.N_lt tc66_) k_ hk⟩)); (case aO => exact (by (with_reducible repeat (first | apply Kd.N_alloc | apply Kd.N_drewN | apply Kd.N_drew)); exact Kd.N_mono HO_4.out (fun _ hk => ⟨hk.1.1, hk.1.2⟩))); (case aS => exact tc11_); (case aL => have := LMc11.out; omega); intro v110 w13 ho hb hg hat; rw [← Ny109.out] at ho; have n0_ := am_ (Kd.N_afterv (ok := (fun k_ => (w.heap.size ≤ k_) ∧ some k_ ≠ (.slice Ao14 t106.length co14 : Value).ownBlock)) (by (with_reducible repeat (first | apply Kd.N_alloc | apply Kd.N_drewN | apply Kd.N_drew)); exact Kd.N_mono HO_11.out (fun _ hk => ⟨⟨hk.1.1, hk.2⟩, hk.1.2⟩)) hg hat); have n1_ := am_ (Kd.V_afterv (ok := (fun k_ => (w.heap.size ≤ k_) ∧ some k_ ≠ (.slice (some ad105) t102.length co6 : Value).ownBlock ∧ some k_ ≠ (.slice Ao14 t106.length co14 : Value).ownBlock)) (by (with_reducible repeat (first | apply Kd.V_alloc | apply Kd.V_drewN | apply Kd.V_drew)); exact Kd.V_mono HL105_0.out (fun _ hk => ⟨⟨hk.1.1.1, ⟨hk.1.2, hk.2⟩⟩, hk.1.1.2⟩)) hg hat); have n2_ := am_ (hb); have n3_ := am_ (ho); clear HO_11 HL105_0; clear HB HO_4 HO108; have HO_11 := n0_; have HL105_0 := n1_; have HB := n2_; have HO111 := n3_; clear n0_ n1_ n2_ n3_; clear ho hb hg hat))
     go_roundg k1
     case measure => have := HK1.out; omega
     case rel => exact ⟨(y109), (wrap64 (x13_1 + 1)), tc3_, H', ⟨tc40_⟩, ⟨(by (with_reducible repeat (first | apply Kd.N_alloc | apply Kd.N_drewN | apply Kd.N_drew)); exact HO111.out)⟩, ⟨(by (with_reducible repeat (first | apply Kd.N_alloc | apply Kd.N_drewN | apply Kd.N_drew)); exact Kd.N_mono HO_11.out (fun _ hk => ⟨hk.1.1, hk.2⟩))⟩, ⟨tc0_⟩⟩
    ·simp only [Option.some.injEq, Prod.mk.injEq] at H; obtain ⟨rfl, rfl⟩ := H; go_wp2
     go_ret2
     exact ⟨_, tc4_, (by (with_reducible repeat (first | apply Kd.N_alloc | apply Kd.N_drewN | apply Kd.N_drew)); exact Kd.N_mono HO_4.out (fun _ hk => hk.1)), tc0_⟩
 ·replace c3 := Bool.eq_false_iff.mpr c3; subst c3; have H1 : (some (([] : List Tb_), false)) = some (r1, r2) := tc8_; clear H; have H := H1; clear H1; simp only [Option.some.injEq, Prod.mk.injEq] at H; obtain ⟨rfl, rfl⟩ := H; go_enter Try.func11, Try.ntmps11
  go_wp2_with (first | (refine gc_ (some 8) Try.func25 #[.int .i64 a0] ?_; (with_reducible refine (spec_dpSmall.calls a0 false _ A2.out).mono ?_); rintro e w' ⟨rfl, ⟨nd, rfl⟩⟩; refine ⟨_, rfl, ?_⟩))
  go_ret2
  exact ⟨_, tc4_, tc42_, tc0_⟩

/-! ### impl_CountDescending: function 12 -/
def impl_CountDescending.f (k : Nat) (a0 : Int) : Option (Int × Bool) := (impl_within.f a0 1 5).bind fun t101 => (if t101 = true then ((impl_descending.f k a0).bind fun t102 => (some ((t102.length : Int), true))) else (some (0, false)))
theorem impl_CountDescending.mono : ∀ a0  k, LeO (impl_CountDescending.f k a0) (impl_CountDescending.f (k + 1) a0) := by
 intro a0 k; unfold impl_CountDescending.f
 repeat' first
   | (with_reducible exact impl_descending.mono _ _)
   | (with_reducible exact LeO.refl _)
   | (with_reducible exact LeO.none _)
   | (with_reducible refine LeO.ite ?_ ?_)
   | (with_reducible refine LeO.bind ?_ (fun _ => ?_))
   | exact impl_descending.mono _ _
   | exact LeO.none _
   | refine LeO.ite ?_ ?_
   | refine LeO.bind ?_ (fun _ => ?_)
theorem impl_CountDescending.calls (k : Nat) (a0 : Int) (r1 : Int) (r2 : Bool) (w : World) (h : impl_CountDescending.f k a0 = some (r1, r2)) :
  Calls Try.prog 12 #[.int .i64 a0] w fun e w' => e = .returned (.tuple #[.int .i64 r1, .bool r2]) ∧ Below w.heap.size w w' := by
 have HB := am_ (Below.refl w.heap.size w); (try unfold impl_CountDescending.f at h); have H := h; clear h; replace H := bd_ H; obtain ⟨t101, A2, H⟩ := H; (try dsimp only at H)
 by_cases c3 : t101 = true
 ·subst c3; have H1 : ((impl_descending.f k a0).bind fun t102 => (some ((t102.length : Int), true))) = some (r1, r2) := tc19_; clear H; have H := H1; clear H1; replace H := bd_ H; obtain ⟨t102, A4, H⟩ := H; (try dsimp only at H); simp only [Option.some.injEq, Prod.mk.injEq] at H; obtain ⟨rfl, rfl⟩ := H; go_enter Try.func12, Try.ntmps12
  go_wp2_with (first | (refine gc_ (some 5) Try.func24 #[.int .i64 a0, .int .i64 1, .int .i64 5] ?_; (with_reducible refine (impl_within.calls a0 1 5 true _ A2.out).mono ?_); rintro e w' ⟨rfl, ⟨nd, rfl⟩⟩; refine ⟨_, rfl, ?_⟩) | (refine gc_ (some 8) Try.func30 #[.int .i64 a0] ?_; (with_reducible refine (impl_descending.calls k a0 t102 _ A4.out).mono ?_); rintro e w5 ⟨v103, rfl, ho0, hb⟩; refine ⟨_, rfl, ?_⟩; have HO104 := am_ (Kd.N_lower (Kd.N_mono (ok' := fun k_ => True) ho0 (fun k_ hk_ => trivial)) (below_size tc0_)); replace HB := am_ (below_step tc0_ hb); (try clear hb ho0); obtain ⟨Ao6, co6, eo6⟩ := Kd.N_slice HO104.out; subst eo6))
  go_ret2
  exact ⟨tc4_, tc0_⟩
 ·replace c3 := Bool.eq_false_iff.mpr c3; subst c3; have H1 : (some (0, false)) = some (r1, r2) := tc8_; clear H; have H := H1; clear H1; simp only [Option.some.injEq, Prod.mk.injEq] at H; obtain ⟨rfl, rfl⟩ := H; go_enter Try.func12, Try.ntmps12
  go_wp2_with (first | (refine gc_ (some 5) Try.func24 #[.int .i64 a0, .int .i64 1, .int .i64 5] ?_; (with_reducible refine (impl_within.calls a0 1 5 false _ A2.out).mono ?_); rintro e w' ⟨rfl, ⟨nd, rfl⟩⟩; refine ⟨_, rfl, ?_⟩))
  go_ret2
  exact ⟨tc4_, tc0_⟩

/-! ### spec_CountDescending: function 13 -/
def spec_CountDescending.f (k : Nat) (a0 : Int) : Option (Int × Bool) := (spec_l1In.f a0 1 5).bind fun t101 => (if t101 = true then ((spec_dpAll.f k ([] : Tb_) a0).bind fun t102 => (some ((t102.length : Int), true))) else (some (0, false)))
theorem spec_CountDescending.mono : ∀ a0  k, LeO (spec_CountDescending.f k a0) (spec_CountDescending.f (k + 1) a0) := by
 intro a0 k; unfold spec_CountDescending.f
 repeat' first
   | (with_reducible exact spec_dpAll.mono _ _ _)
   | (with_reducible exact LeO.refl _)
   | (with_reducible exact LeO.none _)
   | (with_reducible refine LeO.ite ?_ ?_)
   | (with_reducible refine LeO.bind ?_ (fun _ => ?_))
   | exact spec_dpAll.mono _ _ _
   | exact LeO.none _
   | refine LeO.ite ?_ ?_
   | refine LeO.bind ?_ (fun _ => ?_)
theorem spec_CountDescending.calls (k : Nat) (a0 : Int) (r1 : Int) (r2 : Bool) (w : World) (h : spec_CountDescending.f k a0 = some (r1, r2)) :
  Calls Try.prog 13 #[.int .i64 a0] w fun e w' => e = .returned (.tuple #[.int .i64 r1, .bool r2]) ∧ Below w.heap.size w w' := by
 have HB := am_ (Below.refl w.heap.size w); (try unfold spec_CountDescending.f at h); have H := h; clear h; replace H := bd_ H; obtain ⟨t101, A2, H⟩ := H; (try dsimp only at H)
 by_cases c3 : t101 = true
 ·subst c3; have H1 : ((spec_dpAll.f k ([] : Tb_) a0).bind fun t102 => (some ((t102.length : Int), true))) = some (r1, r2) := tc19_; clear H; have H := H1; clear H1; replace H := bd_ H; obtain ⟨t102, A4, H⟩ := H; (try dsimp only at H); simp only [Option.some.injEq, Prod.mk.injEq] at H; obtain ⟨rfl, rfl⟩ := H; go_enter Try.func13, Try.ntmps13
  go_wp2_with (first | (refine gc_ (some 5) Try.func27 #[.int .i64 a0, .int .i64 1, .int .i64 5] ?_; (with_reducible refine (spec_l1In.calls a0 1 5 true _ A2.out).mono ?_); rintro e w' ⟨rfl, ⟨nd, rfl⟩⟩; refine ⟨_, rfl, ?_⟩) | (refine gc_ (some 8) Try.func26 #[.slice none 0 0, .int .i64 a0] ?_; (refine (spec_dpAll.calls k (fun k_ => False) _ _ ([] : Tb_) a0 t102 _ ?side1 A4.out).mono ?_); (case side1 => exact Kd.V_nil _ _ _ _ _); rintro e w5 ⟨v103, rfl, ho0, hb⟩; refine ⟨_, rfl, ?_⟩; have HO104 := am_ (Kd.N_lower (Kd.N_mono (ok' := fun k_ => True) ho0 (fun k_ hk_ => trivial)) (below_size tc0_)); replace HB := am_ (below_step tc0_ hb); (try clear hb ho0); obtain ⟨Ao6, co6, eo6⟩ := Kd.N_slice HO104.out; subst eo6))
  go_ret2
  exact ⟨tc4_, tc0_⟩
 ·replace c3 := Bool.eq_false_iff.mpr c3; subst c3; have H1 : (some (0, false)) = some (r1, r2) := tc8_; clear H; have H := H1; clear H1; simp only [Option.some.injEq, Prod.mk.injEq] at H; obtain ⟨rfl, rfl⟩ := H; go_enter Try.func13, Try.ntmps13
  go_wp2_with (first | (refine gc_ (some 5) Try.func27 #[.int .i64 a0, .int .i64 1, .int .i64 5] ?_; (with_reducible refine (spec_l1In.calls a0 1 5 false _ A2.out).mono ?_); rintro e w' ⟨rfl, ⟨nd, rfl⟩⟩; refine ⟨_, rfl, ?_⟩))
  go_ret2
  exact ⟨tc4_, tc0_⟩

/-! ### impl_isDescended: function 31 -/
def impl_isDescended.f (a0 : Int) : Option (Bool) := (impl_within.f a0 1 6).bind fun t101 => (some t101)
theorem impl_isDescended.calls (a0 : Int) (r : Bool) (w : World) (h : impl_isDescended.f a0 = some r) :
  Calls Try.prog 31 #[.int .i64 a0] w fun e w' => e = .returned (.bool r) ∧ Drawn0 w w' := by
 (try unfold impl_isDescended.f at h); have H := h; clear h; replace H := bd_ H; obtain ⟨t101, A2, H⟩ := H; (try dsimp only at H); obtain rfl := Option.some.inj H; go_enter Try.func31, Try.ntmps31
 go_wp2_with (first | (refine gc_ (some 4) Try.func24 #[.int .i64 a0, .int .i64 1, .int .i64 6] ?_; (with_reducible refine (impl_within.calls a0 1 6 t101 _ A2.out).mono ?_); rintro e w' ⟨rfl, ⟨nd, rfl⟩⟩; refine ⟨_, rfl, ?_⟩))
 go_ret
 exact ⟨tc3_, tc5_⟩

/-! ### slices_IndexFunc_int_int_71: function 71 -/
def slices_IndexFunc_int_int_71.l0 : Nat → List Int → (Int → Option Bool) → Int → Int → Option (Int)
 | 0, _, _, _, _ => none
 | k + 1, x0, x1, x7, x8 => if x8 < x7 then (if 0 ≤ x8 then (if x8 < (x0.length : Int) then ((x1 (rd x0 x8)).bind fun t102 => (if t102 = true then (some x8) else (slices_IndexFunc_int_int_71.l0 k x0 x1 x7 (wrap64 (x8 + 1))))) else (none)) else (none)) else (some (-1))
def slices_IndexFunc_int_int_71.f (k : Nat) (l0 : List Int) (a1 : (Int → Option Bool)) : Option (Int) := slices_IndexFunc_int_int_71.l0 k l0 a1 (l0.length : Int) 0
theorem slices_IndexFunc_int_int_71.mono_l : ∀ k, (∀ y0 y1 y1' y2 y3 (hy1 : ∀ z0, LeO (y1 z0) (y1' z0)), LeO (slices_IndexFunc_int_int_71.l0 k y0 y1 y2 y3) (slices_IndexFunc_int_int_71.l0 (k + 1) y0 y1' y2 y3))
 | 0 => fun _ _ _ _ _ _ r h => by simp [slices_IndexFunc_int_int_71.l0] at h
 | k + 1 => by
  have ih0 := slices_IndexFunc_int_int_71.mono_l k
  ·intro y0 y1 y1' y2 y3 hy1; unfold slices_IndexFunc_int_int_71.l0
   repeat' first
   | (with_reducible exact ih0 _ _ _ _ _ hy1)
   | (with_reducible exact hy1 _)
   | (with_reducible exact LeO.refl _)
   | (with_reducible exact LeO.none _)
   | (with_reducible refine LeO.ite ?_ ?_)
   | (with_reducible refine LeO.bind ?_ (fun _ => ?_))
   | exact ih0 _ _ _ _ _ hy1
   | exact hy1 _
   | exact LeO.none _
   | refine LeO.ite ?_ ?_
   | refine LeO.bind ?_ (fun _ => ?_)
theorem slices_IndexFunc_int_int_71.mono : ∀ a0 a1 a1' (ha1 : ∀ z0, LeO (a1 z0) (a1' z0)) k, LeO (slices_IndexFunc_int_int_71.f k a0 a1) (slices_IndexFunc_int_int_71.f (k + 1) a0 a1') := by
 intro a0 a1 a1' ha1 k; have ih0 := slices_IndexFunc_int_int_71.mono_l k; unfold slices_IndexFunc_int_int_71.f
 repeat' first
   | (with_reducible exact ih0 _ _ _ _ _ ha1)
   | (with_reducible exact ha1 _)
   | (with_reducible exact LeO.refl _)
   | (with_reducible exact LeO.none _)
   | (with_reducible refine LeO.ite ?_ ?_)
   | (with_reducible refine LeO.bind ?_ (fun _ => ?_))
   | exact ih0 _ _ _ _ _ ha1
   | exact ha1 _
   | exact LeO.none _
   | refine LeO.ite ?_ ?_
   | refine LeO.bind ?_ (fun _ => ?_)
theorem slices_IndexFunc_int_int_71.calls (k : Nat) (A0 : Option Addr) (c0 : Nat) (l0 : List Int) (g1 : Nat) (b1 : Array Value) (a1 : (Int → Option Bool)) (r : Int) (w : World) (hr0 : Kd.C (Kd.int .i64) w A0 l0.length l0) (hc0 : l0.length ≤ c0) (hf1 : Fn1 (Kd.int .i64) Value.bool Try.prog g1 b1 a1 w) (h : slices_IndexFunc_int_int_71.f k l0 a1 = some r) :
  Calls Try.prog 71 #[.slice A0 l0.length c0, .func (.func g1) #[] b1] w fun e w' => e = .returned (.int .i64 r) ∧ Below w.heap.size w w' := by
 have HR0 := am_ hr0; have HC0 := am_ hc0; clear hr0 hc0; have HF1 := am_ hf1.cl; have eg1 := hf1.eg; clear hf1; have HB := am_ (Below.refl w.heap.size w); (try unfold slices_IndexFunc_int_int_71.f at h); have H := h; clear h; have H' := am_ H; clear H; go_enter Try.func71, Try.ntmps71; go_wp2
 go_loopg [8] k (fun kq v8 w' => ∃ (x8_1 : Int), v8 = .int .i64 x8_1 ∧ Aside0 (slices_IndexFunc_int_int_71.l0 kq l0 a1 (l0.length : Int) x8_1 = some r) ∧ Aside0 (kq ≤ k) ∧ Aside0 (Below w.heap.size w w'))
 case atStart => exact ⟨(0), tc3_, H', ⟨Nat.le_refl _⟩, ⟨tc0_⟩⟩
 case round =>
  clear H'; (try clear p2); obtain ⟨x8_1, rfl, HA, HK1, HB⟩ := hrel
  cases gk with
  | zero => exact absurd HA.out (by simp [slices_IndexFunc_int_int_71.l0])
  | succ k1 =>
   have H := HA.out; clear HA; simp only [slices_IndexFunc_int_int_71.l0] at H
   replace H := sp_ H; obtain ⟨c3b0, H⟩ | ⟨c3b0, H⟩ := H
   ·replace H := ps_ H; obtain ⟨c4b0, H⟩ := H; replace H := ps_ H; obtain ⟨c5b0, H⟩ := H; replace H := bd_ H; obtain ⟨t102, A6, H⟩ := H; (try dsimp only at H)
    by_cases c7 : t102 = true
    ·subst c7; have H1 : (some x8_1) = some r := tc19_; clear H; have H := H1; clear H1; obtain rfl := Option.some.inj H; have p101 : 0 ≤ (x8_1 : Int) := od_; have q101 : x8_1 < (l0.length : Int) := od_; obtain ⟨ad101, e101, hx101_0⟩ := Kd.at_int HR0.out x8_1 p101 q101; cases e101; replace hx101_0 := (HB.out.cell (World.block_lt_of_cell? w _ hx101_0)).trans hx101_0; replace p101 := eq_true p101; replace q101 := eq_true q101
     go_wp2_with (first | (go_at_fn g1; (refine (HF1.out _ ?side1 (rd l0 x8_1) _ K_int true A6.out).mono ?_); (case side1 => exact tc6_); rintro e w8 ⟨rfl, hb⟩; replace HB := am_ (below_step tc0_ hb); (try clear hb)))
     go_ret
     exact ⟨tc4_, tc0_⟩
    ·replace c7 := Bool.eq_false_iff.mpr c7; subst c7; have H1 : (slices_IndexFunc_int_int_71.l0 k1 l0 a1 (l0.length : Int) (wrap64 (x8_1 + 1))) = some r := tc8_; clear H; have H := H1; clear H1; have H' := am_ H; clear H; have p101 : 0 ≤ (x8_1 : Int) := od_; have q101 : x8_1 < (l0.length : Int) := od_; obtain ⟨ad101, e101, hx101_0⟩ := Kd.at_int HR0.out x8_1 p101 q101; cases e101; replace hx101_0 := (HB.out.cell (World.block_lt_of_cell? w _ hx101_0)).trans hx101_0; replace p101 := eq_true p101; replace q101 := eq_true q101
     go_wp2_with (first | (go_at_fn g1; (refine (HF1.out _ ?side1 (rd l0 x8_1) _ K_int false A6.out).mono ?_); (case side1 => exact tc6_); rintro e w9 ⟨rfl, hb⟩; replace HB := am_ (below_step tc0_ hb); (try clear hb)))
     go_roundg k1
     case measure => have := HK1.out; omega
     case rel => exact ⟨(wrap64 (x8_1 + 1)), tc3_, H', ⟨tc40_⟩, ⟨tc0_⟩⟩
   ·obtain rfl := Option.some.inj H; go_wp2
    go_ret
    exact ⟨tc4_, tc0_⟩

/-! ### slices_ContainsFunc_int_int: function 67 -/
def slices_ContainsFunc_int_int.f (k : Nat) (l0 : List Int) (a1 : (Int → Option Bool)) : Option (Bool) := (slices_IndexFunc_int_int_71.f k l0 a1).bind fun t101 => (some (decide (t101 ≥ 0)))
theorem slices_ContainsFunc_int_int.mono : ∀ a0 a1 a1' (ha1 : ∀ z0, LeO (a1 z0) (a1' z0)) k, LeO (slices_ContainsFunc_int_int.f k a0 a1) (slices_ContainsFunc_int_int.f (k + 1) a0 a1') := by
 intro a0 a1 a1' ha1 k; unfold slices_ContainsFunc_int_int.f
 repeat' first
   | (with_reducible exact ha1 _)
   | (with_reducible refine slices_IndexFunc_int_int_71.mono _ _ _ (fun _ => ?_) _)
   | (with_reducible exact LeO.refl _)
   | (with_reducible exact LeO.none _)
   | (with_reducible refine LeO.ite ?_ ?_)
   | (with_reducible refine LeO.bind ?_ (fun _ => ?_))
   | exact ha1 _
   | exact LeO.none _
   | refine LeO.ite ?_ ?_
   | refine LeO.bind ?_ (fun _ => ?_)
theorem slices_ContainsFunc_int_int.calls (k : Nat) (A0 : Option Addr) (c0 : Nat) (l0 : List Int) (g1 : Nat) (b1 : Array Value) (a1 : (Int → Option Bool)) (r : Bool) (w : World) (hr0 : Kd.C (Kd.int .i64) w A0 l0.length l0) (hc0 : l0.length ≤ c0) (hf1 : Fn1 (Kd.int .i64) Value.bool Try.prog g1 b1 a1 w) (h : slices_ContainsFunc_int_int.f k l0 a1 = some r) :
  Calls Try.prog 67 #[.slice A0 l0.length c0, .func (.func g1) #[] b1] w fun e w' => e = .returned (.bool r) ∧ Below w.heap.size w w' := by
 have HR0 := am_ hr0; have HC0 := am_ hc0; clear hr0 hc0; have HF1 := am_ hf1.cl; have eg1 := hf1.eg; clear hf1; have HB := am_ (Below.refl w.heap.size w); (try unfold slices_ContainsFunc_int_int.f at h); have H := h; clear h; replace H := bd_ H; obtain ⟨t101, A3, H⟩ := H; (try dsimp only at H); obtain rfl := Option.some.inj H; go_enter Try.func67, Try.ntmps67
 go_wp2_with (first | (refine gc_ (some 7) Try.func71 #[.slice A0 l0.length c0, .func (.func g1) #[] b1] ?_; (with_reducible refine (slices_IndexFunc_int_int_71.calls k _ _ l0 _ _ a1 t101 _ ?side1 ?side2 ?side3 A3.out).mono ?_); (case side1 => exact tc13_); (case side2 => exact HC0.out); (case side3 => exact Fn1.later ⟨eg1, HF1.out⟩ tc0_); rintro e w4 ⟨rfl, hb⟩; refine ⟨_, rfl, ?_⟩; replace HB := am_ (below_step tc0_ hb); (try clear hb)))
 go_ret
 exact ⟨tc4_, tc0_⟩

/-! ### impl_areWithin_1: function 68 -/
def impl_areWithin_1.f (a0 : Int) (a1_0 : Int) (a2_0 : Int) : Option (Bool) := (impl_within.f a0 a1_0 a2_0).bind fun t101 => (some (!t101))
theorem impl_areWithin_1.calls (a0 : Int) (B1 : Nat) (a1_0 : Int) (B2 : Nat) (a2_0 : Int) (r : Bool) (w : World) (hb1 : w.heap[B1]? = some (.cells #[.int .i64 a1_0] 3 (0, 0))) (hb2 : w.heap[B2]? = some (.cells #[.int .i64 a2_0] 3 (0, 0))) (h : impl_areWithin_1.f a0 a1_0 a2_0 = some r) :
  Calls Try.prog 68 #[.int .i64 a0, .pointer (some ⟨B1, 0, none⟩), .pointer (some ⟨B2, 0, none⟩)] w fun e w' => e = .returned (.bool r) ∧ Drawn0 w w' := by
 have BK61 := am_ hb1; clear hb1; have BK62 := am_ hb2; clear hb2; (try unfold impl_areWithin_1.f at h); have H := h; clear h; replace H := bd_ H; obtain ⟨t101, A4, H⟩ := H; (try dsimp only at H); obtain rfl := Option.some.inj H; have hcz5_0 : w.cell? ⟨B1, 0, none⟩ = some (.int .i64 a1_0) := (blk_cell BK61.out 0).trans rfl; have hfz5_0 := blk_frozen BK61.out 0; have hcz6_0 : w.cell? ⟨B2, 0, none⟩ = some (.int .i64 a2_0) := (blk_cell BK62.out 0).trans rfl; have hfz6_0 := blk_frozen BK62.out 0; go_enter Try.func68, Try.ntmps68
 go_wp2_with (first | (refine gc_ (some 8) Try.func24 #[.int .i64 a0, .int .i64 a1_0, .int .i64 a2_0] ?_; (with_reducible refine (impl_within.calls a0 a1_0 a2_0 t101 _ A4.out).mono ?_); rintro e w' ⟨rfl, ⟨nd, rfl⟩⟩; refine ⟨_, rfl, ?_⟩))
 go_ret
 exact ⟨tc3_, tc5_⟩

/-! ### impl_areWithin: function 63 -/
def impl_areWithin.f (k : Nat) (l0 : List Int) (a1 : Int) (a2 : Int) : Option (Bool) := (slices_ContainsFunc_int_int.f k l0 (fun x0_ => impl_areWithin_1.f x0_ a1 a2)).bind fun t103 => (some (!t103))
theorem impl_areWithin.mono : ∀ a0 a1 a2  k, LeO (impl_areWithin.f k a0 a1 a2) (impl_areWithin.f (k + 1) a0 a1 a2) := by
 intro a0 a1 a2 k; unfold impl_areWithin.f
 repeat' first
   | (with_reducible refine slices_ContainsFunc_int_int.mono _ _ _ (fun _ => ?_) _)
   | (with_reducible exact LeO.refl _)
   | (with_reducible exact LeO.none _)
   | (with_reducible refine LeO.ite ?_ ?_)
   | (with_reducible refine LeO.bind ?_ (fun _ => ?_))
   | exact LeO.none _
   | refine LeO.ite ?_ ?_
   | refine LeO.bind ?_ (fun _ => ?_)
theorem impl_areWithin.calls (k : Nat) (A0 : Option Addr) (c0 : Nat) (l0 : List Int) (a1 : Int) (a2 : Int) (r : Bool) (w : World) (hr0 : Kd.C (Kd.int .i64) w A0 l0.length l0) (hc0 : l0.length ≤ c0) (h : impl_areWithin.f k l0 a1 a2 = some r) :
  Calls Try.prog 63 #[.slice A0 l0.length c0, .int .i64 a1, .int .i64 a2] w fun e w' => e = .returned (.bool r) ∧ Below w.heap.size w w' := by
 have HR0 := am_ hr0; have HC0 := am_ hc0; clear hr0 hc0; have HB := am_ (Below.refl w.heap.size w); (try unfold impl_areWithin.f at h); have H := h; clear h; replace H := bd_ H; obtain ⟨t103, A4, H⟩ := H; (try dsimp only at H); obtain rfl := Option.some.inj H; go_enter Try.func63, Try.ntmps63
 go_wp2_with (first | ((with_reducible refine gate_dst (N := 4) rfl ?_); refine box_event ?hg (N := 4) ?hd (cs := #[.int .i64 a1]) (t := 3) ?hr ?_; (case hd => rfl); (case hg => rfl); (case hr => exact tc36_); intro gb101 hg w5 hbox hb; have BK101 := am_ (hbox); have GW101 := am_ ((by rw [hg]; exact (below_size tc0_) : w.heap.size ≤ gb101)); have GE101 := am_ ((by rw [hg]; exact (below_size tc0_) : w.heap.size ≤ gb101)); replace HB := am_ (below_step tc0_ hb); clear hb hbox hg) | ((with_reducible refine gate_dst (N := 5) rfl ?_); refine box_event ?hg (N := 5) ?hd (cs := #[.int .i64 a2]) (t := 3) ?hr ?_; (case hd => rfl); (case hg => rfl); (case hr => exact tc36_); intro gb102 hg w6 hbox hb; have BK102 := am_ (hbox); have GW102 := am_ ((by rw [hg]; exact (below_size tc17_) : w.heap.size ≤ gb102)); have GE102 := am_ ((by rw [hg]; exact (below_size tc17_) : w.heap.size ≤ gb102)); replace HB := am_ (below_step tc17_ hb); have NB101_102 := am_ ((by rw [hg]; exact Nat.ne_of_lt (blk_lt (g := gb101) (o := .cells #[.int .i64 a1] 3 (0, 0)) tc23_) : gb101 ≠ gb102)); have NB102_101 := am_ ((by rw [hg]; exact Nat.ne_of_gt (blk_lt (g := gb101) (o := .cells #[.int .i64 a1] 3 (0, 0)) tc23_) : gb102 ≠ gb101)); replace BK101 := am_ (blk_below (g := gb101) (o := .cells #[.int .i64 a1] 3 (0, 0)) tc23_ hb); clear hb hbox hg) | (refine gc_ (some 9) Try.func67 #[.slice A0 l0.length c0, .func (.func 68) #[] #[.pointer (some ⟨gb101, 0, none⟩), .pointer (some ⟨gb102, 0, none⟩)]] ?_; (with_reducible refine (slices_ContainsFunc_int_int.calls k _ _ l0 _ _ (fun x0_ => impl_areWithin_1.f x0_ a1 a2) t103 _ ?side1 ?side2 ?side3 A4.out).mono ?_); (case side1 => exact tc22_); (case side2 => exact HC0.out); (case side3 => refine ⟨enters_of Try.func68 (by kernel_rfl) rfl, fun W_ hW_ x0_ v0_ hK0_ r_ hr_ => ?_⟩; cases (show v0_ = .int .i64 x0_ from (by simpa [Kd.int, Kd.bool, Kd.string, Kd.scalar] using hK0_)); refine (impl_areWithin_1.calls x0_ _ a1 _ a2 r_ W_ ?cb1 ?cb2 hr_).mono ?_; (case cb1 => exact blk_below tc23_ hW_); (case cb2 => exact blk_below tc82_ hW_); exact fun _ _ h_ => ⟨h_.1, h_.2.below⟩); rintro e w7 ⟨rfl, hb⟩; refine ⟨_, rfl, ?_⟩; replace BK101 := am_ (blk_below (g := gb101) (o := .cells #[.int .i64 a1] 3 (0, 0)) tc23_ hb); replace BK102 := am_ (blk_below (g := gb102) (o := .cells #[.int .i64 a2] 3 (0, 0)) tc82_ hb); replace HB := am_ (below_step tc53_ hb); (try clear hb)))
 go_ret
 exact ⟨tc4_, tc53_⟩

/-! ### impl_isDescendedRow: function 50 -/
def impl_isDescendedRow.l0 : Nat → List Int → Int → Int → Option (Bool)
 | 0, _, _, _ => none
 | k + 1, x0, x1, x5 => if x5 < (x0.length : Int) then (if 0 ≤ x5 then (if 0 ≤ (wrap64 (x5 - 1)) then (if (wrap64 (x5 - 1)) < (x0.length : Int) then (if (rd x0 x5) > (rd x0 (wrap64 (x5 - 1))) then (some false) else (impl_isDescendedRow.l0 k x0 x1 (wrap64 (x5 + 1)))) else (none)) else (none)) else (none)) else (if (x0.length : Int) > 0 then ((impl_areWithin.f k x0 1 x1).bind fun t103 => (if t103 = true then (if 0 < (x0.length : Int) then (some (decide ((rd x0 0) > (x0.length : Int)))) else (none)) else (some false))) else (some false))
def impl_isDescendedRow.f (k : Nat) (l0 : List Int) (a1 : Int) : Option (Bool) := impl_isDescendedRow.l0 k l0 a1 1
theorem impl_isDescendedRow.mono_l : ∀ k, (∀ y0 y1 y2, LeO (impl_isDescendedRow.l0 k y0 y1 y2) (impl_isDescendedRow.l0 (k + 1) y0 y1 y2))
 | 0 => fun _ _ _ r h => by simp [impl_isDescendedRow.l0] at h
 | k + 1 => by
  have ih0 := impl_isDescendedRow.mono_l k
  ·intro y0 y1 y2; unfold impl_isDescendedRow.l0
   repeat' first
   | (with_reducible exact ih0 _ _ _)
   | (with_reducible exact impl_areWithin.mono _ _ _ _)
   | (with_reducible exact LeO.refl _)
   | (with_reducible exact LeO.none _)
   | (with_reducible refine LeO.ite ?_ ?_)
   | (with_reducible refine LeO.bind ?_ (fun _ => ?_))
   | exact ih0 _ _ _
   | exact impl_areWithin.mono _ _ _ _
   | exact LeO.none _
   | refine LeO.ite ?_ ?_
   | refine LeO.bind ?_ (fun _ => ?_)
theorem impl_isDescendedRow.mono : ∀ a0 a1  k, LeO (impl_isDescendedRow.f k a0 a1) (impl_isDescendedRow.f (k + 1) a0 a1) := by
 intro a0 a1 k; have ih0 := impl_isDescendedRow.mono_l k; unfold impl_isDescendedRow.f
 repeat' first
   | (with_reducible exact ih0 _ _ _)
   | (with_reducible exact impl_areWithin.mono _ _ _ _)
   | (with_reducible exact LeO.refl _)
   | (with_reducible exact LeO.none _)
   | (with_reducible refine LeO.ite ?_ ?_)
   | (with_reducible refine LeO.bind ?_ (fun _ => ?_))
   | exact ih0 _ _ _
   | exact impl_areWithin.mono _ _ _ _
   | exact LeO.none _
   | refine LeO.ite ?_ ?_
   | refine LeO.bind ?_ (fun _ => ?_)
theorem impl_isDescendedRow.calls (k : Nat) (A0 : Option Addr) (c0 : Nat) (l0 : List Int) (a1 : Int) (r : Bool) (w : World) (hr0 : Kd.C (Kd.int .i64) w A0 l0.length l0) (hc0 : l0.length ≤ c0) (h : impl_isDescendedRow.f k l0 a1 = some r) :
  Calls Try.prog 50 #[.slice A0 l0.length c0, .int .i64 a1] w fun e w' => e = .returned (.bool r) ∧ Below w.heap.size w w' := by
 have HR0 := am_ hr0; have HC0 := am_ hc0; clear hr0 hc0; have HB := am_ (Below.refl w.heap.size w); (try unfold impl_isDescendedRow.f at h); have H := h; clear h; have H' := am_ H; clear H; go_enter Try.func50, Try.ntmps50; go_wp2
 repeat (go_quiet (fail); try go_wp2)
 go_loopg [5] k (fun kq v5 w' => ∃ (x5_1 : Int), v5 = .int .i64 x5_1 ∧ Aside0 (impl_isDescendedRow.l0 kq l0 a1 x5_1 = some r) ∧ Aside0 (kq ≤ k) ∧ Aside0 (Below w.heap.size w w'))
 case atStart => exact ⟨(1), tc3_, H', ⟨Nat.le_refl _⟩, ⟨tc0_⟩⟩
 case round =>
  clear H'; (try clear p2); obtain ⟨x5_1, rfl, HA, HK1, HB⟩ := hrel
  cases gk with
  | zero => exact absurd HA.out (by simp [impl_isDescendedRow.l0])
  | succ k1 =>
   have H := HA.out; clear HA; simp only [impl_isDescendedRow.l0] at H
   replace H := sp_ H; obtain ⟨c3b0, H⟩ | ⟨c3b0, H⟩ := H
   ·replace H := ps_ H; obtain ⟨c4b0, H⟩ := H; obtain ⟨ji5, hji5⟩ : ∃ j_ : Int, (wrap64 (x5_1 - 1)) = j_ := ⟨_, rfl⟩; replace H : (if 0 ≤ (ji5) then (if (ji5) < (l0.length : Int) then (if (rd l0 x5_1) > (rd l0 (ji5)) then (some false) else (impl_isDescendedRow.l0 k1 l0 a1 (wrap64 (x5_1 + 1)))) else (none)) else (none)) = some r := (by first | (rw [hji5] at H; exact H) | (simp only [hji5] at H ⊢; exact H)); have hji5w : (IntKind.i64.wrap (x5_1 - 1)) = ji5 := (i64_w _).trans hji5; replace H := ps_ H; obtain ⟨c6b0, H⟩ := H; replace H := ps_ H; obtain ⟨c7b0, H⟩ := H
    replace H := pn_ H; obtain ⟨c8, H⟩ | ⟨c8, H⟩ := H
    ·have c8b0 : decide ((rd l0 (ji5)) < (rd l0 x5_1)) = true := decide_eq_true c8; clear c8; obtain rfl := Option.some.inj H; have p101 : 0 ≤ (x5_1 : Int) := od_; have q101 : x5_1 < (l0.length : Int) := od_; obtain ⟨ad101, e101, hx101_0⟩ := Kd.at_int HR0.out x5_1 p101 q101; cases e101; replace hx101_0 := (HB.out.cell (World.block_lt_of_cell? w _ hx101_0)).trans hx101_0; replace p101 := eq_true p101; replace q101 := eq_true q101; have p102 : 0 ≤ ((ji5) : Int) := od_; have q102 : (ji5) < (l0.length : Int) := od_; obtain ⟨ad102, e102, hx102_0⟩ := Kd.at_int HR0.out (ji5) p102 q102; obtain rfl : ad101 = ad102 := (by injection e102); replace hx102_0 := (HB.out.cell (World.block_lt_of_cell? w _ hx102_0)).trans hx102_0; replace p102 := eq_true p102; replace q102 := eq_true q102; go_wp2
     repeat (go_quiet (fail); try go_wp2)
     go_ret
     exact ⟨(by first | rfl | (simp [errW_none, errW_some] <;> rfl) | (simp only [← hji5]; first | rfl | (simp [errW_none, errW_some] <;> rfl)) | (simp [*, errW_none, errW_some] <;> rfl)), tc0_⟩
    ·have c8b0 : decide ((rd l0 (ji5)) < (rd l0 x5_1)) = false := decide_eq_false c8; clear c8; have H' := am_ H; clear H; have p101 : 0 ≤ (x5_1 : Int) := od_; have q101 : x5_1 < (l0.length : Int) := od_; obtain ⟨ad101, e101, hx101_0⟩ := Kd.at_int HR0.out x5_1 p101 q101; cases e101; replace hx101_0 := (HB.out.cell (World.block_lt_of_cell? w _ hx101_0)).trans hx101_0; replace p101 := eq_true p101; replace q101 := eq_true q101; have p102 : 0 ≤ ((ji5) : Int) := od_; have q102 : (ji5) < (l0.length : Int) := od_; obtain ⟨ad102, e102, hx102_0⟩ := Kd.at_int HR0.out (ji5) p102 q102; obtain rfl : ad101 = ad102 := (by injection e102); replace hx102_0 := (HB.out.cell (World.block_lt_of_cell? w _ hx102_0)).trans hx102_0; replace p102 := eq_true p102; replace q102 := eq_true q102; go_wp2
     repeat (go_quiet (fail); try go_wp2)
     go_roundg k1
     case measure => have := HK1.out; omega
     case rel => exact ⟨(wrap64 (x5_1 + 1)), tc3_, H', ⟨tc40_⟩, ⟨tc0_⟩⟩
   ·replace H := pn_ H; obtain ⟨c9, H⟩ | ⟨c9, H⟩ := H
    ·have c9b0 : decide (0 < (l0.length : Int)) = true := decide_eq_true c9; have c9b1 : decide (0 < l0.length) = true := decide_eq_true (by omega); clear c9; replace H := bd_ H; obtain ⟨t103, A10, H⟩ := H; (try dsimp only at H)
     by_cases c11 : t103 = true
     ·subst c11; have H1 : (if 0 < (l0.length : Int) then (some (decide ((rd l0 0) > (l0.length : Int)))) else (none)) = some r := tc19_; clear H; have H := H1; clear H1; replace H := pp_ H; obtain ⟨c12, H⟩ := H; have c12b0 : decide (0 < (l0.length : Int)) = true := decide_eq_true c12; have c12b1 : decide (0 < l0.length) = true := decide_eq_true (by omega); clear c12; obtain rfl := Option.some.inj H
      go_wp2_with (first | (go_at_call 63; (with_reducible refine (impl_areWithin.calls k1 _ _ l0 1 a1 true _ ?side1 ?side2 A10.out).mono ?_); (case side1 => exact tc22_); (case side2 => exact HC0.out); rintro e w13 ⟨rfl, hb⟩; replace HB := am_ (below_step tc0_ hb); (try clear hb); have p104 : 0 ≤ (0 : Int) := (by omega); have q104 : 0 < (l0.length : Int) := od_; obtain ⟨ad104, e104, hx104_0⟩ := Kd.at_int HR0.out 0 p104 q104; cases e104; have qi104 : (0 < l0.length) = True := eq_true (by omega); (try rw [show ((0 : Int)).toNat = 0 from rfl] at hx104_0); (try rw [Addr.add_zero'] at hx104_0); replace hx104_0 := (HB.out.cell (World.block_lt_of_cell? w _ hx104_0)).trans hx104_0; replace p104 := eq_true p104; replace q104 := eq_true q104))
      repeat (go_quiet (first | (go_at_call 63; (with_reducible refine (impl_areWithin.calls k1 _ _ l0 1 a1 true _ ?side1 ?side2 A10.out).mono ?_); (case side1 => exact tc22_); (case side2 => exact HC0.out); rintro e w13 ⟨rfl, hb⟩; replace HB := am_ (below_step tc0_ hb); (try clear hb); have p104 : 0 ≤ (0 : Int) := (by omega); have q104 : 0 < (l0.length : Int) := od_; obtain ⟨ad104, e104, hx104_0⟩ := Kd.at_int HR0.out 0 p104 q104; cases e104; have qi104 : (0 < l0.length) = True := eq_true (by omega); (try rw [show ((0 : Int)).toNat = 0 from rfl] at hx104_0); (try rw [Addr.add_zero'] at hx104_0); replace hx104_0 := (HB.out.cell (World.block_lt_of_cell? w _ hx104_0)).trans hx104_0; replace p104 := eq_true p104; replace q104 := eq_true q104)); try go_wp2_with (first | (go_at_call 63; (with_reducible refine (impl_areWithin.calls k1 _ _ l0 1 a1 true _ ?side1 ?side2 A10.out).mono ?_); (case side1 => exact tc22_); (case side2 => exact HC0.out); rintro e w13 ⟨rfl, hb⟩; replace HB := am_ (below_step tc0_ hb); (try clear hb hb2 hk hi); have p104 : 0 ≤ (0 : Int) := (by omega); have q104 : 0 < (l0.length : Int) := od_; obtain ⟨ad104, e104, hx104_0⟩ := Kd.at_int HR0.out 0 p104 q104; cases e104; have qi104 : (0 < l0.length) = True := eq_true (by omega); (try rw [show ((0 : Int)).toNat = 0 from rfl] at hx104_0); (try rw [Addr.add_zero'] at hx104_0); replace hx104_0 := (HB.out.cell (World.block_lt_of_cell? w _ hx104_0)).trans hx104_0; replace p104 := eq_true p104; replace q104 := eq_true q104)))
      go_ret
      exact ⟨tc4_, tc0_⟩
     ·replace c11 := Bool.eq_false_iff.mpr c11; subst c11; have H1 : (some false) = some r := tc8_; clear H; have H := H1; clear H1; obtain rfl := Option.some.inj H
      go_wp2_with (first | (go_at_call 63; (with_reducible refine (impl_areWithin.calls k1 _ _ l0 1 a1 false _ ?side1 ?side2 A10.out).mono ?_); (case side1 => exact tc22_); (case side2 => exact HC0.out); rintro e w14 ⟨rfl, hb⟩; replace HB := am_ (below_step tc0_ hb); (try clear hb)))
      repeat (go_quiet (first | (go_at_call 63; (with_reducible refine (impl_areWithin.calls k1 _ _ l0 1 a1 false _ ?side1 ?side2 A10.out).mono ?_); (case side1 => exact tc22_); (case side2 => exact HC0.out); rintro e w14 ⟨rfl, hb⟩; replace HB := am_ (below_step tc0_ hb); (try clear hb))); try go_wp2_with (first | (go_at_call 63; (with_reducible refine (impl_areWithin.calls k1 _ _ l0 1 a1 false _ ?side1 ?side2 A10.out).mono ?_); (case side1 => exact tc22_); (case side2 => exact HC0.out); rintro e w14 ⟨rfl, hb⟩; replace HB := am_ (below_step tc0_ hb); (try clear hb hb2 hk hi))))
      go_ret
      exact ⟨tc4_, tc0_⟩
    ·have c9b0 : decide (0 < (l0.length : Int)) = false := decide_eq_false c9; have c9b1 : decide (0 < l0.length) = false := decide_eq_false (by omega); clear c9; obtain rfl := Option.some.inj H; go_wp2
     repeat (go_quiet (fail); try go_wp2)
     go_ret
     exact ⟨tc4_, tc0_⟩

/-! ### impl_isDescending: function 32 -/
def impl_isDescending.l0 : Nat → Tb_ → Int → Tb_ → Int → Int → Option (Bool)
 | 0, _, _, _, _, _ => none
 | k + 1, x0, x1, x7, x8, x9 => if x9 < x8 then (if 0 ≤ x9 then (if x9 < (x7.length : Int) then ((impl_isDescendedRow.f k (rd_L3 x7 x9) x1).bind fun t102 => (if t102 = true then (if x9 > 0 then (if 0 ≤ (wrap64 (x9 - 1)) then (if (wrap64 (x9 - 1)) < (x0.length : Int) then ((impl_standsBelow.f k (rd_L3 x0 (wrap64 (x9 - 1))) (rd_L3 x7 x9)).bind fun t104 => (if t104 = true then (impl_isDescending.l0 k x0 x1 x7 x8 (wrap64 (x9 + 1))) else (some false))) else (none)) else (none)) else (impl_isDescending.l0 k x0 x1 x7 x8 (wrap64 (x9 + 1)))) else (some false))) else (none)) else (none)) else (some true)
def impl_isDescending.f (k : Nat) (l0 : Tb_) (a1 : Int) : Option (Bool) := impl_isDescending.l0 k l0 a1 l0 (l0.length : Int) 0
theorem impl_isDescending.mono_l : ∀ k, (∀ y0 y1 y2 y3 y4, LeO (impl_isDescending.l0 k y0 y1 y2 y3 y4) (impl_isDescending.l0 (k + 1) y0 y1 y2 y3 y4))
 | 0 => fun _ _ _ _ _ r h => by simp [impl_isDescending.l0] at h
 | k + 1 => by
  have ih0 := impl_isDescending.mono_l k
  ·intro y0 y1 y2 y3 y4; unfold impl_isDescending.l0
   repeat' first
   | (with_reducible exact ih0 _ _ _ _ _)
   | (with_reducible exact impl_isDescendedRow.mono _ _ _)
   | (with_reducible exact impl_standsBelow.mono _ _ _)
   | (with_reducible exact LeO.refl _)
   | (with_reducible exact LeO.none _)
   | (with_reducible refine LeO.ite ?_ ?_)
   | (with_reducible refine LeO.bind ?_ (fun _ => ?_))
   | exact ih0 _ _ _ _ _
   | exact impl_isDescendedRow.mono _ _ _
   | exact impl_standsBelow.mono _ _ _
   | exact LeO.none _
   | refine LeO.ite ?_ ?_
   | refine LeO.bind ?_ (fun _ => ?_)
theorem impl_isDescending.mono : ∀ a0 a1  k, LeO (impl_isDescending.f k a0 a1) (impl_isDescending.f (k + 1) a0 a1) := by
 intro a0 a1 k; have ih0 := impl_isDescending.mono_l k; unfold impl_isDescending.f
 repeat' first
   | (with_reducible exact ih0 _ _ _ _ _)
   | (with_reducible exact impl_isDescendedRow.mono _ _ _)
   | (with_reducible exact impl_standsBelow.mono _ _ _)
   | (with_reducible exact LeO.refl _)
   | (with_reducible exact LeO.none _)
   | (with_reducible refine LeO.ite ?_ ?_)
   | (with_reducible refine LeO.bind ?_ (fun _ => ?_))
   | exact ih0 _ _ _ _ _
   | exact impl_isDescendedRow.mono _ _ _
   | exact impl_standsBelow.mono _ _ _
   | exact LeO.none _
   | refine LeO.ite ?_ ?_
   | refine LeO.bind ?_ (fun _ => ?_)
theorem impl_isDescending.calls (k : Nat) (A0 : Option Addr) (c0 : Nat) (l0 : Tb_) (a1 : Int) (r : Bool) (w : World) (hr0 : Kd.C (Kd.slice 3 (Kd.int .i64)) w A0 l0.length l0) (hc0 : l0.length ≤ c0) (h : impl_isDescending.f k l0 a1 = some r) :
  Calls Try.prog 32 #[.slice A0 l0.length c0, .int .i64 a1] w fun e w' => e = .returned (.bool r) ∧ Below w.heap.size w w' := by
 have HR0 := am_ hr0; have HC0 := am_ hc0; clear hr0 hc0; have HB := am_ (Below.refl w.heap.size w); (try unfold impl_isDescending.f at h); have H := h; clear h; have H' := am_ H; clear H; go_enter Try.func32, Try.ntmps32; go_wp2
 go_loopg [9] k (fun kq v9 w' => ∃ (x9_1 : Int), v9 = .int .i64 x9_1 ∧ Aside0 (impl_isDescending.l0 kq l0 a1 l0 (l0.length : Int) x9_1 = some r) ∧ Aside0 (kq ≤ k) ∧ Aside0 (Below w.heap.size w w'))
 case atStart => exact ⟨(0), tc3_, H', ⟨Nat.le_refl _⟩, ⟨tc0_⟩⟩
 case round =>
  clear H'; (try clear p2); obtain ⟨x9_1, rfl, HA, HK1, HB⟩ := hrel
  cases gk with
  | zero => exact absurd HA.out (by simp [impl_isDescending.l0])
  | succ k1 =>
   have H := HA.out; clear HA; simp only [impl_isDescending.l0] at H
   replace H := sp_ H; obtain ⟨c3b0, H⟩ | ⟨c3b0, H⟩ := H
   ·replace H := ps_ H; obtain ⟨c4b0, H⟩ := H; replace H := ps_ H; obtain ⟨c5b0, H⟩ := H; replace H := bd_ H; obtain ⟨t102, A6, H⟩ := H; (try dsimp only at H)
    by_cases c7 : t102 = true
    ·subst c7; have H1 : (if x9_1 > 0 then (if 0 ≤ (wrap64 (x9_1 - 1)) then (if (wrap64 (x9_1 - 1)) < (l0.length : Int) then ((impl_standsBelow.f k1 (rd_L3 l0 (wrap64 (x9_1 - 1))) (rd_L3 l0 x9_1)).bind fun t104 => (if t104 = true then (impl_isDescending.l0 k1 l0 a1 l0 (l0.length : Int) (wrap64 (x9_1 + 1))) else (some false))) else (none)) else (none)) else (impl_isDescending.l0 k1 l0 a1 l0 (l0.length : Int) (wrap64 (x9_1 + 1)))) = some r := tc19_; clear H; have H := H1; clear H1
     replace H := pn_ H; obtain ⟨c8, H⟩ | ⟨c8, H⟩ := H
     ·have c8b0 : decide (0 < x9_1) = true := decide_eq_true c8; clear c8; obtain ⟨ji9, hji9⟩ : ∃ j_ : Int, (wrap64 (x9_1 - 1)) = j_ := ⟨_, rfl⟩; replace H : (if 0 ≤ (ji9) then (if (ji9) < (l0.length : Int) then ((impl_standsBelow.f k1 (rd_L3 l0 (ji9)) (rd_L3 l0 x9_1)).bind fun t104 => (if t104 = true then (impl_isDescending.l0 k1 l0 a1 l0 (l0.length : Int) (wrap64 (x9_1 + 1))) else (some false))) else (none)) else (none)) = some r := (by first | (rw [hji9] at H; exact H) | (simp only [hji9] at H ⊢; exact H)); (try rw [hji9] at A6); have hji9w : (IntKind.i64.wrap (x9_1 - 1)) = ji9 := (i64_w _).trans hji9; replace H := ps_ H; obtain ⟨c10b0, H⟩ := H; replace H := ps_ H; obtain ⟨c11b0, H⟩ := H; replace H := bd_ H; obtain ⟨t104, A12, H⟩ := H; (try dsimp only at H)
      by_cases c13 : t104 = true
      ·subst c13; have H1 : (impl_isDescending.l0 k1 l0 a1 l0 (l0.length : Int) (wrap64 (x9_1 + 1))) = some r := tc19_; clear H; have H := H1; clear H1; have H' := am_ H; clear H; have p101 : 0 ≤ (x9_1 : Int) := od_; have q101 : x9_1 < (l0.length : Int) := od_; obtain ⟨ad101, A101_0, c101_0, e101, hx101_0, hl101_0, hi101_0⟩ := at_L3 HR0.out x9_1 p101 q101; cases e101; replace hx101_0 := (HB.out.cell (World.block_lt_of_cell? w _ hx101_0)).trans hx101_0; have HR101_0 := am_ hi101_0; have HC101_0 := am_ hl101_0; clear hi101_0 hl101_0; replace p101 := eq_true p101; replace q101 := eq_true q101
       go_wp2_with (first | (refine gc_ (some 16) Try.func50 #[.slice A101_0 (rd_L3 l0 x9_1).length c101_0, .int .i64 a1] ?_; (with_reducible refine (impl_isDescendedRow.calls k1 _ _ (rd_L3 l0 x9_1) a1 true _ ?side1 ?side2 A6.out).mono ?_); (case side1 => exact tc14_); (case side2 => exact HC101_0.out); rintro e w14 ⟨rfl, hb⟩; refine ⟨_, rfl, ?_⟩; replace HB := am_ (below_step tc0_ hb); (try clear hb); have p103 : 0 ≤ ((ji9) : Int) := od_; have q103 : (ji9) < (l0.length : Int) := od_; obtain ⟨ad103, A103_0, c103_0, e103, hx103_0, hl103_0, hi103_0⟩ := at_L3 HR0.out (ji9) p103 q103; obtain rfl : ad101 = ad103 := (by injection e103); replace hx103_0 := (HB.out.cell (World.block_lt_of_cell? w _ hx103_0)).trans hx103_0; have HR103_0 := am_ hi103_0; have HC103_0 := am_ hl103_0; clear hi103_0 hl103_0; replace p103 := eq_true p103; replace q103 := eq_true q103) | (go_at_call 51; (with_reducible refine (impl_standsBelow.calls k1 _ _ (rd_L3 l0 (ji9)) _ _ (rd_L3 l0 x9_1) true _ ?side1 ?side2 ?side3 ?side4 A12.out).mono ?_); (case side1 => repeat (first | exact (Kd.C_below HR103_0.out HB.out) | (with_reducible refine Kd.C_alloc ?_ _) | (with_reducible refine Kd.C_drewN ?_ _) | (with_reducible refine Kd.C_drew ?_))); (case side2 => exact HC103_0.out); (case side3 => exact tc14_); (case side4 => exact HC101_0.out); rintro e w' ⟨rfl, ⟨nd, rfl⟩⟩))
       go_roundg k1
       case measure => have := HK1.out; omega
       case rel => exact ⟨(wrap64 (x9_1 + 1)), tc3_, H', ⟨tc40_⟩, ⟨tc0_⟩⟩
      ·replace c13 := Bool.eq_false_iff.mpr c13; subst c13; have H1 : (some false) = some r := tc8_; clear H; have H := H1; clear H1; obtain rfl := Option.some.inj H; have p101 : 0 ≤ (x9_1 : Int) := od_; have q101 : x9_1 < (l0.length : Int) := od_; obtain ⟨ad101, A101_0, c101_0, e101, hx101_0, hl101_0, hi101_0⟩ := at_L3 HR0.out x9_1 p101 q101; cases e101; replace hx101_0 := (HB.out.cell (World.block_lt_of_cell? w _ hx101_0)).trans hx101_0; have HR101_0 := am_ hi101_0; have HC101_0 := am_ hl101_0; clear hi101_0 hl101_0; replace p101 := eq_true p101; replace q101 := eq_true q101
       go_wp2_with (first | (refine gc_ (some 16) Try.func50 #[.slice A101_0 (rd_L3 l0 x9_1).length c101_0, .int .i64 a1] ?_; (with_reducible refine (impl_isDescendedRow.calls k1 _ _ (rd_L3 l0 x9_1) a1 true _ ?side1 ?side2 A6.out).mono ?_); (case side1 => exact tc14_); (case side2 => exact HC101_0.out); rintro e w15 ⟨rfl, hb⟩; refine ⟨_, rfl, ?_⟩; replace HB := am_ (below_step tc0_ hb); (try clear hb); have p103 : 0 ≤ ((ji9) : Int) := od_; have q103 : (ji9) < (l0.length : Int) := od_; obtain ⟨ad103, A103_0, c103_0, e103, hx103_0, hl103_0, hi103_0⟩ := at_L3 HR0.out (ji9) p103 q103; obtain rfl : ad101 = ad103 := (by injection e103); replace hx103_0 := (HB.out.cell (World.block_lt_of_cell? w _ hx103_0)).trans hx103_0; have HR103_0 := am_ hi103_0; have HC103_0 := am_ hl103_0; clear hi103_0 hl103_0; replace p103 := eq_true p103; replace q103 := eq_true q103) | (go_at_call 51; (with_reducible refine (impl_standsBelow.calls k1 _ _ (rd_L3 l0 (ji9)) _ _ (rd_L3 l0 x9_1) false _ ?side1 ?side2 ?side3 ?side4 A12.out).mono ?_); (case side1 => repeat (first | exact (Kd.C_below HR103_0.out HB.out) | (with_reducible refine Kd.C_alloc ?_ _) | (with_reducible refine Kd.C_drewN ?_ _) | (with_reducible refine Kd.C_drew ?_))); (case side2 => exact HC103_0.out); (case side3 => exact tc14_); (case side4 => exact HC101_0.out); rintro e w' ⟨rfl, ⟨nd, rfl⟩⟩))
       go_ret
       exact ⟨(by first | rfl | (simp [errW_none, errW_some] <;> rfl) | (simp only [← hji9]; first | rfl | (simp [errW_none, errW_some] <;> rfl)) | (simp [*, errW_none, errW_some] <;> rfl)), tc0_⟩
     ·have c8b0 : decide (0 < x9_1) = false := decide_eq_false c8; clear c8; have H' := am_ H; clear H; have p101 : 0 ≤ (x9_1 : Int) := od_; have q101 : x9_1 < (l0.length : Int) := od_; obtain ⟨ad101, A101_0, c101_0, e101, hx101_0, hl101_0, hi101_0⟩ := at_L3 HR0.out x9_1 p101 q101; cases e101; replace hx101_0 := (HB.out.cell (World.block_lt_of_cell? w _ hx101_0)).trans hx101_0; have HR101_0 := am_ hi101_0; have HC101_0 := am_ hl101_0; clear hi101_0 hl101_0; replace p101 := eq_true p101; replace q101 := eq_true q101
      go_wp2_with (first | (refine gc_ (some 16) Try.func50 #[.slice A101_0 (rd_L3 l0 x9_1).length c101_0, .int .i64 a1] ?_; (with_reducible refine (impl_isDescendedRow.calls k1 _ _ (rd_L3 l0 x9_1) a1 true _ ?side1 ?side2 A6.out).mono ?_); (case side1 => exact tc14_); (case side2 => exact HC101_0.out); rintro e w16 ⟨rfl, hb⟩; refine ⟨_, rfl, ?_⟩; replace HB := am_ (below_step tc0_ hb); (try clear hb)))
      go_roundg k1
      case measure => have := HK1.out; omega
      case rel => exact ⟨(wrap64 (x9_1 + 1)), tc3_, H', ⟨tc40_⟩, ⟨tc0_⟩⟩
    ·replace c7 := Bool.eq_false_iff.mpr c7; subst c7; have H1 : (some false) = some r := tc8_; clear H; have H := H1; clear H1; obtain rfl := Option.some.inj H; have p101 : 0 ≤ (x9_1 : Int) := od_; have q101 : x9_1 < (l0.length : Int) := od_; obtain ⟨ad101, A101_0, c101_0, e101, hx101_0, hl101_0, hi101_0⟩ := at_L3 HR0.out x9_1 p101 q101; cases e101; replace hx101_0 := (HB.out.cell (World.block_lt_of_cell? w _ hx101_0)).trans hx101_0; have HR101_0 := am_ hi101_0; have HC101_0 := am_ hl101_0; clear hi101_0 hl101_0; replace p101 := eq_true p101; replace q101 := eq_true q101
     go_wp2_with (first | (refine gc_ (some 16) Try.func50 #[.slice A101_0 (rd_L3 l0 x9_1).length c101_0, .int .i64 a1] ?_; (with_reducible refine (impl_isDescendedRow.calls k1 _ _ (rd_L3 l0 x9_1) a1 false _ ?side1 ?side2 A6.out).mono ?_); (case side1 => exact tc14_); (case side2 => exact HC101_0.out); rintro e w17 ⟨rfl, hb⟩; refine ⟨_, rfl, ?_⟩; replace HB := am_ (below_step tc0_ hb); (try clear hb)))
     go_ret
     exact ⟨tc4_, tc0_⟩
   ·obtain rfl := Option.some.inj H; go_wp2
    go_ret
    exact ⟨tc4_, tc0_⟩

/-! ### impl_IsDescending: function 14 -/
def impl_IsDescending.f (k : Nat) (l0 : Tb_) (a1 : Int) : Option (Bool × Bool) := (impl_isDescended.f a1).bind fun t101 => (if t101 = true then ((impl_isDescending.f k l0 a1).bind fun t102 => (some (t102, true))) else (some (false, false)))
theorem impl_IsDescending.mono : ∀ a0 a1  k, LeO (impl_IsDescending.f k a0 a1) (impl_IsDescending.f (k + 1) a0 a1) := by
 intro a0 a1 k; unfold impl_IsDescending.f
 repeat' first
   | (with_reducible exact impl_isDescending.mono _ _ _)
   | (with_reducible exact LeO.refl _)
   | (with_reducible exact LeO.none _)
   | (with_reducible refine LeO.ite ?_ ?_)
   | (with_reducible refine LeO.bind ?_ (fun _ => ?_))
   | exact impl_isDescending.mono _ _ _
   | exact LeO.none _
   | refine LeO.ite ?_ ?_
   | refine LeO.bind ?_ (fun _ => ?_)
theorem impl_IsDescending.calls (k : Nat) (A0 : Option Addr) (c0 : Nat) (l0 : Tb_) (a1 : Int) (r1 : Bool) (r2 : Bool) (w : World) (hr0 : Kd.C (Kd.slice 3 (Kd.int .i64)) w A0 l0.length l0) (hc0 : l0.length ≤ c0) (h : impl_IsDescending.f k l0 a1 = some (r1, r2)) :
  Calls Try.prog 14 #[.slice A0 l0.length c0, .int .i64 a1] w fun e w' => e = .returned (.tuple #[.bool r1, .bool r2]) ∧ Below w.heap.size w w' := by
 have HR0 := am_ hr0; have HC0 := am_ hc0; clear hr0 hc0; have HB := am_ (Below.refl w.heap.size w); (try unfold impl_IsDescending.f at h); have H := h; clear h; replace H := bd_ H; obtain ⟨t101, A3, H⟩ := H; (try dsimp only at H)
 by_cases c4 : t101 = true
 ·subst c4; have H1 : ((impl_isDescending.f k l0 a1).bind fun t102 => (some (t102, true))) = some (r1, r2) := tc19_; clear H; have H := H1; clear H1; replace H := bd_ H; obtain ⟨t102, A5, H⟩ := H; (try dsimp only at H); simp only [Option.some.injEq, Prod.mk.injEq] at H; obtain ⟨rfl, rfl⟩ := H; go_enter Try.func14, Try.ntmps14
  go_wp2_with (first | (refine gc_ (some 7) Try.func31 #[.int .i64 a1] ?_; (with_reducible refine (impl_isDescended.calls a1 true _ A3.out).mono ?_); rintro e w' ⟨rfl, ⟨nd, rfl⟩⟩; refine ⟨_, rfl, ?_⟩) | (refine gc_ (some 11) Try.func32 #[.slice A0 l0.length c0, .int .i64 a1] ?_; (with_reducible refine (impl_isDescending.calls k _ _ l0 a1 t102 _ ?side1 ?side2 A5.out).mono ?_); (case side1 => exact tc13_); (case side2 => exact HC0.out); rintro e w6 ⟨rfl, hb⟩; refine ⟨_, rfl, ?_⟩; replace HB := am_ (below_step tc0_ hb); (try clear hb)))
  go_ret2
  exact ⟨tc4_, tc0_⟩
 ·replace c4 := Bool.eq_false_iff.mpr c4; subst c4; have H1 : (some (false, false)) = some (r1, r2) := tc8_; clear H; have H := H1; clear H1; simp only [Option.some.injEq, Prod.mk.injEq] at H; obtain ⟨rfl, rfl⟩ := H; go_enter Try.func14, Try.ntmps14
  go_wp2_with (first | (refine gc_ (some 7) Try.func31 #[.int .i64 a1] ?_; (with_reducible refine (impl_isDescended.calls a1 false _ A3.out).mono ?_); rintro e w' ⟨rfl, ⟨nd, rfl⟩⟩; refine ⟨_, rfl, ?_⟩))
  go_ret2
  exact ⟨tc4_, tc0_⟩

/-! ### spec_DrawCountByDeterminant: function 15 -/
def spec_DrawCountByDeterminant.f (l0 : List Int) : Option (Int) := (spec_l1Cur_side.f l0 0 0 6).bind fun bt102 => (some bt102.1)
theorem spec_DrawCountByDeterminant.calls (A0 : Option Addr) (c0 : Nat) (l0 : List Int) (r : Int) (w : World) (hr0 : Kd.C (Kd.int .u8) w A0 l0.length l0) (hc0 : l0.length ≤ c0) (h : spec_DrawCountByDeterminant.f l0 = some r) :
  Calls Try.prog 15 #[.slice A0 l0.length c0] w fun e w' => e = .returned (.int .i64 r) ∧ Below w.heap.size w w' := by
 have hu42 := Try.underlying42; have HR0 := am_ hr0; have HC0 := am_ hc0; clear hr0 hc0; have HB := am_ (Below.refl w.heap.size w); (try unfold spec_DrawCountByDeterminant.f at h); have H := h; clear h; replace H := Option.bind_eq_some_iff.mp H; obtain ⟨⟨t102, t103, t104⟩, A20, H⟩ := H; (try dsimp only at H); have A2 := am_ A20; clear A20; obtain rfl := Option.some.inj H; go_enter Try.func15, Try.ntmps15
 go_wp2_with (first | ((with_reducible refine gate_dst (N := 6) rfl ?_); refine box_event ?hg (N := 6) ?hd (cs := #[.slice A0 l0.length c0, .int .i64 0, .int .u64 0]) (t := 42) ?hr ?_; (case hd => rfl); (case hg => rfl); (case hr => exact tc36_); intro gb101 hg w3 hbox hb; have GW101 := am_ ((by rw [hg]; exact (below_size tc0_) : w.heap.size ≤ gb101)); have GE101 := am_ ((by rw [hg]; exact (below_size tc0_) : w.heap.size ≤ gb101)); have HI101 := am_ ((show IsS42 w w3 gb101 l0 0 0 from ⟨A0, c0, hbox, (by rw [hg]; exact (below_size tc0_) : w.heap.size ≤ gb101), HR0.out⟩)); replace HB := am_ (below_step tc0_ hb); clear hb hbox hg) | (refine gc_ (some 8) Try.func20 #[.pointer (some ⟨gb101, 0, none⟩), .int .i64 6] ?_; (with_reducible refine (spec_l1Cur_side.calls gb101 l0 0 0 6 t102 t103 t104 w _ ?side1 ?side2 A2.out).mono ?_); (case side1 => exact tc20_); (case side2 => exact tc12_); rintro e w4 ⟨rfl, hi, hb, hk⟩; refine ⟨_, rfl, ?_⟩; replace HB := am_ (hb); replace HI101 := am_ (hi); (try clear hb hk hi)))
 go_ret
 exact ⟨tc4_, tc12_⟩

end Go.Proofs.Ytnabhfbcaocljaa.X
