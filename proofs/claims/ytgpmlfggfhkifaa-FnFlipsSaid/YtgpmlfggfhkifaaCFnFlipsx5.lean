-- Written by a program of this session (wip/xprint.py) that drives the kit's print; the contracts of what it does not take are this session's own.
import Derived.Test.YtgpmlfggfhkifaaCFnFlipsx0
import Derived.Test.YtgpmlfggfhkifaaCFnFlipsx1
import Derived.Test.YtgpmlfggfhkifaaCFnFlipsx2
import Derived.Test.YtgpmlfggfhkifaaCFnFlipsx3
import Derived.Test.YtgpmlfggfhkifaaCFnFlipsx4
namespace Go.Proofs.Ytgpmlfggfhkifaa.X
open Go.RowKit Go.Proofs.YtgpmlfggfhkifaaW.PrintWords Go.Proofs.YtgpmlfggfhkifaaW.PrintLast Go.Proofs.YtgpmlfggfhkifaaW.PrintMore
attribute [local go_sem] max2_int min2_int max_two min_two max_three min_three max_four min_four   -- for this text's walks alone
set_option linter.unusedVariables false
set_option linter.unusedSimpArgs false

/-! ### spec_heFrom: function 60 -/
mutual
def spec_heFrom.l0 : Nat → List (List Int) → List (List Int) → Int → Int → Option ((List (List Int)))
 | 0, _, _, _, _ => none
 | k + 1, x0, x4, x13, x14 => if x14 < x13 then (spec_heFrom.l1 k x0 x4 x14 x13 x14 (x4.length : Int) 0) else ((spec_sgFrom.f k x4).bind fun t104 => (some t104))
def spec_heFrom.l1 : Nat → List (List Int) → List (List Int) → Int → Int → Int → Int → Int → Option ((List (List Int)))
 | 0, _, _, _, _, _, _, _ => none
 | k + 1, x0, x4, x5, x13, x14, x18, x19 => if x19 < x18 then (if 0 ≤ x5 then (if x5 < (x4.length : Int) then (if 0 ≤ (wrap64 (x5 + 1)) then (if (wrap64 (x5 + 1)) < (x0.length : Int) then (if 0 ≤ (wrap64 (x19 + 1)) then (if (wrap64 (x19 + 1)) < ((rd_L3 x0 (wrap64 (x5 + 1))).length : Int) then (if 0 ≤ x19 then (if x19 < ((rd_L3 x4 x5).length : Int) then (spec_heFrom.l1 k x0 (x4.set (x5 : Int).toNat ((rd_L3 x4 x5).set (x19 : Int).toNat (wrap64 (Int.tdiv (wrap64 ((wrap64 ((wrap64 (x5 + x19)) + 2)) - (rd (rd_L3 x0 (wrap64 (x5 + 1))) (wrap64 (x19 + 1))))) 2)))) x5 x13 x14 x18 (wrap64 (x19 + 1))) else (none)) else (none)) else (none)) else (none)) else (none)) else (none)) else (none)) else (none)) else (spec_heFrom.l0 k x0 x4 x13 (wrap64 (x14 + 1)))
end
def spec_heFrom.f (k : Nat) (l0 : List (List Int)) : Option ((List (List Int))) := (spec_sgZero.f k (wrap64 ((l0.length : Int) - 1))).bind fun t101 => (spec_heFrom.l0 k l0 t101 (t101.length : Int) 0)
def spec_heFrom.T9 : Bool × List (List Nat × List Nat) := (true, [([], []), ([], []), ([0, 1], [0, 1]), ([2], [2]), ([], []), ([], []), ([], []), ([5, 6], [5, 6]), ([7], [7]), ([], []), ([], []), ([10], [10]), ([9, 11], [9, 11]), ([12], [12]), ([], []), ([14], [14]), ([13, 15], [13, 15]), ([16], [16]), ([8, 17], [8, 17]), ([18], [18]), ([3, 4, 0, 1, 2, 3, 4, 5, 6, 7, 8, 9, 10, 11, 12, 13, 14, 15, 16, 17, 18, 19], [3, 4]), ([20, 19, 0, 1, 2, 3, 4, 5, 6, 7, 8, 9, 10, 11, 12, 13, 14, 15, 16, 17, 18, 19], [19, 20])])
def spec_heFrom.B9 : List Nat := [0, 0, 3, 7, 0, 0, 0, 96, 224, 0, 0, 1024, 3584, 7680, 0, 16384, 65024, 130560, 262112, 524256, 1048575, 2097151]
theorem spec_heFrom.tab9 : rtab .any (opsOf Try.f60 9) = spec_heFrom.T9 := by kernel_rfl
theorem spec_heFrom.bits9 : waitsOk spec_heFrom.T9.2 spec_heFrom.B9 = true := by kernel_rfl
set_option maxHeartbeats 8000000 in
set_option maxRecDepth 100000 in
theorem spec_heFrom.calls (k : Nat) (A0 : Option Addr) (c0 : Nat) (l0 : List (List Int)) (r : List (List Int)) (w : World) (hr0 : Kd.C (Kd.slice 3 (Kd.int .i64)) w A0 l0.length l0) (hc0 : l0.length ≤ c0) (h : spec_heFrom.f k l0 = some r) :
  Calls Try.prog 60 #[.slice A0 l0.length c0] w fun e w' => ∃ v0_ : Value, e = .returned (v0_) ∧ Kd.S (Kd.slice 3 (Kd.int .i64)) 32 w' w.heap.size (fun _ => True) v0_ r ∧ Below w.heap.size w w' := by
 have HR0 := am_ hr0; have HC0 := am_ hc0; clear hr0 hc0; have HB := am_ (Below.refl w.heap.size w); have H : ((spec_sgZero.f k (wrap64 ((l0.length : Int) - 1))).bind fun t101 => (spec_heFrom.l0 k l0 t101 (t101.length : Int) 0)) = some r := h; clear h; replace H := bd_ H; obtain ⟨t101, A2, H⟩ := H; (try dsimp only at H); have H' := am_ H; clear H; go_enter Try.func60, Try.ntmps60
 go_wp2_with (first | ((with_reducible refine gate_callee (f := 105) rfl ?_); refine goesL_ (some 11) rfl rfl Try.func105 (by kernel_rfl) rfl #[.int .i64 (wrap64 ((l0.length : Int) - 1))] rfl tc1_ ?_; (with_reducible refine (spec_sgZero.calls k (wrap64 ((l0.length : Int) - 1)) t101 _ A2.out).mono ?_); rintro e w3 ⟨v102, rfl, ho0, hb⟩; refine ⟨_, rfl, ?_⟩; have HO103 := am_ (Kd.S_lower ho0 (below_size tc0_)); replace HB := am_ (below_step tc0_ hb); (try clear hb ho0); obtain ⟨Ao4, co4, eo4⟩ := Kd.S_slice HO103.out; subst eo4))
 go_loopg [14] k (fun kq v14 w' => ∃ (x4_1 : List (List Int)) (x14_1 : Int), v14 = .int .i64 x14_1 ∧ Aside0 (spec_heFrom.l0 kq l0 x4_1 (t101.length : Int) x14_1 = some r) ∧ Aside0 (kq ≤ k) ∧ Aside0 (Kd.S (Kd.slice 3 (Kd.int .i64)) 32 w' w.heap.size (fun _ => True) (.slice Ao4 t101.length co4) x4_1) ∧ Aside0 (Below w.heap.size w w'))
 case atStart => exact ⟨(t101), (0), tc6_, H', ⟨Nat.le_refl _⟩, ⟨tc21_⟩, ⟨tc0_⟩⟩
 case round =>
  clear H'; (try clear c1); (try clear p2); obtain ⟨x4_1, x14_1, rfl, HA, HK1, HO_4, HB⟩ := hrel; have hl4_1 := (Kd.S_reads' HO_4.out).1; rw [hl4_1] at HO_4; (try simp only [hl4_1])
  cases gk with
  | zero => exact absurd HA.out (by simp [spec_heFrom.l0])
  | succ k1 =>
   have H := HA.out; clear HA; simp only [spec_heFrom.l0] at H
   replace H := sp_ H; obtain ⟨c5b0, H⟩ | ⟨c5b0, H⟩ := H
   ·(try simp only [hl4_1] at c5b0); have H' := am_ H; clear H; go_wp2
    go_loopg [19] k1 (fun kq v19 w' => ∃ (x4_2 : List (List Int)) (x19_2 : Int), v19 = .int .i64 x19_2 ∧ Aside0 (spec_heFrom.l1 kq l0 x4_2 x14_1 (t101.length : Int) x14_1 (x4_1.length : Int) x19_2 = some r) ∧ Aside0 (kq ≤ k1) ∧ Aside0 (Kd.S (Kd.slice 3 (Kd.int .i64)) 32 w' w.heap.size (fun _ => True) (.slice Ao4 x4_1.length co4) x4_2) ∧ Aside0 (Below w.heap.size w w'))
    case atStart => exact ⟨(x4_1), (0), tc6_, H', ⟨Nat.le_refl _⟩, ⟨(by (try simp only [hl4_1]); (with_reducible repeat (first | apply Kd.S_alloc | apply Kd.S_drewN | apply Kd.S_drew)); exact HO_4.out)⟩, ⟨tc0_⟩⟩
    case round =>
     clear H'; (try clear c1); (try clear p2); (try clear c5); (try clear c5b0); (try clear p2); obtain ⟨x4_2, x19_2, rfl, HA, HK2, HO_4, HB⟩ := hrel; have hl4_2 := (Kd.S_reads' HO_4.out).1; rw [hl4_2] at HO_4; (try simp only [hl4_2])
     cases gk with
     | zero => exact absurd HA.out (by simp [spec_heFrom.l1])
     | succ k2 =>
      have H := HA.out; clear HA; simp only [spec_heFrom.l1] at H
      replace H := sp_ H; obtain ⟨c6b0, H⟩ | ⟨c6b0, H⟩ := H
      ·(try simp only [hl4_1, hl4_2] at c6b0); replace H := ps_ H; obtain ⟨c7b0, H⟩ := H; replace H := ps_ H; obtain ⟨c8b0, H⟩ := H; (try simp only [hl4_1, hl4_2] at c8b0); obtain ⟨ji9, hji9⟩ : ∃ j_ : Int, (wrap64 (x14_1 + 1)) = j_ := ⟨_, rfl⟩; replace H : (if 0 ≤ (ji9) then (if (ji9) < (l0.length : Int) then (if 0 ≤ (wrap64 (x19_2 + 1)) then (if (wrap64 (x19_2 + 1)) < ((rd_L3 l0 (ji9)).length : Int) then (if 0 ≤ x19_2 then (if x19_2 < ((rd_L3 x4_2 x14_1).length : Int) then (spec_heFrom.l1 k2 l0 (x4_2.set (x14_1 : Int).toNat ((rd_L3 x4_2 x14_1).set (x19_2 : Int).toNat (wrap64 (Int.tdiv (wrap64 ((wrap64 ((wrap64 (x14_1 + x19_2)) + 2)) - (rd (rd_L3 l0 (ji9)) (wrap64 (x19_2 + 1))))) 2)))) x14_1 (t101.length : Int) x14_1 (x4_1.length : Int) (wrap64 (x19_2 + 1))) else (none)) else (none)) else (none)) else (none)) else (none)) else (none)) = some r := (by first | (rw [hji9] at H; exact H) | (simp only [hji9] at H ⊢; exact H)); have hji9w : (IntKind.i64.wrap (x14_1 + 1)) = ji9 := (i64_w _).trans hji9; replace H := ps_ H; obtain ⟨c10b0, H⟩ := H; replace H := ps_ H; obtain ⟨c11b0, H⟩ := H; (try simp only [hl4_1, hl4_2] at c11b0); obtain ⟨ji12, hji12⟩ : ∃ j_ : Int, (wrap64 (x19_2 + 1)) = j_ := ⟨_, rfl⟩; replace H : (if 0 ≤ (ji12) then (if (ji12) < ((rd_L3 l0 (ji9)).length : Int) then (if 0 ≤ x19_2 then (if x19_2 < ((rd_L3 x4_2 x14_1).length : Int) then (spec_heFrom.l1 k2 l0 (x4_2.set (x14_1 : Int).toNat ((rd_L3 x4_2 x14_1).set (x19_2 : Int).toNat (wrap64 (Int.tdiv (wrap64 ((wrap64 ((wrap64 (x14_1 + x19_2)) + 2)) - (rd (rd_L3 l0 (ji9)) (ji12)))) 2)))) x14_1 (t101.length : Int) x14_1 (x4_1.length : Int) ji12) else (none)) else (none)) else (none)) else (none)) = some r := (by first | (rw [hji12] at H; exact H) | (simp only [hji12] at H ⊢; exact H)); have hji12w : (IntKind.i64.wrap (x19_2 + 1)) = ji12 := (i64_w _).trans hji12; replace H := ps_ H; obtain ⟨c13b0, H⟩ := H; replace H := ps_ H; obtain ⟨c14b0, H⟩ := H; (try simp only [hl4_1, hl4_2] at c14b0); replace H := ps_ H; obtain ⟨c15b0, H⟩ := H; replace H := ps_ H; obtain ⟨c16b0, H⟩ := H; (try simp only [hl4_1, hl4_2] at c16b0); obtain ⟨y110, hy110⟩ : ∃ y_ : List Int, y_ = ((rd_L3 x4_2 x14_1).set (x19_2 : Int).toNat (wrap64 (Int.tdiv (wrap64 ((wrap64 ((wrap64 (x14_1 + x19_2)) + 2)) - (rd (rd_L3 l0 (ji9)) (ji12)))) 2))) := ⟨_, rfl⟩; replace H : (spec_heFrom.l1 k2 l0 (x4_2.set (x14_1 : Int).toNat y110) x14_1 (t101.length : Int) x14_1 (x4_1.length : Int) ji12) = some r := (by first | (rw [hy110]; with_reducible exact H) | (have H2_ := (Option.bind_some _ _).symm.trans H; rw [hy110]; with_reducible exact H2_) | (have H2_ := (Option.bind_some _ _).symm.trans H; with_reducible exact H2_) | with_reducible exact H | (rw [hy110]; exact H) | exact H); have Ny110 := am_ hy110; clear hy110; obtain ⟨y112, hy112⟩ : ∃ y_ : List (List Int), y_ = (x4_2.set (x14_1 : Int).toNat y110) := ⟨_, rfl⟩; replace H : (spec_heFrom.l1 k2 l0 y112 x14_1 (t101.length : Int) x14_1 (x4_1.length : Int) ji12) = some r := (by first | (rw [hy112]; with_reducible exact H) | (have H2_ := (Option.bind_some _ _).symm.trans H; rw [hy112]; with_reducible exact H2_) | (have H2_ := (Option.bind_some _ _).symm.trans H; with_reducible exact H2_) | with_reducible exact H | (rw [hy112]; exact H) | exact H); have Ny112 := am_ hy112; clear hy112; have H' := am_ H; clear H
       try go_wp2
       replace HO_4 := am_ (Kd.S_drew HO_4.out); replace HB := am_ (below_drew1 HB.out); have p107 : 0 ≤ (x14_1 : Int) := od_; have q107 : x14_1 < (x4_2.length : Int) := od_; obtain ⟨ad107, A107_0, c107_0, e107, hx107_0, hl107_0, hi107_0⟩ := at_L3 (Kd.S_reads' HO_4.out).2.2 x14_1 p107 q107; cases e107; obtain ⟨ce107, hce107, hMe107, hcc107⟩ := Kd.S_get HO_4.out [] x14_1 p107 (by first | exact q107 | exact od_ | (have e_ := (Kd.S_reads' HO_4.out).1; omega)); obtain ⟨ve107_0, rfl, ge107_0⟩ := hMe107; have hv107_0 := hcc107 0 _ rfl; rw [Nat.add_zero, show ((Kd.slice 3 (Kd.int .i64))).sz = 1 from rfl, Nat.mul_one] at hv107_0; replace hv107_0 := Option.some.inj (hv107_0.symm.trans hx107_0); rw [hv107_0] at ge107_0; have HL107_0 := am_ (show Kd.R (Kd.int .i64) 3 _ _ _ _ (rd_L3 x4_2 x14_1) from ge107_0); clear hv107_0 ge107_0; have HX107_0 := am_ hx107_0; clear hcc107 hce107; have HR107_0 := am_ hi107_0; have HC107_0 := am_ hl107_0; clear hi107_0 hl107_0; replace p107 := eq_true p107; replace q107 := eq_true q107; have p108 : 0 ≤ ((ji9) : Int) := od_; have q108 : (ji9) < (l0.length : Int) := od_; obtain ⟨ad108, A108_0, c108_0, e108, hx108_0, hl108_0, hi108_0⟩ := at_L3 HR0.out (ji9) p108 q108; have hw108_0 := hx108_0; cases e108; replace hx108_0 := (HB.out.cell (World.block_lt_of_cell? w _ hx108_0)).trans hx108_0; have HR108_0 := am_ hi108_0; have HC108_0 := am_ hl108_0; clear hi108_0 hl108_0; replace p108 := eq_true p108; replace q108 := eq_true q108; have p109 : 0 ≤ ((ji12) : Int) := od_; have q109 : (ji12) < ((rd_L3 l0 (ji9)).length : Int) := od_; obtain ⟨ad109, e109, hx109_0⟩ := Kd.at_int HR108_0.out (ji12) p109 q109; have hw109_0 := hx109_0; cases e109; replace hx109_0 := (HB.out.cell (World.block_lt_of_cell? w _ hx109_0)).trans hx109_0; replace p109 := eq_true p109; replace q109 := eq_true q109; have p17 : 0 ≤ (x19_2 : Int) := od_; have q17 : (x19_2 : Int) < (((rd_L3 x4_2 x14_1).length : Int) : Int) := od_; obtain ⟨go17, co17, eo17, gb17, gl17, cl17, HG17⟩ := Kd.R_form HL107_0.out (by omega); (first | cases eo17 | (injection eo17 with ea_ en_ ec_; (first | subst ea_ | (injection ea_ with ea_; subst ea_)); subst ec_; clear en_)); have GB17 := am_ gb17; have GG17 := am_ HG17; clear gb17 gl17 HG17; obtain ⟨hx17_0, hf17_0⟩ := Kd.R_celln 0 HL107_0.out (x19_2 : Int) p17 q17; replace p17 := eq_true p17; replace q17 := eq_true q17; have hq19 : (x14_1 : Int) < (x4_2.length : Int) := (by have h_ : (x14_1 : Int) < ((x4_2.length : Int) : Int) := od_; first | exact h_ | (have e_ := (Kd.S_reads' HO_4.out).1; omega) | simpa only [List.length_set, List.length_set] using h_); obtain ⟨oki19, ce19, hcl19, hM19, hcc19, hok19, hbk19⟩ := Kd.S_borrow HO_4.out [] (x14_1 : Int) (od_) hq19; obtain ⟨ve19_0, rfl, ge19_0⟩ := hM19; have hv19 := hcc19 0 _ rfl; rw [Nat.add_zero, show ((Kd.slice 3 (Kd.int .i64))).sz = 1 from rfl, Nat.mul_one] at hv19; replace hv19 := Option.some.inj (hv19.symm.trans HX107_0.out); subst hv19; clear hcc19 hcl19; replace ge19_0 := (show Kd.R (Kd.int .i64) 3 _ _ _ _ (rd_L3 x4_2 x14_1) from ge19_0); have HP19 := Kd.R_putg ge19_0 (x19_2 : Int) (wrap64 (Int.tdiv (wrap64 ((wrap64 ((wrap64 (x14_1 + x19_2)) + 2)) - (rd (rd_L3 l0 (ji9)) (ji12)))) 2)); rw [← Ny110.out] at HP19; have HS19 := hbk19 HP19.2 (fun k_ e_ => by injection e_ with e_; subst e_; exact ge19_0.1 _ rfl) (x' := y110) (Kd.M_row HP19.1); rw [← Ny112.out] at HS19; have HQ19 := am_ HS19; clear HP19 HS19 hbk19 hok19; refine start_ (n := 22) (S := fun w' => w'.cell? (ad107.add (x14_1).toNat) = some (.slice (some ⟨go17, 0, none⟩) (rd_L3 x4_2 x14_1).length c107_0) ∧ w'.cell? (ad108.add ((ji9)).toNat) = some (.slice (some ad109) (rd_L3 l0 (ji9)).length c108_0) ∧ w'.cell? (ad109.add ((ji12)).toNat) = some (.int .i64 (rd (rd_L3 l0 (ji9)) (ji12)))) (ds := [21]) #[F,F,F,F,F,F,F,F,F,F,F,F,F,F,F,F,F,F,F,F,F,F] (by kernel_rfl) rfl rfl ⟨hx107_0, ((HB.out.cell (World.block_lt_of_cell? w _ hw108_0)).trans hw108_0), ((HB.out.cell (World.block_lt_of_cell? w _ hw109_0)).trans hw109_0)⟩ (fun hHeld => ?_); refine with_tabW spec_heFrom.tab9 spec_heFrom.bits9 (fun HT_ HW_ => ?_); generalize wr.drew = w18 at HO_4 HB GG17 HL107_0 HQ19 HR107_0 HR108_0 HX107_0 hf17_0 hx107_0 hx108_0 hx109_0 hx17_0 hHeld ⊢; refine pure_ (i := 0) (N := some 22) #[T,F,F,F,F,F,F,F,F,F,F,F,F,F,F,F,F,F,F,F,F,F] rfl rfl an_ hq_ yi_ nm_ ?_; refine pure_ (i := 1) (N := some 23) #[T,T,F,F,F,F,F,F,F,F,F,F,F,F,F,F,F,F,F,F,F,F] rfl rfl an_ hq_ yi_ nm_ ?_; refine pure_ (i := 2) (N := some 24) #[T,T,T,F,F,F,F,F,F,F,F,F,F,F,F,F,F,F,F,F,F,F] rfl rfl an_ hq_ yi_ nm_ ?_; refine pure_ (i := 4) (N := some 26) #[T,T,T,F,T,F,F,F,F,F,F,F,F,F,F,F,F,F,F,F,F,F] rfl rfl an_ hq_ yi_ nm_ ?_; refine pure_ (i := 5) (N := some 27) #[T,T,T,F,T,T,F,F,F,F,F,F,F,F,F,F,F,F,F,F,F,F] rfl rfl an_ hq_ yi_ nm_ ?_; refine pure_ (i := 6) (N := some 28) #[T,T,T,F,T,T,T,F,F,F,F,F,F,F,F,F,F,F,F,F,F,F] rfl rfl an_ hq_ yi_ nm_ ?_; refine pure_ (i := 7) (N := some 29) #[T,T,T,F,T,T,T,T,F,F,F,F,F,F,F,F,F,F,F,F,F,F] rfl rfl an_ hq_ yi_ nm_ ?_; refine pure_ (i := 8) (N := some 30) #[T,T,T,F,T,T,T,T,T,F,F,F,F,F,F,F,F,F,F,F,F,F] rfl rfl an_ hq_ yi_ nm_ ?_; refine pure_ (i := 9) (N := some 31) #[T,T,T,F,T,T,T,T,T,T,F,F,F,F,F,F,F,F,F,F,F,F] rfl rfl an_ hq_ yi_ nm_ ?_; refine pure_ (i := 10) (N := some 32) #[T,T,T,F,T,T,T,T,T,T,T,F,F,F,F,F,F,F,F,F,F,F] rfl rfl an_ hq_ yi_ nm_ ?_; refine pure_ (i := 11) (N := some 33) #[T,T,T,F,T,T,T,T,T,T,T,T,F,F,F,F,F,F,F,F,F,F] rfl rfl an_ hq_ yi_ nm_ ?_; refine pure_ (i := 12) (N := some 34) #[T,T,T,F,T,T,T,T,T,T,T,T,T,F,F,F,F,F,F,F,F,F] rfl rfl an_ hq_ yi_ nm_ ?_; refine pure_ (i := 14) (N := some 36) #[T,T,T,F,T,T,T,T,T,T,T,T,T,F,T,F,F,F,F,F,F,F] rfl rfl an_ hq_ yi_ nm_ ?_; refine pure_ (i := 15) (N := some 37) #[T,T,T,F,T,T,T,T,T,T,T,T,T,F,T,T,F,F,F,F,F,F] rfl rfl an_ hq_ yi_ nm_ ?_; refine take_ (i := 3) (N := some 25) #[T,T,T,T,T,T,T,T,T,T,T,T,T,F,T,T,F,F,F,F,F,F] rfl rfl av_ hq_ yj3_ hHeld nm_ ?_; refine take_ (i := 13) (N := some 35) #[T,T,T,T,T,T,T,T,T,T,T,T,T,T,T,T,F,F,F,F,F,F] rfl rfl av_ hq_ yj3_ hHeld nm_ ?_; refine pure_ (i := 16) (N := some 38) #[T,T,T,T,T,T,T,T,T,T,T,T,T,T,T,T,T,F,F,F,F,F] rfl rfl an_ hq_ yi_ nm_ ?_; refine take_ (i := 17) (N := some 39) #[T,T,T,T,T,T,T,T,T,T,T,T,T,T,T,T,T,T,F,F,F,F] rfl rfl av_ hq_ yj3_ hHeld nm_ ?_; refine pure_ (i := 18) (N := some 40) #[T,T,T,T,T,T,T,T,T,T,T,T,T,T,T,T,T,T,T,F,F,F] rfl rfl an_ hq_ yi_ nm_ ?_; refine pure_ (i := 19) (N := some 41) #[T,T,T,T,T,T,T,T,T,T,T,T,T,T,T,T,T,T,T,T,F,F] rfl rfl an_ hq_ yi_ nm_ ?_; refine pure_ (i := 20) (N := some 42) #[T,T,T,T,T,T,T,T,T,T,T,T,T,T,T,T,T,T,T,T,T,F] rfl rfl an_ hq_ yi_ nm_ ?_; refine last_ (i := 21) (N := none) #[T,T,T,T,T,T,T,T,T,T,T,T,T,T,T,T,T,T,T,T,T,T] rfl rfl (one_of HT_.out (by kernel_rfl)) (by decide) (fun K hK => ?_); refine skip_ (w1 := ?_) (by rfl) rfl ?_ ?_; rotate_left
       ·go_simp
        rfl
       refine hK.out _ _ ?_; clear hK K; refine done_ (done_of HT_.out (by kernel_rfl)) ?_
       try go_wp2
       (try simp only [← hl4_2])
       go_roundg k2
       case measure => have := HK1.out; have := HK2.out; omega
       case rel => exact ⟨(y112), (ji12), (by first | rfl | (simp; done) | (simp only [← hji12] <;> (first | rfl | simp)) | (simp [*]; done)), H', ⟨tc39_⟩, ⟨(by (try simp only [hl4_1]); (try simp only [hl4_2]); (with_reducible repeat (first | apply Kd.S_alloc | apply Kd.S_drewN | apply Kd.S_drew)); exact HQ19.out)⟩, ⟨(by repeat (first | (with_reducible first | exact HB.out | apply below_alloc | apply pw_below_drewN | apply below_drew1 | refine below_set ?_ GB17.out) | exact HB.out))⟩⟩
      ·(try simp only [hl4_1, hl4_2] at c6b0); have H' := am_ H; clear H; go_wp2; (try simp only [← hl4_1, ← hl4_2])
       go_roundg k2
       case measure => have := HK1.out; have := HK2.out; omega
       case rel => exact ⟨(x4_2), (wrap64 (x14_1 + 1)), tc6_, H', ⟨tc39_⟩, ⟨(by (try simp only [hl4_1]); (try simp only [hl4_2]); (with_reducible repeat (first | apply Kd.S_alloc | apply Kd.S_drewN | apply Kd.S_drew)); exact HO_4.out)⟩, ⟨tc0_⟩⟩
   ·(try simp only [hl4_1] at c5b0); replace H := bd_ H; obtain ⟨t104, A21, H⟩ := H; (try dsimp only at H); obtain rfl := Option.some.inj H
    go_wp2_with (first | ((with_reducible refine gate_callee (f := 106) rfl ?_); refine goesL_ (some 46) rfl rfl Try.func106 (by kernel_rfl) rfl #[.slice Ao4 x4_1.length co4] rfl tc1_ ?_; (with_reducible refine (spec_sgFrom.calls k1 _ _ x4_1 t104 _ ?side1 ?side2 A21.out).mono ?_); (case side1 => repeat (first | exact (Kd.S_reads' HO_4.out).2.2 | (with_reducible refine Kd.C_alloc ?_ _) | (with_reducible refine Kd.C_drewN ?_ _) | (with_reducible refine Kd.C_drew ?_))); (case side2 => exact (Kd.S_reads' HO_4.out).2.1); rintro e w22 ⟨v105, rfl, ho0, hb⟩; refine ⟨_, rfl, ?_⟩; have HO106 := am_ (Kd.S_lower (Kd.S_new' ho0 (Kd.S_lt tc117_)) (below_size tc0_)); replace HO_4 := am_ (Kd.S_elder' tc117_ (Kd.S_base ho0) hb); replace HB := am_ (below_step tc0_ hb); (try clear hb ho0)))
    go_ret
    exact ⟨_, tc8_, (by (with_reducible repeat (first | apply Kd.S_alloc | apply Kd.S_drewN | apply Kd.S_drew)); exact Kd.S_mono HO106.out (fun _ hk => trivial)), tc0_⟩

/-! ### spec_FlipAt: function 22 -/
def spec_FlipAt.j0 : Nat → List (List Int) → Int → Int → Bool → Option ((List (List Int)) × Bool)
 | 0, _, _, _, _ => none
 | k + 1, x0, x1, x2, x20 => if x20 = true then (some (([] : List (List Int)), false)) else ((spec_heOf.f k x0).bind fun t103 => ((spec_heWay.f k t103 x1 x2).bind fun t106 => (if t106 = 0 then (some (([] : List (List Int)), false)) else (if 0 ≤ x1 then (if x1 < (t103.length : Int) then (if 0 ≤ x2 then (if x2 < ((rd_L3 t103 x1).length : Int) then ((spec_heFrom.f k (t103.set (x1 : Int).toNat ((rd_L3 t103 x1).set (x2 : Int).toNat (wrap64 ((rd (rd_L3 t103 x1) x2) + (wrap64 (2 * t106))))))).bind fun t112 => (some (t112, true))) else (none)) else (none)) else (none)) else (none)))))
def spec_FlipAt.f (k : Nat) (l0 : List (List Int)) (a1 : Int) (a2 : Int) : Option ((List (List Int)) × Bool) := (spec_sgGood.f k l0).bind fun t101 => (if t101 = true then ((spec_heCell.f (l0.length : Int) a1 a2).bind fun t102 => (spec_FlipAt.j0 k l0 a1 a2 (!t102))) else (spec_FlipAt.j0 k l0 a1 a2 true))
set_option maxHeartbeats 8000000 in
set_option maxRecDepth 100000 in
theorem spec_FlipAt.calls (k : Nat) (A0 : Option Addr) (c0 : Nat) (l0 : List (List Int)) (a1 : Int) (a2 : Int) (r1 : List (List Int)) (r2 : Bool) (w : World) (hr0 : Kd.C (Kd.slice 3 (Kd.int .i64)) w A0 l0.length l0) (hc0 : l0.length ≤ c0) (h : spec_FlipAt.f k l0 a1 a2 = some (r1, r2)) :
  Calls Try.prog 22 #[.slice A0 l0.length c0, .int .i64 a1, .int .i64 a2] w fun e w' => ∃ v0_ : Value, e = .returned (.tuple #[v0_, .bool r2]) ∧ Kd.S (Kd.slice 3 (Kd.int .i64)) 32 w' w.heap.size (fun _ => True) v0_ r1 ∧ Below w.heap.size w w' := by
 have HR0 := am_ hr0; have HC0 := am_ hc0; clear hr0 hc0; have HB := am_ (Below.refl w.heap.size w); have H : ((spec_sgGood.f k l0).bind fun t101 => (if t101 = true then ((spec_heCell.f (l0.length : Int) a1 a2).bind fun t102 => (spec_FlipAt.j0 k l0 a1 a2 (!t102))) else (spec_FlipAt.j0 k l0 a1 a2 true))) = some (r1, r2) := h; clear h; have HC4 := am_ H; clear H; go_enter Try.func22, Try.ntmps22
 go_upto_region 1 with (fail)
 go_cut [20] (fun v20 wc => ∃ (kq : Nat) (x20_3 : Bool), v20 = .bool x20_3 ∧ Aside0 (spec_FlipAt.j0 kq l0 a1 a2 x20_3 = some (r1, r2)) ∧ Aside0 (kq ≤ k) ∧ Aside0 (Below w.heap.size w wc))
 case first =>
  have H := HC4.out; clear HC4; replace H := bd_ H; obtain ⟨t101, A5, H⟩ := H; (try dsimp only at H)
  by_cases c6 : t101 = true
  ·subst c6; have H1 : ((spec_heCell.f (l0.length : Int) a1 a2).bind fun t102 => (spec_FlipAt.j0 k l0 a1 a2 (!t102))) = some (r1, r2) := tc19_; clear H; have H := H1; clear H1; replace H := bd_ H; obtain ⟨t102, A7, H⟩ := H; (try dsimp only at H); have H' := am_ H; clear H
   go_wp2_with (first | ((with_reducible refine gate_callee (f := 39) rfl ?_); refine goesL_ (some 11) rfl rfl Try.func39 (by kernel_rfl) rfl #[.slice A0 l0.length c0] rfl tc1_ ?_; (with_reducible refine (spec_sgGood.calls k _ _ l0 true _ ?side1 ?side2 A5.out).mono ?_); (case side1 => exact tc14_); (case side2 => exact HC0.out); rintro e w8 ⟨rfl, hb⟩; refine ⟨_, rfl, ?_⟩; replace HB := am_ (below_step tc0_ hb); (try clear hb)) | (go_at_call 58; (with_reducible refine (spec_heCell.calls (l0.length : Int) a1 a2 t102 _ A7.out).mono ?_); rintro e w' ⟨rfl, ⟨nd, rfl⟩⟩))
   go_meet
   case rel => exact ⟨_, (!t102), tc6_, H', ⟨tc101_⟩, ⟨tc0_⟩⟩
  ·replace c6 := Bool.eq_false_iff.mpr c6; subst c6; have H1 : (spec_FlipAt.j0 k l0 a1 a2 true) = some (r1, r2) := tc12_; clear H; have H := H1; clear H1; have H' := am_ H; clear H
   go_wp2_with (first | ((with_reducible refine gate_callee (f := 39) rfl ?_); refine goesL_ (some 11) rfl rfl Try.func39 (by kernel_rfl) rfl #[.slice A0 l0.length c0] rfl tc1_ ?_; (with_reducible refine (spec_sgGood.calls k _ _ l0 false _ ?side1 ?side2 A5.out).mono ?_); (case side1 => exact tc14_); (case side2 => exact HC0.out); rintro e w9 ⟨rfl, hb⟩; refine ⟨_, rfl, ?_⟩; replace HB := am_ (below_step tc0_ hb); (try clear hb)))
   go_meet
   case rel => exact ⟨_, (true), tc6_, H', ⟨tc101_⟩, ⟨tc0_⟩⟩
 case rest =>
  clear HC4; (try clear c2); (try clear p2); (try clear c3); (try clear c6); obtain ⟨kq, x20_3, rfl, HA, HJ3, HB⟩ := hcut
  cases kq with
  | zero => exact absurd HA.out (by simp [spec_FlipAt.j0])
  | succ kj3 =>
   have H := HA.out; clear HA; simp only [spec_FlipAt.j0] at H
   by_cases c10 : x20_3 = true
   ·subst c10; have H1 : (some (([] : List (List Int)), false)) = some (r1, r2) := tc19_; clear H; have H := H1; clear H1; simp only [Option.some.injEq, Prod.mk.injEq] at H; obtain ⟨rfl, rfl⟩ := H; go_wp2
    go_ret2
    exact ⟨_, tc8_, tc23_, tc0_⟩
   ·replace c10 := Bool.eq_false_iff.mpr c10; subst c10; have H1 : ((spec_heOf.f kj3 l0).bind fun t103 => ((spec_heWay.f kj3 t103 a1 a2).bind fun t106 => (if t106 = 0 then (some (([] : List (List Int)), false)) else (if 0 ≤ a1 then (if a1 < (t103.length : Int) then (if 0 ≤ a2 then (if a2 < ((rd_L3 t103 a1).length : Int) then ((spec_heFrom.f kj3 (t103.set (a1 : Int).toNat ((rd_L3 t103 a1).set (a2 : Int).toNat (wrap64 ((rd (rd_L3 t103 a1) a2) + (wrap64 (2 * t106))))))).bind fun t112 => (some (t112, true))) else (none)) else (none)) else (none)) else (none))))) = some (r1, r2) := tc12_; clear H; have H := H1; clear H1; replace H := bd_ H; obtain ⟨t103, A11, H⟩ := H; (try dsimp only at H); replace H := bd_ H; obtain ⟨t106, A12, H⟩ := H; (try dsimp only at H)
    replace H := pn_ H; obtain ⟨c13, H⟩ | ⟨c13, H⟩ := H
    ·have c13b0 : (t106 == 0) = true := beq_iff_eq.mpr c13; have c13b1 : (t106 != 0) = false := bne_eq_false_iff_eq.mpr c13; clear c13; simp only [Option.some.injEq, Prod.mk.injEq] at H; obtain ⟨rfl, rfl⟩ := H
     go_wp2_with (first | ((with_reducible refine gate_callee (f := 47) rfl ?_); refine goesL_ (some 22) rfl rfl Try.func47 (by kernel_rfl) rfl #[.slice A0 l0.length c0] rfl tc1_ ?_; (with_reducible refine (spec_heOf.calls kj3 _ _ l0 t103 _ ?side1 ?side2 A11.out).mono ?_); (case side1 => exact tc14_); (case side2 => exact HC0.out); rintro e w14 ⟨v104, rfl, ho0, hb⟩; refine ⟨_, rfl, ?_⟩; have HO105 := am_ (Kd.S_lower ho0 (below_size tc0_)); replace HB := am_ (below_step tc0_ hb); (try clear hb ho0); obtain ⟨Ao15, co15, eo15⟩ := Kd.S_slice HO105.out; subst eo15) | ((with_reducible refine gate_callee (f := 48) rfl ?_); refine goesL_ (some 26) rfl rfl Try.func48 (by kernel_rfl) rfl #[.slice Ao15 t103.length co15, .int .i64 a1, .int .i64 a2] rfl tc1_ ?_; (with_reducible refine (spec_heWay.calls kj3 _ _ t103 a1 a2 t106 _ ?side1 ?side2 A12.out).mono ?_); (case side1 => exact tc68_); (case side2 => exact (Kd.S_reads' HO105.out).2.1); rintro e w16 ⟨rfl, hb⟩; refine ⟨_, rfl, ?_⟩; replace HO105 := am_ (Kd.S_below tc74_ hb); replace HB := am_ (below_step tc0_ hb); (try clear hb)))
     go_ret2
     exact ⟨_, tc8_, tc23_, tc0_⟩
    ·have c13b0 : (t106 == 0) = false := beq_eq_false_iff_ne.mpr c13; have c13b1 : (t106 != 0) = true := bne_iff_ne.mpr c13; replace H := ps_ H; obtain ⟨c17b0, H⟩ := H; replace H := ps_ H; obtain ⟨c18b0, H⟩ := H; replace H := ps_ H; obtain ⟨c19b0, H⟩ := H; replace H := ps_ H; obtain ⟨c20b0, H⟩ := H; obtain ⟨y109, hy109⟩ : ∃ y_ : List Int, y_ = ((rd_L3 t103 a1).set (a2 : Int).toNat (wrap64 ((rd (rd_L3 t103 a1) a2) + (wrap64 (2 * t106))))) := ⟨_, rfl⟩; replace H : ((spec_heFrom.f kj3 (t103.set (a1 : Int).toNat y109)).bind fun t112 => (some (t112, true))) = some (r1, r2) := tc42_; have Ny109 := am_ hy109; clear hy109; obtain ⟨y111, hy111⟩ : ∃ y_ : List (List Int), y_ = (t103.set (a1 : Int).toNat y109) := ⟨_, rfl⟩; replace H : ((spec_heFrom.f kj3 y111).bind fun t112 => (some (t112, true))) = some (r1, r2) := tc41_; have Ny111 := am_ hy111; clear hy111; replace H := bd_ H; obtain ⟨t112, A22, H⟩ := H; (try dsimp only at H); simp only [Option.some.injEq, Prod.mk.injEq] at H; obtain ⟨rfl, rfl⟩ := H
     go_wp2_with (first | ((with_reducible refine gate_callee (f := 47) rfl ?_); refine goesL_ (some 22) rfl rfl Try.func47 (by kernel_rfl) rfl #[.slice A0 l0.length c0] rfl tc1_ ?_; (with_reducible refine (spec_heOf.calls kj3 _ _ l0 t103 _ ?side1 ?side2 A11.out).mono ?_); (case side1 => exact tc14_); (case side2 => exact HC0.out); rintro e w23 ⟨v104, rfl, ho0, hb⟩; refine ⟨_, rfl, ?_⟩; have HO105 := am_ (Kd.S_lower ho0 (below_size tc0_)); replace HB := am_ (below_step tc0_ hb); (try clear hb ho0); obtain ⟨Ao24, co24, eo24⟩ := Kd.S_slice HO105.out; subst eo24) | ((with_reducible refine gate_callee (f := 48) rfl ?_); refine goesL_ (some 26) rfl rfl Try.func48 (by kernel_rfl) rfl #[.slice Ao24 t103.length co24, .int .i64 a1, .int .i64 a2] rfl tc1_ ?_; (with_reducible refine (spec_heWay.calls kj3 _ _ t103 a1 a2 t106 _ ?side1 ?side2 A12.out).mono ?_); (case side1 => exact tc68_); (case side2 => exact (Kd.S_reads' HO105.out).2.1); rintro e w25 ⟨rfl, hb⟩; refine ⟨_, rfl, ?_⟩; replace HO105 := am_ (Kd.S_below tc74_ hb); replace HB := am_ (below_step tc0_ hb); (try clear hb); have p107 : 0 ≤ (a1 : Int) := od_; have q107 : a1 < (t103.length : Int) := od_; obtain ⟨ad107, A107_0, c107_0, e107, hx107_0, hl107_0, hi107_0⟩ := at_L3 (Kd.S_reads' HO105.out).2.2 a1 p107 q107; cases e107; obtain ⟨ce107, hce107, hMe107, hcc107⟩ := Kd.S_get HO105.out [] a1 p107 (by first | exact q107 | exact od_ | (have e_ := (Kd.S_reads' HO105.out).1; omega)); obtain ⟨ve107_0, rfl, ge107_0⟩ := hMe107; have hv107_0 := hcc107 0 _ rfl; rw [Nat.add_zero, show ((Kd.slice 3 (Kd.int .i64))).sz = 1 from rfl, Nat.mul_one] at hv107_0; replace hv107_0 := Option.some.inj (hv107_0.symm.trans hx107_0); rw [hv107_0] at ge107_0; have HL107_0 := am_ (show Kd.R (Kd.int .i64) 3 _ _ _ _ (rd_L3 t103 a1) from ge107_0); clear hv107_0 ge107_0; have HX107_0 := am_ hx107_0; clear hcc107 hce107; have HR107_0 := am_ hi107_0; have HC107_0 := am_ hl107_0; clear hi107_0 hl107_0; replace p107 := eq_true p107; replace q107 := eq_true q107; have p108 : 0 ≤ (a2 : Int) := od_; have q108 : a2 < ((rd_L3 t103 a1).length : Int) := od_; obtain ⟨ad108, e108, hx108_0⟩ := Kd.at_int tc47_ a2 p108 q108; cases e108; replace p108 := eq_true p108; replace q108 := eq_true q108; have p21 : 0 ≤ (a2 : Int) := od_; have q21 : (a2 : Int) < (((rd_L3 t103 a1).length : Int) : Int) := od_; obtain ⟨go21, co21, eo21, gb21, gl21, cl21, HG21⟩ := Kd.R_form HL107_0.out (by omega); (first | cases eo21 | (injection eo21 with ea_ en_ ec_; (first | subst ea_ | (injection ea_ with ea_; subst ea_)); subst ec_; clear en_)); have GB21 := am_ gb21; have GG21 := am_ HG21; clear gb21 gl21 HG21; (first | simp only [add_plain] at hx108_0 | skip); obtain ⟨hx21_0, hf21_0⟩ := Kd.R_celln 0 HL107_0.out (a2 : Int) p21 q21; replace p21 := eq_true p21; replace q21 := eq_true q21; have hq26 : (a1 : Int) < (t103.length : Int) := (by have h_ : (a1 : Int) < ((t103.length : Int) : Int) := od_; first | exact h_ | (have e_ := (Kd.S_reads' HO105.out).1; omega) | simpa only [List.length_set, List.length_set] using h_); obtain ⟨oki26, ce26, hcl26, hM26, hcc26, hok26, hbk26⟩ := Kd.S_borrow HO105.out [] (a1 : Int) (od_) hq26; obtain ⟨ve26_0, rfl, ge26_0⟩ := hM26; have hv26 := hcc26 0 _ rfl; rw [Nat.add_zero, show ((Kd.slice 3 (Kd.int .i64))).sz = 1 from rfl, Nat.mul_one] at hv26; replace hv26 := Option.some.inj (hv26.symm.trans HX107_0.out); subst hv26; clear hcc26 hcl26; replace ge26_0 := (show Kd.R (Kd.int .i64) 3 _ _ _ _ (rd_L3 t103 a1) from ge26_0); have HP26 := Kd.R_putg ge26_0 (a2 : Int) (wrap64 ((rd (rd_L3 t103 a1) a2) + (wrap64 (2 * t106))))) | ((with_reducible refine gate_store (t := 3) (p := 39) rfl ?_); refine store_event (t := 3) (p := 39) (v := ?vo_w27) (w1 := (w25.setCell ⟨go21, (a2 : Int).toNat, none⟩ (.int .i64 (wrap64 ((rd (rd_L3 t103 a1) a2) + (wrap64 (2 * t106))))))) ?hg ?ho ?hn ?hr ?_; (case ho => rfl); (case hg => rfl); (case hn => rfl); (case hr => exact tc30_); intro w27 hw; have hg : w25.grownBy w27 (some go21) := (by rw [hw]; exact HP26.2); have hz_ : Kd.R (Kd.int .i64) 3 w27 w.heap.size oki26 (.slice (some ⟨go21, 0, none⟩) (rd_L3 t103 a1).length c107_0) y109 := (by rw [hw, Ny109.out]; exact HP26.1); have hp_ : Kd.S (Kd.slice 3 (Kd.int .i64)) 32 w27 w.heap.size (fun _ => True) (.slice (some ad107) t103.length co24) y111 := (by rw [Ny111.out]; exact hbk26 hg (fun k_ e_ => by injection e_ with e_; subst e_; exact ge26_0.1 _ rfl) (Kd.M_row hz_)); have hm_ := Kd.R_mono hz_ hok26; clear HP26 hbk26; replace HO105 := am_ (hp_); replace HB := am_ ((by rw [hw]; exact below_set (HB.out) GB21.out : Below w.heap.size w w27)); have HL115 := am_ (hm_); have HC110 := am_ ((Kd.R_reads' hm_).2.1); clear HL107_0; clear hg hw hp_ hz_ hm_ hok26) | ((with_reducible refine gate_callee (f := 60) rfl ?_); refine goesL_ (some 41) rfl rfl Try.func60 (by kernel_rfl) rfl #[.slice (some ad107) y111.length co24] rfl (by (try simp only [List.map_toArray, List.map_cons, List.map_nil]); first | done | (rw [show y111.length = t103.length from (Kd.S_reads' HO105.out).1.symm] <;> rfl) | rfl | (simp only [List.length_drop, List.length_take]; rfl)) ?_; (with_reducible refine (spec_heFrom.calls kj3 _ _ y111 t112 _ ?side1 ?side2 A22.out).mono ?_); (case side1 => exact tc68_); (case side2 => rw [show y111.length = t103.length from (Kd.S_reads' HO105.out).1.symm]; exact (Kd.S_reads' HO105.out).2.1); rintro e w28 ⟨v113, rfl, ho0, hb⟩; refine ⟨_, rfl, ?_⟩; have n0_ := am_ (Kd.S_elder' tc74_ (Kd.S_base ho0) hb); have n1_ := am_ (Kd.R_below (by (with_reducible repeat (first | apply Kd.R_alloc | apply Kd.R_drewN | apply Kd.R_drew)); exact HL115.out) hb); have n2_ := am_ (Kd.S_lower (Kd.S_new' (Kd.S_new' ho0 (Kd.S_lt tc74_)) (Kd.R_lt (by (with_reducible repeat (first | apply Kd.R_alloc | apply Kd.R_drewN | apply Kd.R_drew)); exact HL115.out))) (below_size tc0_)); have n3_ := am_ (below_step tc0_ hb); clear HO105 HL115 HB; have HO105 := n0_; have HL115 := n1_; have HO114 := n2_; have HB := n3_; clear n0_ n1_ n2_ n3_; (try clear hb ho0)))
     go_ret2
     exact ⟨_, tc8_, tc150_, tc0_⟩

/-! ### impl_bit: function 108 -/
def impl_bit.f (a0 : Bool) : Option (Int) := if a0 = true then (some 1) else (some 0)
set_option maxHeartbeats 8000000 in
set_option maxRecDepth 100000 in
theorem impl_bit.calls (a0 : Bool) (r : Int) (w : World) (h : impl_bit.f a0 = some r) :
  Calls Try.prog 108 #[.bool a0] w fun e w' => e = .returned (.int .i64 r) ∧ Drawn0 w w' := by
 have H : (if a0 = true then (some 1) else (some 0)) = some r := h; clear h
 by_cases c2 : a0 = true
 ·subst c2; have H1 : (some 1) = some r := tc19_; clear H; have H := H1; clear H1; obtain rfl := Option.some.inj H; go_enter Try.func108, Try.ntmps108; go_wp2
  go_ret
  exact ⟨tc6_, tc11_⟩
 ·replace c2 := Bool.eq_false_iff.mpr c2; subst c2; have H1 : (some 0) = some r := tc12_; clear H; have H := H1; clear H1; obtain rfl := Option.some.inj H; go_enter Try.func108, Try.ntmps108; go_wp2
  go_ret
  exact ⟨tc6_, tc11_⟩

/-! ### impl_least_1: function 107 -/
def impl_least_1.f (a0 : Int) (a1 : Int) : Option (Int) := (impl_bit.f (a0 == a1)).bind fun t101 => (some t101)
set_option maxHeartbeats 8000000 in
set_option maxRecDepth 100000 in
theorem impl_least_1.calls (a0 : Int) (a1 : Int) (r : Int) (w : World) (h : impl_least_1.f a0 a1 = some r) :
  Calls Try.prog 107 #[.int .i64 a0, .int .i64 a1] w fun e w' => e = .returned (.int .i64 r) ∧ Drawn0 w w' := by
 have H : ((impl_bit.f (a0 == a1)).bind fun t101 => (some t101)) = some r := h; clear h; replace H := bd_ H; obtain ⟨t101, A3, H⟩ := H; (try dsimp only at H); obtain rfl := Option.some.inj H; go_enter Try.func107, Try.ntmps107
 go_wp2_with (first | ((with_reducible refine gate_callee (f := 108) rfl ?_); refine goesL_ (some 8) rfl rfl Try.func108 (by kernel_rfl) rfl #[.bool (a0 == a1)] rfl tc1_ ?_; (with_reducible refine (impl_bit.calls (a0 == a1) t101 _ A3.out).mono ?_); rintro e w' ⟨rfl, ⟨nd, rfl⟩⟩; refine ⟨_, rfl, ?_⟩))
 go_ret
 exact ⟨tc6_, tc11_⟩

/-! ### impl_least: function 66 -/
def impl_least.f (k : Nat) (a0 : Int) : Option ((List (List Int))) := (impl_table.f k a0 a0 (fun x0_ x1_ => impl_least_1.f x0_ x1_)).bind fun t101 => (some t101)
set_option maxHeartbeats 8000000 in
set_option maxRecDepth 100000 in
theorem impl_least.calls (k : Nat) (a0 : Int) (r : List (List Int)) (w : World) (h : impl_least.f k a0 = some r) :
  Calls Try.prog 66 #[.int .i64 a0] w fun e w' => ∃ v0_ : Value, e = .returned (v0_) ∧ Kd.S (Kd.slice 3 (Kd.int .i64)) 32 w' w.heap.size (fun _ => True) v0_ r ∧ Below w.heap.size w w' := by
 have HB := am_ (Below.refl w.heap.size w); have H : ((impl_table.f k a0 a0 (fun x0_ x1_ => impl_least_1.f x0_ x1_)).bind fun t101 => (some t101)) = some r := h; clear h; replace H := bd_ H; obtain ⟨t101, A2, H⟩ := H; (try dsimp only at H); obtain rfl := Option.some.inj H; go_enter Try.func66, Try.ntmps66
 go_wp2_with (first | ((with_reducible refine gate_callee (f := 89) rfl ?_); refine goesL_ (some 5) rfl rfl Try.func89 (by kernel_rfl) rfl #[.int .i64 a0, .int .i64 a0, .func (.func 107) #[] #[]] rfl tc1_ ?_; (with_reducible refine (impl_table.calls k a0 a0 _ _ (fun x0_ x1_ => impl_least_1.f x0_ x1_) t101 _ ?side1 A2.out).mono ?_); (case side1 => refine ⟨enters_of Try.func107 (by kernel_rfl) rfl, fun W_ hW_ x0_ v0_ hK0_ x1_ v1_ hK1_ r_ hr_ => ?_⟩; cases (show v0_ = .int .i64 x0_ from tc141_); cases (show v1_ = .int .i64 x1_ from tc142_); refine (impl_least_1.calls x0_ x1_ r_ W_ hr_).mono ?_; exact fun _ _ h_ => ⟨h_.1, h_.2.below⟩); rintro e w3 ⟨v102, rfl, ho0, hb⟩; refine ⟨_, rfl, ?_⟩; have HO103 := am_ (Kd.S_lower ho0 (below_size tc0_)); replace HB := am_ (below_step tc0_ hb); (try clear hb ho0)))
 go_ret
 exact ⟨_, tc8_, tc21_, tc0_⟩

/-! ### impl_RankOf: function 23 -/
def impl_RankOf.f (k : Nat) (l0 : List (List Int)) : Option (Int × Bool) := (impl_IsSignMatrix.f k l0).bind fun t101 => (if t101 = true then ((impl_least.f k (l0.length : Int)).bind fun t102 => ((impl_distance.f k l0 t102).bind fun t105 => (some (t105, true)))) else (some (0, false)))
set_option maxHeartbeats 8000000 in
set_option maxRecDepth 100000 in
theorem impl_RankOf.calls (k : Nat) (A0 : Option Addr) (c0 : Nat) (l0 : List (List Int)) (r1 : Int) (r2 : Bool) (w : World) (hr0 : Kd.C (Kd.slice 3 (Kd.int .i64)) w A0 l0.length l0) (hc0 : l0.length ≤ c0) (h : impl_RankOf.f k l0 = some (r1, r2)) :
  Calls Try.prog 23 #[.slice A0 l0.length c0] w fun e w' => e = .returned (.tuple #[.int .i64 r1, .bool r2]) ∧ Below w.heap.size w w' := by
 have HR0 := am_ hr0; have HC0 := am_ hc0; clear hr0 hc0; have HB := am_ (Below.refl w.heap.size w); have H : ((impl_IsSignMatrix.f k l0).bind fun t101 => (if t101 = true then ((impl_least.f k (l0.length : Int)).bind fun t102 => ((impl_distance.f k l0 t102).bind fun t105 => (some (t105, true)))) else (some (0, false)))) = some (r1, r2) := h; clear h; replace H := bd_ H; obtain ⟨t101, A2, H⟩ := H; (try dsimp only at H)
 by_cases c3 : t101 = true
 ·subst c3; have H1 : ((impl_least.f k (l0.length : Int)).bind fun t102 => ((impl_distance.f k l0 t102).bind fun t105 => (some (t105, true)))) = some (r1, r2) := tc19_; clear H; have H := H1; clear H1; replace H := bd_ H; obtain ⟨t102, A4, H⟩ := H; (try dsimp only at H); replace H := bd_ H; obtain ⟨t105, A5, H⟩ := H; (try dsimp only at H); simp only [Option.some.injEq, Prod.mk.injEq] at H; obtain ⟨rfl, rfl⟩ := H; go_enter Try.func23, Try.ntmps23
  go_wp2_with (first | ((with_reducible refine gate_callee (f := 25) rfl ?_); refine goesL_ (some 5) rfl rfl Try.func25 (by kernel_rfl) rfl #[.slice A0 l0.length c0] rfl tc1_ ?_; (with_reducible refine (impl_IsSignMatrix.calls k _ _ l0 true _ ?side1 ?side2 A2.out).mono ?_); (case side1 => exact tc10_); (case side2 => exact HC0.out); rintro e w6 ⟨rfl, hb⟩; refine ⟨_, rfl, ?_⟩; replace HB := am_ (below_step tc0_ hb); (try clear hb)) | ((with_reducible refine gate_callee (f := 66) rfl ?_); refine goesL_ (some 10) rfl rfl Try.func66 (by kernel_rfl) rfl #[.int .i64 (l0.length : Int)] rfl tc1_ ?_; (with_reducible refine (impl_least.calls k (l0.length : Int) t102 _ A4.out).mono ?_); rintro e w7 ⟨v103, rfl, ho0, hb⟩; refine ⟨_, rfl, ?_⟩; have HO104 := am_ (Kd.S_lower ho0 (below_size tc0_)); replace HB := am_ (below_step tc0_ hb); (try clear hb ho0); obtain ⟨Ao8, co8, eo8⟩ := Kd.S_slice HO104.out; subst eo8) | ((with_reducible refine gate_callee (f := 51) rfl ?_); refine goesL_ (some 11) rfl rfl Try.func51 (by kernel_rfl) rfl #[.slice A0 l0.length c0, .slice Ao8 t102.length co8] rfl tc1_ ?_; (with_reducible refine (impl_distance.calls k _ _ l0 _ _ t102 t105 _ ?side1 ?side2 ?side3 ?side4 A5.out).mono ?_); (case side1 => exact tc14_); (case side2 => exact HC0.out); (case side3 => exact tc98_); (case side4 => exact (Kd.S_reads' HO104.out).2.1); rintro e w9 ⟨rfl, hb⟩; refine ⟨_, rfl, ?_⟩; replace HO104 := am_ (Kd.S_below tc24_ hb); replace HB := am_ (below_step tc0_ hb); (try clear hb)))
  go_ret2
  exact ⟨tc8_, tc0_⟩
 ·replace c3 := Bool.eq_false_iff.mpr c3; subst c3; have H1 : (some (0, false)) = some (r1, r2) := tc12_; clear H; have H := H1; clear H1; simp only [Option.some.injEq, Prod.mk.injEq] at H; obtain ⟨rfl, rfl⟩ := H; go_enter Try.func23, Try.ntmps23
  go_wp2_with (first | ((with_reducible refine gate_callee (f := 25) rfl ?_); refine goesL_ (some 5) rfl rfl Try.func25 (by kernel_rfl) rfl #[.slice A0 l0.length c0] rfl tc1_ ?_; (with_reducible refine (impl_IsSignMatrix.calls k _ _ l0 false _ ?side1 ?side2 A2.out).mono ?_); (case side1 => exact tc10_); (case side2 => exact HC0.out); rintro e w10 ⟨rfl, hb⟩; refine ⟨_, rfl, ?_⟩; replace HB := am_ (below_step tc0_ hb); (try clear hb)))
  go_ret2
  exact ⟨tc8_, tc0_⟩

/-! ### impl_cells: function 64 -/
mutual
def impl_cells.l0 : Nat → Int → (Int → Int → Option Bool) → List (List Int) → Int → Option ((List (List Int)))
 | 0, _, _, _, _ => none
 | k + 1, x0, x1, x5, x6 => if x6 < x0 then (impl_cells.l1 k x0 x1 x5 x6 1) else (some x5)
def impl_cells.l1 : Nat → Int → (Int → Int → Option Bool) → List (List Int) → Int → Int → Option ((List (List Int)))
 | 0, _, _, _, _, _ => none
 | k + 1, x0, x1, x5, x6, x7 => if x7 < x0 then ((x1 x6 x7).bind fun t104 => (if t104 = true then (if x5.length < 5864062014805 then (impl_cells.l1 k x0 x1 (x5 ++ [(([x6, x7] : List Int))]) x6 (wrap64 (x7 + 1))) else (none)) else (impl_cells.l1 k x0 x1 x5 x6 (wrap64 (x7 + 1))))) else (impl_cells.l0 k x0 x1 x5 (wrap64 (x6 + 1)))
end
def impl_cells.f (k : Nat) (a0 : Int) (a1 : (Int → Int → Option Bool)) : Option ((List (List Int))) := impl_cells.l0 k a0 a1 (([] : List (List Int))) 1
theorem impl_cells.mono_l : ∀ k, (∀ y0 y1 y1' y2 y3 (hy1 : ∀ z0 z1, LeO (y1 z0 z1) (y1' z0 z1)), LeO (impl_cells.l0 k y0 y1 y2 y3) (impl_cells.l0 (k + 1) y0 y1' y2 y3)) ∧ (∀ y0 y1 y1' y2 y3 y4 (hy1 : ∀ z0 z1, LeO (y1 z0 z1) (y1' z0 z1)), LeO (impl_cells.l1 k y0 y1 y2 y3 y4) (impl_cells.l1 (k + 1) y0 y1' y2 y3 y4))
 | 0 => ⟨fun _ _ _ _ _ _ r h => by simp [impl_cells.l0] at h, fun _ _ _ _ _ _ _ r h => by simp [impl_cells.l1] at h⟩
 | k + 1 => by
  obtain ⟨ih0, ih1⟩ := impl_cells.mono_l k; refine ⟨?_, ?_⟩
  ·intro y0 y1 y1' y2 y3 hy1; unfold impl_cells.l0
   repeat' first
   | (with_reducible exact ih0 _ _ _ _ _ hy1)
   | (with_reducible exact ih1 _ _ _ _ _ _ hy1)
   | (with_reducible exact hy1 _ _)
   | (with_reducible exact LeO.refl _)
   | (with_reducible exact LeO.none _)
   | (with_reducible refine LeO.ite ?_ ?_)
   | (with_reducible refine LeO.bind ?_ (fun _ => ?_))
   | exact ih0 _ _ _ _ _ hy1
   | exact ih1 _ _ _ _ _ _ hy1
   | exact hy1 _ _
   | exact LeO.none _
   | refine LeO.ite ?_ ?_
   | refine LeO.bind ?_ (fun _ => ?_)
  ·intro y0 y1 y1' y2 y3 y4 hy1; unfold impl_cells.l1
   repeat' first
   | (with_reducible exact ih0 _ _ _ _ _ hy1)
   | (with_reducible exact ih1 _ _ _ _ _ _ hy1)
   | (with_reducible exact hy1 _ _)
   | (with_reducible exact LeO.refl _)
   | (with_reducible exact LeO.none _)
   | (with_reducible refine LeO.ite ?_ ?_)
   | (with_reducible refine LeO.bind ?_ (fun _ => ?_))
   | exact ih0 _ _ _ _ _ hy1
   | exact ih1 _ _ _ _ _ _ hy1
   | exact hy1 _ _
   | exact LeO.none _
   | refine LeO.ite ?_ ?_
   | refine LeO.bind ?_ (fun _ => ?_)
theorem impl_cells.mono : ∀ a0 a1 a1' (ha1 : ∀ z0 z1, LeO (a1 z0 z1) (a1' z0 z1)) k, LeO (impl_cells.f k a0 a1) (impl_cells.f (k + 1) a0 a1') := by
 intro a0 a1 a1' ha1 k; obtain ⟨ih0, ih1⟩ := impl_cells.mono_l k; unfold impl_cells.f
 repeat' first
   | (with_reducible exact ih0 _ _ _ _ _ ha1)
   | (with_reducible exact ih1 _ _ _ _ _ _ ha1)
   | (with_reducible exact ha1 _ _)
   | (with_reducible exact LeO.refl _)
   | (with_reducible exact LeO.none _)
   | (with_reducible refine LeO.ite ?_ ?_)
   | (with_reducible refine LeO.bind ?_ (fun _ => ?_))
   | exact ih0 _ _ _ _ _ ha1
   | exact ih1 _ _ _ _ _ _ ha1
   | exact ha1 _ _
   | exact LeO.none _
   | refine LeO.ite ?_ ?_
   | refine LeO.bind ?_ (fun _ => ?_)
set_option maxHeartbeats 8000000 in
set_option maxRecDepth 100000 in
theorem impl_cells.calls (k : Nat) (a0 : Int) (g1 : Nat) (b1 : Array Value) (a1 : (Int → Int → Option Bool)) (r : List (List Int)) (w : World) (hf1 : Fn2 (Kd.int .i64) (Kd.int .i64) Value.bool Try.prog g1 b1 a1 w) (h : impl_cells.f k a0 a1 = some r) :
  Calls Try.prog 64 #[.int .i64 a0, .func (.func g1) #[] b1] w fun e w' => ∃ v0_ : Value, e = .returned (v0_) ∧ Kd.S (Kd.slice 3 (Kd.int .i64)) 32 w' w.heap.size (fun _ => True) v0_ r ∧ Below w.heap.size w w' := by
 have HF1 := am_ hf1.cl; have eg1 := hf1.eg; clear hf1; have HB := am_ (Below.refl w.heap.size w); have H : (impl_cells.l0 k a0 a1 (([] : List (List Int))) 1) = some r := h; clear h; obtain ⟨y101, hy101⟩ : ∃ y_ : List (List Int), y_ = (([] : List (List Int))) := ⟨_, rfl⟩; replace H : (impl_cells.l0 k a0 a1 y101 1) = some r := tc29_; have Ny101 := am_ hy101; clear hy101; have H' := am_ H; clear H; go_enter Try.func64, Try.ntmps64
 go_wp2_with (first | ((with_reducible refine gate_dst (N := 8) rfl ?_); refine Kd.S_lit (Kd.slice 3 (Kd.int .i64)) _ 32 ?hg (N := 8) ?hd (xs := ([] : List (List Int))) (inner := []) (ok := fun _ => True) (okp := fun _ => True) ?hr ?hp (fun _ hk => hk) trivial (Below.refl _ _) (Nat.le_refl _) (by simp) ?_; (case hd => rfl); (case hg => rfl); (case hr => exact tc30_); (case hp => exact (Reps.none _ _)); intro v102 w3 ho4 hb hg_ hnew_; clear hg_ hnew_; (first | rw [← Ny101.out] at ho4 | (simp only [Int.reduceToNat] at ho4; rw [← Ny101.out] at ho4)); have HO103 := am_ (Kd.S_lower ho4 (below_size tc0_)); replace HB := am_ (below_step tc0_ hb); clear hb ho4))
 go_loopg [5, 6] k (fun kq v5 v6 w' => ∃ (x5_1 : List (List Int)) (x6_1 : Int), v6 = .int .i64 x6_1 ∧ Aside0 (impl_cells.l0 kq a0 a1 x5_1 x6_1 = some r) ∧ Aside0 (kq ≤ k) ∧ Aside0 (Kd.S (Kd.slice 3 (Kd.int .i64)) 32 w' w.heap.size (fun _ => True) v5 x5_1) ∧ Aside0 (Below w.heap.size w w'))
 case atStart => exact ⟨(y101), (1), tc6_, H', ⟨Nat.le_refl _⟩, ⟨tc21_⟩, ⟨tc0_⟩⟩
 case round =>
  clear H'; (try clear p2); obtain ⟨x5_1, x6_1, rfl, HA, HK1, HO_5, HB⟩ := hrel
  cases gk with
  | zero => exact absurd HA.out (by simp [impl_cells.l0])
  | succ k1 =>
   have H := HA.out; clear HA; simp only [impl_cells.l0] at H
   replace H := sp_ H; obtain ⟨c5b0, H⟩ | ⟨c5b0, H⟩ := H
   ·have H' := am_ H; clear H; go_wp2
    go_loopg [5, 7] k1 (fun kq v5 v7 w' => ∃ (x5_2 : List (List Int)) (x7_2 : Int), v7 = .int .i64 x7_2 ∧ Aside0 (impl_cells.l1 kq a0 a1 x5_2 x6_1 x7_2 = some r) ∧ Aside0 (kq ≤ k1) ∧ Aside0 (Kd.S (Kd.slice 3 (Kd.int .i64)) 32 w' w.heap.size (fun _ => True) v5 x5_2) ∧ Aside0 (Below w.heap.size w w'))
    case atStart => exact ⟨(x5_1), (1), tc6_, H', ⟨Nat.le_refl _⟩, ⟨tc15_⟩, ⟨tc0_⟩⟩
    case round =>
     clear H'; (try clear p2); (try clear c5); (try clear c5b0); (try clear p2); obtain ⟨x5_2, x7_2, rfl, HA, HK2, HO_5, HB⟩ := hrel
     cases gk with
     | zero => exact absurd HA.out (by simp [impl_cells.l1])
     | succ k2 =>
      have H := HA.out; clear HA; simp only [impl_cells.l1] at H
      replace H := sp_ H; obtain ⟨c6b0, H⟩ | ⟨c6b0, H⟩ := H
      ·replace H := bd_ H; obtain ⟨t104, A7, H⟩ := H; (try dsimp only at H)
       by_cases c8 : t104 = true
       ·subst c8; have H1 : (if x5_2.length < 5864062014805 then (impl_cells.l1 k2 a0 a1 (x5_2 ++ [(([x6_1, x7_2] : List Int))]) x6_1 (wrap64 (x7_2 + 1))) else (none)) = some r := tc19_; clear H; have H := H1; clear H1; obtain ⟨y105, hy105⟩ : ∃ y_ : List Int, y_ = (([x6_1, x7_2] : List Int)) := ⟨_, rfl⟩; replace H : (if x5_2.length < 5864062014805 then (impl_cells.l1 k2 a0 a1 (x5_2 ++ [y105]) x6_1 (wrap64 (x7_2 + 1))) else (none)) = some r := tc61_; have Ny105 := am_ hy105; clear hy105; replace H := pp_ H; obtain ⟨c9, H⟩ := H; have LMc9 := am_ c9; clear c9; obtain ⟨y108, hy108⟩ : ∃ y_ : List (List Int), y_ = (x5_2 ++ [y105]) := ⟨_, rfl⟩; replace H : (impl_cells.l1 k2 a0 a1 y108 x6_1 (wrap64 (x7_2 + 1))) = some r := tc59_; have Ny108 := am_ hy108; clear hy108; have H' := am_ H; clear H
        go_wp2_with (first | (go_at_fn g1; (refine (HF1.out _ ?side1 x6_1 _ K_int x7_2 _ K_int true A7.out).mono ?_); (case side1 => exact tc20_); rintro e w10 ⟨rfl, hb⟩; replace HO_5 := am_ (Kd.S_below tc15_ hb); replace HB := am_ (below_step tc0_ hb); (try clear hb)) | ((with_reducible refine gate_dst (N := 26) rfl ?_); refine Kd.R_lit (Kd.int .i64) _ 3 ?hg (N := 26) ?hd (xs := ([x6_1, x7_2] : List Int)) (inner := [.int .i64 x6_1, .int .i64 x7_2]) (ok := fun _ => True) (okp := fun _ => True) ?hr ?hp (fun _ hk => hk) trivial (Below.refl _ _) (Nat.le_refl _) (by simp) ?_; (case hd => rfl); (case hg => rfl); (case hr => exact tc30_); (case hp => exact (Reps.one (show Kd.M (Kd.int .i64) _ _ _ x6_1 [.int .i64 x6_1] from rfl) (Reps.one (show Kd.M (Kd.int .i64) _ _ _ x7_2 [.int .i64 x7_2] from rfl) (Reps.none _ _)))); intro v106 w11 ho12 hb hg_ hnew_; clear hg_ hnew_; (first | rw [← Ny105.out] at ho12 | (simp only [Int.reduceToNat] at ho12; rw [← Ny105.out] at ho12)); replace HO_5 := am_ (Kd.S_elder' tc15_ (Kd.R_base ho12) hb); have HO107 := am_ (Kd.R_lower ho12 (below_size tc0_)); replace HB := am_ (below_step tc0_ hb); clear hb ho12; obtain ⟨Ao14, co14, eo14⟩ := Kd.R_slice HO107.out; subst eo14) | ((with_reducible refine gate_builtin (b := .append) (xs := #[.tmp 23, .tmp 27]) rfl ?_); at_builtin; refine Kd.S_append (Kd.slice 3 (Kd.int .i64)) (w0 := w) w.heap.size rfl (.tmp 23) (.tmp 27) 24 32 (.slice none 0 0) 24 rfl Try.underlying24 info32 rfl (by decide) (by omega) u5 x5_2 y105 [.slice Ao14 y105.length co14] (fun _ => True) (fun k_ => some k_ = (.slice Ao14 y105.length co14 : Value).ownBlock) rfl rfl ?aP (fun k_ hk_ => ((Kd.R_mono (ok' := fun k_ => ((fun _ => True)) k_ ∧ some k_ ≠ (u5 : Value).ownBlock) (Kd.R_apart' (HO107.out) (Kd.S_typed HO_5.out) (by decide)) (fun k_ hk => ⟨trivial, hk.2⟩))).1 k_ hk_.symm) ?aF ?aO ?aB ?aS ?aL ?_; (case aP => exact Kd.M_row (Kd.R_mono (Kd.R_tight rfl (Kd.R_mono (ok' := fun k_ => ((fun _ => True)) k_ ∧ some k_ ≠ (u5 : Value).ownBlock) (Kd.R_apart' (HO107.out) (Kd.S_typed HO_5.out) (by decide)) (fun k_ hk => ⟨trivial, hk.2⟩))) (fun _ h_ => h_))); (case aB => exact tc20_); (case aF => exact tc157_); (case aO => exact tc138_); (case aS => exact tc35_); (case aL => have := LMc9.out; omega); intro v109 w13 ho hb hg hat; rw [← Ny108.out] at ho; replace HB := am_ (hb); have HO110 := am_ (ho); clear HO_5 HO107; clear ho hb hg hat))
        go_roundg k2
        case measure => have := HK1.out; have := HK2.out; omega
        case rel => exact ⟨(y108), (wrap64 (x7_2 + 1)), tc6_, H', ⟨tc39_⟩, ⟨tc112_⟩, ⟨tc0_⟩⟩
       ·replace c8 := Bool.eq_false_iff.mpr c8; subst c8; have H1 : (impl_cells.l1 k2 a0 a1 x5_2 x6_1 (wrap64 (x7_2 + 1))) = some r := tc12_; clear H; have H := H1; clear H1; have H' := am_ H; clear H
        go_wp2_with (first | (go_at_fn g1; (refine (HF1.out _ ?side1 x6_1 _ K_int x7_2 _ K_int false A7.out).mono ?_); (case side1 => exact tc20_); rintro e w15 ⟨rfl, hb⟩; replace HO_5 := am_ (Kd.S_below tc15_ hb); replace HB := am_ (below_step tc0_ hb); (try clear hb)))
        go_roundg k2
        case measure => have := HK1.out; have := HK2.out; omega
        case rel => exact ⟨(x5_2), (wrap64 (x7_2 + 1)), tc6_, H', ⟨tc39_⟩, ⟨tc15_⟩, ⟨tc0_⟩⟩
      ·have H' := am_ H; clear H; go_wp2
       go_roundg k2
       case measure => have := HK1.out; have := HK2.out; omega
       case rel => exact ⟨(x5_2), (wrap64 (x6_1 + 1)), tc6_, H', ⟨tc39_⟩, ⟨tc15_⟩, ⟨tc0_⟩⟩
   ·obtain rfl := Option.some.inj H; go_wp2
    go_ret
    exact ⟨_, tc8_, tc15_, tc0_⟩

/-! ### impl_flips_1: function 109 -/
def impl_flips_1.f (k : Nat) (a0 : Int) (a1 : Int) (l2_0 : List (List Int)) (a3_0 : Bool) : Option (Bool) := (impl_way.f k l2_0 a0 a1).bind fun t101 => (if t101 = 0 then (some false) else ((impl_way.f k l2_0 a0 a1).bind fun t102 => (some ((decide (t102 > 0)) == a3_0))))
def impl_flips_1.T1 : Bool × List (List Nat × List Nat) := (true, [([], []), ([], []), ([], []), ([0, 1, 2], [0, 1, 2]), ([3], [3]), ([4, 3], [4]), ([5], [5]), ([5], [5]), ([5], [5]), ([6, 7, 8, 5, 5], [5, 6, 7, 8]), ([9, 5], [5, 9]), ([5], [5]), ([10, 11, 5], [5, 10, 11]), ([5, 12], [5, 12]), ([13, 9, 0, 1, 2, 3, 4, 5, 6, 7, 8, 9, 10, 11, 12, 13], [13])])
def impl_flips_1.B1 : List Nat := [0, 0, 0, 7, 15, 31, 63, 63, 63, 511, 1023, 63, 4095, 8191, 16383]
theorem impl_flips_1.tab1 : rtab .any (opsOf Try.f109 1) = impl_flips_1.T1 := by kernel_rfl
theorem impl_flips_1.bits1 : waitsOk impl_flips_1.T1.2 impl_flips_1.B1 = true := by kernel_rfl
set_option maxHeartbeats 8000000 in
set_option maxRecDepth 100000 in
theorem impl_flips_1.calls (k : Nat) (a0 : Int) (a1 : Int) (B2 : Nat) (A2_0 : Option Addr) (c2_0 : Nat) (l2_0 : List (List Int)) (B3 : Nat) (a3_0 : Bool) (r : Bool) (w : World) (hb2 : w.heap[B2]? = some (.cells #[.slice A2_0 l2_0.length c2_0] 24 (0, 0))) (hr2_0 : Kd.C (Kd.slice 3 (Kd.int .i64)) w A2_0 l2_0.length l2_0) (hc2_0 : l2_0.length ≤ c2_0) (hb3 : w.heap[B3]? = some (.cells #[.bool a3_0] 4 (0, 0))) (h : impl_flips_1.f k a0 a1 l2_0 a3_0 = some r) :
  Calls Try.prog 109 #[.int .i64 a0, .int .i64 a1, .pointer (some ⟨B2, 0, none⟩), .pointer (some ⟨B3, 0, none⟩)] w fun e w' => e = .returned (.bool r) ∧ Below w.heap.size w w' := by
 have HR2_0 := am_ hr2_0; have HC2_0 := am_ hc2_0; clear hr2_0 hc2_0; have BK62 := am_ hb2; clear hb2; have BK63 := am_ hb3; clear hb3; have HB := am_ (Below.refl w.heap.size w); have H : ((impl_way.f k l2_0 a0 a1).bind fun t101 => (if t101 = 0 then (some false) else ((impl_way.f k l2_0 a0 a1).bind fun t102 => (some ((decide (t102 > 0)) == a3_0))))) = some r := h; clear h; replace H := bd_ H; obtain ⟨t101, A5, H⟩ := H; (try dsimp only at H)
 replace H := pn_ H; obtain ⟨c6, H⟩ | ⟨c6, H⟩ := H
 ·have c6b0 : (t101 == 0) = true := beq_iff_eq.mpr c6; have c6b1 : (t101 != 0) = false := bne_eq_false_iff_eq.mpr c6; clear c6; obtain rfl := Option.some.inj H; go_enter Try.func109, Try.ntmps109
  try go_wp2
  replace BK62 := am_ (blk_drew BK62.out); replace BK63 := am_ (blk_drew BK63.out); replace HB := am_ (below_drew1 HB.out); refine start_ (n := 15) (S := fun w' => w'.cell? ⟨B2, 0, none⟩ = some (.slice A2_0 l2_0.length c2_0)) (ds := []) #[F,F,F,F,F,F,F,F,F,F,F,F,F,F,F] (by kernel_rfl) rfl rfl ((blk_cell BK62.out 0).trans rfl) (fun hHeld => ?_); refine with_tabW impl_flips_1.tab1 impl_flips_1.bits1 (fun HT_ HW_ => ?_); generalize w.drew = w7 at BK62 BK63 HB hHeld ⊢; refine pure_ (i := 1) (N := some 8) #[F,T,F,F,F,F,F,F,F,F,F,F,F,F,F] rfl rfl an_ hq_ yi_ nm_ ?_; refine pure_ (i := 2) (N := some 9) #[F,T,T,F,F,F,F,F,F,F,F,F,F,F,F] rfl rfl an_ hq_ yi_ nm_ ?_; refine take_ (i := 0) (N := some 7) #[T,T,T,F,F,F,F,F,F,F,F,F,F,F,F] rfl rfl av_ hq_ yj1_ hHeld nm_ ?_; refine one_ (i := 3) (N := some 10) #[T,T,T,T,F,F,F,F,F,F,F,F,F,F,F] rfl rfl (one_of HT_.out (by kernel_rfl)) (by decide) (fun K hK => ?_); refine goes_ Try.func46 (by kernel_rfl) rfl #[.slice A2_0 l2_0.length c2_0, .int .i64 a0, .int .i64 a1] (by rfl) rfl rfl tc1_ ?_
  with_reducible refine (impl_way.calls k _ _ l2_0 a0 a1 t101 _ ?side1 ?side2 A5.out).mono ?_
  (case side1 => exact tc50_)
  (case side2 => exact HC2_0.out)
  rintro e w8 ⟨rfl, hb⟩; refine ⟨_, rfl, ?_⟩; replace BK62 := am_ (blk_below (g := B2) (o := .cells #[.slice A2_0 l2_0.length c2_0] 24 (0, 0)) tc43_ hb); replace BK63 := am_ (blk_below (g := B3) (o := .cells #[.bool a3_0] 4 (0, 0)) tc78_ hb); replace HB := am_ (below_step tc22_ hb); (try clear hb); (try clear hb2); (try clear hk); (try clear hi); refine hK.out _ _ ((blk_cell BK62.out 0).trans rfl) (fun hHeld => ?_); clear hK K; refine norm_ (a' := ?_) ?_ ?_; rotate_left
  ·show Act.put _ (some 10) _ = _
   simp only [Act.put, List.setIfInBounds_toArray, List.set_cons_zero, List.set_cons_succ, i64_w, i32_w]
   rfl
  refine pure_ (i := 4) (N := some 11) #[T,T,T,T,T,F,F,F,F,F,F,F,F,F,F] rfl rfl an_ hq_ yi_ nm_ ?_; refine pure_ (i := 5) (N := some 12) #[T,T,T,T,T,T,F,F,F,F,F,F,F,F,F] rfl rfl an_ hq_ yi_ nm_ ?_; refine pure_ (i := 6) (N := some 13) (v := undef) (a' := ?_) #[T,T,T,T,T,T,T,F,F,F,F,F,F,F,F] rfl rfl (any_of HT_.out (by kernel_rfl)) (fun _ _ _ h => h) (Or.inr ⟨by rfl, rfl⟩) ?_ ?_; rotate_left
  ·simp only [Act.put, List.setIfInBounds_toArray, List.set_cons_zero, List.set_cons_succ, i64_w, i32_w]
   rfl
  refine pure_ (i := 7) (N := some 14) (v := undef) (a' := ?_) #[T,T,T,T,T,T,T,T,F,F,F,F,F,F,F] rfl rfl (any_of HT_.out (by kernel_rfl)) (fun _ _ _ h => h) (Or.inr ⟨by rfl, rfl⟩) ?_ ?_; rotate_left
  ·simp only [Act.put, List.setIfInBounds_toArray, List.set_cons_zero, List.set_cons_succ, i64_w, i32_w]
   rfl
  refine pure_ (i := 8) (N := some 15) (v := undef) (a' := ?_) #[T,T,T,T,T,T,T,T,T,F,F,F,F,F,F] rfl rfl (any_of HT_.out (by kernel_rfl)) (fun _ _ _ h => h) (Or.inr ⟨by rfl, rfl⟩) ?_ ?_; rotate_left
  ·simp only [Act.put, List.setIfInBounds_toArray, List.set_cons_zero, List.set_cons_succ, i64_w, i32_w]
   rfl
  refine pure_ (i := 9) (N := some 16) (v := undef) (a' := ?_) #[T,T,T,T,T,T,T,T,T,T,F,F,F,F,F] rfl rfl (any_of HT_.out (by kernel_rfl)) (fun _ _ _ h => h) (Or.inr ⟨by rfl, rfl⟩) ?_ ?_; rotate_left
  ·simp only [Act.put, List.setIfInBounds_toArray, List.set_cons_zero, List.set_cons_succ, i64_w, i32_w]
   rfl
  refine pure_ (i := 10) (N := some 17) (v := undef) (a' := ?_) #[T,T,T,T,T,T,T,T,T,T,T,F,F,F,F] rfl rfl (any_of HT_.out (by kernel_rfl)) (fun _ _ _ h => h) (Or.inr ⟨by rfl, rfl⟩) ?_ ?_; rotate_left
  ·simp only [Act.put, List.setIfInBounds_toArray, List.set_cons_zero, List.set_cons_succ, i64_w, i32_w]
   rfl
  refine pure_ (i := 11) (N := some 18) (v := undef) (a' := ?_) #[T,T,T,T,T,T,T,T,T,T,T,T,F,F,F] rfl rfl (any_of HT_.out (by kernel_rfl)) (fun _ _ _ h => h) (Or.inr ⟨by rfl, rfl⟩) ?_ ?_; rotate_left
  ·simp only [Act.put, List.setIfInBounds_toArray, List.set_cons_zero, List.set_cons_succ, i64_w, i32_w]
   rfl
  refine pure_ (i := 12) (N := some 19) (v := undef) (a' := ?_) #[T,T,T,T,T,T,T,T,T,T,T,T,T,F,F] rfl rfl (any_of HT_.out (by kernel_rfl)) (fun _ _ _ h => h) (Or.inr ⟨by rfl, rfl⟩) ?_ ?_; rotate_left
  ·simp only [Act.put, List.setIfInBounds_toArray, List.set_cons_zero, List.set_cons_succ, i64_w, i32_w]
   rfl
  refine pure_ (i := 13) (N := some 20) #[T,T,T,T,T,T,T,T,T,T,T,T,T,T,F] rfl rfl an_ hq_ yi_ nm_ ?_; refine pure_ (i := 14) (N := some 6) #[T,T,T,T,T,T,T,T,T,T,T,T,T,T,T] rfl rfl an_ hq_ yi_ nm_ ?_; refine done_ (done_of HT_.out (by kernel_rfl)) ?_
  try go_wp2
  go_ret
  exact ⟨tc8_, tc22_⟩
 ·have c6b0 : (t101 == 0) = false := beq_eq_false_iff_ne.mpr c6; have c6b1 : (t101 != 0) = true := bne_iff_ne.mpr c6; replace H := bd_ H; obtain ⟨t102, A9, H⟩ := H; (try dsimp only at H); obtain rfl := Option.some.inj H; go_enter Try.func109, Try.ntmps109
  try go_wp2
  replace BK62 := am_ (blk_drew BK62.out); replace BK63 := am_ (blk_drew BK63.out); replace HB := am_ (below_drew1 HB.out); refine start_ (n := 15) (S := fun w' => w'.cell? ⟨B2, 0, none⟩ = some (.slice A2_0 l2_0.length c2_0) ∧ w'.cell? ⟨B3, 0, none⟩ = some (.bool a3_0)) (ds := []) #[F,F,F,F,F,F,F,F,F,F,F,F,F,F,F] (by kernel_rfl) rfl rfl ⟨(blk_cell BK62.out 0).trans rfl, (blk_cell BK63.out 0).trans rfl⟩ (fun hHeld => ?_); refine with_tabW impl_flips_1.tab1 impl_flips_1.bits1 (fun HT_ HW_ => ?_); generalize w.drew = w10 at BK62 BK63 HB hHeld ⊢; refine pure_ (i := 1) (N := some 8) #[F,T,F,F,F,F,F,F,F,F,F,F,F,F,F] rfl rfl an_ hq_ yi_ nm_ ?_; refine pure_ (i := 2) (N := some 9) #[F,T,T,F,F,F,F,F,F,F,F,F,F,F,F] rfl rfl an_ hq_ yi_ nm_ ?_; refine take_ (i := 0) (N := some 7) #[T,T,T,F,F,F,F,F,F,F,F,F,F,F,F] rfl rfl av_ hq_ yj2_ hHeld nm_ ?_; refine one_ (i := 3) (N := some 10) #[T,T,T,T,F,F,F,F,F,F,F,F,F,F,F] rfl rfl (one_of HT_.out (by kernel_rfl)) (by decide) (fun K hK => ?_); refine goes_ Try.func46 (by kernel_rfl) rfl #[.slice A2_0 l2_0.length c2_0, .int .i64 a0, .int .i64 a1] (by rfl) rfl rfl tc1_ ?_
  with_reducible refine (impl_way.calls k _ _ l2_0 a0 a1 t101 _ ?side1 ?side2 A5.out).mono ?_
  (case side1 => exact tc50_)
  (case side2 => exact HC2_0.out)
  rintro e w11 ⟨rfl, hb⟩; refine ⟨_, rfl, ?_⟩; replace BK62 := am_ (blk_below (g := B2) (o := .cells #[.slice A2_0 l2_0.length c2_0] 24 (0, 0)) tc43_ hb); replace BK63 := am_ (blk_below (g := B3) (o := .cells #[.bool a3_0] 4 (0, 0)) tc78_ hb); replace HB := am_ (below_step tc22_ hb); (try clear hb); (try clear hb2); (try clear hk); (try clear hi); refine hK.out _ _ ⟨(blk_cell BK62.out 0).trans rfl, (blk_cell BK63.out 0).trans rfl⟩ (fun hHeld => ?_); clear hK K; refine norm_ (a' := ?_) ?_ ?_; rotate_left
  ·show Act.put _ (some 10) _ = _
   simp only [Act.put, List.setIfInBounds_toArray, List.set_cons_zero, List.set_cons_succ, i64_w, i32_w]
   rfl
  refine pure_ (i := 4) (N := some 11) #[T,T,T,T,T,F,F,F,F,F,F,F,F,F,F] rfl rfl an_ hq_ yi_ nm_ ?_; refine pure_ (i := 5) (N := some 12) #[T,T,T,T,T,T,F,F,F,F,F,F,F,F,F] rfl rfl an_ hq_ yi_ nm_ ?_; refine pure_ (i := 7) (N := some 14) #[T,T,T,T,T,T,F,T,F,F,F,F,F,F,F] rfl rfl an_ hq_ yi_ nm_ ?_; refine pure_ (i := 8) (N := some 15) #[T,T,T,T,T,T,F,T,T,F,F,F,F,F,F] rfl rfl an_ hq_ yi_ nm_ ?_; refine take_ (i := 6) (N := some 13) #[T,T,T,T,T,T,T,T,T,F,F,F,F,F,F] rfl rfl av_ hq_ yj2_ hHeld nm_ ?_; refine take_ (i := 11) (N := some 18) #[T,T,T,T,T,T,T,T,T,F,F,T,F,F,F] rfl rfl av_ hq_ yj2_ hHeld nm_ ?_; refine one_ (i := 9) (N := some 16) #[T,T,T,T,T,T,T,T,T,T,F,T,F,F,F] rfl rfl (one_of HT_.out (by kernel_rfl)) (by decide) (fun K hK => ?_); refine goes_ Try.func46 (by kernel_rfl) rfl #[.slice A2_0 l2_0.length c2_0, .int .i64 a0, .int .i64 a1] (by rfl) rfl rfl tc1_ ?_
  with_reducible refine (impl_way.calls k _ _ l2_0 a0 a1 t102 _ ?side1 ?side2 A9.out).mono ?_
  (case side1 => exact tc50_)
  (case side2 => exact HC2_0.out)
  rintro e w12 ⟨rfl, hb⟩; refine ⟨_, rfl, ?_⟩; replace BK62 := am_ (blk_below (g := B2) (o := .cells #[.slice A2_0 l2_0.length c2_0] 24 (0, 0)) tc43_ hb); replace BK63 := am_ (blk_below (g := B3) (o := .cells #[.bool a3_0] 4 (0, 0)) tc78_ hb); replace HB := am_ (below_step tc22_ hb); (try clear hb); (try clear hb2); (try clear hk); (try clear hi); refine hK.out _ _ ⟨(blk_cell BK62.out 0).trans rfl, (blk_cell BK63.out 0).trans rfl⟩ (fun hHeld => ?_); clear hK K; refine norm_ (a' := ?_) ?_ ?_; rotate_left
  ·show Act.put _ (some 16) _ = _
   simp only [Act.put, List.setIfInBounds_toArray, List.set_cons_zero, List.set_cons_succ, i64_w, i32_w]
   rfl
  refine pure_ (i := 10) (N := some 17) #[T,T,T,T,T,T,T,T,T,T,T,T,F,F,F] rfl rfl an_ hq_ yi_ nm_ ?_; refine pure_ (i := 12) (N := some 19) #[T,T,T,T,T,T,T,T,T,T,T,T,T,F,F] rfl rfl an_ hq_ yi_ nm_ ?_; refine pure_ (i := 13) (N := some 20) #[T,T,T,T,T,T,T,T,T,T,T,T,T,T,F] rfl rfl an_ hq_ yi_ nm_ ?_; refine pure_ (i := 14) (N := some 6) #[T,T,T,T,T,T,T,T,T,T,T,T,T,T,T] rfl rfl an_ hq_ yi_ nm_ ?_; refine done_ (done_of HT_.out (by kernel_rfl)) ?_
  try go_wp2
  go_ret
  exact ⟨tc8_, tc22_⟩

/-! ### impl_flips: function 67 -/
def impl_flips.f (k : Nat) (l0 : List (List Int)) (a1 : Bool) : Option ((List (List Int))) := (impl_heights.f k l0).bind fun t102 => ((impl_cells.f k (l0.length : Int) (fun x0_ x1_ => impl_flips_1.f k x0_ x1_ t102 a1)).bind fun t106 => (some t106))
set_option maxHeartbeats 8000000 in
set_option maxRecDepth 100000 in
theorem impl_flips.calls (k : Nat) (A0 : Option Addr) (c0 : Nat) (l0 : List (List Int)) (a1 : Bool) (r : List (List Int)) (w : World) (hr0 : Kd.C (Kd.slice 3 (Kd.int .i64)) w A0 l0.length l0) (hc0 : l0.length ≤ c0) (h : impl_flips.f k l0 a1 = some r) :
  Calls Try.prog 67 #[.slice A0 l0.length c0, .bool a1] w fun e w' => ∃ v0_ : Value, e = .returned (v0_) ∧ Kd.S (Kd.slice 3 (Kd.int .i64)) 32 w' w.heap.size (fun _ => True) v0_ r ∧ Below w.heap.size w w' := by
 have HR0 := am_ hr0; have HC0 := am_ hc0; clear hr0 hc0; have HB := am_ (Below.refl w.heap.size w); have H : ((impl_heights.f k l0).bind fun t102 => ((impl_cells.f k (l0.length : Int) (fun x0_ x1_ => impl_flips_1.f k x0_ x1_ t102 a1)).bind fun t106 => (some t106))) = some r := h; clear h; replace H := bd_ H; obtain ⟨t102, A3, H⟩ := H; (try dsimp only at H); replace H := bd_ H; obtain ⟨t106, A4, H⟩ := H; (try dsimp only at H); obtain rfl := Option.some.inj H; go_enter Try.func67, Try.ntmps67
 go_wp2_with (first | ((with_reducible refine gate_dst (N := 3) rfl ?_); refine box_event ?hg (N := 3) ?hd (cs := #[.bool a1]) (t := 4) ?hr ?_; (case hd => rfl); (case hg => rfl); (case hr => exact tc30_); intro gb101 hg w5 hbox hb; have BK101 := am_ (hbox); have GW101 := am_ ((by rw [hg]; exact (below_size tc0_) : w.heap.size ≤ gb101)); have GE101 := am_ ((by rw [hg]; exact (below_size tc0_) : w.heap.size ≤ gb101)); replace HB := am_ (below_step tc0_ hb); clear hb hbox hg) | ((with_reducible refine gate_callee (f := 42) rfl ?_); refine goesL_ (some 7) rfl rfl Try.func42 (by kernel_rfl) rfl #[.slice A0 l0.length c0] rfl tc1_ ?_; (with_reducible refine (impl_heights.calls k _ _ l0 t102 _ ?side1 ?side2 A3.out).mono ?_); (case side1 => exact tc14_); (case side2 => exact HC0.out); rintro e w6 ⟨v103, rfl, ho0, hb⟩; refine ⟨_, rfl, ?_⟩; have HO104 := am_ (Kd.S_lower ho0 (below_size tc18_)); replace BK101 := am_ (blk_below (g := gb101) (o := .cells #[.bool a1] 4 (0, 0)) tc32_ hb); replace HB := am_ (below_step tc18_ hb); (try clear hb ho0)) | ((with_reducible refine gate_dst (N := 5) rfl ?_); refine box_event ?hg (N := 5) ?hd (cs := #[.slice none 0 0]) (t := 24) ?hr ?_; (case hd => rfl); (case hg => rfl); (case hr => exact tc30_); intro gb105 hg w7 hbox hb; replace HO104 := am_ (Kd.S_below tc24_ hb); have BK105 := am_ (hbox); have GW105 := am_ ((by rw [hg]; exact (below_size tc18_) : w.heap.size ≤ gb105)); have GE105 := am_ ((by rw [hg]; exact (below_size tc18_) : w.heap.size ≤ gb105)); replace HB := am_ (below_step tc18_ hb); have NB101_105 := am_ ((by rw [hg]; exact Nat.ne_of_lt (blk_lt (g := gb101) (o := .cells #[.bool a1] 4 (0, 0)) tc32_) : gb101 ≠ gb105)); have NB105_101 := am_ ((by rw [hg]; exact Nat.ne_of_gt (blk_lt (g := gb101) (o := .cells #[.bool a1] 4 (0, 0)) tc32_) : gb105 ≠ gb101)); replace BK101 := am_ (blk_below (g := gb101) (o := .cells #[.bool a1] 4 (0, 0)) tc32_ hb); clear hb hbox hg; obtain ⟨Ao8, co8, eo8⟩ := Kd.S_slice HO104.out; subst eo8; have hnb9 := NB105_101.out; have hnc9 := NB101_105.out; have hcz10_0 : w7.cell? ⟨gb105, 0, none⟩ = some (.slice none 0 0) := (blk_cell BK105.out 0).trans rfl; have hfz10_0 := blk_frozen BK105.out 0) | ((with_reducible refine gate_callee (f := 64) rfl ?_); refine goesL_ (some 11) rfl rfl Try.func64 (by kernel_rfl) rfl #[.int .i64 (l0.length : Int), .func (.func 109) #[] #[.pointer (some ⟨gb105, 0, none⟩), .pointer (some ⟨gb101, 0, none⟩)]] rfl tc1_ ?_; (with_reducible refine (impl_cells.calls k (l0.length : Int) _ _ (fun x0_ x1_ => impl_flips_1.f k x0_ x1_ t102 a1) t106 _ ?side1 A4.out).mono ?_); (case side1 => refine ⟨enters_of Try.func109 (by kernel_rfl) rfl, fun W_ hW_ x0_ v0_ hK0_ x1_ v1_ hK1_ r_ hr_ => ?_⟩; cases (show v0_ = .int .i64 x0_ from tc141_); cases (show v1_ = .int .i64 x1_ from tc142_); refine (impl_flips_1.calls k x0_ x1_ _ Ao8 co8 t102 _ a1 r_ W_ ?cb1 ?cb2 ?cb3 ?cb4 hr_).mono ?_; (case cb1 => exact blk_below tc82_ hW_); (case cb2 => refine Kd.C_below ?_ hW_; refine (Kd.S_reads' (e := 32) (base := w.heap.size) (ok := fun k_ => True) (n := t102.length) (c := co8) ?_).2.2; exact tc64_); (case cb3 => exact (Kd.S_reads' HO104.out).2.1); (case cb4 => exact blk_below tc103_ hW_); exact fun _ _ h_ => ⟨h_.1, h_.2⟩); rintro e w11 ⟨v107, rfl, ho0, hb⟩; refine ⟨_, rfl, ?_⟩; have HO108 := am_ (Kd.S_lower (Kd.S_new' ho0 (Kd.S_lt tc64_)) (below_size tc79_)); replace HO104 := am_ (Kd.S_elder' tc64_ (Kd.S_base ho0) hb); replace BK101 := am_ (blk_below (g := gb101) (o := .cells #[.bool a1] 4 (0, 0)) tc103_ hb); replace BK105 := am_ (blk_below (g := gb105) (o := .cells #[.slice Ao8 t102.length co8] 24 (0, 0)) tc82_ hb); replace HB := am_ (below_step tc79_ hb); (try clear hb hk ho0)))
 go_ret
 exact ⟨_, tc8_, (by (with_reducible repeat (first | apply Kd.S_alloc | apply Kd.S_drewN | apply Kd.S_drew)); exact Kd.S_mono HO108.out (fun _ hk => trivial)), tc79_⟩

/-! ### impl_FlipsOf: function 24 -/
def impl_FlipsOf.f (k : Nat) (l0 : List (List Int)) (a1 : Bool) : Option ((List (List Int)) × Bool) := (impl_IsSignMatrix.f k l0).bind fun t101 => (if t101 = true then ((impl_flips.f k l0 a1).bind fun t102 => (some (t102, true))) else (some (([] : List (List Int)), false)))
set_option maxHeartbeats 8000000 in
set_option maxRecDepth 100000 in
theorem impl_FlipsOf.calls (k : Nat) (A0 : Option Addr) (c0 : Nat) (l0 : List (List Int)) (a1 : Bool) (r1 : List (List Int)) (r2 : Bool) (w : World) (hr0 : Kd.C (Kd.slice 3 (Kd.int .i64)) w A0 l0.length l0) (hc0 : l0.length ≤ c0) (h : impl_FlipsOf.f k l0 a1 = some (r1, r2)) :
  Calls Try.prog 24 #[.slice A0 l0.length c0, .bool a1] w fun e w' => ∃ v0_ : Value, e = .returned (.tuple #[v0_, .bool r2]) ∧ Kd.S (Kd.slice 3 (Kd.int .i64)) 32 w' w.heap.size (fun _ => True) v0_ r1 ∧ Below w.heap.size w w' := by
 have HR0 := am_ hr0; have HC0 := am_ hc0; clear hr0 hc0; have HB := am_ (Below.refl w.heap.size w); have H : ((impl_IsSignMatrix.f k l0).bind fun t101 => (if t101 = true then ((impl_flips.f k l0 a1).bind fun t102 => (some (t102, true))) else (some (([] : List (List Int)), false)))) = some (r1, r2) := h; clear h; replace H := bd_ H; obtain ⟨t101, A3, H⟩ := H; (try dsimp only at H)
 by_cases c4 : t101 = true
 ·subst c4; have H1 : ((impl_flips.f k l0 a1).bind fun t102 => (some (t102, true))) = some (r1, r2) := tc19_; clear H; have H := H1; clear H1; replace H := bd_ H; obtain ⟨t102, A5, H⟩ := H; (try dsimp only at H); simp only [Option.some.injEq, Prod.mk.injEq] at H; obtain ⟨rfl, rfl⟩ := H; go_enter Try.func24, Try.ntmps24
  go_wp2_with (first | ((with_reducible refine gate_callee (f := 25) rfl ?_); refine goesL_ (some 7) rfl rfl Try.func25 (by kernel_rfl) rfl #[.slice A0 l0.length c0] rfl tc1_ ?_; (with_reducible refine (impl_IsSignMatrix.calls k _ _ l0 true _ ?side1 ?side2 A3.out).mono ?_); (case side1 => exact tc10_); (case side2 => exact HC0.out); rintro e w6 ⟨rfl, hb⟩; refine ⟨_, rfl, ?_⟩; replace HB := am_ (below_step tc0_ hb); (try clear hb)) | ((with_reducible refine gate_callee (f := 67) rfl ?_); refine goesL_ (some 11) rfl rfl Try.func67 (by kernel_rfl) rfl #[.slice A0 l0.length c0, .bool a1] rfl tc1_ ?_; (with_reducible refine (impl_flips.calls k _ _ l0 a1 t102 _ ?side1 ?side2 A5.out).mono ?_); (case side1 => exact tc14_); (case side2 => exact HC0.out); rintro e w7 ⟨v103, rfl, ho0, hb⟩; refine ⟨_, rfl, ?_⟩; have HO104 := am_ (Kd.S_lower ho0 (below_size tc0_)); replace HB := am_ (below_step tc0_ hb); (try clear hb ho0)))
  go_ret2
  exact ⟨_, tc8_, tc24_, tc0_⟩
 ·replace c4 := Bool.eq_false_iff.mpr c4; subst c4; have H1 : (some (([] : List (List Int)), false)) = some (r1, r2) := tc12_; clear H; have H := H1; clear H1; simp only [Option.some.injEq, Prod.mk.injEq] at H; obtain ⟨rfl, rfl⟩ := H; go_enter Try.func24, Try.ntmps24
  go_wp2_with (first | ((with_reducible refine gate_callee (f := 25) rfl ?_); refine goesL_ (some 7) rfl rfl Try.func25 (by kernel_rfl) rfl #[.slice A0 l0.length c0] rfl tc1_ ?_; (with_reducible refine (impl_IsSignMatrix.calls k _ _ l0 false _ ?side1 ?side2 A3.out).mono ?_); (case side1 => exact tc10_); (case side2 => exact HC0.out); rintro e w8 ⟨rfl, hb⟩; refine ⟨_, rfl, ?_⟩; replace HB := am_ (below_step tc0_ hb); (try clear hb)))
  go_ret2
  exact ⟨_, tc8_, tc23_, tc0_⟩

/-! ### spec_heFlips: function 82 -/
mutual
def spec_heFlips.l0 : Nat → List (List Int) → Int → List (List Int) → Int → Option ((List (List Int)))
 | 0, _, _, _, _ => none
 | k + 1, x0, x1, x5, x6 => if x6 < (wrap64 ((x0.length : Int) - 1)) then (spec_heFlips.l1 k x0 x1 x5 x6 1) else (some x5)
def spec_heFlips.l1 : Nat → List (List Int) → Int → List (List Int) → Int → Int → Option ((List (List Int)))
 | 0, _, _, _, _, _ => none
 | k + 1, x0, x1, x5, x6, x7 => if x7 < (wrap64 ((x0.length : Int) - 1)) then ((spec_heWay.f k x0 x6 x7).bind fun t101 => (if t101 = x1 then (if x5.length < 5864062014805 then (spec_heFlips.l1 k x0 x1 (x5 ++ [(([x6, x7] : List Int))]) x6 (wrap64 (x7 + 1))) else (none)) else (spec_heFlips.l1 k x0 x1 x5 x6 (wrap64 (x7 + 1))))) else (spec_heFlips.l0 k x0 x1 x5 (wrap64 (x6 + 1)))
end
def spec_heFlips.f (k : Nat) (l0 : List (List Int)) (a1 : Int) : Option ((List (List Int))) := spec_heFlips.l0 k l0 a1 ([] : List (List Int)) 1
theorem spec_heFlips.mono_l : ∀ k, (∀ y0 y1 y2 y3, LeO (spec_heFlips.l0 k y0 y1 y2 y3) (spec_heFlips.l0 (k + 1) y0 y1 y2 y3)) ∧ (∀ y0 y1 y2 y3 y4, LeO (spec_heFlips.l1 k y0 y1 y2 y3 y4) (spec_heFlips.l1 (k + 1) y0 y1 y2 y3 y4))
 | 0 => ⟨fun _ _ _ _ r h => by simp [spec_heFlips.l0] at h, fun _ _ _ _ _ r h => by simp [spec_heFlips.l1] at h⟩
 | k + 1 => by
  obtain ⟨ih0, ih1⟩ := spec_heFlips.mono_l k; refine ⟨?_, ?_⟩
  ·intro y0 y1 y2 y3; unfold spec_heFlips.l0
   repeat' first
   | (with_reducible exact ih0 _ _ _ _)
   | (with_reducible exact ih1 _ _ _ _ _)
   | (with_reducible exact spec_heWay.mono _ _ _ _)
   | (with_reducible exact LeO.refl _)
   | (with_reducible exact LeO.none _)
   | (with_reducible refine LeO.ite ?_ ?_)
   | (with_reducible refine LeO.bind ?_ (fun _ => ?_))
   | exact ih0 _ _ _ _
   | exact ih1 _ _ _ _ _
   | exact spec_heWay.mono _ _ _ _
   | exact LeO.none _
   | refine LeO.ite ?_ ?_
   | refine LeO.bind ?_ (fun _ => ?_)
  ·intro y0 y1 y2 y3 y4; unfold spec_heFlips.l1
   repeat' first
   | (with_reducible exact ih0 _ _ _ _)
   | (with_reducible exact ih1 _ _ _ _ _)
   | (with_reducible exact spec_heWay.mono _ _ _ _)
   | (with_reducible exact LeO.refl _)
   | (with_reducible exact LeO.none _)
   | (with_reducible refine LeO.ite ?_ ?_)
   | (with_reducible refine LeO.bind ?_ (fun _ => ?_))
   | exact ih0 _ _ _ _
   | exact ih1 _ _ _ _ _
   | exact spec_heWay.mono _ _ _ _
   | exact LeO.none _
   | refine LeO.ite ?_ ?_
   | refine LeO.bind ?_ (fun _ => ?_)
theorem spec_heFlips.mono : ∀ a0 a1  k, LeO (spec_heFlips.f k a0 a1) (spec_heFlips.f (k + 1) a0 a1) := by
 intro a0 a1 k; obtain ⟨ih0, ih1⟩ := spec_heFlips.mono_l k; unfold spec_heFlips.f
 repeat' first
   | (with_reducible exact ih0 _ _ _ _)
   | (with_reducible exact ih1 _ _ _ _ _)
   | (with_reducible exact spec_heWay.mono _ _ _ _)
   | (with_reducible exact LeO.refl _)
   | (with_reducible exact LeO.none _)
   | (with_reducible refine LeO.ite ?_ ?_)
   | (with_reducible refine LeO.bind ?_ (fun _ => ?_))
   | exact ih0 _ _ _ _
   | exact ih1 _ _ _ _ _
   | exact spec_heWay.mono _ _ _ _
   | exact LeO.none _
   | refine LeO.ite ?_ ?_
   | refine LeO.bind ?_ (fun _ => ?_)
set_option maxHeartbeats 8000000 in
set_option maxRecDepth 100000 in
theorem spec_heFlips.calls (k : Nat) (A0 : Option Addr) (c0 : Nat) (l0 : List (List Int)) (a1 : Int) (r : List (List Int)) (w : World) (hr0 : Kd.C (Kd.slice 3 (Kd.int .i64)) w A0 l0.length l0) (hc0 : l0.length ≤ c0) (h : spec_heFlips.f k l0 a1 = some r) :
  Calls Try.prog 82 #[.slice A0 l0.length c0, .int .i64 a1] w fun e w' => ∃ v0_ : Value, e = .returned (v0_) ∧ Kd.S (Kd.slice 3 (Kd.int .i64)) 32 w' w.heap.size (fun _ => True) v0_ r ∧ Below w.heap.size w w' := by
 have HR0 := am_ hr0; have HC0 := am_ hc0; clear hr0 hc0; have HB := am_ (Below.refl w.heap.size w); have H : (spec_heFlips.l0 k l0 a1 ([] : List (List Int)) 1) = some r := h; clear h; have H' := am_ H; clear H; go_enter Try.func82, Try.ntmps82; go_wp2
 go_loopg [5, 6] k (fun kq v5 v6 w' => ∃ (x5_1 : List (List Int)) (x6_1 : Int), v6 = .int .i64 x6_1 ∧ Aside0 (spec_heFlips.l0 kq l0 a1 x5_1 x6_1 = some r) ∧ Aside0 (kq ≤ k) ∧ Aside0 (Kd.S (Kd.slice 3 (Kd.int .i64)) 32 w' w.heap.size (fun _ => True) v5 x5_1) ∧ Aside0 (Below w.heap.size w w'))
 case atStart => exact ⟨(([] : List (List Int))), (1), tc6_, H', ⟨Nat.le_refl _⟩, ⟨tc23_⟩, ⟨tc0_⟩⟩
 case round =>
  clear H'; (try clear p2); obtain ⟨x5_1, x6_1, rfl, HA, HK1, HO_5, HB⟩ := hrel
  cases gk with
  | zero => exact absurd HA.out (by simp [spec_heFlips.l0])
  | succ k1 =>
   have H := HA.out; clear HA; simp only [spec_heFlips.l0] at H
   replace H := sp_ H; obtain ⟨c3b0, H⟩ | ⟨c3b0, H⟩ := H
   ·have H' := am_ H; clear H; go_wp2
    go_loopg [5, 7] k1 (fun kq v5 v7 w' => ∃ (x5_2 : List (List Int)) (x7_2 : Int), v7 = .int .i64 x7_2 ∧ Aside0 (spec_heFlips.l1 kq l0 a1 x5_2 x6_1 x7_2 = some r) ∧ Aside0 (kq ≤ k1) ∧ Aside0 (Kd.S (Kd.slice 3 (Kd.int .i64)) 32 w' w.heap.size (fun _ => True) v5 x5_2) ∧ Aside0 (Below w.heap.size w w'))
    case atStart => exact ⟨(x5_1), (1), tc6_, H', ⟨Nat.le_refl _⟩, ⟨tc15_⟩, ⟨tc0_⟩⟩
    case round =>
     clear H'; (try clear p2); (try clear c3); (try clear c3b0); (try clear p2); obtain ⟨x5_2, x7_2, rfl, HA, HK2, HO_5, HB⟩ := hrel
     cases gk with
     | zero => exact absurd HA.out (by simp [spec_heFlips.l1])
     | succ k2 =>
      have H := HA.out; clear HA; simp only [spec_heFlips.l1] at H
      replace H := sp_ H; obtain ⟨c4b0, H⟩ | ⟨c4b0, H⟩ := H
      ·replace H := bd_ H; obtain ⟨t101, A5, H⟩ := H; (try dsimp only at H)
       replace H := pn_ H; obtain ⟨c6, H⟩ | ⟨c6, H⟩ := H
       ·have c6b0 : (t101 == a1) = true := beq_iff_eq.mpr c6; have c6b1 : (t101 != a1) = false := bne_eq_false_iff_eq.mpr c6; clear c6; obtain ⟨y102, hy102⟩ : ∃ y_ : List Int, y_ = (([x6_1, x7_2] : List Int)) := ⟨_, rfl⟩; replace H : (if x5_2.length < 5864062014805 then (spec_heFlips.l1 k2 l0 a1 (x5_2 ++ [y102]) x6_1 (wrap64 (x7_2 + 1))) else (none)) = some r := (by first | (rw [hy102]; with_reducible exact H) | (have H2_ := (Option.bind_some _ _).symm.trans H; rw [hy102]; with_reducible exact H2_) | (have H2_ := (Option.bind_some _ _).symm.trans H; with_reducible exact H2_) | with_reducible exact H | (rw [hy102]; exact H) | exact H); have Ny102 := am_ hy102; clear hy102; replace H := pp_ H; obtain ⟨c7, H⟩ := H; have LMc7 := am_ c7; clear c7; obtain ⟨y105, hy105⟩ : ∃ y_ : List (List Int), y_ = (x5_2 ++ [y102]) := ⟨_, rfl⟩; replace H : (spec_heFlips.l1 k2 l0 a1 y105 x6_1 (wrap64 (x7_2 + 1))) = some r := tc61_; have Ny105 := am_ hy105; clear hy105; have H' := am_ H; clear H
        go_wp2_with (first | ((with_reducible refine gate_callee (f := 48) rfl ?_); refine goesL_ (some 25) rfl rfl Try.func48 (by kernel_rfl) rfl #[.slice A0 l0.length c0, .int .i64 x6_1, .int .i64 x7_2] rfl tc1_ ?_; (with_reducible refine (spec_heWay.calls k2 _ _ l0 x6_1 x7_2 t101 _ ?side1 ?side2 A5.out).mono ?_); (case side1 => exact tc14_); (case side2 => exact HC0.out); rintro e w8 ⟨rfl, hb⟩; refine ⟨_, rfl, ?_⟩; replace HO_5 := am_ (Kd.S_below tc15_ hb); replace HB := am_ (below_step tc0_ hb); (try clear hb)) | ((with_reducible refine gate_dst (N := 31) rfl ?_); refine Kd.R_lit (Kd.int .i64) _ 3 ?hg (N := 31) ?hd (xs := ([x6_1, x7_2] : List Int)) (inner := [.int .i64 x6_1, .int .i64 x7_2]) (ok := fun _ => True) (okp := fun _ => True) ?hr ?hp (fun _ hk => hk) trivial (Below.refl _ _) (Nat.le_refl _) (by simp) ?_; (case hd => rfl); (case hg => rfl); (case hr => exact tc30_); (case hp => exact (Reps.one (show Kd.M (Kd.int .i64) _ _ _ x6_1 [.int .i64 x6_1] from rfl) (Reps.one (show Kd.M (Kd.int .i64) _ _ _ x7_2 [.int .i64 x7_2] from rfl) (Reps.none _ _)))); intro v103 w9 ho10 hb hg_ hnew_; clear hg_ hnew_; (first | rw [← Ny102.out] at ho10 | (simp only [Int.reduceToNat] at ho10; rw [← Ny102.out] at ho10)); replace HO_5 := am_ (Kd.S_elder' tc15_ (Kd.R_base ho10) hb); have HO104 := am_ (Kd.R_lower ho10 (below_size tc0_)); replace HB := am_ (below_step tc0_ hb); clear hb ho10; obtain ⟨Ao12, co12, eo12⟩ := Kd.R_slice HO104.out; subst eo12) | ((with_reducible refine gate_builtin (b := .append) (xs := #[.tmp 28, .tmp 32]) rfl ?_); at_builtin; refine Kd.S_append (Kd.slice 3 (Kd.int .i64)) (w0 := w) w.heap.size rfl (.tmp 28) (.tmp 32) 24 32 (.slice none 0 0) 24 rfl Try.underlying24 info32 rfl (by decide) (by omega) u5 x5_2 y102 [.slice Ao12 y102.length co12] (fun _ => True) (fun k_ => some k_ = (.slice Ao12 y102.length co12 : Value).ownBlock) rfl rfl ?aP (fun k_ hk_ => ((Kd.R_mono (ok' := fun k_ => ((fun _ => True)) k_ ∧ some k_ ≠ (u5 : Value).ownBlock) (Kd.R_apart' (HO104.out) (Kd.S_typed HO_5.out) (by decide)) (fun k_ hk => ⟨trivial, hk.2⟩))).1 k_ hk_.symm) ?aF ?aO ?aB ?aS ?aL ?_; (case aP => exact Kd.M_row (Kd.R_mono (Kd.R_tight rfl (Kd.R_mono (ok' := fun k_ => ((fun _ => True)) k_ ∧ some k_ ≠ (u5 : Value).ownBlock) (Kd.R_apart' (HO104.out) (Kd.S_typed HO_5.out) (by decide)) (fun k_ hk => ⟨trivial, hk.2⟩))) (fun _ h_ => h_))); (case aB => exact tc20_); (case aF => exact tc157_); (case aO => exact tc138_); (case aS => exact tc35_); (case aL => have := LMc7.out; omega); intro v106 w11 ho hb hg hat; rw [← Ny105.out] at ho; replace HB := am_ (hb); have HO107 := am_ (ho); clear HO_5 HO104; clear ho hb hg hat))
        go_roundg k2
        case measure => have := HK1.out; have := HK2.out; omega
        case rel => exact ⟨(y105), (wrap64 (x7_2 + 1)), tc6_, H', ⟨tc39_⟩, ⟨(by (with_reducible repeat (first | apply Kd.S_alloc | apply Kd.S_drewN | apply Kd.S_drew)); exact HO107.out)⟩, ⟨tc0_⟩⟩
       ·have c6b0 : (t101 == a1) = false := beq_eq_false_iff_ne.mpr c6; have c6b1 : (t101 != a1) = true := bne_iff_ne.mpr c6; have H' := am_ H; clear H
        go_wp2_with (first | ((with_reducible refine gate_callee (f := 48) rfl ?_); refine goesL_ (some 25) rfl rfl Try.func48 (by kernel_rfl) rfl #[.slice A0 l0.length c0, .int .i64 x6_1, .int .i64 x7_2] rfl tc1_ ?_; (with_reducible refine (spec_heWay.calls k2 _ _ l0 x6_1 x7_2 t101 _ ?side1 ?side2 A5.out).mono ?_); (case side1 => exact tc14_); (case side2 => exact HC0.out); rintro e w13 ⟨rfl, hb⟩; refine ⟨_, rfl, ?_⟩; replace HO_5 := am_ (Kd.S_below tc15_ hb); replace HB := am_ (below_step tc0_ hb); (try clear hb)))
        go_roundg k2
        case measure => have := HK1.out; have := HK2.out; omega
        case rel => exact ⟨(x5_2), (wrap64 (x7_2 + 1)), tc6_, H', ⟨tc39_⟩, ⟨tc15_⟩, ⟨tc0_⟩⟩
      ·have H' := am_ H; clear H; go_wp2
       go_roundg k2
       case measure => have := HK1.out; have := HK2.out; omega
       case rel => exact ⟨(x5_2), (wrap64 (x6_1 + 1)), tc6_, H', ⟨tc39_⟩, ⟨tc15_⟩, ⟨tc0_⟩⟩
   ·obtain rfl := Option.some.inj H; go_wp2
    go_ret
    exact ⟨_, tc8_, tc15_, tc0_⟩

/-! ### spec_l1Cur_pair: function 81 -/
mutual
def spec_l1Cur_pair.j0 : Nat → Int → List (List Int) → Bool → List Int → Int → Int → Option ((List (List Int)) × (List (List Int)) × Int × Int)
 | 0, _, _, _, _, _, _ => none
 | k + 1, x1, x6, x23, x1000, x1001, x1002 => if x23 = true then ((spec_l1Cur_signs.f k x1000 x1001 x1002 x1).bind fun bt110 => (some (x6, bt110.1, bt110.2.1, bt110.2.2))) else ((spec_l1Cur_sure.f k x1000 x1001 x1002 (x6.length : Int)).bind fun bt115 => ((spec_l1Cur_one.f x1000 bt115.2.1 bt115.2.2 3).bind fun bt120 => (if bt120.1 = true then ((spec_l1Cur_pick.f x1000 bt120.2.1 bt120.2.2 4).bind fun bt123 => (spec_l1Cur_pair.l0 k x6 x6 bt123.1 x1000 bt123.2.1 bt123.2.2)) else (some (x6, bt115.1, bt120.2.1, bt120.2.2)))))
def spec_l1Cur_pair.l0 : Nat → List (List Int) → List (List Int) → Int → List Int → Int → Int → Option ((List (List Int)) × (List (List Int)) × Int × Int)
 | 0, _, _, _, _, _, _ => none
 | k + 1, x6, x7, x8, x1000, x1001, x1002 => if x8 > 0 then ((spec_heOf.f k x7).bind fun t126 => ((spec_l1Cur_pick.f x1000 x1001 x1002 2).bind fun bt129 => ((spec_heFlips.f k t126 (wrap64 ((wrap64 (2 * bt129.1)) - 1))).bind fun t132 => (if (t132.length : Int) > 0 then ((spec_l1Cur_pick.f x1000 bt129.2.1 bt129.2.2 (t132.length : Int)).bind fun bt135 => (if 0 ≤ bt135.1 then (if bt135.1 < (t132.length : Int) then (if 0 < ((rd_L3 t132 bt135.1).length : Int) then (if 1 < ((rd_L3 t132 bt135.1).length : Int) then ((spec_FlipAt.f k x7 (rd (rd_L3 t132 bt135.1) 0) (rd (rd_L3 t132 bt135.1) 1)).bind fun bt141 => (spec_l1Cur_pair.l0 k x6 bt141.1 (wrap64 (x8 - 1)) x1000 bt135.2.1 bt135.2.2)) else (none)) else (none)) else (none)) else (none))) else (spec_l1Cur_pair.l0 k x6 x7 (wrap64 (x8 - 1)) x1000 bt129.2.1 bt129.2.2))))) else (some (x6, x7, x1001, x1002))
end
def spec_l1Cur_pair.f (k : Nat) (s0_0 : List Int) (s0_1 : Int) (s0_2 : Int) (a1 : Int) : Option ((List (List Int)) × (List (List Int)) × Int × Int) := (spec_l1Cur_signs.f k s0_0 s0_1 s0_2 a1).bind fun bt101 => ((spec_sgGood.f k bt101.1).bind fun t106 => (if t106 = true then ((spec_l1Cur_one.f s0_0 bt101.2.1 bt101.2.2 10).bind fun bt107 => (spec_l1Cur_pair.j0 k a1 bt101.1 bt107.1 s0_0 bt107.2.1 bt107.2.2)) else (spec_l1Cur_pair.j0 k a1 bt101.1 true s0_0 bt101.2.1 bt101.2.2)))
def spec_l1Cur_pair.T14 : Bool × List (List Nat × List Nat) := (true, [([], []), ([], []), ([1], [1]), ([2], [2]), ([], []), ([4], [4]), ([5], [5]), ([0, 3, 6], [0, 3, 6]), ([7], [7]), ([8], [8]), ([8], [8]), ([9, 7, 0, 1, 2, 3, 4, 5, 6, 7, 8, 9], [9]), ([10, 11, 0, 1, 2, 3, 4, 5, 6, 7, 8, 9, 10, 11], [10])])
def spec_l1Cur_pair.B14 : List Nat := [0, 0, 2, 6, 0, 16, 48, 127, 255, 511, 511, 1023, 4095]
theorem spec_l1Cur_pair.tab14 : rtab .any (opsOf Try.f81 14) = spec_l1Cur_pair.T14 := by kernel_rfl
theorem spec_l1Cur_pair.bits14 : waitsOk spec_l1Cur_pair.T14.2 spec_l1Cur_pair.B14 = true := by kernel_rfl
set_option maxHeartbeats 8000000 in
set_option maxRecDepth 100000 in
theorem spec_l1Cur_pair.calls (k : Nat) (g : Nat) (s0_0 : List Int) (s0_1 : Int) (s0_2 : Int) (a1 : Int) (r1 : List (List Int)) (r2 : List (List Int)) (r3 : Int) (r4 : Int) (w0 w : World) (hI : IsS50 w0 w g s0_0 s0_1 s0_2) (hB : Below w0.heap.size w0 w) (h : spec_l1Cur_pair.f k s0_0 s0_1 s0_2 a1 = some (r1, r2, r3, r4)) :
  Calls Try.prog 81 #[.pointer (some ⟨g, 0, none⟩), .int .i64 a1] w fun e w' => ∃ v0_ v1_ : Value, e = .returned (.tuple #[v0_, v1_]) ∧ Kd.S (Kd.slice 3 (Kd.int .i64)) 32 w' w.heap.size (fun _ => True) v0_ r1 ∧ Kd.S (Kd.slice 3 (Kd.int .i64)) 32 w' w.heap.size (fun _ => True) v1_ r2 ∧ IsS50 w0 w' g s0_0 r3 r4 ∧ Below w0.heap.size w0 w' ∧ KeepBut w w' g none := by
 have HI0 := am_ hI; have HK := am_ (KeepBut.refl w g none); have HL := am_ hB.size; clear hI; have HW0 := am_ hB.size; have HB := am_ hB; clear hB; have H : ((spec_l1Cur_signs.f k s0_0 s0_1 s0_2 a1).bind fun bt101 => ((spec_sgGood.f k bt101.1).bind fun t106 => (if t106 = true then ((spec_l1Cur_one.f s0_0 bt101.2.1 bt101.2.2 10).bind fun bt107 => (spec_l1Cur_pair.j0 k a1 bt101.1 bt107.1 s0_0 bt107.2.1 bt107.2.2)) else (spec_l1Cur_pair.j0 k a1 bt101.1 true s0_0 bt101.2.1 bt101.2.2)))) = some (r1, r2, r3, r4) := h; clear h; replace H := Option.bind_eq_some_iff.mp H; obtain ⟨⟨t101, t104, t105⟩, A30, H⟩ := H; (try dsimp only at H); have A3 := am_ A30; clear A30; have HC4 := am_ H; clear H; go_enter Try.func81, Try.ntmps81
 go_upto_region 2 with (first | ((with_reducible refine gate_callee (f := 35) rfl ?_); refine goesL_ (some 16) rfl rfl Try.func35 (by kernel_rfl) rfl #[.pointer (some ⟨g, 0, none⟩), .int .i64 a1] rfl tc1_ ?_; (with_reducible refine (spec_l1Cur_signs.calls k g s0_0 s0_1 s0_2 a1 t101 t104 t105 w0 _ ?side1 ?side2 A3.out).mono ?_); (case side1 => exact tc3_); (case side2 => exact tc5_); rintro e w5 ⟨v102, rfl, ho0, hi, hb, hk⟩; refine ⟨_, rfl, ?_⟩; have HO103 := am_ (Kd.S_lower ho0 (keep_size (w := w) (g := g) (row := none) tc4_)); replace HK := am_ (KeepBut.trans tc4_ hk (.inl rfl)); replace HB := am_ (hb); replace HI0 := am_ (hi); (try clear hb hk hi ho0)))
 (try simp only [Act.put, List.setIfInBounds_toArray, List.set_cons_zero, List.set_cons_succ])
 go_cut [23] (fun v23 wc => ∃ (kq : Nat) (x23_3 : Bool) (x1001_3 : Int) (x1002_3 : Int), v23 = .bool x23_3 ∧ Aside0 (spec_l1Cur_pair.j0 kq a1 t101 x23_3 s0_0 x1001_3 x1002_3 = some (r1, r2, r3, r4)) ∧ Aside0 (kq ≤ k) ∧ Aside0 (Kd.S (Kd.slice 3 (Kd.int .i64)) 32 wc w.heap.size (fun _ => True) v102 t101) ∧ Aside0 (IsS50 w0 wc g s0_0 x1001_3 x1002_3) ∧ Aside0 (KeepBut w wc g none) ∧ Aside0 (Below w0.heap.size w0 wc))
 case first =>
  have H := HC4.out; clear HC4; replace H := bd_ H; obtain ⟨t106, A6, H⟩ := H; (try dsimp only at H)
  by_cases c7 : t106 = true
  ·subst c7; have H1 : ((spec_l1Cur_one.f s0_0 t104 t105 10).bind fun bt107 => (spec_l1Cur_pair.j0 k a1 t101 bt107.1 s0_0 bt107.2.1 bt107.2.2)) = some (r1, r2, r3, r4) := tc19_; clear H; have H := H1; clear H1; replace H := Option.bind_eq_some_iff.mp H; obtain ⟨⟨t107, t108, t109⟩, A80, H⟩ := H; (try dsimp only at H); have A8 := am_ A80; clear A80; have H' := am_ H; clear H; obtain ⟨Ao9, co9, eo9⟩ := Kd.S_slice HO103.out; subst eo9
   go_wp2_with (first | ((with_reducible refine gate_callee (f := 39) rfl ?_); refine goesL_ (some 18) rfl rfl Try.func39 (by kernel_rfl) rfl #[.slice Ao9 t101.length co9] rfl tc1_ ?_; (with_reducible refine (spec_sgGood.calls k _ _ t101 true _ ?side1 ?side2 A6.out).mono ?_); (case side1 => repeat (first | exact (Kd.S_reads' HO103.out).2.2 | (with_reducible refine Kd.C_alloc ?_ _) | (with_reducible refine Kd.C_drewN ?_ _) | (with_reducible refine Kd.C_drew ?_))); (case side2 => exact (Kd.S_reads' HO103.out).2.1); rintro e w10 ⟨rfl, hb⟩; refine ⟨_, rfl, ?_⟩; replace HO103 := am_ (Kd.S_below tc21_ hb); replace HK := am_ (KeepBut.trans tc4_ (KeepBut.of_below hb g none) (.inl rfl)); replace HB := am_ (below_step tc5_ hb); replace HI0 := am_ (IsS50.below tc3_ hb); (try clear hb)) | (go_at_call 56; (with_reducible refine (spec_l1Cur_one.calls g s0_0 t104 t105 10 t107 t108 t109 w0 _ ?side1 ?side2 A8.out).mono ?_); (case side1 => exact tc3_); (case side2 => exact tc5_); rintro e w11 ⟨rfl, hi, hb, hk⟩; replace HO103 := am_ (Kd.S_mono (Kd.S_keep (IsS50.apartS (show IsS50 w0 _ g s0_0 t104 t105 from tc3_) tc21_ (by decide)) hk (fun _ h => h.2)) (fun _ h => h.1)); replace HK := am_ (KeepBut.trans tc4_ hk (.inl rfl)); replace HB := am_ (hb); replace HI0 := am_ (hi); (try clear hb hb2 hk hi)))
   go_meet
   case rel => exact ⟨_, (t107), (t108), (t109), tc6_, H', ⟨tc101_⟩, ⟨tc21_⟩, ⟨tc3_⟩, ⟨tc4_⟩, ⟨tc5_⟩⟩
  ·replace c7 := Bool.eq_false_iff.mpr c7; subst c7; have H1 : (spec_l1Cur_pair.j0 k a1 t101 true s0_0 t104 t105) = some (r1, r2, r3, r4) := tc12_; clear H; have H := H1; clear H1; have H' := am_ H; clear H; obtain ⟨Ao12, co12, eo12⟩ := Kd.S_slice HO103.out; subst eo12
   go_wp2_with (first | ((with_reducible refine gate_callee (f := 39) rfl ?_); refine goesL_ (some 18) rfl rfl Try.func39 (by kernel_rfl) rfl #[.slice Ao12 t101.length co12] rfl tc1_ ?_; (with_reducible refine (spec_sgGood.calls k _ _ t101 false _ ?side1 ?side2 A6.out).mono ?_); (case side1 => repeat (first | exact (Kd.S_reads' HO103.out).2.2 | (with_reducible refine Kd.C_alloc ?_ _) | (with_reducible refine Kd.C_drewN ?_ _) | (with_reducible refine Kd.C_drew ?_))); (case side2 => exact (Kd.S_reads' HO103.out).2.1); rintro e w13 ⟨rfl, hb⟩; refine ⟨_, rfl, ?_⟩; replace HO103 := am_ (Kd.S_below tc21_ hb); replace HK := am_ (KeepBut.trans tc4_ (KeepBut.of_below hb g none) (.inl rfl)); replace HB := am_ (below_step tc5_ hb); replace HI0 := am_ (IsS50.below tc3_ hb); (try clear hb)))
   go_meet
   case rel => exact ⟨_, (true), (t104), (t105), tc6_, H', ⟨tc101_⟩, ⟨tc21_⟩, ⟨tc3_⟩, ⟨tc4_⟩, ⟨tc5_⟩⟩
 case rest =>
  clear HC4; (try clear p2); (try clear c3); (try clear c7); (try clear c8); obtain ⟨kq, x23_3, x1001_3, x1002_3, rfl, HA, HJ3, HO_6, HI0, HK, HB⟩ := hcut
  cases kq with
  | zero => exact absurd HA.out (by simp [spec_l1Cur_pair.j0])
  | succ kj3 =>
   have H := HA.out; clear HA; simp only [spec_l1Cur_pair.j0] at H
   by_cases c14 : x23_3 = true
   ·subst c14; have H1 : ((spec_l1Cur_signs.f kj3 s0_0 x1001_3 x1002_3 a1).bind fun bt110 => (some (t101, bt110.1, bt110.2.1, bt110.2.2))) = some (r1, r2, r3, r4) := tc19_; clear H; have H := H1; clear H1; replace H := Option.bind_eq_some_iff.mp H; obtain ⟨⟨t110, t113, t114⟩, A150, H⟩ := H; (try dsimp only at H); have A15 := am_ A150; clear A150; simp only [Option.some.injEq, Prod.mk.injEq] at H; obtain ⟨rfl, rfl, rfl, rfl⟩ := H
    go_wp2_with (first | ((with_reducible refine gate_callee (f := 35) rfl ?_); refine goesL_ (some 27) rfl rfl Try.func35 (by kernel_rfl) rfl #[.pointer (some ⟨g, 0, none⟩), .int .i64 a1] rfl tc1_ ?_; (with_reducible refine (spec_l1Cur_signs.calls kj3 g s0_0 x1001_3 x1002_3 a1 t110 t113 t114 w0 _ ?side1 ?side2 A15.out).mono ?_); (case side1 => exact tc3_); (case side2 => exact tc5_); rintro e w16 ⟨v111, rfl, ho0, hi, hb, hk⟩; refine ⟨_, rfl, ?_⟩; have HO112 := am_ (Kd.S_lower (Kd.S_new' ho0 (Kd.S_lt tc13_)) (keep_size (w := w) (g := g) (row := none) tc4_)); replace HO_6 := am_ (Kd.S_mono (Kd.S_told (Kd.S_oldK (IsS50.apartS (show IsS50 w0 _ g s0_0 x1001_3 x1002_3 from tc3_) tc13_ (by decide)) hk) (Kd.S_base ho0)) (fun _ h_ => h_.1)); replace HK := am_ (KeepBut.trans tc4_ hk (.inl rfl)); replace HB := am_ (hb); replace HI0 := am_ (hi); (try clear hb hk hi ho0)))
    go_ret2
    exact ⟨_, _, tc8_, tc55_, (by (with_reducible repeat (first | apply Kd.S_alloc | apply Kd.S_drewN | apply Kd.S_drew)); exact Kd.S_mono HO112.out (fun _ _ => trivial)), tc3_, tc5_, tc4_⟩
   ·replace c14 := Bool.eq_false_iff.mpr c14; subst c14; have H1 : ((spec_l1Cur_sure.f kj3 s0_0 x1001_3 x1002_3 (t101.length : Int)).bind fun bt115 => ((spec_l1Cur_one.f s0_0 bt115.2.1 bt115.2.2 3).bind fun bt120 => (if bt120.1 = true then ((spec_l1Cur_pick.f s0_0 bt120.2.1 bt120.2.2 4).bind fun bt123 => (spec_l1Cur_pair.l0 kj3 t101 t101 bt123.1 s0_0 bt123.2.1 bt123.2.2)) else (some (t101, bt115.1, bt120.2.1, bt120.2.2))))) = some (r1, r2, r3, r4) := tc12_; clear H; have H := H1; clear H1; replace H := Option.bind_eq_some_iff.mp H; obtain ⟨⟨t115, t118, t119⟩, A170, H⟩ := H; (try dsimp only at H); have A17 := am_ A170; clear A170; replace H := Option.bind_eq_some_iff.mp H; obtain ⟨⟨t120, t121, t122⟩, A180, H⟩ := H; (try dsimp only at H); have A18 := am_ A180; clear A180
    by_cases c19 : t120 = true
    ·subst c19; have H1 : ((spec_l1Cur_pick.f s0_0 t121 t122 4).bind fun bt123 => (spec_l1Cur_pair.l0 kj3 t101 t101 bt123.1 s0_0 bt123.2.1 bt123.2.2)) = some (r1, r2, r3, r4) := tc19_; clear H; have H := H1; clear H1; replace H := Option.bind_eq_some_iff.mp H; obtain ⟨⟨t123, t124, t125⟩, A200, H⟩ := H; (try dsimp only at H); have A20 := am_ A200; clear A200; have H' := am_ H; clear H; obtain ⟨Ao21, co21, eo21⟩ := Kd.S_slice HO_6.out; subst eo21
     go_wp2_with (first | ((with_reducible refine gate_callee (f := 83) rfl ?_); refine goesL_ (some 31) rfl rfl Try.func83 (by kernel_rfl) rfl #[.pointer (some ⟨g, 0, none⟩), .int .i64 (t101.length : Int)] rfl tc1_ ?_; (with_reducible refine (spec_l1Cur_sure.calls kj3 g s0_0 x1001_3 x1002_3 (t101.length : Int) t115 t118 t119 w0 _ ?side1 ?side2 A17.out).mono ?_); (case side1 => exact tc3_); (case side2 => exact tc5_); rintro e w22 ⟨v116, rfl, ho0, hi, hb, hk⟩; refine ⟨_, rfl, ?_⟩; have HO117 := am_ (Kd.S_lower (Kd.S_new' ho0 (Kd.S_lt tc13_)) (keep_size (w := w) (g := g) (row := none) tc4_)); replace HO_6 := am_ (Kd.S_mono (Kd.S_told (Kd.S_oldK (IsS50.apartS (show IsS50 w0 _ g s0_0 x1001_3 x1002_3 from tc3_) tc13_ (by decide)) hk) (Kd.S_base ho0)) (fun _ h_ => h_.1)); replace HK := am_ (KeepBut.trans tc4_ hk (.inl rfl)); replace HB := am_ (hb); replace HI0 := am_ (hi); (try clear hb hk hi ho0)) | ((with_reducible refine gate_callee (f := 56) rfl ?_); refine goesL_ (some 33) rfl rfl Try.func56 (by kernel_rfl) rfl #[.pointer (some ⟨g, 0, none⟩), .int .i64 3] rfl tc1_ ?_; (with_reducible refine (spec_l1Cur_one.calls g s0_0 t118 t119 3 true t121 t122 w0 _ ?side1 ?side2 A18.out).mono ?_); (case side1 => exact tc3_); (case side2 => exact tc5_); rintro e w23 ⟨rfl, hi, hb, hk⟩; refine ⟨_, rfl, ?_⟩; replace HO_6 := am_ (Kd.S_mono (Kd.S_keep (IsS50.apartS (show IsS50 w0 _ g s0_0 t118 t119 from tc3_) tc13_ (by decide)) hk (fun _ h => h.2)) (fun _ h => h.1)); replace HO117 := am_ (Kd.S_mono (Kd.S_keep (IsS50.apartS (show IsS50 w0 _ g s0_0 t118 t119 from tc3_) tc128_ (by decide)) hk (fun _ h => h.2)) (fun _ h => h.1)); replace HK := am_ (KeepBut.trans tc4_ hk (.inl rfl)); replace HB := am_ (hb); replace HI0 := am_ (hi); (try clear hb hk hi)) | ((with_reducible refine gate_callee (f := 54) rfl ?_); refine goesL_ (some 36) rfl rfl Try.func54 (by kernel_rfl) rfl #[.pointer (some ⟨g, 0, none⟩), .int .i64 4] rfl tc1_ ?_; (with_reducible refine (spec_l1Cur_pick.calls g s0_0 t121 t122 4 t123 t124 t125 w0 _ ?side1 ?side2 A20.out).mono ?_); (case side1 => exact tc3_); (case side2 => exact tc5_); rintro e w24 ⟨rfl, hi, hb, hk⟩; refine ⟨_, rfl, ?_⟩; replace HO_6 := am_ (Kd.S_mono (Kd.S_keep (IsS50.apartS (show IsS50 w0 _ g s0_0 t121 t122 from tc3_) tc13_ (by decide)) hk (fun _ h => h.2)) (fun _ h => h.1)); replace HO117 := am_ (Kd.S_mono (Kd.S_keep (IsS50.apartS (show IsS50 w0 _ g s0_0 t121 t122 from tc3_) tc128_ (by decide)) hk (fun _ h => h.2)) (fun _ h => h.1)); replace HK := am_ (KeepBut.trans tc4_ hk (.inl rfl)); replace HB := am_ (hb); replace HI0 := am_ (hi); (try clear hb hk hi)))
     go_loopg [7, 8] kj3 (fun kq v7 v8 w' => ∃ (x7_2 : List (List Int)) (x8_2 : Int) (x1001_2 : Int) (x1002_2 : Int), v8 = .int .i64 x8_2 ∧ Aside0 (spec_l1Cur_pair.l0 kq t101 x7_2 x8_2 s0_0 x1001_2 x1002_2 = some (r1, r2, r3, r4)) ∧ Aside0 (kq ≤ kj3) ∧ Aside0 (Kd.S (Kd.slice 3 (Kd.int .i64)) 32 w' w.heap.size (fun _ => True) (.slice Ao21 t101.length co21) t101) ∧ Aside0 (Kd.S (Kd.slice 3 (Kd.int .i64)) 32 w' w.heap.size (fun _ => True) v7 x7_2) ∧ Aside0 (IsS50 w0 w' g s0_0 x1001_2 x1002_2) ∧ Aside0 (KeepBut w w' g none) ∧ Aside0 (Below w0.heap.size w0 w'))
     case atStart => exact ⟨(t101), (t123), (t124), (t125), tc6_, H', ⟨Nat.le_refl _⟩, ⟨tc55_⟩, ⟨tc55_⟩, ⟨tc3_⟩, ⟨tc4_⟩, ⟨tc5_⟩⟩
     case round =>
      clear H'; (try clear c1); (try clear p2); (try clear c3); (try clear c5); (try clear c7); (try clear c8); (try clear c14); (try clear c19); (try clear p2); obtain ⟨x7_2, x8_2, x1001_2, x1002_2, rfl, HA, HK2, HO_6, HO_7, HI0, HK, HB⟩ := hrel
      cases gk with
      | zero => exact absurd HA.out (by simp [spec_l1Cur_pair.l0])
      | succ k2 =>
       have H := HA.out; clear HA; simp only [spec_l1Cur_pair.l0] at H
       replace H := pn_ H; obtain ⟨c25, H⟩ | ⟨c25, H⟩ := H
       ·have c25b0 : decide (0 < x8_2) = true := decide_eq_true c25; clear c25; replace H := bd_ H; obtain ⟨t126, A26, H⟩ := H; (try dsimp only at H); replace H := Option.bind_eq_some_iff.mp H; obtain ⟨⟨t129, t130, t131⟩, A270, H⟩ := H; (try dsimp only at H); have A27 := am_ A270; clear A270; replace H := bd_ H; obtain ⟨t132, A28, H⟩ := H; (try dsimp only at H)
        replace H := pn_ H; obtain ⟨c29, H⟩ | ⟨c29, H⟩ := H
        ·have c29b0 : decide (0 < (t132.length : Int)) = true := decide_eq_true c29; have c29b1 : decide (0 < t132.length) = true := decide_eq_true (by omega); clear c29; replace H := Option.bind_eq_some_iff.mp H; obtain ⟨⟨t135, t136, t137⟩, A300, H⟩ := H; (try dsimp only at H); have A30 := am_ A300; clear A300; replace H := ps_ H; obtain ⟨c31b0, H⟩ := H; replace H := ps_ H; obtain ⟨c32b0, H⟩ := H; replace H := pp_ H; obtain ⟨c33, H⟩ := H; have c33b0 : decide (0 < ((rd_L3 t132 t135).length : Int)) = true := decide_eq_true c33; have c33b1 : decide (0 < (rd_L3 t132 t135).length) = true := decide_eq_true (by omega); clear c33; replace H := pp_ H; obtain ⟨c34, H⟩ := H; have c34b0 : decide (1 < ((rd_L3 t132 t135).length : Int)) = true := decide_eq_true c34; have c34b1 : decide (1 < (rd_L3 t132 t135).length) = true := decide_eq_true (by omega); clear c34; replace H := Option.bind_eq_some_iff.mp H; obtain ⟨⟨t141, t142⟩, A350, H⟩ := H; (try dsimp only at H); have A35 := am_ A350; clear A350; have H' := am_ H; clear H; obtain ⟨Ao36, co36, eo36⟩ := Kd.S_slice HO_7.out; subst eo36
         try go_wp2_with (first | ((with_reducible refine gate_callee (f := 47) rfl ?_); refine goesL_ (some 42) rfl rfl Try.func47 (by kernel_rfl) rfl #[.slice Ao36 x7_2.length co36] rfl tc1_ ?_; (with_reducible refine (spec_heOf.calls k2 _ _ x7_2 t126 _ ?side1 ?side2 A26.out).mono ?_); (case side1 => exact tc100_); (case side2 => exact (Kd.S_reads' HO_7.out).2.1); rintro e w37 ⟨v127, rfl, ho0, hb⟩; refine ⟨_, rfl, ?_⟩; have HO128 := am_ (Kd.S_lower (Kd.S_new' (Kd.S_new' ho0 (Kd.S_lt tc13_)) (Kd.S_lt tc27_)) (keep_size (w := w) (g := g) (row := none) tc4_)); replace HO_6 := am_ (Kd.S_below tc13_ hb); replace HO_7 := am_ (Kd.S_below tc27_ hb); replace HK := am_ (KeepBut.trans tc4_ (KeepBut.of_below hb g none) (.inl rfl)); replace HB := am_ (below_step tc5_ hb); replace HI0 := am_ (IsS50.below tc3_ hb); (try clear hb ho0)) | ((with_reducible refine gate_callee (f := 54) rfl ?_); refine goesL_ (some 45) rfl rfl Try.func54 (by kernel_rfl) rfl #[.pointer (some ⟨g, 0, none⟩), .int .i64 2] rfl tc1_ ?_; (with_reducible refine (spec_l1Cur_pick.calls g s0_0 x1001_2 x1002_2 2 t129 t130 t131 w0 _ ?side1 ?side2 A27.out).mono ?_); (case side1 => exact tc3_); (case side2 => exact tc5_); rintro e w38 ⟨rfl, hi, hb, hk⟩; refine ⟨_, rfl, ?_⟩; replace HO_6 := am_ (Kd.S_mono (Kd.S_keep (IsS50.apartS (show IsS50 w0 _ g s0_0 x1001_2 x1002_2 from tc3_) tc13_ (by decide)) hk (fun _ h => h.2)) (fun _ h => h.1)); replace HO_7 := am_ (Kd.S_mono (Kd.S_keep (IsS50.apartS (show IsS50 w0 _ g s0_0 x1001_2 x1002_2 from tc3_) tc27_ (by decide)) hk (fun _ h => h.2)) (fun _ h => h.1)); replace HO128 := am_ (Kd.S_mono (Kd.S_keep (IsS50.apartS (show IsS50 w0 _ g s0_0 x1001_2 x1002_2 from tc3_) tc48_ (by decide)) hk (fun _ h => h.2)) (fun _ h => h.1)); replace HK := am_ (KeepBut.trans tc4_ hk (.inl rfl)); replace HB := am_ (hb); replace HI0 := am_ (hi); (try clear hb hk hi); obtain ⟨Ao39, co39, eo39⟩ := Kd.S_slice HO128.out; subst eo39) | ((with_reducible refine gate_callee (f := 82) rfl ?_); refine goesL_ (some 48) rfl rfl Try.func82 (by kernel_rfl) rfl #[.slice Ao39 t126.length co39, .int .i64 (wrap64 ((wrap64 (2 * t129)) - 1))] rfl tc1_ ?_; (with_reducible refine (spec_heFlips.calls k2 _ _ t126 (wrap64 ((wrap64 (2 * t129)) - 1)) t132 _ ?side1 ?side2 A28.out).mono ?_); (case side1 => repeat (first | exact (Kd.S_reads' HO128.out).2.2 | (with_reducible refine Kd.C_alloc ?_ _) | (with_reducible refine Kd.C_drewN ?_ _) | (with_reducible refine Kd.C_drew ?_))); (case side2 => exact (Kd.S_reads' HO128.out).2.1); rintro e w40 ⟨v133, rfl, ho0, hb⟩; refine ⟨_, rfl, ?_⟩; have HO134 := am_ (Kd.S_lower (Kd.S_new' (Kd.S_new' (Kd.S_new' ho0 (Kd.S_lt tc13_)) (Kd.S_lt tc27_)) (Kd.S_lt tc48_)) (keep_size (w := w) (g := g) (row := none) tc4_)); replace HO_6 := am_ (Kd.S_below tc13_ hb); replace HO_7 := am_ (Kd.S_below tc27_ hb); replace HO128 := am_ (Kd.S_below tc48_ hb); replace HK := am_ (KeepBut.trans tc4_ (KeepBut.of_below hb g none) (.inl rfl)); replace HB := am_ (below_step tc5_ hb); replace HI0 := am_ (IsS50.below tc3_ hb); (try clear hb ho0); obtain ⟨Ao41, co41, eo41⟩ := Kd.S_slice HO134.out; subst eo41) | ((with_reducible refine gate_callee (f := 54) rfl ?_); refine goesL_ (some 56) rfl rfl Try.func54 (by kernel_rfl) rfl #[.pointer (some ⟨g, 0, none⟩), .int .i64 (t132.length : Int)] rfl tc1_ ?_; (with_reducible refine (spec_l1Cur_pick.calls g s0_0 t130 t131 (t132.length : Int) t135 t136 t137 w0 _ ?side1 ?side2 A30.out).mono ?_); (case side1 => exact tc3_); (case side2 => exact tc5_); rintro e w42 ⟨rfl, hi, hb, hk⟩; refine ⟨_, rfl, ?_⟩; replace HO_6 := am_ (Kd.S_mono (Kd.S_keep (IsS50.apartS (show IsS50 w0 _ g s0_0 t130 t131 from tc3_) tc13_ (by decide)) hk (fun _ h => h.2)) (fun _ h => h.1)); replace HO_7 := am_ (Kd.S_mono (Kd.S_keep (IsS50.apartS (show IsS50 w0 _ g s0_0 t130 t131 from tc3_) tc27_ (by decide)) hk (fun _ h => h.2)) (fun _ h => h.1)); replace HO128 := am_ (Kd.S_mono (Kd.S_keep (IsS50.apartS (show IsS50 w0 _ g s0_0 t130 t131 from tc3_) tc48_ (by decide)) hk (fun _ h => h.2)) (fun _ h => h.1)); replace HO134 := am_ (Kd.S_mono (Kd.S_keep (IsS50.apartS (show IsS50 w0 _ g s0_0 t130 t131 from tc3_) tc129_ (by decide)) hk (fun _ h => h.2)) (fun _ h => h.1)); replace HK := am_ (KeepBut.trans tc4_ hk (.inl rfl)); replace HB := am_ (hb); replace HI0 := am_ (hi); (try clear hb hk hi); have p138 : 0 ≤ (t135 : Int) := od_; have q138 : t135 < (t132.length : Int) := od_; obtain ⟨ad138, A138_0, c138_0, e138, hx138_0, hl138_0, hi138_0⟩ := at_L3 (Kd.S_reads' HO134.out).2.2 t135 p138 q138; cases e138; obtain ⟨ce138, hce138, hMe138, hcc138⟩ := Kd.S_get HO134.out [] t135 p138 (by first | exact q138 | exact od_ | (have e_ := (Kd.S_reads' HO134.out).1; omega)); obtain ⟨ve138_0, rfl, ge138_0⟩ := hMe138; have hv138_0 := hcc138 0 _ rfl; rw [Nat.add_zero, show ((Kd.slice 3 (Kd.int .i64))).sz = 1 from rfl, Nat.mul_one] at hv138_0; replace hv138_0 := Option.some.inj (hv138_0.symm.trans hx138_0); rw [hv138_0] at ge138_0; have HL138_0 := am_ (show Kd.R (Kd.int .i64) 3 _ _ _ _ (rd_L3 t132 t135) from ge138_0); clear hv138_0 ge138_0; clear hcc138 hce138; have HR138_0 := am_ hi138_0; have HC138_0 := am_ hl138_0; clear hi138_0 hl138_0; replace p138 := eq_true p138; replace q138 := eq_true q138))
         replace HO_6 := am_ (Kd.S_drew HO_6.out); replace HO_7 := am_ (Kd.S_drew HO_7.out); replace HO128 := am_ (Kd.S_drew HO128.out); replace HO134 := am_ (Kd.S_drew HO134.out); replace HL138_0 := am_ (Kd.R_drew HL138_0.out); replace HR138_0 := am_ (Kd.C_drew HR138_0.out); replace HI0 := am_ (IsS50.drew HI0.out); replace HK := am_ (keep_drew HK.out); replace HB := am_ (below_drew1 HB.out); have p139 : 0 ≤ (0 : Int) := (by omega); have q139 : 0 < ((rd_L3 t132 t135).length : Int) := od_; obtain ⟨ad139, e139, hx139_0⟩ := Kd.at_int tc80_ 0 p139 q139; cases e139; have qi139 : (0 < (rd_L3 t132 t135).length) = True := eq_true (by omega); (try rw [show ((0 : Int)).toNat = 0 from rfl] at hx139_0); (try rw [Addr.add_zero'] at hx139_0); replace p139 := eq_true p139; replace q139 := eq_true q139; have p140 : 0 ≤ (1 : Int) := (by omega); have q140 : 1 < ((rd_L3 t132 t135).length : Int) := od_; obtain ⟨ad140, e140, hx140_0⟩ := Kd.at_int tc80_ 1 p140 q140; obtain rfl : ad139 = ad140 := (by injection e140); (try simp only [show (1 : Int).toNat = 1 from rfl, Nat.reduceMul, Nat.reduceEqDiff, Go.Addr.add, ↓reduceIte] at hx140_0); have qi140 : (1 < (rd_L3 t132 t135).length) = True := eq_true (by omega); (try rw [show ((1 : Int)).toNat = 1 from rfl] at hx140_0); replace p140 := eq_true p140; replace q140 := eq_true q140; refine start_ (n := 13) (S := fun w' => w'.cell? ad139 = some (.int .i64 (rd (rd_L3 t132 t135) 0)) ∧ w'.cell? ⟨ad139.block, ad139.off + 1, none⟩ = some (.int .i64 (rd (rd_L3 t132 t135) 1))) (ds := []) #[F,F,F,F,F,F,F,F,F,F,F,F,F] (by kernel_rfl) rfl rfl ⟨hx139_0, hx140_0⟩ (fun hHeld => ?_); refine with_tabW spec_l1Cur_pair.tab14 spec_l1Cur_pair.bits14 (fun HT_ HW_ => ?_); generalize w42.drew = w43 at HO_6 HO_7 HO128 HO134 HL138_0 HR138_0 HI0 HK HB hx139_0 hx140_0 hHeld ⊢; refine pure_ (i := 0) (N := some 60) #[T,F,F,F,F,F,F,F,F,F,F,F,F] rfl rfl an_ hq_ yi_ nm_ ?_; refine pure_ (i := 1) (N := some 61) #[T,T,F,F,F,F,F,F,F,F,F,F,F] rfl rfl an_ hq_ yi_ nm_ ?_; refine pure_ (i := 2) (N := some 62) #[T,T,T,F,F,F,F,F,F,F,F,F,F] rfl rfl an_ hq_ yi_ nm_ ?_; refine pure_ (i := 4) (N := some 64) #[T,T,T,F,T,F,F,F,F,F,F,F,F] rfl rfl an_ hq_ yi_ nm_ ?_; refine pure_ (i := 5) (N := some 65) #[T,T,T,F,T,T,F,F,F,F,F,F,F] rfl rfl an_ hq_ yi_ nm_ ?_; refine take_ (i := 3) (N := some 63) #[T,T,T,T,T,T,F,F,F,F,F,F,F] rfl rfl av_ hq_ yj2_ hHeld nm_ ?_; refine take_ (i := 6) (N := some 66) #[T,T,T,T,T,T,T,F,F,F,F,F,F] rfl rfl av_ hq_ yj2_ hHeld nm_ ?_; refine one_ (i := 7) (N := some 67) #[T,T,T,T,T,T,T,T,F,F,F,F,F] rfl rfl (one_of HT_.out (by kernel_rfl)) (by decide) (fun K hK => ?_); refine goes_ Try.func22 (by kernel_rfl) rfl #[.slice Ao36 x7_2.length co36, .int .i64 (rd (rd_L3 t132 t135) 0), .int .i64 (rd (rd_L3 t132 t135) 1)] (by rfl) rfl rfl tc1_ ?_
         with_reducible refine (spec_FlipAt.calls k2 _ _ x7_2 (rd (rd_L3 t132 t135) 0) (rd (rd_L3 t132 t135) 1) t141 t142 _ ?side1 ?side2 A35.out).mono ?_
         (case side1 => exact tc100_)
         (case side2 => exact (Kd.S_reads' HO_7.out).2.1)
         rintro e w44 ⟨v143, rfl, ho0, hb⟩; have HS0_ := (hb.cell (World.block_lt_of_cell? _ _ (hHeld.1))).trans (hHeld.1); have HS1_ := (hb.cell (World.block_lt_of_cell? _ _ (hHeld.2))).trans (hHeld.2); refine ⟨_, rfl, ?_⟩; have HO144 := am_ (Kd.S_lower (Kd.S_new' (Kd.S_new' (Kd.S_new' (Kd.S_new' (Kd.S_new' ho0 (Kd.S_lt tc13_)) (Kd.S_lt tc27_)) (Kd.S_lt tc48_)) (Kd.S_lt tc129_)) (Kd.R_lt (by (with_reducible repeat (first | apply Kd.R_alloc | apply Kd.R_drewN | apply Kd.R_drew)); exact HL138_0.out))) (keep_size (w := w) (g := g) (row := none) tc4_)); replace HO_6 := am_ (Kd.S_below tc13_ hb); replace HO_7 := am_ (Kd.S_below tc27_ hb); replace HO128 := am_ (Kd.S_below tc48_ hb); replace HO134 := am_ (Kd.S_below tc129_ hb); replace HL138_0 := am_ (Kd.R_below (by (with_reducible repeat (first | apply Kd.R_alloc | apply Kd.R_drewN | apply Kd.R_drew)); exact HL138_0.out) hb); replace HR138_0 := am_ (Kd.C_below tc80_ hb); replace HK := am_ (KeepBut.trans tc4_ (KeepBut.of_below hb g none) (.inl rfl)); replace HB := am_ (below_step tc5_ hb); replace HI0 := am_ (IsS50.below tc3_ hb); (try clear hb); (try clear hb2); (try clear hk); (try clear hi); (try clear ho0); refine hK.out _ _ ⟨HS0_, HS1_⟩ (fun hHeld => ?_); clear hK K; refine norm_ (a' := ?_) ?_ ?_; rotate_left
         ·show Act.put _ (some 67) _ = _
          simp only [Act.put, List.setIfInBounds_toArray, List.set_cons_zero, List.set_cons_succ, i64_w, i32_w]
          rfl
         refine pure_ (i := 8) (N := some 59) #[T,T,T,T,T,T,T,T,T,F,F,F,F] rfl rfl an_ hq_ yi_ nm_ ?_; refine pure_ (i := 9) (N := some 68) #[T,T,T,T,T,T,T,T,T,T,F,F,F] rfl rfl an_ hq_ yi_ nm_ ?_; refine pure_ (i := 10) (N := some 69) #[T,T,T,T,T,T,T,T,T,T,T,F,F] rfl rfl an_ hq_ yi_ nm_ ?_; refine pure_ (i := 11) (N := some 12) #[T,T,T,T,T,T,T,T,T,T,T,T,F] rfl rfl an_ hq_ yi_ nm_ ?_; refine pure_ (i := 12) (N := some 13) #[T,T,T,T,T,T,T,T,T,T,T,T,T] rfl rfl an_ hq_ yi_ nm_ ?_; refine done_ (done_of HT_.out (by kernel_rfl)) ?_
         try go_wp2
         go_roundg k2
         case measure => have := HJ3.out; have := HK2.out; omega
         case rel => exact ⟨(t141), (wrap64 (x8_2 - 1)), (t136), (t137), tc6_, H', ⟨(by have := HJ3.out; have := HK2.out; omega)⟩, ⟨tc55_⟩, ⟨(by (with_reducible repeat (first | apply Kd.S_alloc | apply Kd.S_drewN | apply Kd.S_drew)); exact Kd.S_mono HO144.out (fun _ _ => trivial))⟩, ⟨tc3_⟩, ⟨tc4_⟩, ⟨tc5_⟩⟩
        ·have c29b0 : decide (0 < (t132.length : Int)) = false := decide_eq_false c29; have c29b1 : decide (0 < t132.length) = false := decide_eq_false (by omega); clear c29; have H' := am_ H; clear H; obtain ⟨Ao45, co45, eo45⟩ := Kd.S_slice HO_7.out; subst eo45
         go_wp2_with (first | ((with_reducible refine gate_callee (f := 47) rfl ?_); refine goesL_ (some 42) rfl rfl Try.func47 (by kernel_rfl) rfl #[.slice Ao45 x7_2.length co45] rfl tc1_ ?_; (with_reducible refine (spec_heOf.calls k2 _ _ x7_2 t126 _ ?side1 ?side2 A26.out).mono ?_); (case side1 => exact tc100_); (case side2 => exact (Kd.S_reads' HO_7.out).2.1); rintro e w46 ⟨v127, rfl, ho0, hb⟩; refine ⟨_, rfl, ?_⟩; have HO128 := am_ (Kd.S_lower (Kd.S_new' (Kd.S_new' ho0 (Kd.S_lt tc13_)) (Kd.S_lt tc27_)) (keep_size (w := w) (g := g) (row := none) tc4_)); replace HO_6 := am_ (Kd.S_below tc13_ hb); replace HO_7 := am_ (Kd.S_below tc27_ hb); replace HK := am_ (KeepBut.trans tc4_ (KeepBut.of_below hb g none) (.inl rfl)); replace HB := am_ (below_step tc5_ hb); replace HI0 := am_ (IsS50.below tc3_ hb); (try clear hb ho0)) | ((with_reducible refine gate_callee (f := 54) rfl ?_); refine goesL_ (some 45) rfl rfl Try.func54 (by kernel_rfl) rfl #[.pointer (some ⟨g, 0, none⟩), .int .i64 2] rfl tc1_ ?_; (with_reducible refine (spec_l1Cur_pick.calls g s0_0 x1001_2 x1002_2 2 t129 t130 t131 w0 _ ?side1 ?side2 A27.out).mono ?_); (case side1 => exact tc3_); (case side2 => exact tc5_); rintro e w47 ⟨rfl, hi, hb, hk⟩; refine ⟨_, rfl, ?_⟩; replace HO_6 := am_ (Kd.S_mono (Kd.S_keep (IsS50.apartS (show IsS50 w0 _ g s0_0 x1001_2 x1002_2 from tc3_) tc13_ (by decide)) hk (fun _ h => h.2)) (fun _ h => h.1)); replace HO_7 := am_ (Kd.S_mono (Kd.S_keep (IsS50.apartS (show IsS50 w0 _ g s0_0 x1001_2 x1002_2 from tc3_) tc27_ (by decide)) hk (fun _ h => h.2)) (fun _ h => h.1)); replace HO128 := am_ (Kd.S_mono (Kd.S_keep (IsS50.apartS (show IsS50 w0 _ g s0_0 x1001_2 x1002_2 from tc3_) tc48_ (by decide)) hk (fun _ h => h.2)) (fun _ h => h.1)); replace HK := am_ (KeepBut.trans tc4_ hk (.inl rfl)); replace HB := am_ (hb); replace HI0 := am_ (hi); (try clear hb hk hi); obtain ⟨Ao48, co48, eo48⟩ := Kd.S_slice HO128.out; subst eo48) | ((with_reducible refine gate_callee (f := 82) rfl ?_); refine goesL_ (some 48) rfl rfl Try.func82 (by kernel_rfl) rfl #[.slice Ao48 t126.length co48, .int .i64 (wrap64 ((wrap64 (2 * t129)) - 1))] rfl tc1_ ?_; (with_reducible refine (spec_heFlips.calls k2 _ _ t126 (wrap64 ((wrap64 (2 * t129)) - 1)) t132 _ ?side1 ?side2 A28.out).mono ?_); (case side1 => repeat (first | exact (Kd.S_reads' HO128.out).2.2 | (with_reducible refine Kd.C_alloc ?_ _) | (with_reducible refine Kd.C_drewN ?_ _) | (with_reducible refine Kd.C_drew ?_))); (case side2 => exact (Kd.S_reads' HO128.out).2.1); rintro e w49 ⟨v133, rfl, ho0, hb⟩; refine ⟨_, rfl, ?_⟩; have HO134 := am_ (Kd.S_lower (Kd.S_new' (Kd.S_new' (Kd.S_new' ho0 (Kd.S_lt tc13_)) (Kd.S_lt tc27_)) (Kd.S_lt tc48_)) (keep_size (w := w) (g := g) (row := none) tc4_)); replace HO_6 := am_ (Kd.S_below tc13_ hb); replace HO_7 := am_ (Kd.S_below tc27_ hb); replace HO128 := am_ (Kd.S_below tc48_ hb); replace HK := am_ (KeepBut.trans tc4_ (KeepBut.of_below hb g none) (.inl rfl)); replace HB := am_ (below_step tc5_ hb); replace HI0 := am_ (IsS50.below tc3_ hb); (try clear hb ho0); obtain ⟨Ao50, co50, eo50⟩ := Kd.S_slice HO134.out; subst eo50))
         go_roundg k2
         case measure => have := HJ3.out; have := HK2.out; omega
         case rel => exact ⟨(x7_2), (wrap64 (x8_2 - 1)), (t130), (t131), tc6_, H', ⟨(by have := HJ3.out; have := HK2.out; omega)⟩, ⟨tc55_⟩, ⟨(by (with_reducible repeat (first | apply Kd.S_alloc | apply Kd.S_drewN | apply Kd.S_drew)); exact Kd.S_mono HO_7.out (fun _ _ => trivial))⟩, ⟨tc3_⟩, ⟨tc4_⟩, ⟨tc5_⟩⟩
       ·have c25b0 : decide (0 < x8_2) = false := decide_eq_false c25; clear c25; simp only [Option.some.injEq, Prod.mk.injEq] at H; obtain ⟨rfl, rfl, rfl, rfl⟩ := H; go_wp2
        go_ret2
        exact ⟨_, _, tc8_, tc13_, tc27_, tc3_, tc5_, tc4_⟩
    ·replace c19 := Bool.eq_false_iff.mpr c19; subst c19; have H1 : (some (t101, t115, t121, t122)) = some (r1, r2, r3, r4) := tc12_; clear H; have H := H1; clear H1; simp only [Option.some.injEq, Prod.mk.injEq] at H; obtain ⟨rfl, rfl, rfl, rfl⟩ := H; obtain ⟨Ao51, co51, eo51⟩ := Kd.S_slice HO_6.out; subst eo51
     go_wp2_with (first | ((with_reducible refine gate_callee (f := 83) rfl ?_); refine goesL_ (some 31) rfl rfl Try.func83 (by kernel_rfl) rfl #[.pointer (some ⟨g, 0, none⟩), .int .i64 (t101.length : Int)] rfl tc1_ ?_; (with_reducible refine (spec_l1Cur_sure.calls kj3 g s0_0 x1001_3 x1002_3 (t101.length : Int) t115 t118 t119 w0 _ ?side1 ?side2 A17.out).mono ?_); (case side1 => exact tc3_); (case side2 => exact tc5_); rintro e w52 ⟨v116, rfl, ho0, hi, hb, hk⟩; refine ⟨_, rfl, ?_⟩; have HO117 := am_ (Kd.S_lower (Kd.S_new' ho0 (Kd.S_lt tc13_)) (keep_size (w := w) (g := g) (row := none) tc4_)); replace HO_6 := am_ (Kd.S_mono (Kd.S_told (Kd.S_oldK (IsS50.apartS (show IsS50 w0 _ g s0_0 x1001_3 x1002_3 from tc3_) tc13_ (by decide)) hk) (Kd.S_base ho0)) (fun _ h_ => h_.1)); replace HK := am_ (KeepBut.trans tc4_ hk (.inl rfl)); replace HB := am_ (hb); replace HI0 := am_ (hi); (try clear hb hk hi ho0)) | ((with_reducible refine gate_callee (f := 56) rfl ?_); refine goesL_ (some 33) rfl rfl Try.func56 (by kernel_rfl) rfl #[.pointer (some ⟨g, 0, none⟩), .int .i64 3] rfl tc1_ ?_; (with_reducible refine (spec_l1Cur_one.calls g s0_0 t118 t119 3 false t121 t122 w0 _ ?side1 ?side2 A18.out).mono ?_); (case side1 => exact tc3_); (case side2 => exact tc5_); rintro e w53 ⟨rfl, hi, hb, hk⟩; refine ⟨_, rfl, ?_⟩; replace HO_6 := am_ (Kd.S_mono (Kd.S_keep (IsS50.apartS (show IsS50 w0 _ g s0_0 t118 t119 from tc3_) tc13_ (by decide)) hk (fun _ h => h.2)) (fun _ h => h.1)); replace HO117 := am_ (Kd.S_mono (Kd.S_keep (IsS50.apartS (show IsS50 w0 _ g s0_0 t118 t119 from tc3_) tc128_ (by decide)) hk (fun _ h => h.2)) (fun _ h => h.1)); replace HK := am_ (KeepBut.trans tc4_ hk (.inl rfl)); replace HB := am_ (hb); replace HI0 := am_ (hi); (try clear hb hk hi)))
     go_ret2
     exact ⟨_, _, tc8_, tc55_, (by (with_reducible repeat (first | apply Kd.S_alloc | apply Kd.S_drewN | apply Kd.S_drew)); exact Kd.S_mono HO117.out (fun _ _ => trivial)), tc3_, tc5_, tc4_⟩

/-! ### spec_DrawIsBelow: function 72 -/
def spec_DrawIsBelow.f (k : Nat) (l0 : List Int) : Option ((List (List Int)) × (List (List Int))) := (spec_l1Cur_pair.f k l0 0 0 5).bind fun bt102 => (some (bt102.1, bt102.2.1))
set_option maxHeartbeats 8000000 in
set_option maxRecDepth 100000 in
theorem spec_DrawIsBelow.calls (k : Nat) (A0 : Option Addr) (c0 : Nat) (l0 : List Int) (r1 : List (List Int)) (r2 : List (List Int)) (w : World) (hr0 : Kd.C (Kd.int .u8) w A0 l0.length l0) (hc0 : l0.length ≤ c0) (h : spec_DrawIsBelow.f k l0 = some (r1, r2)) :
  Calls Try.prog 72 #[.slice A0 l0.length c0] w fun e w' => ∃ v0_ v1_ : Value, e = .returned (.tuple #[v0_, v1_]) ∧ Kd.S (Kd.slice 3 (Kd.int .i64)) 32 w' w.heap.size (fun _ => True) v0_ r1 ∧ Kd.S (Kd.slice 3 (Kd.int .i64)) 32 w' w.heap.size (fun _ => True) v1_ r2 ∧ Below w.heap.size w w' := by
 have hu50 := Try.underlying50; have HR0 := am_ hr0; have HC0 := am_ hc0; clear hr0 hc0; have HB := am_ (Below.refl w.heap.size w); have H : ((spec_l1Cur_pair.f k l0 0 0 5).bind fun bt102 => (some (bt102.1, bt102.2.1))) = some (r1, r2) := h; clear h; replace H := Option.bind_eq_some_iff.mp H; obtain ⟨⟨t102, t105, t108, t109⟩, A20, H⟩ := H; (try dsimp only at H); have A2 := am_ A20; clear A20; simp only [Option.some.injEq, Prod.mk.injEq] at H; obtain ⟨rfl, rfl⟩ := H; go_enter Try.func72, Try.ntmps72
 go_wp2_with (first | ((with_reducible refine gate_dst (N := 7) rfl ?_); refine box_event ?hg (N := 7) ?hd (cs := #[.slice A0 l0.length c0, .int .i64 0, .int .u64 0]) (t := 50) ?hr ?_; (case hd => rfl); (case hg => rfl); (case hr => exact tc30_); intro gb101 hg w3 hbox hb; have GW101 := am_ ((by rw [hg]; exact (below_size tc0_) : w.heap.size ≤ gb101)); have GE101 := am_ ((by rw [hg]; exact (below_size tc0_) : w.heap.size ≤ gb101)); have HI101 := am_ ((show IsS50 w w3 gb101 l0 0 0 from ⟨A0, c0, hbox, (by rw [hg]; exact (below_size tc0_) : w.heap.size ≤ gb101), HR0.out⟩)); replace HB := am_ (below_step tc0_ hb); clear hb hbox hg) | ((with_reducible refine gate_callee (f := 81) rfl ?_); refine goesL_ (some 9) rfl rfl Try.func81 (by kernel_rfl) rfl #[.pointer (some ⟨gb101, 0, none⟩), .int .i64 5] rfl tc1_ ?_; (with_reducible refine (spec_l1Cur_pair.calls k gb101 l0 0 0 5 t102 t105 t108 t109 w _ ?side1 ?side2 A2.out).mono ?_); (case side1 => exact tc9_); (case side2 => exact tc7_); rintro e w4 ⟨v103, v106, rfl, ho0, ho1, hi, hb, hk⟩; refine ⟨_, rfl, ?_⟩; have HO104 := am_ (Kd.S_lower ho0 (below_size tc7_)); have HO107 := am_ (Kd.S_lower ho1 (below_size tc7_)); replace HB := am_ (hb); replace HI101 := am_ (hi); (try clear hb hk hi ho0 ho1)))
 go_ret2
 exact ⟨_, _, tc8_, tc24_, (by (with_reducible repeat (first | apply Kd.S_alloc | apply Kd.S_drewN | apply Kd.S_drew)); exact HO107.out), tc7_⟩

/-! ### spec_DrawFlipPath: function 26 -/
def spec_DrawFlipPath.f (k : Nat) (l0 : List Int) : Option ((List (List Int)) × (List (List Int))) := (spec_DrawIsBelow.f k l0).bind fun bt101 => (some (bt101.1, bt101.2))
set_option maxHeartbeats 8000000 in
set_option maxRecDepth 100000 in
theorem spec_DrawFlipPath.calls (k : Nat) (A0 : Option Addr) (c0 : Nat) (l0 : List Int) (r1 : List (List Int)) (r2 : List (List Int)) (w : World) (hr0 : Kd.C (Kd.int .u8) w A0 l0.length l0) (hc0 : l0.length ≤ c0) (h : spec_DrawFlipPath.f k l0 = some (r1, r2)) :
  Calls Try.prog 26 #[.slice A0 l0.length c0] w fun e w' => ∃ v0_ v1_ : Value, e = .returned (.tuple #[v0_, v1_]) ∧ Kd.S (Kd.slice 3 (Kd.int .i64)) 32 w' w.heap.size (fun _ => True) v0_ r1 ∧ Kd.S (Kd.slice 3 (Kd.int .i64)) 32 w' w.heap.size (fun _ => True) v1_ r2 ∧ Below w.heap.size w w' := by
 have HR0 := am_ hr0; have HC0 := am_ hc0; clear hr0 hc0; have HB := am_ (Below.refl w.heap.size w); have H : ((spec_DrawIsBelow.f k l0).bind fun bt101 => (some (bt101.1, bt101.2))) = some (r1, r2) := h; clear h; replace H := Option.bind_eq_some_iff.mp H; obtain ⟨⟨t101, t102⟩, A20, H⟩ := H; (try dsimp only at H); have A2 := am_ A20; clear A20; simp only [Option.some.injEq, Prod.mk.injEq] at H; obtain ⟨rfl, rfl⟩ := H; go_enter Try.func26, Try.ntmps26
 go_wp2_with (first | ((with_reducible refine gate_callee (f := 72) rfl ?_); refine goesL_ (some 5) rfl rfl Try.func72 (by kernel_rfl) rfl #[.slice A0 l0.length c0] rfl tc1_ ?_; (with_reducible refine (spec_DrawIsBelow.calls k _ _ l0 t101 t102 _ ?side1 ?side2 A2.out).mono ?_); (case side1 => exact tc10_); (case side2 => exact HC0.out); rintro e w3 ⟨v103, v105, rfl, ho0, ho1, hb⟩; refine ⟨_, rfl, ?_⟩; have HO104 := am_ (Kd.S_lower ho0 (below_size tc0_)); have HO106 := am_ (Kd.S_lower ho1 (below_size tc0_)); replace HB := am_ (below_step tc0_ hb); (try clear hb ho0 ho1)))
 go_ret2
 exact ⟨_, _, tc8_, tc24_, tc26_, tc0_⟩

/-! ### slices_CompareFunc_int_int_int_int: function 111 -/
def slices_CompareFunc_int_int_int_int.l0 : Nat → List (List Int) → List (List Int) → ((List Int) → (List Int) → Option Int) → List (List Int) → Int → Int → Option (Int)
 | 0, _, _, _, _, _, _ => none
 | k + 1, x0, x1, x2, x11, x12, x13 => if x13 < x12 then (if 0 ≤ x13 then (if x13 < (x11.length : Int) then (if x13 ≥ (x1.length : Int) then (some 1) else (if x13 < (x1.length : Int) then ((x2 (rd_L3 x11 x13) (rd_L3 x1 x13)).bind fun t103 => (if t103 = 0 then (slices_CompareFunc_int_int_int_int.l0 k x0 x1 x2 x11 x12 (wrap64 (x13 + 1))) else (some t103))) else (none))) else (none)) else (none)) else (if (x0.length : Int) < (x1.length : Int) then (some (-1)) else (some 0))
def slices_CompareFunc_int_int_int_int.f (k : Nat) (l0 : List (List Int)) (l1 : List (List Int)) (a2 : ((List Int) → (List Int) → Option Int)) : Option (Int) := slices_CompareFunc_int_int_int_int.l0 k l0 l1 a2 l0 (l0.length : Int) 0
theorem slices_CompareFunc_int_int_int_int.mono_l : ∀ k, (∀ y0 y1 y2 y2' y3 y4 y5 (hy2 : ∀ z0 z1, LeO (y2 z0 z1) (y2' z0 z1)), LeO (slices_CompareFunc_int_int_int_int.l0 k y0 y1 y2 y3 y4 y5) (slices_CompareFunc_int_int_int_int.l0 (k + 1) y0 y1 y2' y3 y4 y5))
 | 0 => fun _ _ _ _ _ _ _ _ r h => by simp [slices_CompareFunc_int_int_int_int.l0] at h
 | k + 1 => by
  have ih0 := slices_CompareFunc_int_int_int_int.mono_l k
  ·intro y0 y1 y2 y2' y3 y4 y5 hy2; unfold slices_CompareFunc_int_int_int_int.l0
   repeat' first
   | (with_reducible exact ih0 _ _ _ _ _ _ _ hy2)
   | (with_reducible exact hy2 _ _)
   | (with_reducible exact LeO.refl _)
   | (with_reducible exact LeO.none _)
   | (with_reducible refine LeO.ite ?_ ?_)
   | (with_reducible refine LeO.bind ?_ (fun _ => ?_))
   | exact ih0 _ _ _ _ _ _ _ hy2
   | exact hy2 _ _
   | exact LeO.none _
   | refine LeO.ite ?_ ?_
   | refine LeO.bind ?_ (fun _ => ?_)
theorem slices_CompareFunc_int_int_int_int.mono : ∀ a0 a1 a2 a2' (ha2 : ∀ z0 z1, LeO (a2 z0 z1) (a2' z0 z1)) k, LeO (slices_CompareFunc_int_int_int_int.f k a0 a1 a2) (slices_CompareFunc_int_int_int_int.f (k + 1) a0 a1 a2') := by
 intro a0 a1 a2 a2' ha2 k; have ih0 := slices_CompareFunc_int_int_int_int.mono_l k; unfold slices_CompareFunc_int_int_int_int.f
 repeat' first
   | (with_reducible exact ih0 _ _ _ _ _ _ _ ha2)
   | (with_reducible exact ha2 _ _)
   | (with_reducible exact LeO.refl _)
   | (with_reducible exact LeO.none _)
   | (with_reducible refine LeO.ite ?_ ?_)
   | (with_reducible refine LeO.bind ?_ (fun _ => ?_))
   | exact ih0 _ _ _ _ _ _ _ ha2
   | exact ha2 _ _
   | exact LeO.none _
   | refine LeO.ite ?_ ?_
   | refine LeO.bind ?_ (fun _ => ?_)
set_option maxHeartbeats 8000000 in
set_option maxRecDepth 100000 in
theorem slices_CompareFunc_int_int_int_int.calls (k : Nat) (A0 : Option Addr) (c0 : Nat) (l0 : List (List Int)) (A1 : Option Addr) (c1 : Nat) (l1 : List (List Int)) (g2 : Nat) (b2 : Array Value) (a2 : ((List Int) → (List Int) → Option Int)) (r : Int) (w : World) (hr0 : Kd.C (Kd.slice 3 (Kd.int .i64)) w A0 l0.length l0) (hc0 : l0.length ≤ c0) (hr1 : Kd.C (Kd.slice 3 (Kd.int .i64)) w A1 l1.length l1) (hc1 : l1.length ≤ c1) (hf2 : Fn2 (Kd.slice 3 (Kd.int .i64)) (Kd.slice 3 (Kd.int .i64)) (Value.int .i64) Try.prog g2 b2 a2 w) (h : slices_CompareFunc_int_int_int_int.f k l0 l1 a2 = some r) :
  Calls Try.prog 111 #[.slice A0 l0.length c0, .slice A1 l1.length c1, .func (.func g2) #[] b2] w fun e w' => e = .returned (.int .i64 r) ∧ Below w.heap.size w w' := by
 have HR0 := am_ hr0; have HC0 := am_ hc0; clear hr0 hc0; have HR1 := am_ hr1; have HC1 := am_ hc1; clear hr1 hc1; have HF2 := am_ hf2.cl; have eg2 := hf2.eg; clear hf2; have HB := am_ (Below.refl w.heap.size w); have H : (slices_CompareFunc_int_int_int_int.l0 k l0 l1 a2 l0 (l0.length : Int) 0) = some r := h; clear h; have H' := am_ H; clear H; go_enter Try.func111, Try.ntmps111; go_wp2
 go_loopg [13] k (fun kq v13 w' => ∃ (x13_1 : Int), v13 = .int .i64 x13_1 ∧ Aside0 (slices_CompareFunc_int_int_int_int.l0 kq l0 l1 a2 l0 (l0.length : Int) x13_1 = some r) ∧ Aside0 (kq ≤ k) ∧ Aside0 (Below w.heap.size w w'))
 case atStart => exact ⟨(0), tc6_, H', ⟨Nat.le_refl _⟩, ⟨tc0_⟩⟩
 case round =>
  clear H'; (try clear c1); (try clear p2); obtain ⟨x13_1, rfl, HA, HK1, HB⟩ := hrel
  cases gk with
  | zero => exact absurd HA.out (by simp [slices_CompareFunc_int_int_int_int.l0])
  | succ k1 =>
   have H := HA.out; clear HA; simp only [slices_CompareFunc_int_int_int_int.l0] at H
   replace H := sp_ H; obtain ⟨c4b0, H⟩ | ⟨c4b0, H⟩ := H
   ·replace H := ps_ H; obtain ⟨c5b0, H⟩ := H; replace H := ps_ H; obtain ⟨c6b0, H⟩ := H
    replace H := pn_ H; obtain ⟨c7, H⟩ | ⟨c7, H⟩ := H
    ·have c7b0 : decide ((l1.length : Int) ≤ x13_1) = true := decide_eq_true c7; clear c7; obtain rfl := Option.some.inj H; have p101 : 0 ≤ (x13_1 : Int) := od_; have q101 : x13_1 < (l0.length : Int) := od_; obtain ⟨ad101, A101_0, c101_0, e101, hx101_0, hl101_0, hi101_0⟩ := at_L3 HR0.out x13_1 p101 q101; cases e101; replace hx101_0 := (HB.out.cell (World.block_lt_of_cell? w _ hx101_0)).trans hx101_0; have HR101_0 := am_ hi101_0; have HC101_0 := am_ hl101_0; clear hi101_0 hl101_0; replace p101 := eq_true p101; replace q101 := eq_true q101; go_wp2
     go_ret
     exact ⟨tc8_, tc0_⟩
    ·have c7b0 : decide ((l1.length : Int) ≤ x13_1) = false := decide_eq_false c7; clear c7; replace H := ps_ H; obtain ⟨c8b0, H⟩ := H; replace H := bd_ H; obtain ⟨t103, A9, H⟩ := H; (try dsimp only at H)
     replace H := pn_ H; obtain ⟨c10, H⟩ | ⟨c10, H⟩ := H
     ·have c10b0 : (t103 == 0) = true := beq_iff_eq.mpr c10; have c10b1 : (t103 != 0) = false := bne_eq_false_iff_eq.mpr c10; clear c10; have H' := am_ H; clear H; have p101 : 0 ≤ (x13_1 : Int) := od_; have q101 : x13_1 < (l0.length : Int) := od_; obtain ⟨ad101, A101_0, c101_0, e101, hx101_0, hl101_0, hi101_0⟩ := at_L3 HR0.out x13_1 p101 q101; cases e101; replace hx101_0 := (HB.out.cell (World.block_lt_of_cell? w _ hx101_0)).trans hx101_0; have HR101_0 := am_ hi101_0; have HC101_0 := am_ hl101_0; clear hi101_0 hl101_0; replace p101 := eq_true p101; replace q101 := eq_true q101; have p102 : 0 ≤ (x13_1 : Int) := od_; have q102 : x13_1 < (l1.length : Int) := od_; obtain ⟨ad102, A102_0, c102_0, e102, hx102_0, hl102_0, hi102_0⟩ := at_L3 HR1.out x13_1 p102 q102; cases e102; replace hx102_0 := (HB.out.cell (World.block_lt_of_cell? w _ hx102_0)).trans hx102_0; have HR102_0 := am_ hi102_0; have HC102_0 := am_ hl102_0; clear hi102_0 hl102_0; replace p102 := eq_true p102; replace q102 := eq_true q102
      go_wp2_with (first | (go_at_fn g2; (refine (HF2.out _ ?side1 (rd_L3 l0 x13_1) _ (K_slice ?side2 ?side3) (rd_L3 l1 x13_1) _ (K_slice ?side4 ?side5) t103 A9.out).mono ?_); (case side1 => exact tc20_); (case side2 => exact HC101_0.out); (case side3 => exact tc65_); (case side4 => exact HC102_0.out); (case side5 => repeat (first | exact (Kd.C_below HR102_0.out HB.out) | (with_reducible refine Kd.C_alloc ?_ _) | (with_reducible refine Kd.C_drewN ?_ _) | (with_reducible refine Kd.C_drew ?_))); rintro e w11 ⟨rfl, hb⟩; replace HB := am_ (below_step tc0_ hb); (try clear hb)))
      go_roundg k1
      case measure => have := HK1.out; omega
      case rel => exact ⟨(wrap64 (x13_1 + 1)), tc6_, H', ⟨tc119_⟩, ⟨tc0_⟩⟩
     ·have c10b0 : (t103 == 0) = false := beq_eq_false_iff_ne.mpr c10; have c10b1 : (t103 != 0) = true := bne_iff_ne.mpr c10; obtain rfl := Option.some.inj H; have p101 : 0 ≤ (x13_1 : Int) := od_; have q101 : x13_1 < (l0.length : Int) := od_; obtain ⟨ad101, A101_0, c101_0, e101, hx101_0, hl101_0, hi101_0⟩ := at_L3 HR0.out x13_1 p101 q101; cases e101; replace hx101_0 := (HB.out.cell (World.block_lt_of_cell? w _ hx101_0)).trans hx101_0; have HR101_0 := am_ hi101_0; have HC101_0 := am_ hl101_0; clear hi101_0 hl101_0; replace p101 := eq_true p101; replace q101 := eq_true q101; have p102 : 0 ≤ (x13_1 : Int) := od_; have q102 : x13_1 < (l1.length : Int) := od_; obtain ⟨ad102, A102_0, c102_0, e102, hx102_0, hl102_0, hi102_0⟩ := at_L3 HR1.out x13_1 p102 q102; cases e102; replace hx102_0 := (HB.out.cell (World.block_lt_of_cell? w _ hx102_0)).trans hx102_0; have HR102_0 := am_ hi102_0; have HC102_0 := am_ hl102_0; clear hi102_0 hl102_0; replace p102 := eq_true p102; replace q102 := eq_true q102
      go_wp2_with (first | (go_at_fn g2; (refine (HF2.out _ ?side1 (rd_L3 l0 x13_1) _ (K_slice ?side2 ?side3) (rd_L3 l1 x13_1) _ (K_slice ?side4 ?side5) t103 A9.out).mono ?_); (case side1 => exact tc20_); (case side2 => exact HC101_0.out); (case side3 => exact tc65_); (case side4 => exact HC102_0.out); (case side5 => repeat (first | exact (Kd.C_below HR102_0.out HB.out) | (with_reducible refine Kd.C_alloc ?_ _) | (with_reducible refine Kd.C_drewN ?_ _) | (with_reducible refine Kd.C_drew ?_))); rintro e w12 ⟨rfl, hb⟩; replace HB := am_ (below_step tc0_ hb); (try clear hb)))
      go_ret
      exact ⟨tc8_, tc0_⟩
   ·replace H := pn_ H; obtain ⟨c13, H⟩ | ⟨c13, H⟩ := H
    ·have c13b0 : decide ((l0.length : Int) < (l1.length : Int)) = true := decide_eq_true c13; have c13b1 : decide (l0.length < l1.length) = true := decide_eq_true (Int.ofNat_lt.mp c13); clear c13; obtain rfl := Option.some.inj H; go_wp2
     go_ret
     exact ⟨tc8_, tc0_⟩
    ·have c13b0 : decide ((l0.length : Int) < (l1.length : Int)) = false := decide_eq_false c13; have c13b1 : decide (l0.length < l1.length) = false := decide_eq_false (fun h => c13 (Int.ofNat_lt.mpr h)); clear c13; obtain rfl := Option.some.inj H; go_wp2
     go_ret
     exact ⟨tc8_, tc0_⟩

/-! ### cmp_isNaN_int: function 119 -/
def cmp_isNaN_int.f (a0 : Int) : Option (Bool) := some (a0 != a0)
set_option maxHeartbeats 8000000 in
set_option maxRecDepth 100000 in
theorem cmp_isNaN_int.calls (a0 : Int) (r : Bool) (w : World) (h : cmp_isNaN_int.f a0 = some r) :
  Calls Try.prog 119 #[.int .i64 a0] w fun e w' => e = .returned (.bool r) ∧ Drawn0 w w' := by
 have H : (some (a0 != a0)) = some r := h; clear h; obtain rfl := Option.some.inj H; go_enter Try.func119, Try.ntmps119; go_wp2
 go_ret
 exact ⟨tc6_, tc11_⟩

/-! ### cmp_Compare_int: function 118 -/
def cmp_Compare_int.f (a0 : Int) (a1 : Int) : Option (Int) := (cmp_isNaN_int.f a0).bind fun t101 => ((cmp_isNaN_int.f a1).bind fun t102 => (if t101 = true then (if t102 = true then (some 0) else (some (-1))) else (if t102 = true then (some 1) else (if a0 < a1 then (some (-1)) else (if a0 > a1 then (some 1) else (some 0))))))
set_option maxHeartbeats 8000000 in
set_option maxRecDepth 100000 in
theorem cmp_Compare_int.calls (a0 : Int) (a1 : Int) (r : Int) (w : World) (h : cmp_Compare_int.f a0 a1 = some r) :
  Calls Try.prog 118 #[.int .i64 a0, .int .i64 a1] w fun e w' => e = .returned (.int .i64 r) ∧ Drawn0 w w' := by
 have H : ((cmp_isNaN_int.f a0).bind fun t101 => ((cmp_isNaN_int.f a1).bind fun t102 => (if t101 = true then (if t102 = true then (some 0) else (some (-1))) else (if t102 = true then (some 1) else (if a0 < a1 then (some (-1)) else (if a0 > a1 then (some 1) else (some 0))))))) = some r := h; clear h; replace H := bd_ H; obtain ⟨t101, A3, H⟩ := H; (try dsimp only at H); replace H := bd_ H; obtain ⟨t102, A4, H⟩ := H; (try dsimp only at H)
 by_cases c5 : t101 = true
 ·subst c5; have H1 : (if t102 = true then (some 0) else (some (-1))) = some r := tc19_; clear H; have H := H1; clear H1
  by_cases c6 : t102 = true
  ·subst c6; have H1 : (some 0) = some r := tc19_; clear H; have H := H1; clear H1; obtain rfl := Option.some.inj H; go_enter Try.func118, Try.ntmps118
   go_wp2_with (first | ((with_reducible refine gate_callee (f := 119) rfl ?_); refine goesL_ (some 8) rfl rfl Try.func119 (by kernel_rfl) rfl #[.int .i64 a0] rfl tc1_ ?_; (with_reducible refine (cmp_isNaN_int.calls a0 true _ A3.out).mono ?_); rintro e w' ⟨rfl, ⟨nd, rfl⟩⟩; refine ⟨_, rfl, ?_⟩) | ((with_reducible refine gate_callee (f := 119) rfl ?_); refine goesL_ (some 10) rfl rfl Try.func119 (by kernel_rfl) rfl #[.int .i64 a1] rfl tc1_ ?_; (with_reducible refine (cmp_isNaN_int.calls a1 true _ A4.out).mono ?_); rintro e w' ⟨rfl, ⟨nd, rfl⟩⟩; refine ⟨_, rfl, ?_⟩))
   go_ret
   exact ⟨tc6_, tc11_⟩
  ·replace c6 := Bool.eq_false_iff.mpr c6; subst c6; have H1 : (some (-1)) = some r := tc12_; clear H; have H := H1; clear H1; obtain rfl := Option.some.inj H; go_enter Try.func118, Try.ntmps118
   go_wp2_with (first | ((with_reducible refine gate_callee (f := 119) rfl ?_); refine goesL_ (some 8) rfl rfl Try.func119 (by kernel_rfl) rfl #[.int .i64 a0] rfl tc1_ ?_; (with_reducible refine (cmp_isNaN_int.calls a0 true _ A3.out).mono ?_); rintro e w' ⟨rfl, ⟨nd, rfl⟩⟩; refine ⟨_, rfl, ?_⟩) | ((with_reducible refine gate_callee (f := 119) rfl ?_); refine goesL_ (some 10) rfl rfl Try.func119 (by kernel_rfl) rfl #[.int .i64 a1] rfl tc1_ ?_; (with_reducible refine (cmp_isNaN_int.calls a1 false _ A4.out).mono ?_); rintro e w' ⟨rfl, ⟨nd, rfl⟩⟩; refine ⟨_, rfl, ?_⟩))
   go_ret
   exact ⟨tc6_, tc11_⟩
 ·replace c5 := Bool.eq_false_iff.mpr c5; subst c5; have H1 : (if t102 = true then (some 1) else (if a0 < a1 then (some (-1)) else (if a0 > a1 then (some 1) else (some 0)))) = some r := tc12_; clear H; have H := H1; clear H1
  by_cases c7 : t102 = true
  ·subst c7; have H1 : (some 1) = some r := tc19_; clear H; have H := H1; clear H1; obtain rfl := Option.some.inj H; go_enter Try.func118, Try.ntmps118
   go_wp2_with (first | ((with_reducible refine gate_callee (f := 119) rfl ?_); refine goesL_ (some 8) rfl rfl Try.func119 (by kernel_rfl) rfl #[.int .i64 a0] rfl tc1_ ?_; (with_reducible refine (cmp_isNaN_int.calls a0 false _ A3.out).mono ?_); rintro e w' ⟨rfl, ⟨nd, rfl⟩⟩; refine ⟨_, rfl, ?_⟩) | ((with_reducible refine gate_callee (f := 119) rfl ?_); refine goesL_ (some 10) rfl rfl Try.func119 (by kernel_rfl) rfl #[.int .i64 a1] rfl tc1_ ?_; (with_reducible refine (cmp_isNaN_int.calls a1 true _ A4.out).mono ?_); rintro e w' ⟨rfl, ⟨nd, rfl⟩⟩; refine ⟨_, rfl, ?_⟩))
   go_ret
   exact ⟨tc6_, tc11_⟩
  ·replace c7 := Bool.eq_false_iff.mpr c7; subst c7; have H1 : (if a0 < a1 then (some (-1)) else (if a0 > a1 then (some 1) else (some 0))) = some r := tc12_; clear H; have H := H1; clear H1
   replace H := sp_ H; obtain ⟨c8b0, H⟩ | ⟨c8b0, H⟩ := H
   ·obtain rfl := Option.some.inj H; go_enter Try.func118, Try.ntmps118
    go_wp2_with (first | ((with_reducible refine gate_callee (f := 119) rfl ?_); refine goesL_ (some 8) rfl rfl Try.func119 (by kernel_rfl) rfl #[.int .i64 a0] rfl tc1_ ?_; (with_reducible refine (cmp_isNaN_int.calls a0 false _ A3.out).mono ?_); rintro e w' ⟨rfl, ⟨nd, rfl⟩⟩; refine ⟨_, rfl, ?_⟩) | ((with_reducible refine gate_callee (f := 119) rfl ?_); refine goesL_ (some 10) rfl rfl Try.func119 (by kernel_rfl) rfl #[.int .i64 a1] rfl tc1_ ?_; (with_reducible refine (cmp_isNaN_int.calls a1 false _ A4.out).mono ?_); rintro e w' ⟨rfl, ⟨nd, rfl⟩⟩; refine ⟨_, rfl, ?_⟩))
    go_ret
    exact ⟨tc6_, tc11_⟩
   ·replace H := pn_ H; obtain ⟨c9, H⟩ | ⟨c9, H⟩ := H
    ·have c9b0 : decide (a1 < a0) = true := decide_eq_true c9; clear c9; obtain rfl := Option.some.inj H; go_enter Try.func118, Try.ntmps118
     go_wp2_with (first | ((with_reducible refine gate_callee (f := 119) rfl ?_); refine goesL_ (some 8) rfl rfl Try.func119 (by kernel_rfl) rfl #[.int .i64 a0] rfl tc1_ ?_; (with_reducible refine (cmp_isNaN_int.calls a0 false _ A3.out).mono ?_); rintro e w' ⟨rfl, ⟨nd, rfl⟩⟩; refine ⟨_, rfl, ?_⟩) | ((with_reducible refine gate_callee (f := 119) rfl ?_); refine goesL_ (some 10) rfl rfl Try.func119 (by kernel_rfl) rfl #[.int .i64 a1] rfl tc1_ ?_; (with_reducible refine (cmp_isNaN_int.calls a1 false _ A4.out).mono ?_); rintro e w' ⟨rfl, ⟨nd, rfl⟩⟩; refine ⟨_, rfl, ?_⟩))
     go_ret
     exact ⟨tc6_, tc11_⟩
    ·have c9b0 : decide (a1 < a0) = false := decide_eq_false c9; clear c9; obtain rfl := Option.some.inj H; go_enter Try.func118, Try.ntmps118
     go_wp2_with (first | ((with_reducible refine gate_callee (f := 119) rfl ?_); refine goesL_ (some 8) rfl rfl Try.func119 (by kernel_rfl) rfl #[.int .i64 a0] rfl tc1_ ?_; (with_reducible refine (cmp_isNaN_int.calls a0 false _ A3.out).mono ?_); rintro e w' ⟨rfl, ⟨nd, rfl⟩⟩; refine ⟨_, rfl, ?_⟩) | ((with_reducible refine gate_callee (f := 119) rfl ?_); refine goesL_ (some 10) rfl rfl Try.func119 (by kernel_rfl) rfl #[.int .i64 a1] rfl tc1_ ?_; (with_reducible refine (cmp_isNaN_int.calls a1 false _ A4.out).mono ?_); rintro e w' ⟨rfl, ⟨nd, rfl⟩⟩; refine ⟨_, rfl, ?_⟩))
     go_ret
     exact ⟨tc6_, tc11_⟩

end Go.Proofs.Ytgpmlfggfhkifaa.X
