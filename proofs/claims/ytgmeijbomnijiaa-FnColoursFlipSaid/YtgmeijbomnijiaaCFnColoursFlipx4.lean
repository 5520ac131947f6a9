-- Written by a program of this session (wip/xprint.py) that drives the kit's print; the contracts of what it does not take are this session's own.
import Derived.Test.YtgmeijbomnijiaaCFnColoursFlipx0
import Derived.Test.YtgmeijbomnijiaaCFnColoursFlipx1
import Derived.Test.YtgmeijbomnijiaaCFnColoursFlipx2
import Derived.Test.YtgmeijbomnijiaaCFnColoursFlipx3
namespace Go.Proofs.Ytgmeijbomnijiaa.X
open Go.RowKit Go.Proofs.YtgmeijbomnijiaaW.PrintWords Go.Proofs.YtgmeijbomnijiaaW.PrintLast Go.Proofs.YtgmeijbomnijiaaW.PrintMore
set_option maxHeartbeats 8000000
set_option maxRecDepth 100000
attribute [local go_sem] max2_int min2_int max_two min_two max_three min_three max_four min_four   -- for this text's walks alone
set_option linter.unusedVariables false
set_option linter.unusedSimpArgs false

/-! ### spec_heFrom: function 45 -/
mutual
def spec_heFrom.l0 : Nat → Tb_ → Tb_ → Int → Int → Option (Tb_)
 | 0, _, _, _, _ => none
 | k + 1, x0, x4, x13, x14 => if x14 < x13 then (spec_heFrom.l1 k x0 x4 x14 x13 x14 (x4.length : Int) 0) else ((spec_sgFrom.f k x4).bind fun t104 => (some t104))
def spec_heFrom.l1 : Nat → Tb_ → Tb_ → Int → Int → Int → Int → Int → Option (Tb_)
 | 0, _, _, _, _, _, _, _ => none
 | k + 1, x0, x4, x5, x13, x14, x18, x19 => if x19 < x18 then (if 0 ≤ x5 then (if x5 < (x4.length : Int) then (if 0 ≤ (wrap64 (x5 + 1)) then (if (wrap64 (x5 + 1)) < (x0.length : Int) then (if 0 ≤ (wrap64 (x19 + 1)) then (if (wrap64 (x19 + 1)) < ((rd_L3 x0 (wrap64 (x5 + 1))).length : Int) then (if 0 ≤ x19 then (if x19 < ((rd_L3 x4 x5).length : Int) then (spec_heFrom.l1 k x0 (x4.set (x5 : Int).toNat ((rd_L3 x4 x5).set (x19 : Int).toNat (wrap64 (Int.tdiv (wrap64 ((wrap64 ((wrap64 (x5 + x19)) + 2)) - (rd (rd_L3 x0 (wrap64 (x5 + 1))) (wrap64 (x19 + 1))))) 2)))) x5 x13 x14 x18 (wrap64 (x19 + 1))) else (none)) else (none)) else (none)) else (none)) else (none)) else (none)) else (none)) else (none)) else (spec_heFrom.l0 k x0 x4 x13 (wrap64 (x14 + 1)))
end
def spec_heFrom.f (k : Nat) (l0 : Tb_) : Option (Tb_) := (spec_sgZero.f k (wrap64 ((l0.length : Int) - 1))).bind fun t101 => (spec_heFrom.l0 k l0 t101 (t101.length : Int) 0)
def spec_heFrom.T9 : Bool × List (List Nat × List Nat) := (true, [([], []), ([], []), ([0, 1], [0, 1]), ([2], [2]), ([], []), ([], []), ([], []), ([5, 6], [5, 6]), ([7], [7]), ([], []), ([], []), ([10], [10]), ([9, 11], [9, 11]), ([12], [12]), ([], []), ([14], [14]), ([13, 15], [13, 15]), ([16], [16]), ([8, 17], [8, 17]), ([18], [18]), ([3, 4, 0, 1, 2, 3, 4, 5, 6, 7, 8, 9, 10, 11, 12, 13, 14, 15, 16, 17, 18, 19], [3, 4]), ([20, 19, 0, 1, 2, 3, 4, 5, 6, 7, 8, 9, 10, 11, 12, 13, 14, 15, 16, 17, 18, 19], [19, 20])])
def spec_heFrom.B9 : List Nat := [0, 0, 3, 7, 0, 0, 0, 96, 224, 0, 0, 1024, 3584, 7680, 0, 16384, 65024, 130560, 262112, 524256, 1048575, 2097151]
theorem spec_heFrom.tab9 : rtab .any (opsOf Try.f45 9) = spec_heFrom.T9 := by kernel_rfl
theorem spec_heFrom.bits9 : waitsOk spec_heFrom.T9.2 spec_heFrom.B9 = true := by kernel_rfl
theorem spec_heFrom.calls (k : Nat) (A0 : Option Addr) (c0 : Nat) (l0 : Tb_) (r : Tb_) (w : World) (hr0 : Kd.C (Kd.slice 3 (Kd.int .i64)) w A0 l0.length l0) (hc0 : l0.length ≤ c0) (h : spec_heFrom.f k l0 = some r) :
  Calls Try.prog 45 #[.slice A0 l0.length c0] w fun e w' => ∃ v0_ : Value, e = .returned (v0_) ∧ Kd.S (Kd.slice 3 (Kd.int .i64)) 32 w' w.heap.size (fun _ => True) v0_ r ∧ Below w.heap.size w w' := by
 have HR0 := am_ hr0; have HC0 := am_ hc0; clear hr0 hc0; have HB := am_ (Below.refl w.heap.size w); (try unfold spec_heFrom.f at h); have H := h; clear h; replace H := bd_ H; obtain ⟨t101, A2, H⟩ := H; (try dsimp only at H); have H' := am_ H; clear H; go_enter Try.func45, Try.ntmps45
 go_wp2_with (first | (refine gc_ (some 11) Try.func77 #[.int .i64 (wrap64 ((l0.length : Int) - 1))] ?_; (with_reducible refine (spec_sgZero.calls k (wrap64 ((l0.length : Int) - 1)) t101 _ A2.out).mono ?_); rintro e w3 ⟨v102, rfl, ho0, hb⟩; refine ⟨_, rfl, ?_⟩; have HO103 := am_ (Kd.S_lower ho0 (below_size tc0_)); replace HB := am_ (below_step tc0_ hb); (try clear hb ho0); obtain ⟨Ao4, co4, eo4⟩ := Kd.S_slice HO103.out; subst eo4))
 go_loopg [14] k (fun kq v14 w' => ∃ (x4_1 : Tb_) (x14_1 : Int), v14 = .int .i64 x14_1 ∧ Aside0 (spec_heFrom.l0 kq l0 x4_1 (t101.length : Int) x14_1 = some r) ∧ Aside0 (kq ≤ k) ∧ Aside0 (Kd.S (Kd.slice 3 (Kd.int .i64)) 32 w' w.heap.size (fun _ => True) (.slice Ao4 t101.length co4) x4_1) ∧ Aside0 (Below w.heap.size w w'))
 case atStart => exact ⟨(t101), (0), tc8_, H', ⟨Nat.le_refl _⟩, ⟨tc24_⟩, ⟨tc0_⟩⟩
 case round =>
  clear H'; (try clear p2); (try clear c4); obtain ⟨x4_1, x14_1, rfl, HA, HK1, HO_4, HB⟩ := hrel; have hl4_1 := (Kd.S_reads' HO_4.out).1; rw [hl4_1] at HO_4; (try simp only [hl4_1])
  cases gk with
  | zero => exact absurd HA.out (by simp [spec_heFrom.l0])
  | succ k1 =>
   have H := HA.out; clear HA; simp only [spec_heFrom.l0] at H
   replace H := sp_ H; obtain ⟨c5b0, H⟩ | ⟨c5b0, H⟩ := H
   ·(try simp only [hl4_1] at c5b0); have H' := am_ H; clear H; go_wp2
    go_loopg [19] k1 (fun kq v19 w' => ∃ (x4_2 : Tb_) (x19_2 : Int), v19 = .int .i64 x19_2 ∧ Aside0 (spec_heFrom.l1 kq l0 x4_2 x14_1 (t101.length : Int) x14_1 (x4_1.length : Int) x19_2 = some r) ∧ Aside0 (kq ≤ k1) ∧ Aside0 (Kd.S (Kd.slice 3 (Kd.int .i64)) 32 w' w.heap.size (fun _ => True) (.slice Ao4 x4_1.length co4) x4_2) ∧ Aside0 (Below w.heap.size w w'))
    case atStart => exact ⟨(x4_1), (0), tc8_, H', ⟨Nat.le_refl _⟩, ⟨(by (try simp only [hl4_1]); (with_reducible repeat (first | apply Kd.S_alloc | apply Kd.S_drewN | apply Kd.S_drew)); exact HO_4.out)⟩, ⟨tc0_⟩⟩
    case round =>
     clear H'; (try clear p2); (try clear c4); (try clear c5); (try clear c5b0); (try clear p2); obtain ⟨x4_2, x19_2, rfl, HA, HK2, HO_4, HB⟩ := hrel; have hl4_2 := (Kd.S_reads' HO_4.out).1; rw [hl4_2] at HO_4; (try simp only [hl4_2])
     cases gk with
     | zero => exact absurd HA.out (by simp [spec_heFrom.l1])
     | succ k2 =>
      have H := HA.out; clear HA; simp only [spec_heFrom.l1] at H
      replace H := sp_ H; obtain ⟨c6b0, H⟩ | ⟨c6b0, H⟩ := H
      ·(try simp only [hl4_1, hl4_2] at c6b0); replace H := ps_ H; obtain ⟨c7b0, H⟩ := H; replace H := ps_ H; obtain ⟨c8b0, H⟩ := H; (try simp only [hl4_1, hl4_2] at c8b0); obtain ⟨ji9, hji9⟩ : ∃ j_ : Int, (wrap64 (x14_1 + 1)) = j_ := ⟨_, rfl⟩; replace H : (if 0 ≤ (ji9) then (if (ji9) < (l0.length : Int) then (if 0 ≤ (wrap64 (x19_2 + 1)) then (if (wrap64 (x19_2 + 1)) < ((rd_L3 l0 (ji9)).length : Int) then (if 0 ≤ x19_2 then (if x19_2 < ((rd_L3 x4_2 x14_1).length : Int) then (spec_heFrom.l1 k2 l0 (x4_2.set (x14_1 : Int).toNat ((rd_L3 x4_2 x14_1).set (x19_2 : Int).toNat (wrap64 (Int.tdiv (wrap64 ((wrap64 ((wrap64 (x14_1 + x19_2)) + 2)) - (rd (rd_L3 l0 (ji9)) (wrap64 (x19_2 + 1))))) 2)))) x14_1 (t101.length : Int) x14_1 (x4_1.length : Int) (wrap64 (x19_2 + 1))) else (none)) else (none)) else (none)) else (none)) else (none)) else (none)) = some r := (by first | (rw [hji9] at H; exact H) | (simp only [hji9] at H ⊢; exact H)); have hji9w : (IntKind.i64.wrap (x14_1 + 1)) = ji9 := (i64_w _).trans hji9; replace H := ps_ H; obtain ⟨c10b0, H⟩ := H; replace H := ps_ H; obtain ⟨c11b0, H⟩ := H; (try simp only [hl4_1, hl4_2] at c11b0); obtain ⟨ji12, hji12⟩ : ∃ j_ : Int, (wrap64 (x19_2 + 1)) = j_ := ⟨_, rfl⟩; replace H : (if 0 ≤ (ji12) then (if (ji12) < ((rd_L3 l0 (ji9)).length : Int) then (if 0 ≤ x19_2 then (if x19_2 < ((rd_L3 x4_2 x14_1).length : Int) then (spec_heFrom.l1 k2 l0 (x4_2.set (x14_1 : Int).toNat ((rd_L3 x4_2 x14_1).set (x19_2 : Int).toNat (wrap64 (Int.tdiv (wrap64 ((wrap64 ((wrap64 (x14_1 + x19_2)) + 2)) - (rd (rd_L3 l0 (ji9)) (ji12)))) 2)))) x14_1 (t101.length : Int) x14_1 (x4_1.length : Int) ji12) else (none)) else (none)) else (none)) else (none)) = some r := (by first | (rw [hji12] at H; exact H) | (simp only [hji12] at H ⊢; exact H)); have hji12w : (IntKind.i64.wrap (x19_2 + 1)) = ji12 := (i64_w _).trans hji12; replace H := ps_ H; obtain ⟨c13b0, H⟩ := H; replace H := ps_ H; obtain ⟨c14b0, H⟩ := H; (try simp only [hl4_1, hl4_2] at c14b0); replace H := ps_ H; obtain ⟨c15b0, H⟩ := H; replace H := ps_ H; obtain ⟨c16b0, H⟩ := H; (try simp only [hl4_1, hl4_2] at c16b0); obtain ⟨y110, hy110⟩ : ∃ y_ : List Int, y_ = ((rd_L3 x4_2 x14_1).set (x19_2 : Int).toNat (wrap64 (Int.tdiv (wrap64 ((wrap64 ((wrap64 (x14_1 + x19_2)) + 2)) - (rd (rd_L3 l0 (ji9)) (ji12)))) 2))) := ⟨_, rfl⟩; replace H : (spec_heFrom.l1 k2 l0 (x4_2.set (x14_1 : Int).toNat y110) x14_1 (t101.length : Int) x14_1 (x4_1.length : Int) ji12) = some r := tc73_; have Ny110 := am_ hy110; clear hy110; obtain ⟨y112, hy112⟩ : ∃ y_ : Tb_, y_ = (x4_2.set (x14_1 : Int).toNat y110) := ⟨_, rfl⟩; replace H : (spec_heFrom.l1 k2 l0 y112 x14_1 (t101.length : Int) x14_1 (x4_1.length : Int) ji12) = some r := tc71_; have Ny112 := am_ hy112; clear hy112; have H' := am_ H; clear H
       try go_wp2
       replace HO_4 := am_ (Kd.S_drew HO_4.out); replace HB := am_ (below_drew1 HB.out); have p107 : 0 ≤ (x14_1 : Int) := od_; have q107 : x14_1 < (x4_2.length : Int) := od_; obtain ⟨ad107, A107_0, c107_0, e107, hx107_0, hl107_0, hi107_0⟩ := at_L3 (Kd.S_reads' HO_4.out).2.2 x14_1 p107 q107; cases e107; obtain ⟨ce107, hce107, hMe107, hcc107⟩ := Kd.S_get HO_4.out [] x14_1 p107 (by first | exact q107 | exact od_ | (have e_ := (Kd.S_reads' HO_4.out).1; omega)); obtain ⟨ve107_0, rfl, ge107_0⟩ := hMe107; have hv107_0 := hcc107 0 _ rfl; rw [Nat.add_zero, show ((Kd.slice 3 (Kd.int .i64))).sz = 1 from rfl, Nat.mul_one] at hv107_0; replace hv107_0 := Option.some.inj (hv107_0.symm.trans hx107_0); rw [hv107_0] at ge107_0; have HL107_0 := am_ (show Kd.R (Kd.int .i64) 3 _ _ _ _ (rd_L3 x4_2 x14_1) from ge107_0); clear hv107_0 ge107_0; have HX107_0 := am_ hx107_0; clear hcc107 hce107; have HR107_0 := am_ hi107_0; have HC107_0 := am_ hl107_0; clear hi107_0 hl107_0; replace p107 := eq_true p107; replace q107 := eq_true q107; have p108 : 0 ≤ ((ji9) : Int) := od_; have q108 : (ji9) < (l0.length : Int) := od_; obtain ⟨ad108, A108_0, c108_0, e108, hx108_0, hl108_0, hi108_0⟩ := at_L3 HR0.out (ji9) p108 q108; have hw108_0 := hx108_0; cases e108; replace hx108_0 := (HB.out.cell (World.block_lt_of_cell? w _ hx108_0)).trans hx108_0; have HR108_0 := am_ hi108_0; have HC108_0 := am_ hl108_0; clear hi108_0 hl108_0; replace p108 := eq_true p108; replace q108 := eq_true q108; have p109 : 0 ≤ ((ji12) : Int) := od_; have q109 : (ji12) < ((rd_L3 l0 (ji9)).length : Int) := od_; obtain ⟨ad109, e109, hx109_0⟩ := Kd.at_int HR108_0.out (ji12) p109 q109; have hw109_0 := hx109_0; cases e109; replace hx109_0 := (HB.out.cell (World.block_lt_of_cell? w _ hx109_0)).trans hx109_0; replace p109 := eq_true p109; replace q109 := eq_true q109; have p17 : 0 ≤ (x19_2 : Int) := od_; have q17 : (x19_2 : Int) < (((rd_L3 x4_2 x14_1).length : Int) : Int) := od_; obtain ⟨go17, co17, eo17, gb17, gl17, cl17, HG17⟩ := Kd.R_form HL107_0.out (by omega); (first | cases eo17 | (injection eo17 with ea_ en_ ec_; (first | subst ea_ | (injection ea_ with ea_; subst ea_)); subst ec_; clear en_)); have GB17 := am_ gb17; have GG17 := am_ HG17; clear gb17 gl17 HG17; obtain ⟨hx17_0, hf17_0⟩ := Kd.R_celln 0 HL107_0.out (x19_2 : Int) p17 q17; replace p17 := eq_true p17; replace q17 := eq_true q17; have hq19 : (x14_1 : Int) < (x4_2.length : Int) := (by have h_ : (x14_1 : Int) < ((x4_2.length : Int) : Int) := od_; first | exact h_ | (have e_ := (Kd.S_reads' HO_4.out).1; omega) | simpa only [List.length_set, List.length_set] using h_); obtain ⟨oki19, ce19, hcl19, hM19, hcc19, hok19, hbk19⟩ := Kd.S_borrow HO_4.out [] (x14_1 : Int) (od_) hq19; obtain ⟨ve19_0, rfl, ge19_0⟩ := hM19; have hv19 := hcc19 0 _ rfl; rw [Nat.add_zero, show ((Kd.slice 3 (Kd.int .i64))).sz = 1 from rfl, Nat.mul_one] at hv19; replace hv19 := Option.some.inj (hv19.symm.trans HX107_0.out); subst hv19; clear hcc19 hcl19; replace ge19_0 := (show Kd.R (Kd.int .i64) 3 _ _ _ _ (rd_L3 x4_2 x14_1) from ge19_0); have HP19 := Kd.R_putg ge19_0 (x19_2 : Int) (wrap64 (Int.tdiv (wrap64 ((wrap64 ((wrap64 (x14_1 + x19_2)) + 2)) - (rd (rd_L3 l0 (ji9)) (ji12)))) 2)); rw [← Ny110.out] at HP19; have HS19 := hbk19 HP19.2 (fun k_ e_ => by injection e_ with e_; subst e_; exact ge19_0.1 _ rfl) (x' := y110) (Kd.M_row HP19.1); rw [← Ny112.out] at HS19; have HQ19 := am_ HS19; clear HP19 HS19 hbk19 hok19; refine start_ (n := 22) (S := fun w' => w'.cell? (ad107.add (x14_1).toNat) = some (.slice (some ⟨go17, 0, none⟩) (rd_L3 x4_2 x14_1).length c107_0) ∧ w'.cell? (ad108.add ((ji9)).toNat) = some (.slice (some ad109) (rd_L3 l0 (ji9)).length c108_0) ∧ w'.cell? (ad109.add ((ji12)).toNat) = some (.int .i64 (rd (rd_L3 l0 (ji9)) (ji12)))) (ds := [21]) #[F,F,F,F,F,F,F,F,F,F,F,F,F,F,F,F,F,F,F,F,F,F] (by kernel_rfl) rfl rfl ⟨hx107_0, ((HB.out.cell (World.block_lt_of_cell? w _ hw108_0)).trans hw108_0), ((HB.out.cell (World.block_lt_of_cell? w _ hw109_0)).trans hw109_0)⟩ (fun hHeld => ?_); refine with_tabW spec_heFrom.tab9 spec_heFrom.bits9 (fun HT_ HW_ => ?_); generalize wr.drew = w18 at HO_4 HB GG17 HL107_0 HQ19 HR107_0 HR108_0 HX107_0 hf17_0 hx107_0 hx108_0 hx109_0 hx17_0 hHeld ⊢; refine pure_ (i := 0) (N := some 22) #[T,F,F,F,F,F,F,F,F,F,F,F,F,F,F,F,F,F,F,F,F,F] rfl rfl an_ hq_ yi_ nm_ ?_; refine pure_ (i := 1) (N := some 23) #[T,T,F,F,F,F,F,F,F,F,F,F,F,F,F,F,F,F,F,F,F,F] rfl rfl an_ hq_ yi_ nm_ ?_; refine pure_ (i := 2) (N := some 24) #[T,T,T,F,F,F,F,F,F,F,F,F,F,F,F,F,F,F,F,F,F,F] rfl rfl an_ hq_ yi_ nm_ ?_; refine pure_ (i := 4) (N := some 26) #[T,T,T,F,T,F,F,F,F,F,F,F,F,F,F,F,F,F,F,F,F,F] rfl rfl an_ hq_ yi_ nm_ ?_; refine pure_ (i := 5) (N := some 27) #[T,T,T,F,T,T,F,F,F,F,F,F,F,F,F,F,F,F,F,F,F,F] rfl rfl an_ hq_ yi_ nm_ ?_; refine pure_ (i := 6) (N := some 28) #[T,T,T,F,T,T,T,F,F,F,F,F,F,F,F,F,F,F,F,F,F,F] rfl rfl an_ hq_ yi_ nm_ ?_; refine pure_ (i := 7) (N := some 29) #[T,T,T,F,T,T,T,T,F,F,F,F,F,F,F,F,F,F,F,F,F,F] rfl rfl an_ hq_ yi_ nm_ ?_; refine pure_ (i := 8) (N := some 30) #[T,T,T,F,T,T,T,T,T,F,F,F,F,F,F,F,F,F,F,F,F,F] rfl rfl an_ hq_ yi_ nm_ ?_; refine pure_ (i := 9) (N := some 31) #[T,T,T,F,T,T,T,T,T,T,F,F,F,F,F,F,F,F,F,F,F,F] rfl rfl an_ hq_ yi_ nm_ ?_; refine pure_ (i := 10) (N := some 32) #[T,T,T,F,T,T,T,T,T,T,T,F,F,F,F,F,F,F,F,F,F,F] rfl rfl an_ hq_ yi_ nm_ ?_; refine pure_ (i := 11) (N := some 33) #[T,T,T,F,T,T,T,T,T,T,T,T,F,F,F,F,F,F,F,F,F,F] rfl rfl an_ hq_ yi_ nm_ ?_; refine pure_ (i := 12) (N := some 34) #[T,T,T,F,T,T,T,T,T,T,T,T,T,F,F,F,F,F,F,F,F,F] rfl rfl an_ hq_ yi_ nm_ ?_; refine pure_ (i := 14) (N := some 36) #[T,T,T,F,T,T,T,T,T,T,T,T,T,F,T,F,F,F,F,F,F,F] rfl rfl an_ hq_ yi_ nm_ ?_; refine pure_ (i := 15) (N := some 37) #[T,T,T,F,T,T,T,T,T,T,T,T,T,F,T,T,F,F,F,F,F,F] rfl rfl an_ hq_ yi_ nm_ ?_; refine take_ (i := 3) (N := some 25) #[T,T,T,T,T,T,T,T,T,T,T,T,T,F,T,T,F,F,F,F,F,F] rfl rfl av_ hq_ yj3_ hHeld nm_ ?_; refine take_ (i := 13) (N := some 35) #[T,T,T,T,T,T,T,T,T,T,T,T,T,T,T,T,F,F,F,F,F,F] rfl rfl av_ hq_ yj3_ hHeld nm_ ?_; refine pure_ (i := 16) (N := some 38) #[T,T,T,T,T,T,T,T,T,T,T,T,T,T,T,T,T,F,F,F,F,F] rfl rfl an_ hq_ yi_ nm_ ?_; refine take_ (i := 17) (N := some 39) #[T,T,T,T,T,T,T,T,T,T,T,T,T,T,T,T,T,T,F,F,F,F] rfl rfl av_ hq_ yj3_ hHeld nm_ ?_; refine pure_ (i := 18) (N := some 40) #[T,T,T,T,T,T,T,T,T,T,T,T,T,T,T,T,T,T,T,F,F,F] rfl rfl an_ hq_ yi_ nm_ ?_; refine pure_ (i := 19) (N := some 41) #[T,T,T,T,T,T,T,T,T,T,T,T,T,T,T,T,T,T,T,T,F,F] rfl rfl an_ hq_ yi_ nm_ ?_; refine pure_ (i := 20) (N := some 42) #[T,T,T,T,T,T,T,T,T,T,T,T,T,T,T,T,T,T,T,T,T,F] rfl rfl an_ hq_ yi_ nm_ ?_; refine last_ (i := 21) (N := none) #[T,T,T,T,T,T,T,T,T,T,T,T,T,T,T,T,T,T,T,T,T,T] rfl rfl (one_of HT_.out (by kernel_rfl)) (by decide) (fun K hK => ?_); refine skip_ (w1 := ?_) (by rfl) rfl ?_ ?_; rotate_left
       ·go_simp
        rfl
       refine hK.out _ _ ?_; clear hK K; refine done_ (done_of HT_.out (by kernel_rfl)) ?_
       try go_wp2
       (try simp only [← hl4_2])
       go_roundg k2
       case measure => have := HK1.out; have := HK2.out; omega
       case rel => exact ⟨(y112), (ji12), (by first | rfl | (simp; done) | (simp only [← hji12] <;> (first | rfl | simp)) | (simp [*]; done)), H', ⟨tc39_⟩, ⟨(by (try simp only [hl4_1]); (try simp only [hl4_2]); (with_reducible repeat (first | apply Kd.S_alloc | apply Kd.S_drewN | apply Kd.S_drew)); exact HQ19.out)⟩, ⟨(by repeat (first | (with_reducible first | exact HB.out | apply below_alloc | apply pw_below_drewN | apply below_drew1 | refine below_set ?_ GB17.out) | exact HB.out))⟩⟩
      ·(try simp only [hl4_1, hl4_2] at c6b0); have H' := am_ H; clear H; go_wp2; (try simp only [← hl4_1, ← hl4_2])
       go_roundg k2
       case measure => have := HK1.out; have := HK2.out; omega
       case rel => exact ⟨(x4_2), (wrap64 (x14_1 + 1)), tc8_, H', ⟨tc39_⟩, ⟨(by (try simp only [hl4_1]); (try simp only [hl4_2]); (with_reducible repeat (first | apply Kd.S_alloc | apply Kd.S_drewN | apply Kd.S_drew)); exact HO_4.out)⟩, ⟨tc0_⟩⟩
   ·(try simp only [hl4_1] at c5b0); replace H := bd_ H; obtain ⟨t104, A21, H⟩ := H; (try dsimp only at H); obtain rfl := Option.some.inj H
    go_wp2_with (first | (refine gc_ (some 46) Try.func78 #[.slice Ao4 x4_1.length co4] ?_; (with_reducible refine (spec_sgFrom.calls k1 _ _ x4_1 t104 _ ?side1 ?side2 A21.out).mono ?_); (case side1 => repeat (first | exact (Kd.S_reads' HO_4.out).2.2 | (with_reducible refine Kd.C_alloc ?_ _) | (with_reducible refine Kd.C_drewN ?_ _) | (with_reducible refine Kd.C_drew ?_))); (case side2 => exact (Kd.S_reads' HO_4.out).2.1); rintro e w22 ⟨v105, rfl, ho0, hb⟩; refine ⟨_, rfl, ?_⟩; have HO106 := am_ (Kd.S_lower (Kd.S_new' ho0 (Kd.S_lt tc93_)) (below_size tc0_)); replace HO_4 := am_ (Kd.S_elder' tc93_ (Kd.S_base ho0) hb); replace HB := am_ (below_step tc0_ hb); (try clear hb ho0)))
    go_ret
    exact ⟨_, tc9_, tc126_, tc0_⟩

/-! ### spec_l1All: function 70 -/
def spec_l1All.l0 : Nat → Int → Int → List Int → Int → Int → Option (Bool)
 | 0, _, _, _, _, _ => none
 | k + 1, x1, x2, x9, x10, x11 => if x11 < x10 then (if 0 ≤ x11 then (if x11 < (x9.length : Int) then ((spec_l1In.f (rd x9 x11) x1 x2).bind fun t102 => (if t102 = true then (spec_l1All.l0 k x1 x2 x9 x10 (wrap64 (x11 + 1))) else (some false))) else (none)) else (none)) else (some true)
def spec_l1All.f (k : Nat) (l0 : List Int) (a1 : Int) (a2 : Int) : Option (Bool) := spec_l1All.l0 k a1 a2 l0 (l0.length : Int) 0
theorem spec_l1All.mono_l : ∀ k, (∀ y0 y1 y2 y3 y4, LeO (spec_l1All.l0 k y0 y1 y2 y3 y4) (spec_l1All.l0 (k + 1) y0 y1 y2 y3 y4))
 | 0 => fun _ _ _ _ _ r h => by simp [spec_l1All.l0] at h
 | k + 1 => by
  have ih0 := spec_l1All.mono_l k
  ·intro y0 y1 y2 y3 y4; unfold spec_l1All.l0
   repeat' first
   | (with_reducible exact ih0 _ _ _ _ _)
   | (with_reducible exact LeO.refl _)
   | (with_reducible exact LeO.none _)
   | (with_reducible refine LeO.ite ?_ ?_)
   | (with_reducible refine LeO.bind ?_ (fun _ => ?_))
   | exact ih0 _ _ _ _ _
   | exact LeO.none _
   | refine LeO.ite ?_ ?_
   | refine LeO.bind ?_ (fun _ => ?_)
theorem spec_l1All.mono : ∀ a0 a1 a2  k, LeO (spec_l1All.f k a0 a1 a2) (spec_l1All.f (k + 1) a0 a1 a2) := by
 intro a0 a1 a2 k; have ih0 := spec_l1All.mono_l k; unfold spec_l1All.f
 repeat' first
   | (with_reducible exact ih0 _ _ _ _ _)
   | (with_reducible exact LeO.refl _)
   | (with_reducible exact LeO.none _)
   | (with_reducible refine LeO.ite ?_ ?_)
   | (with_reducible refine LeO.bind ?_ (fun _ => ?_))
   | exact ih0 _ _ _ _ _
   | exact LeO.none _
   | refine LeO.ite ?_ ?_
   | refine LeO.bind ?_ (fun _ => ?_)
theorem spec_l1All.calls (k : Nat) (A0 : Option Addr) (c0 : Nat) (l0 : List Int) (a1 : Int) (a2 : Int) (r : Bool) (w : World) (hr0 : Kd.C (Kd.int .i64) w A0 l0.length l0) (hc0 : l0.length ≤ c0) (h : spec_l1All.f k l0 a1 a2 = some r) :
  Calls Try.prog 70 #[.slice A0 l0.length c0, .int .i64 a1, .int .i64 a2] w fun e w' => e = .returned (.bool r) ∧ Drawn0 w w' := by
 have HR0 := am_ hr0; have HC0 := am_ hc0; clear hr0 hc0; (try unfold spec_l1All.f at h); have H := h; clear h; have H' := am_ H; clear H; go_enter Try.func70, Try.ntmps70; go_wp2
 go_loopg [11] k (fun kq v11 w' => ∃ (x11_1 : Int), v11 = .int .i64 x11_1 ∧ Aside0 (spec_l1All.l0 kq a1 a2 l0 (l0.length : Int) x11_1 = some r) ∧ Aside0 (kq ≤ k) ∧ Drawn0 w w')
 case atStart => exact ⟨(0), tc8_, H', ⟨Nat.le_refl _⟩, tc12_⟩
 case round =>
  clear H'; (try clear p2); obtain ⟨x11_1, rfl, HA, HK1, ⟨m1, rfl⟩⟩ := hrel
  cases gk with
  | zero => exact absurd HA.out (by simp [spec_l1All.l0])
  | succ k1 =>
   have H := HA.out; clear HA; simp only [spec_l1All.l0] at H
   replace H := sp_ H; obtain ⟨c4b0, H⟩ | ⟨c4b0, H⟩ := H
   ·replace H := ps_ H; obtain ⟨c5b0, H⟩ := H; replace H := ps_ H; obtain ⟨c6b0, H⟩ := H; replace H := bd_ H; obtain ⟨t102, A7, H⟩ := H; (try dsimp only at H)
    by_cases c8 : t102 = true
    ·subst c8; have H1 : (spec_l1All.l0 k1 a1 a2 l0 (l0.length : Int) (wrap64 (x11_1 + 1))) = some r := tc21_; clear H; have H := H1; clear H1; have H' := am_ H; clear H; have p101 : 0 ≤ (x11_1 : Int) := od_; have q101 : x11_1 < (l0.length : Int) := od_; obtain ⟨ad101, e101, hx101_0⟩ := Kd.at_int HR0.out x11_1 p101 q101; cases e101; replace p101 := eq_true p101; replace q101 := eq_true q101
     go_wp2_with (first | (refine gc_ (some 18) Try.func25 #[.int .i64 (rd l0 x11_1), .int .i64 a1, .int .i64 a2] ?_; (with_reducible refine (spec_l1In.calls (rd l0 x11_1) a1 a2 true _ A7.out).mono ?_); rintro e w' ⟨rfl, ⟨nd, rfl⟩⟩; refine ⟨_, rfl, ?_⟩))
     go_roundg k1
     case measure => have := HK1.out; omega
     case rel => exact ⟨(wrap64 (x11_1 + 1)), tc8_, H', ⟨tc101_⟩, tc12_⟩
    ·replace c8 := Bool.eq_false_iff.mpr c8; subst c8; have H1 : (some false) = some r := tc14_; clear H; have H := H1; clear H1; obtain rfl := Option.some.inj H; have p101 : 0 ≤ (x11_1 : Int) := od_; have q101 : x11_1 < (l0.length : Int) := od_; obtain ⟨ad101, e101, hx101_0⟩ := Kd.at_int HR0.out x11_1 p101 q101; cases e101; replace p101 := eq_true p101; replace q101 := eq_true q101
     go_wp2_with (first | (refine gc_ (some 18) Try.func25 #[.int .i64 (rd l0 x11_1), .int .i64 a1, .int .i64 a2] ?_; (with_reducible refine (spec_l1In.calls (rd l0 x11_1) a1 a2 false _ A7.out).mono ?_); rintro e w' ⟨rfl, ⟨nd, rfl⟩⟩; refine ⟨_, rfl, ?_⟩))
     go_ret
     exact ⟨tc8_, tc12_⟩
   ·obtain rfl := Option.some.inj H; go_wp2
    go_ret
    exact ⟨tc8_, tc12_⟩

/-! ### spec_heWay: function 33 -/
def spec_heWay.f (k : Nat) (l0 : Tb_) (a1 : Int) (a2 : Int) : Option (Int) := if 0 ≤ a1 then (if a1 < (l0.length : Int) then (if 0 ≤ a2 then (if a2 < ((rd_L3 l0 a1).length : Int) then (if 0 ≤ (wrap64 (a1 - 1)) then (if (wrap64 (a1 - 1)) < (l0.length : Int) then (if a2 < ((rd_L3 l0 (wrap64 (a1 - 1))).length : Int) then (if 0 ≤ (wrap64 (a1 + 1)) then (if (wrap64 (a1 + 1)) < (l0.length : Int) then (if a2 < ((rd_L3 l0 (wrap64 (a1 + 1))).length : Int) then (if 0 ≤ (wrap64 (a2 - 1)) then (if (wrap64 (a2 - 1)) < ((rd_L3 l0 a1).length : Int) then (if 0 ≤ (wrap64 (a2 + 1)) then (if (wrap64 (a2 + 1)) < ((rd_L3 l0 a1).length : Int) then ((some (([rd (rd_L3 l0 (wrap64 (a1 - 1))) a2, rd (rd_L3 l0 (wrap64 (a1 + 1))) a2, rd (rd_L3 l0 a1) (wrap64 (a2 - 1)), rd (rd_L3 l0 a1) (wrap64 (a2 + 1))] : List Int) : List Int)).bind fun y111 => ((spec_l1All.f k y111 (wrap64 ((rd (rd_L3 l0 a1) a2) + 1)) (wrap64 ((rd (rd_L3 l0 a1) a2) + 1))).bind fun t114 => (if t114 = true then (some 1) else ((spec_l1All.f k y111 (wrap64 ((rd (rd_L3 l0 a1) a2) - 1)) (wrap64 ((rd (rd_L3 l0 a1) a2) - 1))).bind fun t115 => (if t115 = true then (some (-1)) else (some 0)))))) else (none)) else (none)) else (none)) else (none)) else (none)) else (none)) else (none)) else (none)) else (none)) else (none)) else (none)) else (none)) else (none)) else (none)
theorem spec_heWay.mono : ∀ a0 a1 a2  k, LeO (spec_heWay.f k a0 a1 a2) (spec_heWay.f (k + 1) a0 a1 a2) := by
 intro a0 a1 a2 k; unfold spec_heWay.f
 repeat' first
   | (with_reducible exact spec_l1All.mono _ _ _ _)
   | (with_reducible exact LeO.refl _)
   | (with_reducible exact LeO.none _)
   | (with_reducible refine LeO.ite ?_ ?_)
   | (with_reducible refine LeO.bind ?_ (fun _ => ?_))
   | exact spec_l1All.mono _ _ _ _
   | exact LeO.none _
   | refine LeO.ite ?_ ?_
   | refine LeO.bind ?_ (fun _ => ?_)
def spec_heWay.T2 : Bool × List (List Nat × List Nat) := (true, [([], []), ([], []), ([1], [1]), ([0, 2], [0, 2]), ([3], [3]), ([], []), ([4, 5], [4, 5]), ([6], [6]), ([], []), ([], []), ([9], [9]), ([8, 10], [8, 10]), ([11], [11]), ([], []), ([12, 13], [12, 13]), ([14], [14]), ([], []), ([], []), ([16, 17], [16, 17]), ([18], [18]), ([], []), ([20], [20]), ([19, 21], [19, 21]), ([22], [22]), ([], []), ([], []), ([24, 25], [24, 25]), ([26], [26]), ([], []), ([28], [28]), ([27, 29], [27, 29]), ([30], [30]), ([7, 15, 23, 31], [7, 15, 23, 31]), ([32, 0, 1, 2, 3, 4, 5, 6, 7, 8, 9, 10, 11, 12, 13, 14, 15, 16, 17, 18, 19, 20, 21, 22, 23, 24, 25, 26, 27, 28, 29, 30, 31, 32], [32])])
def spec_heWay.B2 : List Nat := [0, 0, 2, 7, 15, 0, 63, 127, 0, 0, 512, 1792, 3840, 0, 16128, 32512, 0, 0, 196608, 458752, 0, 1048576, 4128768, 8323072, 0, 0, 50331648, 117440512, 0, 268435456, 1056964608, 2130706432, 4294967295, 8589934591]
theorem spec_heWay.tab2 : rtab .any (opsOf Try.f33 2) = spec_heWay.T2 := by kernel_rfl
theorem spec_heWay.bits2 : waitsOk spec_heWay.T2.2 spec_heWay.B2 = true := by kernel_rfl
theorem spec_heWay.calls (k : Nat) (A0 : Option Addr) (c0 : Nat) (l0 : Tb_) (a1 : Int) (a2 : Int) (r : Int) (w : World) (hr0 : Kd.C (Kd.slice 3 (Kd.int .i64)) w A0 l0.length l0) (hc0 : l0.length ≤ c0) (h : spec_heWay.f k l0 a1 a2 = some r) :
  Calls Try.prog 33 #[.slice A0 l0.length c0, .int .i64 a1, .int .i64 a2] w fun e w' => e = .returned (.int .i64 r) ∧ Below w.heap.size w w' := by
 have HR0 := am_ hr0; have HC0 := am_ hc0; clear hr0 hc0; have HB := am_ (Below.refl w.heap.size w); (try unfold spec_heWay.f at h); have H := h; clear h; replace H := ps_ H; obtain ⟨c4b0, H⟩ := H; replace H := ps_ H; obtain ⟨c5b0, H⟩ := H; replace H := ps_ H; obtain ⟨c6b0, H⟩ := H; replace H := ps_ H; obtain ⟨c7b0, H⟩ := H; obtain ⟨ji8, hji8⟩ : ∃ j_ : Int, (wrap64 (a1 - 1)) = j_ := ⟨_, rfl⟩; replace H : (if 0 ≤ (ji8) then (if (ji8) < (l0.length : Int) then (if a2 < ((rd_L3 l0 (ji8)).length : Int) then (if 0 ≤ (wrap64 (a1 + 1)) then (if (wrap64 (a1 + 1)) < (l0.length : Int) then (if a2 < ((rd_L3 l0 (wrap64 (a1 + 1))).length : Int) then (if 0 ≤ (wrap64 (a2 - 1)) then (if (wrap64 (a2 - 1)) < ((rd_L3 l0 a1).length : Int) then (if 0 ≤ (wrap64 (a2 + 1)) then (if (wrap64 (a2 + 1)) < ((rd_L3 l0 a1).length : Int) then ((some (([rd (rd_L3 l0 (ji8)) a2, rd (rd_L3 l0 (wrap64 (a1 + 1))) a2, rd (rd_L3 l0 a1) (wrap64 (a2 - 1)), rd (rd_L3 l0 a1) (wrap64 (a2 + 1))] : List Int) : List Int)).bind fun y111 => ((spec_l1All.f k y111 (wrap64 ((rd (rd_L3 l0 a1) a2) + 1)) (wrap64 ((rd (rd_L3 l0 a1) a2) + 1))).bind fun t114 => (if t114 = true then (some 1) else ((spec_l1All.f k y111 (wrap64 ((rd (rd_L3 l0 a1) a2) - 1)) (wrap64 ((rd (rd_L3 l0 a1) a2) - 1))).bind fun t115 => (if t115 = true then (some (-1)) else (some 0)))))) else (none)) else (none)) else (none)) else (none)) else (none)) else (none)) else (none)) else (none)) else (none)) else (none)) = some r := (by first | (rw [hji8] at H; exact H) | (simp only [hji8] at H ⊢; exact H)); have hji8w : (IntKind.i64.wrap (a1 - 1)) = ji8 := (i64_w _).trans hji8; replace H := ps_ H; obtain ⟨c9b0, H⟩ := H; replace H := ps_ H; obtain ⟨c10b0, H⟩ := H; replace H := ps_ H; obtain ⟨c11b0, H⟩ := H; obtain ⟨ji12, hji12⟩ : ∃ j_ : Int, (wrap64 (a1 + 1)) = j_ := ⟨_, rfl⟩; replace H : (if 0 ≤ (ji12) then (if (ji12) < (l0.length : Int) then (if a2 < ((rd_L3 l0 (ji12)).length : Int) then (if 0 ≤ (wrap64 (a2 - 1)) then (if (wrap64 (a2 - 1)) < ((rd_L3 l0 a1).length : Int) then (if 0 ≤ (wrap64 (a2 + 1)) then (if (wrap64 (a2 + 1)) < ((rd_L3 l0 a1).length : Int) then ((some (([rd (rd_L3 l0 (ji8)) a2, rd (rd_L3 l0 (ji12)) a2, rd (rd_L3 l0 a1) (wrap64 (a2 - 1)), rd (rd_L3 l0 a1) (wrap64 (a2 + 1))] : List Int) : List Int)).bind fun y111 => ((spec_l1All.f k y111 (wrap64 ((rd (rd_L3 l0 a1) a2) + 1)) (wrap64 ((rd (rd_L3 l0 a1) a2) + 1))).bind fun t114 => (if t114 = true then (some 1) else ((spec_l1All.f k y111 (wrap64 ((rd (rd_L3 l0 a1) a2) - 1)) (wrap64 ((rd (rd_L3 l0 a1) a2) - 1))).bind fun t115 => (if t115 = true then (some (-1)) else (some 0)))))) else (none)) else (none)) else (none)) else (none)) else (none)) else (none)) else (none)) = some r := (by first | (rw [hji12] at H; exact H) | (simp only [hji12] at H ⊢; exact H)); have hji12w : (IntKind.i64.wrap (a1 + 1)) = ji12 := (i64_w _).trans hji12; replace H := ps_ H; obtain ⟨c13b0, H⟩ := H; replace H := ps_ H; obtain ⟨c14b0, H⟩ := H; replace H := ps_ H; obtain ⟨c15b0, H⟩ := H; obtain ⟨ji16, hji16⟩ : ∃ j_ : Int, (wrap64 (a2 - 1)) = j_ := ⟨_, rfl⟩; replace H : (if 0 ≤ (ji16) then (if (ji16) < ((rd_L3 l0 a1).length : Int) then (if 0 ≤ (wrap64 (a2 + 1)) then (if (wrap64 (a2 + 1)) < ((rd_L3 l0 a1).length : Int) then ((some (([rd (rd_L3 l0 (ji8)) a2, rd (rd_L3 l0 (ji12)) a2, rd (rd_L3 l0 a1) (ji16), rd (rd_L3 l0 a1) (wrap64 (a2 + 1))] : List Int) : List Int)).bind fun y111 => ((spec_l1All.f k y111 (wrap64 ((rd (rd_L3 l0 a1) a2) + 1)) (wrap64 ((rd (rd_L3 l0 a1) a2) + 1))).bind fun t114 => (if t114 = true then (some 1) else ((spec_l1All.f k y111 (wrap64 ((rd (rd_L3 l0 a1) a2) - 1)) (wrap64 ((rd (rd_L3 l0 a1) a2) - 1))).bind fun t115 => (if t115 = true then (some (-1)) else (some 0)))))) else (none)) else (none)) else (none)) else (none)) = some r := (by first | (rw [hji16] at H; exact H) | (simp only [hji16] at H ⊢; exact H)); have hji16w : (IntKind.i64.wrap (a2 - 1)) = ji16 := (i64_w _).trans hji16; replace H := ps_ H; obtain ⟨c17b0, H⟩ := H; replace H := ps_ H; obtain ⟨c18b0, H⟩ := H; obtain ⟨ji19, hji19⟩ : ∃ j_ : Int, (wrap64 (a2 + 1)) = j_ := ⟨_, rfl⟩; replace H : (if 0 ≤ (ji19) then (if (ji19) < ((rd_L3 l0 a1).length : Int) then ((some (([rd (rd_L3 l0 (ji8)) a2, rd (rd_L3 l0 (ji12)) a2, rd (rd_L3 l0 a1) (ji16), rd (rd_L3 l0 a1) (ji19)] : List Int) : List Int)).bind fun y111 => ((spec_l1All.f k y111 (wrap64 ((rd (rd_L3 l0 a1) a2) + 1)) (wrap64 ((rd (rd_L3 l0 a1) a2) + 1))).bind fun t114 => (if t114 = true then (some 1) else ((spec_l1All.f k y111 (wrap64 ((rd (rd_L3 l0 a1) a2) - 1)) (wrap64 ((rd (rd_L3 l0 a1) a2) - 1))).bind fun t115 => (if t115 = true then (some (-1)) else (some 0)))))) else (none)) else (none)) = some r := (by first | (rw [hji19] at H; exact H) | (simp only [hji19] at H ⊢; exact H)); have hji19w : (IntKind.i64.wrap (a2 + 1)) = ji19 := (i64_w _).trans hji19; replace H := ps_ H; obtain ⟨c20b0, H⟩ := H; replace H := ps_ H; obtain ⟨c21b0, H⟩ := H; obtain ⟨y111, hy111⟩ : ∃ y_ : List Int, y_ = (([rd (rd_L3 l0 (ji8)) a2, rd (rd_L3 l0 (ji12)) a2, rd (rd_L3 l0 a1) (ji16), rd (rd_L3 l0 a1) (ji19)] : List Int)) := ⟨_, rfl⟩; replace H : ((spec_l1All.f k y111 (wrap64 ((rd (rd_L3 l0 a1) a2) + 1)) (wrap64 ((rd (rd_L3 l0 a1) a2) + 1))).bind fun t114 => (if t114 = true then (some 1) else ((spec_l1All.f k y111 (wrap64 ((rd (rd_L3 l0 a1) a2) - 1)) (wrap64 ((rd (rd_L3 l0 a1) a2) - 1))).bind fun t115 => (if t115 = true then (some (-1)) else (some 0))))) = some r := tc49_; have Ny111 := am_ hy111; clear hy111; replace H := bd_ H; obtain ⟨t114, A22, H⟩ := H; (try dsimp only at H); have p101 : 0 ≤ (a1 : Int) := od_; have q101 : a1 < (l0.length : Int) := od_; obtain ⟨ad101, A101_0, c101_0, e101, hx101_0, hl101_0, hi101_0⟩ := at_L3 HR0.out a1 p101 q101; cases e101; have HR101_0 := am_ hi101_0; have HC101_0 := am_ hl101_0; clear hi101_0 hl101_0; replace p101 := eq_true p101; replace q101 := eq_true q101; have p102 : 0 ≤ (a2 : Int) := od_; have q102 : a2 < ((rd_L3 l0 a1).length : Int) := od_; obtain ⟨ad102, e102, hx102_0⟩ := Kd.at_int HR101_0.out a2 p102 q102; cases e102; replace p102 := eq_true p102; replace q102 := eq_true q102; go_enter Try.func33, Try.ntmps33
 try go_wp2
 replace HB := am_ (below_drew1 HB.out); have p103 : 0 ≤ ((ji8) : Int) := od_; have q103 : (ji8) < (l0.length : Int) := od_; obtain ⟨ad103, A103_0, c103_0, e103, hx103_0, hl103_0, hi103_0⟩ := at_L3 HR0.out (ji8) p103 q103; have hw103_0 := hx103_0; obtain rfl : ad101 = ad103 := (by injection e103); replace hx103_0 := (HB.out.cell (World.block_lt_of_cell? w _ hx103_0)).trans hx103_0; have HR103_0 := am_ hi103_0; have HC103_0 := am_ hl103_0; clear hi103_0 hl103_0; replace p103 := eq_true p103; replace q103 := eq_true q103; have p104 : 0 ≤ (a2 : Int) := od_; have q104 : a2 < ((rd_L3 l0 (ji8)).length : Int) := od_; obtain ⟨ad104, e104, hx104_0⟩ := Kd.at_int HR103_0.out a2 p104 q104; have hw104_0 := hx104_0; cases e104; replace hx104_0 := (HB.out.cell (World.block_lt_of_cell? w _ hx104_0)).trans hx104_0; replace p104 := eq_true p104; replace q104 := eq_true q104; have p105 : 0 ≤ ((ji12) : Int) := od_; have q105 : (ji12) < (l0.length : Int) := od_; obtain ⟨ad105, A105_0, c105_0, e105, hx105_0, hl105_0, hi105_0⟩ := at_L3 HR0.out (ji12) p105 q105; have hw105_0 := hx105_0; obtain rfl : ad101 = ad105 := (by injection e105); replace hx105_0 := (HB.out.cell (World.block_lt_of_cell? w _ hx105_0)).trans hx105_0; have HR105_0 := am_ hi105_0; have HC105_0 := am_ hl105_0; clear hi105_0 hl105_0; replace p105 := eq_true p105; replace q105 := eq_true q105; have p106 : 0 ≤ (a2 : Int) := od_; have q106 : a2 < ((rd_L3 l0 (ji12)).length : Int) := od_; obtain ⟨ad106, e106, hx106_0⟩ := Kd.at_int HR105_0.out a2 p106 q106; have hw106_0 := hx106_0; cases e106; replace hx106_0 := (HB.out.cell (World.block_lt_of_cell? w _ hx106_0)).trans hx106_0; replace p106 := eq_true p106; replace q106 := eq_true q106; have p107 : 0 ≤ (a1 : Int) := od_; have q107 : a1 < (l0.length : Int) := od_; obtain ⟨ad107, A107_0, c107_0, e107, hx107_0, hl107_0, hi107_0⟩ := at_L3 HR0.out a1 p107 q107; have hw107_0 := hx107_0; obtain rfl : ad101 = ad107 := (by injection e107); replace hx107_0 := (HB.out.cell (World.block_lt_of_cell? w _ hx107_0)).trans hx107_0; have HR107_0 := am_ hi107_0; have HC107_0 := am_ hl107_0; clear hi107_0 hl107_0; replace p107 := eq_true p107; replace q107 := eq_true q107; have p108 : 0 ≤ ((ji16) : Int) := od_; have q108 : (ji16) < ((rd_L3 l0 a1).length : Int) := od_; obtain ⟨ad108, e108, hx108_0⟩ := Kd.at_int HR107_0.out (ji16) p108 q108; have hw108_0 := hx108_0; cases e108; replace hx108_0 := (HB.out.cell (World.block_lt_of_cell? w _ hx108_0)).trans hx108_0; replace p108 := eq_true p108; replace q108 := eq_true q108; have p109 : 0 ≤ (a1 : Int) := od_; have q109 : a1 < (l0.length : Int) := od_; obtain ⟨ad109, A109_0, c109_0, e109, hx109_0, hl109_0, hi109_0⟩ := at_L3 HR0.out a1 p109 q109; have hw109_0 := hx109_0; obtain rfl : ad101 = ad109 := (by injection e109); replace hx109_0 := (HB.out.cell (World.block_lt_of_cell? w _ hx109_0)).trans hx109_0; have HR109_0 := am_ hi109_0; have HC109_0 := am_ hl109_0; clear hi109_0 hl109_0; replace p109 := eq_true p109; replace q109 := eq_true q109; have ea_ := Option.some.inj (hx107_0.symm.trans hx109_0)
 injection ea_ with ea_ en_ ec_
 subst ea_; subst ec_; clear en_; have p110 : 0 ≤ ((ji19) : Int) := od_; have q110 : (ji19) < ((rd_L3 l0 a1).length : Int) := od_; obtain ⟨ad110, e110, hx110_0⟩ := Kd.at_int HR109_0.out (ji19) p110 q110; have hw110_0 := hx110_0; cases e110; replace hx110_0 := (HB.out.cell (World.block_lt_of_cell? w _ hx110_0)).trans hx110_0; replace p110 := eq_true p110; replace q110 := eq_true q110; refine start_ (n := 34) (S := fun w' => w'.cell? (ad101.add ((ji8)).toNat) = some (.slice (some ad104) (rd_L3 l0 (ji8)).length c103_0) ∧ w'.cell? (ad104.add (a2).toNat) = some (.int .i64 (rd (rd_L3 l0 (ji8)) a2)) ∧ w'.cell? (ad101.add ((ji12)).toNat) = some (.slice (some ad106) (rd_L3 l0 (ji12)).length c105_0) ∧ w'.cell? (ad106.add (a2).toNat) = some (.int .i64 (rd (rd_L3 l0 (ji12)) a2)) ∧ w'.cell? (ad101.add (a1).toNat) = some (.slice (some ad108) (rd_L3 l0 a1).length c107_0) ∧ w'.cell? (ad108.add ((ji16)).toNat) = some (.int .i64 (rd (rd_L3 l0 a1) (ji16))) ∧ w'.cell? (ad101.add (a1).toNat) = some (.slice (some ad108) (rd_L3 l0 a1).length c107_0) ∧ w'.cell? (ad108.add ((ji19)).toNat) = some (.int .i64 (rd (rd_L3 l0 a1) (ji19)))) (ds := []) #[F,F,F,F,F,F,F,F,F,F,F,F,F,F,F,F,F,F,F,F,F,F,F,F,F,F,F,F,F,F,F,F,F,F] (by kernel_rfl) rfl rfl ⟨((HB.out.cell (World.block_lt_of_cell? w _ hw103_0)).trans hw103_0), ((HB.out.cell (World.block_lt_of_cell? w _ hw104_0)).trans hw104_0), ((HB.out.cell (World.block_lt_of_cell? w _ hw105_0)).trans hw105_0), ((HB.out.cell (World.block_lt_of_cell? w _ hw106_0)).trans hw106_0), ((HB.out.cell (World.block_lt_of_cell? w _ hw107_0)).trans hw107_0), ((HB.out.cell (World.block_lt_of_cell? w _ hw108_0)).trans hw108_0), ((HB.out.cell (World.block_lt_of_cell? w _ hw109_0)).trans hw109_0), ((HB.out.cell (World.block_lt_of_cell? w _ hw110_0)).trans hw110_0)⟩ (fun hHeld => ?_); refine with_tabW spec_heWay.tab2 spec_heWay.bits2 (fun HT_ HW_ => ?_); generalize w.drew = w24 at HB HR103_0 HR105_0 HR107_0 HR109_0 hx103_0 hx104_0 hx105_0 hx106_0 hx107_0 hx108_0 hx109_0 hx110_0 hHeld ⊢; refine pure_ (i := 0) (N := some 16) #[T,F,F,F,F,F,F,F,F,F,F,F,F,F,F,F,F,F,F,F,F,F,F,F,F,F,F,F,F,F,F,F,F,F] rfl rfl an_ hq_ yi_ nm_ ?_; refine pure_ (i := 1) (N := some 17) #[T,T,F,F,F,F,F,F,F,F,F,F,F,F,F,F,F,F,F,F,F,F,F,F,F,F,F,F,F,F,F,F,F,F] rfl rfl an_ hq_ yi_ nm_ ?_; refine pure_ (i := 2) (N := some 18) #[T,T,T,F,F,F,F,F,F,F,F,F,F,F,F,F,F,F,F,F,F,F,F,F,F,F,F,F,F,F,F,F,F,F] rfl rfl an_ hq_ yi_ nm_ ?_; refine pure_ (i := 3) (N := some 19) #[T,T,T,T,F,F,F,F,F,F,F,F,F,F,F,F,F,F,F,F,F,F,F,F,F,F,F,F,F,F,F,F,F,F] rfl rfl an_ hq_ yi_ nm_ ?_; refine pure_ (i := 5) (N := some 21) #[T,T,T,T,F,T,F,F,F,F,F,F,F,F,F,F,F,F,F,F,F,F,F,F,F,F,F,F,F,F,F,F,F,F] rfl rfl an_ hq_ yi_ nm_ ?_; refine pure_ (i := 8) (N := some 24) #[T,T,T,T,F,T,F,F,T,F,F,F,F,F,F,F,F,F,F,F,F,F,F,F,F,F,F,F,F,F,F,F,F,F] rfl rfl an_ hq_ yi_ nm_ ?_; refine pure_ (i := 9) (N := some 25) #[T,T,T,T,F,T,F,F,T,T,F,F,F,F,F,F,F,F,F,F,F,F,F,F,F,F,F,F,F,F,F,F,F,F] rfl rfl an_ hq_ yi_ nm_ ?_; refine pure_ (i := 10) (N := some 26) #[T,T,T,T,F,T,F,F,T,T,T,F,F,F,F,F,F,F,F,F,F,F,F,F,F,F,F,F,F,F,F,F,F,F] rfl rfl an_ hq_ yi_ nm_ ?_; refine pure_ (i := 11) (N := some 27) #[T,T,T,T,F,T,F,F,T,T,T,T,F,F,F,F,F,F,F,F,F,F,F,F,F,F,F,F,F,F,F,F,F,F] rfl rfl an_ hq_ yi_ nm_ ?_; refine pure_ (i := 13) (N := some 29) #[T,T,T,T,F,T,F,F,T,T,T,T,F,T,F,F,F,F,F,F,F,F,F,F,F,F,F,F,F,F,F,F,F,F] rfl rfl an_ hq_ yi_ nm_ ?_; refine pure_ (i := 16) (N := some 32) #[T,T,T,T,F,T,F,F,T,T,T,T,F,T,F,F,T,F,F,F,F,F,F,F,F,F,F,F,F,F,F,F,F,F] rfl rfl an_ hq_ yi_ nm_ ?_; refine pure_ (i := 17) (N := some 33) #[T,T,T,T,F,T,F,F,T,T,T,T,F,T,F,F,T,T,F,F,F,F,F,F,F,F,F,F,F,F,F,F,F,F] rfl rfl an_ hq_ yi_ nm_ ?_; refine pure_ (i := 18) (N := some 34) #[T,T,T,T,F,T,F,F,T,T,T,T,F,T,F,F,T,T,T,F,F,F,F,F,F,F,F,F,F,F,F,F,F,F] rfl rfl an_ hq_ yi_ nm_ ?_; refine pure_ (i := 20) (N := some 36) #[T,T,T,T,F,T,F,F,T,T,T,T,F,T,F,F,T,T,T,F,T,F,F,F,F,F,F,F,F,F,F,F,F,F] rfl rfl an_ hq_ yi_ nm_ ?_; refine pure_ (i := 21) (N := some 37) #[T,T,T,T,F,T,F,F,T,T,T,T,F,T,F,F,T,T,T,F,T,T,F,F,F,F,F,F,F,F,F,F,F,F] rfl rfl an_ hq_ yi_ nm_ ?_; refine pure_ (i := 24) (N := some 40) #[T,T,T,T,F,T,F,F,T,T,T,T,F,T,F,F,T,T,T,F,T,T,F,F,T,F,F,F,F,F,F,F,F,F] rfl rfl an_ hq_ yi_ nm_ ?_; refine pure_ (i := 25) (N := some 41) #[T,T,T,T,F,T,F,F,T,T,T,T,F,T,F,F,T,T,T,F,T,T,F,F,T,T,F,F,F,F,F,F,F,F] rfl rfl an_ hq_ yi_ nm_ ?_; refine pure_ (i := 26) (N := some 42) #[T,T,T,T,F,T,F,F,T,T,T,T,F,T,F,F,T,T,T,F,T,T,F,F,T,T,T,F,F,F,F,F,F,F] rfl rfl an_ hq_ yi_ nm_ ?_; refine pure_ (i := 28) (N := some 44) #[T,T,T,T,F,T,F,F,T,T,T,T,F,T,F,F,T,T,T,F,T,T,F,F,T,T,T,F,T,F,F,F,F,F] rfl rfl an_ hq_ yi_ nm_ ?_; refine pure_ (i := 29) (N := some 45) #[T,T,T,T,F,T,F,F,T,T,T,T,F,T,F,F,T,T,T,F,T,T,F,F,T,T,T,F,T,T,F,F,F,F] rfl rfl an_ hq_ yi_ nm_ ?_; refine take_ (i := 4) (N := some 20) #[T,T,T,T,T,T,F,F,T,T,T,T,F,T,F,F,T,T,T,F,T,T,F,F,T,T,T,F,T,T,F,F,F,F] rfl rfl av_ hq_ yj8_ hHeld nm_ ?_; refine pure_ (i := 6) (N := some 22) #[T,T,T,T,T,T,T,F,T,T,T,T,F,T,F,F,T,T,T,F,T,T,F,F,T,T,T,F,T,T,F,F,F,F] rfl rfl an_ hq_ yi_ nm_ ?_; refine take_ (i := 7) (N := some 23) #[T,T,T,T,T,T,T,T,T,T,T,T,F,T,F,F,T,T,T,F,T,T,F,F,T,T,T,F,T,T,F,F,F,F] rfl rfl av_ hq_ yj8_ hHeld nm_ ?_; refine take_ (i := 12) (N := some 28) #[T,T,T,T,T,T,T,T,T,T,T,T,T,T,F,F,T,T,T,F,T,T,F,F,T,T,T,F,T,T,F,F,F,F] rfl rfl av_ hq_ yj8_ hHeld nm_ ?_; refine pure_ (i := 14) (N := some 30) #[T,T,T,T,T,T,T,T,T,T,T,T,T,T,T,F,T,T,T,F,T,T,F,F,T,T,T,F,T,T,F,F,F,F] rfl rfl an_ hq_ yi_ nm_ ?_; refine take_ (i := 15) (N := some 31) #[T,T,T,T,T,T,T,T,T,T,T,T,T,T,T,T,T,T,T,F,T,T,F,F,T,T,T,F,T,T,F,F,F,F] rfl rfl av_ hq_ yj8_ hHeld nm_ ?_; refine take_ (i := 19) (N := some 35) #[T,T,T,T,T,T,T,T,T,T,T,T,T,T,T,T,T,T,T,T,T,T,F,F,T,T,T,F,T,T,F,F,F,F] rfl rfl av_ hq_ yj8_ hHeld nm_ ?_; refine pure_ (i := 22) (N := some 38) #[T,T,T,T,T,T,T,T,T,T,T,T,T,T,T,T,T,T,T,T,T,T,T,F,T,T,T,F,T,T,F,F,F,F] rfl rfl an_ hq_ yi_ nm_ ?_; refine take_ (i := 23) (N := some 39) #[T,T,T,T,T,T,T,T,T,T,T,T,T,T,T,T,T,T,T,T,T,T,T,T,T,T,T,F,T,T,F,F,F,F] rfl rfl av_ hq_ yj8_ hHeld nm_ ?_; refine take_ (i := 27) (N := some 43) #[T,T,T,T,T,T,T,T,T,T,T,T,T,T,T,T,T,T,T,T,T,T,T,T,T,T,T,T,T,T,F,F,F,F] rfl rfl av_ hq_ yj8_ hHeld nm_ ?_; refine pure_ (i := 30) (N := some 46) #[T,T,T,T,T,T,T,T,T,T,T,T,T,T,T,T,T,T,T,T,T,T,T,T,T,T,T,T,T,T,T,F,F,F] rfl rfl an_ hq_ yi_ nm_ ?_; refine take_ (i := 31) (N := some 47) #[T,T,T,T,T,T,T,T,T,T,T,T,T,T,T,T,T,T,T,T,T,T,T,T,T,T,T,T,T,T,T,T,F,F] rfl rfl av_ hq_ yj8_ hHeld nm_ ?_; refine one_ (i := 32) (N := some 48) #[T,T,T,T,T,T,T,T,T,T,T,T,T,T,T,T,T,T,T,T,T,T,T,T,T,T,T,T,T,T,T,T,T,F] rfl rfl (one_of HT_.out (by kernel_rfl)) (by decide) (fun K hK => ?_); refine Kd.R_lit_step (Kd.int .i64) _ 3 ?hg (N := 48) ?hd (xs := ([rd (rd_L3 l0 (ji8)) a2, rd (rd_L3 l0 (ji12)) a2, rd (rd_L3 l0 a1) (ji16), rd (rd_L3 l0 a1) (ji19)] : List Int)) (inner := [.int .i64 (rd (rd_L3 l0 (ji8)) a2), .int .i64 (rd (rd_L3 l0 (ji12)) a2), .int .i64 (rd (rd_L3 l0 a1) (ji16)), .int .i64 (rd (rd_L3 l0 a1) (ji19))]) (ok := fun _ => True) (okp := fun _ => True) ?hr ?hp (fun _ hk => hk) trivial (Below.refl _ _) (Nat.le_refl _) (by simp) ?_; (case hd => rfl); (case hg => rfl); (case hr => exact tc26_); (case hp => exact (Reps.one (show Kd.M (Kd.int .i64) _ _ _ (rd (rd_L3 l0 (ji8)) a2) [.int .i64 (rd (rd_L3 l0 (ji8)) a2)] from rfl) (Reps.one (show Kd.M (Kd.int .i64) _ _ _ (rd (rd_L3 l0 (ji12)) a2) [.int .i64 (rd (rd_L3 l0 (ji12)) a2)] from rfl) (Reps.one (show Kd.M (Kd.int .i64) _ _ _ (rd (rd_L3 l0 a1) (ji16)) [.int .i64 (rd (rd_L3 l0 a1) (ji16))] from rfl) (Reps.one (show Kd.M (Kd.int .i64) _ _ _ (rd (rd_L3 l0 a1) (ji19)) [.int .i64 (rd (rd_L3 l0 a1) (ji19))] from rfl) (Reps.none _ _)))))); intro v112 w25 ho26 hb hg_ hnew_; clear hg_ hnew_; (first | rw [← Ny111.out] at ho26 | (simp only [Int.reduceToNat] at ho26; rw [← Ny111.out] at ho26)); have HO113 := am_ (Kd.R_lower ho26 (below_size tc0_)); replace HB := am_ (below_step tc0_ hb); clear hb ho26; refine hK.out _ _ ⟨((HB.out.cell (World.block_lt_of_cell? w _ hw103_0)).trans hw103_0), ((HB.out.cell (World.block_lt_of_cell? w _ hw104_0)).trans hw104_0), ((HB.out.cell (World.block_lt_of_cell? w _ hw105_0)).trans hw105_0), ((HB.out.cell (World.block_lt_of_cell? w _ hw106_0)).trans hw106_0), ((HB.out.cell (World.block_lt_of_cell? w _ hw107_0)).trans hw107_0), ((HB.out.cell (World.block_lt_of_cell? w _ hw108_0)).trans hw108_0), ((HB.out.cell (World.block_lt_of_cell? w _ hw109_0)).trans hw109_0), ((HB.out.cell (World.block_lt_of_cell? w _ hw110_0)).trans hw110_0)⟩ (fun hHeld => ?_); clear hK K; refine norm_ (a' := ?_) ?_ ?_; rotate_left
 ·show Act.put _ (some 48) _ = _
  simp only [Act.put, List.setIfInBounds_toArray, List.set_cons_zero, List.set_cons_succ, i64_w, i32_w]
  rfl
 refine pure_ (i := 33) (N := some 8) #[T,T,T,T,T,T,T,T,T,T,T,T,T,T,T,T,T,T,T,T,T,T,T,T,T,T,T,T,T,T,T,T,T,T] rfl rfl an_ hq_ yi_ nm_ ?_; refine done_ (done_of HT_.out (by kernel_rfl)) ?_; obtain ⟨Ao27, co27, eo27⟩ := Kd.R_slice HO113.out; subst eo27
 by_cases c23 : t114 = true
 ·subst c23; have H1 : (some 1) = some r := tc21_; clear H; have H := H1; clear H1; obtain rfl := Option.some.inj H
  try go_wp2_with (first | (refine gc_ (some 55) Try.func70 #[.slice Ao27 y111.length co27, .int .i64 (wrap64 ((rd (rd_L3 l0 a1) a2) + 1)), .int .i64 (wrap64 ((rd (rd_L3 l0 a1) a2) + 1))] ?_; (with_reducible refine (spec_l1All.calls k _ _ y111 (wrap64 ((rd (rd_L3 l0 a1) a2) + 1)) (wrap64 ((rd (rd_L3 l0 a1) a2) + 1)) true _ ?side1 ?side2 A22.out).mono ?_); (case side1 => exact tc42_); (case side2 => exact tc135_); rintro e w' ⟨rfl, ⟨nd, rfl⟩⟩; refine ⟨_, rfl, ?_⟩))
  go_ret
  exact ⟨tc63_, tc0_⟩
 ·replace c23 := Bool.eq_false_iff.mpr c23; subst c23; have H1 : ((spec_l1All.f k y111 (wrap64 ((rd (rd_L3 l0 a1) a2) - 1)) (wrap64 ((rd (rd_L3 l0 a1) a2) - 1))).bind fun t115 => (if t115 = true then (some (-1)) else (some 0))) = some r := tc14_; clear H; have H := H1; clear H1; replace H := bd_ H; obtain ⟨t115, A28, H⟩ := H; (try dsimp only at H)
  by_cases c29 : t115 = true
  ·subst c29; have H1 : (some (-1)) = some r := tc21_; clear H; have H := H1; clear H1; obtain rfl := Option.some.inj H
   try go_wp2_with (first | (refine gc_ (some 55) Try.func70 #[.slice Ao27 y111.length co27, .int .i64 (wrap64 ((rd (rd_L3 l0 a1) a2) + 1)), .int .i64 (wrap64 ((rd (rd_L3 l0 a1) a2) + 1))] ?_; (with_reducible refine (spec_l1All.calls k _ _ y111 (wrap64 ((rd (rd_L3 l0 a1) a2) + 1)) (wrap64 ((rd (rd_L3 l0 a1) a2) + 1)) false _ ?side1 ?side2 A22.out).mono ?_); (case side1 => exact tc42_); (case side2 => exact tc135_); rintro e w' ⟨rfl, ⟨nd, rfl⟩⟩; refine ⟨_, rfl, ?_⟩) | (refine gc_ (some 62) Try.func70 #[.slice Ao27 y111.length co27, .int .i64 (wrap64 ((rd (rd_L3 l0 a1) a2) - 1)), .int .i64 (wrap64 ((rd (rd_L3 l0 a1) a2) - 1))] ?_; (with_reducible refine (spec_l1All.calls k _ _ y111 (wrap64 ((rd (rd_L3 l0 a1) a2) - 1)) (wrap64 ((rd (rd_L3 l0 a1) a2) - 1)) true _ ?side1 ?side2 A28.out).mono ?_); (case side1 => exact tc42_); (case side2 => exact tc135_); rintro e w' ⟨rfl, ⟨nd, rfl⟩⟩; refine ⟨_, rfl, ?_⟩))
   go_ret
   exact ⟨tc63_, tc0_⟩
  ·replace c29 := Bool.eq_false_iff.mpr c29; subst c29; have H1 : (some 0) = some r := tc14_; clear H; have H := H1; clear H1; obtain rfl := Option.some.inj H
   try go_wp2_with (first | (refine gc_ (some 55) Try.func70 #[.slice Ao27 y111.length co27, .int .i64 (wrap64 ((rd (rd_L3 l0 a1) a2) + 1)), .int .i64 (wrap64 ((rd (rd_L3 l0 a1) a2) + 1))] ?_; (with_reducible refine (spec_l1All.calls k _ _ y111 (wrap64 ((rd (rd_L3 l0 a1) a2) + 1)) (wrap64 ((rd (rd_L3 l0 a1) a2) + 1)) false _ ?side1 ?side2 A22.out).mono ?_); (case side1 => exact tc42_); (case side2 => exact tc135_); rintro e w' ⟨rfl, ⟨nd, rfl⟩⟩; refine ⟨_, rfl, ?_⟩) | (refine gc_ (some 62) Try.func70 #[.slice Ao27 y111.length co27, .int .i64 (wrap64 ((rd (rd_L3 l0 a1) a2) - 1)), .int .i64 (wrap64 ((rd (rd_L3 l0 a1) a2) - 1))] ?_; (with_reducible refine (spec_l1All.calls k _ _ y111 (wrap64 ((rd (rd_L3 l0 a1) a2) - 1)) (wrap64 ((rd (rd_L3 l0 a1) a2) - 1)) false _ ?side1 ?side2 A28.out).mono ?_); (case side1 => exact tc42_); (case side2 => exact tc135_); rintro e w' ⟨rfl, ⟨nd, rfl⟩⟩; refine ⟨_, rfl, ?_⟩))
   go_ret
   exact ⟨tc63_, tc0_⟩

/-! ### spec_gyToggle: function 44 (by hand) -/
def spec_gyToggle.f (k : Nat) (h : Tb_) (i j : Int) : Option Tb_ := (spec_heWay.f k h i j).bind fun x => if 0 ≤ i then (if i < (h.length : Int) then (if 0 ≤ j then (if j < ((rd_L3 h i).length : Int) then some (h.set i.toNat ((rd_L3 h i).set j.toNat (wrap64 (rd (rd_L3 h i) j + wrap64 (2 * x))))) else none) else none) else none) else none
theorem spec_gyToggle.mono (h : Tb_) (i j : Int) (k : Nat) : LeO (spec_gyToggle.f k h i j) (spec_gyToggle.f (k + 1) h i j) := LeO.bind (spec_heWay.mono _ _ _ _) (fun _ => LeO.refl _)
theorem spec_gyToggle.len {k : Nat} {h r : Tb_} {i j : Int} (e : spec_gyToggle.f k h i j = some r) : r.length = h.length := by
  unfold spec_gyToggle.f at e
  obtain ⟨x, _, e⟩ := Option.bind_eq_some_iff.mp e
  split at e
  case isFalse => cases e
  split at e
  case isFalse => cases e
  split at e
  case isFalse => cases e
  split at e
  case isFalse => cases e
  obtain rfl := Option.some.inj e
  simp
theorem spec_gyToggle.calls (k : Nat) (A0 : Option Addr) (no c0 : Nat) (hh r : Tb_) (i j : Int) (base : Nat) (okS : Nat → Prop) (w : World) (hbase : base ≤ w.heap.size)
    (ho : Kd.S (Kd.slice 3 (Kd.int .i64)) 32 w base okS (.slice A0 no c0) hh) (h : spec_gyToggle.f k hh i j = some r) :
    Calls Try.prog 44 #[.slice A0 no c0, .int .i64 i, .int .i64 j] w fun e w' => e = .returned (.slice A0 no c0) ∧ Kd.S (Kd.slice 3 (Kd.int .i64)) 32 w' base okS (.slice A0 no c0) r ∧ Below base w w' := by
  obtain ⟨x, hx_, h⟩ := Option.bind_eq_some_iff.mp h
  have p0 : 0 ≤ i := Decidable.byContradiction fun c => by rw [if_neg c] at h; cases h
  have p1 : i < (hh.length : Int) := Decidable.byContradiction fun c => by rw [if_pos p0, if_neg c] at h; cases h
  have p2 : 0 ≤ j := Decidable.byContradiction fun c => by rw [if_pos p0, if_pos p1, if_neg c] at h; cases h
  have p3 : j < ((rd_L3 hh i).length : Int) := Decidable.byContradiction fun c => by rw [if_pos p0, if_pos p1, if_pos p2, if_neg c] at h; cases h
  rw [if_pos p0, if_pos p1, if_pos p2, if_pos p3] at h
  obtain rfl := Option.some.inj h
  have HX := am_ hx_
  have HBS := am_ hbase
  obtain rfl : no = hh.length := (Kd.S_reads' ho).1
  obtain ⟨g6, cap6, e6_, _⟩ := Kd.S_form ho (by omega)
  injection e6_ with e6a e6b e6c
  subst e6a e6c
  clear e6b
  have HO := am_ ho
  clear hx_ hbase h ho
  go_enter Try.func44, Try.ntmps44
  go_wp2_with fail
  have HOW := am_ (Kd.S_drew HO.out)
  have HBW := am_ (below_drew1 (Below.refl w.heap.size w))
  obtain ⟨Aw, cw, hx, hall⟩ := S_cell2k HOW.out i p0 p1
  obtain ⟨aw, eaw, hy, _, _, _, _⟩ := hall j p2 p3
  subst eaw
  rw [show hh.getD i.toNat [] = rd_L3 hh i from rfl] at hx hy
  rw [Addr.add_lit, Nat.zero_add] at hx
  clear hall
  have q0 := eq_true p0
  have q1 := eq_true p1
  have q2 := eq_true p2
  have q3 := eq_true p3
  refine start_ (n := 15) (S := fun w' => w'.cell? ⟨g6, i.toNat, none⟩ = some (.slice (some aw) (rd_L3 hh i).length cw) ∧ w'.cell? (aw.add j.toNat) = some (.int .i64 (rd (rd_L3 hh i) j))) (ds := [14]) #[F_, F_, F_, F_, F_, F_, F_, F_, F_, F_, F_, F_, F_, F_, F_] (by kernel_rfl) rfl rfl ⟨hx, hy⟩ (fun hHeld => ?_)
  generalize hW_ : World.drew _ = W at HOW HBW hx hy hHeld ⊢
  clear hW_
  refine pure_ (i := 0) (N := some 7) #[T_, F_, F_, F_, F_, F_, F_, F_, F_, F_, F_, F_, F_, F_, F_] rfl rfl ak_ hq_ yi_ nm_ ?_
  refine pure_ (i := 1) (N := some 8) #[T_, T_, F_, F_, F_, F_, F_, F_, F_, F_, F_, F_, F_, F_, F_] rfl rfl ak_ hq_ yi_ nm_ ?_
  refine pure_ (i := 2) (N := some 9) #[T_, T_, T_, F_, F_, F_, F_, F_, F_, F_, F_, F_, F_, F_, F_] rfl rfl ak_ hq_ yi_ nm_ ?_
  refine pure_ (i := 4) (N := some 11) #[T_, T_, T_, F_, T_, F_, F_, F_, F_, F_, F_, F_, F_, F_, F_] rfl rfl ak_ hq_ yi_ nm_ ?_
  refine pure_ (i := 7) (N := some 14) #[T_, T_, T_, F_, T_, F_, F_, T_, F_, F_, F_, F_, F_, F_, F_] rfl rfl ak_ hq_ yi_ nm_ ?_
  refine pure_ (i := 8) (N := some 15) #[T_, T_, T_, F_, T_, F_, F_, T_, T_, F_, F_, F_, F_, F_, F_] rfl rfl ak_ hq_ yi_ nm_ ?_
  refine pure_ (i := 9) (N := some 16) #[T_, T_, T_, F_, T_, F_, F_, T_, T_, T_, F_, F_, F_, F_, F_] rfl rfl ak_ hq_ yi_ nm_ ?_
  refine take_ (i := 3) (N := some 10) #[T_, T_, T_, T_, T_, F_, F_, T_, T_, T_, F_, F_, F_, F_, F_] rfl rfl ak_ hq_ yj2_ hHeld nm_ ?_
  refine pure_ (i := 5) (N := some 12) #[T_, T_, T_, T_, T_, T_, F_, T_, T_, T_, F_, F_, F_, F_, F_] rfl rfl ak_ hq_ yi_ nm_ ?_
  refine take_ (i := 6) (N := some 13) #[T_, T_, T_, T_, T_, T_, T_, T_, T_, T_, F_, F_, F_, F_, F_] rfl rfl ak_ hq_ yj2_ hHeld nm_ ?_
  refine one_ (i := 10) (N := some 17) #[T_, T_, T_, T_, T_, T_, T_, T_, T_, T_, T_, F_, F_, F_, F_] rfl rfl (by kernel_rfl) (by decide) (fun K hK => ?_)
  refine goes_ Try.func33 (by kernel_rfl) rfl #[.slice (some ⟨g6, 0, none⟩) hh.length c0, .int .i64 i, .int .i64 j] (by rfl) rfl rfl tc32_ ?_
  refine (spec_heWay.calls k _ _ hh i j x W (Kd.S_reads' HOW.out).2.2 (Kd.S_reads' HOW.out).2.1 HX.out).mono ?_
  rintro e w7 ⟨rfl, hd_⟩
  refine ⟨_, rfl, ?_⟩
  have HB_w7 := am_ hd_
  clear hd_
  refine hK.out _ _ ⟨cell_of_below HB_w7.out hx, cell_of_below HB_w7.out hy⟩ (fun hHeld => ?_)
  clear hK K
  refine norm_ (a' := ?_) ?_ ?_
  rotate_left
  · show Act.put _ (some 17) _ = _
    simp only [Act.put, List.setIfInBounds_toArray, List.set_cons_zero, List.set_cons_succ, i64_w, i32_w]
    rfl
  refine pure_ (i := 11) (N := some 18) #[T_, T_, T_, T_, T_, T_, T_, T_, T_, T_, T_, T_, F_, F_, F_] rfl rfl ak_ hq_ yi_ nm_ ?_
  refine pure_ (i := 12) (N := some 19) #[T_, T_, T_, T_, T_, T_, T_, T_, T_, T_, T_, T_, T_, F_, F_] rfl rfl ak_ hq_ yi_ nm_ ?_
  refine pure_ (i := 13) (N := some 20) #[T_, T_, T_, T_, T_, T_, T_, T_, T_, T_, T_, T_, T_, T_, F_] rfl rfl ak_ hq_ yi_ nm_ ?_
  refine last_ (i := 14) (N := none) #[T_, T_, T_, T_, T_, T_, T_, T_, T_, T_, T_, T_, T_, T_, T_] rfl rfl (by kernel_rfl) (by decide) (fun K hK => ?_)
  have hx8 := (cell_of_below HB_w7.out hx)
  have HO8 := am_ (Kd.S_below HOW.out HB_w7.out)
  obtain ⟨Aw8, cw8, hx9, hall8⟩ := S_cell2k HO8.out i p0 p1
  rw [Addr.add_lit, Nat.zero_add] at hx9
  obtain ⟨ea8, _⟩ := Value.slice.inj (Option.some.inj (hx9.symm.trans hx8))
  subst ea8
  obtain ⟨aw9, eaw9, hy9, hfz9, hgw9, hok9, hback9⟩ := hall8 j p2 p3
  obtain rfl := Option.some.inj eaw9
  clear eaw9 hall8
  have HBK := am_ (hback9 (wrap64 (rd (rd_L3 hh i) j + wrap64 (2 * x))))
  have HGW := am_ hgw9
  clear hback9 hok9 hgw9 hx9
  refine skip_ (w1 := ?_) (by rfl) rfl ?_ ?_
  rotate_left
  · go_simp
    rfl
  refine hK.out _ _ ?_
  clear hK K
  refine done_ (by kernel_rfl) ?_
  go_wp2
  go_ret
  exact ⟨rfl, HBK.out, (Below.mono (below_step HBW.out HB_w7.out) HBS.out).setCell HGW.out _⟩

/-! ### spec_gyColour: function 60 (by hand) -/
def spec_gyColour.l1 : Nat → Int → Int → Tb_ → Int → Int → Option Tb_
  | 0, _, _, _, _, _ => none
  | k + 1, c, n, h, i, j => if j < wrap64 (n - 1) then (if Int.tmod (wrap64 (i + j)) 2 = c then ((spec_gyToggle.f k h i j).bind fun h' => spec_gyColour.l1 k c n h' i (wrap64 (j + 1))) else spec_gyColour.l1 k c n h i (wrap64 (j + 1))) else some h
def spec_gyColour.l0 : Nat → Int → Int → Tb_ → Int → Option Tb_
  | 0, _, _, _, _ => none
  | k + 1, c, n, h, i => if i < wrap64 (n - 1) then ((spec_gyColour.l1 k c n h i 1).bind fun h' => spec_gyColour.l0 k c n h' (wrap64 (i + 1))) else some h
def spec_gyColour.f (k : Nat) (h : Tb_) (c : Int) : Option Tb_ := spec_gyColour.l0 k c (h.length : Int) h 1
theorem spec_gyColour.mono1 : ∀ k c n h i j, LeO (spec_gyColour.l1 k c n h i j) (spec_gyColour.l1 (k + 1) c n h i j)
  | 0, _, _, _, _, _ => LeO.none _
  | k + 1, c, n, h, i, j => by
    unfold spec_gyColour.l1
    exact LeO.ite (LeO.ite (LeO.bind (spec_gyToggle.mono _ _ _ _) (fun _ => spec_gyColour.mono1 k _ _ _ _ _)) (spec_gyColour.mono1 k _ _ _ _ _)) (LeO.refl _)
theorem spec_gyColour.mono0 : ∀ k c n h i, LeO (spec_gyColour.l0 k c n h i) (spec_gyColour.l0 (k + 1) c n h i)
  | 0, _, _, _, _ => LeO.none _
  | k + 1, c, n, h, i => by
    unfold spec_gyColour.l0
    exact LeO.ite (LeO.bind (spec_gyColour.mono1 _ _ _ _ _ _) (fun _ => spec_gyColour.mono0 k _ _ _ _)) (LeO.refl _)
theorem spec_gyColour.calls (k : Nat) (A0 : Option Addr) (c0 n : Nat) (hh r : Tb_) (a1 : Int) (base : Nat) (okS : Nat → Prop) (w : World) (hbase : base ≤ w.heap.size) (hn : hh.length = n)
    (ho : Kd.S (Kd.slice 3 (Kd.int .i64)) 32 w base okS (.slice A0 n c0) hh) (h : spec_gyColour.f k hh a1 = some r) :
    Calls Try.prog 60 #[.slice A0 n c0, .int .i64 a1] w fun e w' => e = .returned (.slice A0 n c0) ∧ Kd.S (Kd.slice 3 (Kd.int .i64)) 32 w' base okS (.slice A0 n c0) r ∧ Below base w w' := by
  unfold spec_gyColour.f at h
  rw [hn] at h
  have HO := am_ ho
  have HL := am_ h
  have HBS := am_ hbase
  clear h ho hn hbase
  go_enter Try.func60, Try.ntmps60
  go_wp2
  go_loopg [0, 5] k (fun kq v0 v5 w' => ∃ (q : Tb_) (i : Int), v0 = .slice A0 n c0 ∧ v5 = .int .i64 i ∧ Aside0 (spec_gyColour.l0 kq a1 (n : Int) q i = some r) ∧ Aside0 (kq ≤ k) ∧ Aside0 (Kd.S (Kd.slice 3 (Kd.int .i64)) 32 w' base okS (.slice A0 n c0) q) ∧ Aside0 (Below base w w') ∧ Aside0 (base ≤ w'.heap.size))
  case atStart => exact ⟨hh, 1, rfl, rfl, HL, ⟨Nat.le_refl _⟩, HO, ⟨Below.refl _ _⟩, HBS⟩
  case round =>
    clear HL HO HBS
    obtain ⟨q, i, rfl, rfl, HE, HK1, HO, HB, HS⟩ := hrel
    cases gk with
    | zero => exact absurd HE.out (by simp [spec_gyColour.l0])
    | succ k1 =>
      have H := HE.out
      clear HE
      simp only [spec_gyColour.l0] at H
      by_cases c1 : i < wrap64 ((n : Int) - 1)
      · rw [if_pos c1] at H
        have c1b := decide_eq_true c1
        obtain ⟨q2, hq2, H⟩ := Option.bind_eq_some_iff.mp H
        have HI := am_ hq2
        have H' := am_ H
        clear H hq2 c1
        go_wp2
        go_loopg [0, 6] k1 (fun kq v0 v6 w' => ∃ (p : Tb_) (j : Int), v0 = .slice A0 n c0 ∧ v6 = .int .i64 j ∧ Aside0 (spec_gyColour.l1 kq a1 (n : Int) p i j = some q2) ∧ Aside0 (kq ≤ k1) ∧ Aside0 (Kd.S (Kd.slice 3 (Kd.int .i64)) 32 w' base okS (.slice A0 n c0) p) ∧ Aside0 (Below base w w') ∧ Aside0 (base ≤ w'.heap.size))
        case atStart => exact ⟨q, 1, rfl, rfl, HI, ⟨Nat.le_refl _⟩, HO, HB, HS⟩
        case round =>
          clear HI HO HB HS
          obtain ⟨p, j, rfl, rfl, HE, HK2, HO, HB, HS⟩ := hrel
          cases gk with
          | zero => exact absurd HE.out (by simp [spec_gyColour.l1])
          | succ k2 =>
            have H := HE.out
            clear HE
            simp only [spec_gyColour.l1] at H
            by_cases c2 : j < wrap64 ((n : Int) - 1)
            · rw [if_pos c2] at H
              have c2b := decide_eq_true c2
              clear c2
              by_cases c3 : Int.tmod (wrap64 (i + j)) 2 = a1
              · rw [if_pos c3] at H
                have c3b : (Int.tmod (wrap64 (i + j)) 2 == a1) = true := beq_iff_eq.mpr c3
                obtain ⟨p2, hp2, H⟩ := Option.bind_eq_some_iff.mp H
                have HT := am_ hp2
                have H2 := am_ H
                clear H hp2 c3
                go_wp2_with (first | (go_at_call 44; (refine (spec_gyToggle.calls k2 A0 n c0 p p2 i j base okS _ HS.out HO.out HT.out).mono ?_); rintro e w5 ⟨rfl, ho, hb⟩; have HO5 := am_ ho; have HB5 := am_ (HB.out.trans hb); have HS5 := am_ (Nat.le_trans HS.out hb.size); clear ho hb))
                go_roundg k2
                case measure => have := HK2.out; omega
                case rel => exact ⟨p2, wrap64 (j + 1), rfl, rfl, H2, ⟨by have := HK2.out; omega⟩, HO5, HB5, HS5⟩
              · rw [if_neg c3] at H
                have c3b : (Int.tmod (wrap64 (i + j)) 2 == a1) = false := beq_eq_false_iff_ne.mpr c3
                have H2 := am_ H
                clear H c3
                go_wp2
                go_roundg k2
                case measure => have := HK2.out; omega
                case rel => exact ⟨p, wrap64 (j + 1), rfl, rfl, H2, ⟨by have := HK2.out; omega⟩, HO, HB, HS⟩
            · rw [if_neg c2] at H
              have c2b := decide_eq_false c2
              clear c2
              obtain rfl := Option.some.inj H
              clear H
              go_wp2
              go_roundg k1
              case measure => have := HK1.out; omega
              case rel => exact ⟨p, wrap64 (i + 1), rfl, rfl, H', ⟨by have := HK1.out; omega⟩, HO, HB, HS⟩
      · rw [if_neg c1] at H
        have c1b := decide_eq_false c1
        clear c1
        obtain rfl := Option.some.inj H
        clear H
        go_wp2
        go_ret
        exact ⟨rfl, HO.out, HB.out⟩

/-! ### spec_gyFlip: function 26 (by hand) -/
def spec_gyFlip.f (k : Nat) (l0 : Tb_) (a1 : Int) : Option Tb_ := (spec_heOf.f k l0).bind fun h => (spec_gyColour.f k h a1).bind fun g => spec_heFrom.f k g
theorem spec_gyFlip.calls (k : Nat) (A0 : Option Addr) (c0 : Nat) (l0 : Tb_) (a1 : Int) (r : Tb_) (w : World) (hr0 : Kd.C (Kd.slice 3 (Kd.int .i64)) w A0 l0.length l0) (hc0 : l0.length ≤ c0) (h : spec_gyFlip.f k l0 a1 = some r) :
    Calls Try.prog 26 #[.slice A0 l0.length c0, .int .i64 a1] w fun e w' => ∃ v0_ : Value, e = .returned v0_ ∧ Kd.S (Kd.slice 3 (Kd.int .i64)) 32 w' w.heap.size (fun _ => True) v0_ r ∧ Below w.heap.size w w' := by
  obtain ⟨q, hq, h⟩ := Option.bind_eq_some_iff.mp h
  obtain ⟨g, hg, h⟩ := Option.bind_eq_some_iff.mp h
  have HR0 := am_ hr0
  have HC0 := am_ hc0
  have HQ := am_ hq
  have HG := am_ hg
  have HF := am_ h
  obtain ⟨n, hn⟩ : ∃ n, q.length = n := ⟨_, rfl⟩
  have HN := am_ hn
  clear hr0 hc0 hq hg h hn
  go_enter Try.func26, Try.ntmps26
  go_wp2_with (first | (go_at_call 32; (refine (spec_heOf.calls k A0 c0 l0 q _ HR0.out HC0.out HQ.out).mono ?_); rintro e w1 ⟨v1, rfl, ho1, hb1⟩; obtain ⟨A1, c1, e1⟩ := Kd.S_slice ho1; subst e1; rw [HN.out] at ho1 ⊢; have HO1 := am_ ho1; have HB1 := am_ hb1; clear ho1 hb1) | (go_at_call 60; (refine (spec_gyColour.calls k A1 c1 n q g a1 w.heap.size (fun _ => True) w1 HB1.out.size HN.out HO1.out HG.out).mono ?_); rintro e w2 ⟨rfl, ho2, hb2⟩; have HO2 := am_ ho2; have HB2 := am_ (HB1.out.trans hb2); have HL2 := am_ (Kd.S_reads' ho2).1; clear ho2 hb2) | (go_at_call 45; rw [HL2.out]; (refine (spec_heFrom.calls k A1 c1 g r w2 (Kd.S_reads' HO2.out).2.2 (by have := (Kd.S_reads' HO2.out).2.1; have := HL2.out; omega) HF.out).mono ?_); rintro e w3 ⟨v3, rfl, ho3, hb3⟩; have HO3 := am_ (Kd.S_lower ho3 HB2.out.size); have HB3 := am_ (below_step HB2.out hb3); rw [← HL2.out]; clear ho3 hb3))
  go_ret
  exact ⟨_, rfl, HO3.out, HB3.out⟩

/-! ### spec_FlipColour: function 7 -/
def spec_FlipColour.f (k : Nat) (l0 : Tb_) (a1 : Int) : Option (Tb_ × Bool) := (spec_sgGood.f k l0).bind fun t101 => (if t101 = true then ((spec_l1In.f a1 0 1).bind fun t102 => (if t102 = true then ((spec_gyFlip.f k l0 a1).bind fun t103 => (some (t103, true))) else (some (([] : Tb_), false)))) else (some (([] : Tb_), false)))
theorem spec_FlipColour.calls (k : Nat) (A0 : Option Addr) (c0 : Nat) (l0 : Tb_) (a1 : Int) (r1 : Tb_) (r2 : Bool) (w : World) (hr0 : Kd.C (Kd.slice 3 (Kd.int .i64)) w A0 l0.length l0) (hc0 : l0.length ≤ c0) (h : spec_FlipColour.f k l0 a1 = some (r1, r2)) :
  Calls Try.prog 7 #[.slice A0 l0.length c0, .int .i64 a1] w fun e w' => ∃ v0_ : Value, e = .returned (.tuple #[v0_, .bool r2]) ∧ Kd.S (Kd.slice 3 (Kd.int .i64)) 32 w' w.heap.size (fun _ => True) v0_ r1 ∧ Below w.heap.size w w' := by
 have HR0 := am_ hr0; have HC0 := am_ hc0; clear hr0 hc0; have HB := am_ (Below.refl w.heap.size w); (try unfold spec_FlipColour.f at h); have H := h; clear h; replace H := bd_ H; obtain ⟨t101, A3, H⟩ := H; (try dsimp only at H)
 by_cases c4 : t101 = true
 ·subst c4; have H1 : ((spec_l1In.f a1 0 1).bind fun t102 => (if t102 = true then ((spec_gyFlip.f k l0 a1).bind fun t103 => (some (t103, true))) else (some (([] : Tb_), false)))) = some (r1, r2) := tc21_; clear H; have H := H1; clear H1; replace H := bd_ H; obtain ⟨t102, A5, H⟩ := H; (try dsimp only at H)
  by_cases c6 : t102 = true
  ·subst c6; have H1 : ((spec_gyFlip.f k l0 a1).bind fun t103 => (some (t103, true))) = some (r1, r2) := tc21_; clear H; have H := H1; clear H1; replace H := bd_ H; obtain ⟨t103, A7, H⟩ := H; (try dsimp only at H); simp only [Option.some.injEq, Prod.mk.injEq] at H; obtain ⟨rfl, rfl⟩ := H; go_enter Try.func7, Try.ntmps7
   go_wp2_with (first | (refine gc_ (some 7) Try.func24 #[.slice A0 l0.length c0] ?_; (with_reducible refine (spec_sgGood.calls k _ _ l0 true _ ?side1 ?side2 A3.out).mono ?_); (case side1 => exact tc11_); (case side2 => exact HC0.out); rintro e w8 ⟨rfl, hb⟩; refine ⟨_, rfl, ?_⟩; replace HB := am_ (below_step tc0_ hb); (try clear hb)) | (go_at_call 25; (with_reducible refine (spec_l1In.calls a1 0 1 true _ A5.out).mono ?_); rintro e w' ⟨rfl, ⟨nd, rfl⟩⟩) | (refine gc_ (some 16) Try.func26 #[.slice A0 l0.length c0, .int .i64 a1] ?_; (with_reducible refine (spec_gyFlip.calls k _ _ l0 a1 t103 _ ?side1 ?side2 A7.out).mono ?_); (case side1 => exact tc19_); (case side2 => exact HC0.out); rintro e w9 ⟨v104, rfl, ho0, hb⟩; refine ⟨_, rfl, ?_⟩; have HO105 := am_ (Kd.S_lower ho0 (below_size tc0_)); replace HB := am_ (below_step tc0_ hb); (try clear hb ho0)))
   go_ret2
   exact ⟨_, tc9_, tc87_, tc0_⟩
  ·replace c6 := Bool.eq_false_iff.mpr c6; subst c6; have H1 : (some (([] : Tb_), false)) = some (r1, r2) := tc14_; clear H; have H := H1; clear H1; simp only [Option.some.injEq, Prod.mk.injEq] at H; obtain ⟨rfl, rfl⟩ := H; go_enter Try.func7, Try.ntmps7
   go_wp2_with (first | (refine gc_ (some 7) Try.func24 #[.slice A0 l0.length c0] ?_; (with_reducible refine (spec_sgGood.calls k _ _ l0 true _ ?side1 ?side2 A3.out).mono ?_); (case side1 => exact tc11_); (case side2 => exact HC0.out); rintro e w10 ⟨rfl, hb⟩; refine ⟨_, rfl, ?_⟩; replace HB := am_ (below_step tc0_ hb); (try clear hb)) | (go_at_call 25; (with_reducible refine (spec_l1In.calls a1 0 1 false _ A5.out).mono ?_); rintro e w' ⟨rfl, ⟨nd, rfl⟩⟩))
   go_ret2
   exact ⟨_, tc9_, tc17_, tc0_⟩
 ·replace c4 := Bool.eq_false_iff.mpr c4; subst c4; have H1 : (some (([] : Tb_), false)) = some (r1, r2) := tc14_; clear H; have H := H1; clear H1; simp only [Option.some.injEq, Prod.mk.injEq] at H; obtain ⟨rfl, rfl⟩ := H; go_enter Try.func7, Try.ntmps7
  go_wp2_with (first | (refine gc_ (some 7) Try.func24 #[.slice A0 l0.length c0] ?_; (with_reducible refine (spec_sgGood.calls k _ _ l0 false _ ?side1 ?side2 A3.out).mono ?_); (case side1 => exact tc11_); (case side2 => exact HC0.out); rintro e w11 ⟨rfl, hb⟩; refine ⟨_, rfl, ?_⟩; replace HB := am_ (below_step tc0_ hb); (try clear hb)))
  go_ret2
  exact ⟨_, tc9_, tc17_, tc0_⟩

/-! ### slices_DeleteFunc_int_int: function 28 (by hand) -/
def slices_DeleteFunc_int_int.l0 : Nat → (List Int → Option Bool) → Tb_ → Tb_ → Int → Option Tb_
  | 0, _, _, _, _ => none
  | k + 1, p, xs, acc, j => if j < (xs.length : Int) then ((p (xs.getD j.toNat [])).bind fun t => if t = true then slices_DeleteFunc_int_int.l0 k p xs acc (j + 1) else slices_DeleteFunc_int_int.l0 k p xs (acc ++ [xs.getD j.toNat []]) (j + 1)) else some acc
def slices_DeleteFunc_int_int.f (k : Nat) (l0 : Tb_) (a1 : List Int → Option Bool) : Option Tb_ := (slices_IndexFunc_int_int.f k l0 a1).bind fun i => if i = -1 then some l0 else if 0 ≤ i then (if i < (l0.length : Int) then slices_DeleteFunc_int_int.l0 k a1 l0 (l0.take i.toNat) (i + 1) else none) else none
theorem slices_DeleteFunc_int_int.mono0 {a1 a1' : List Int → Option Bool} (ha1 : ∀ z0, LeO (a1 z0) (a1' z0)) : ∀ k xs acc j, LeO (slices_DeleteFunc_int_int.l0 k a1 xs acc j) (slices_DeleteFunc_int_int.l0 (k + 1) a1' xs acc j)
  | 0, _, _, _ => LeO.none _
  | k + 1, xs, acc, j => by
    unfold slices_DeleteFunc_int_int.l0
    exact LeO.ite (LeO.bind (ha1 _) (fun _ => LeO.ite (slices_DeleteFunc_int_int.mono0 ha1 k _ _ _) (slices_DeleteFunc_int_int.mono0 ha1 k _ _ _))) (LeO.refl _)
theorem slices_DeleteFunc_int_int.up {j n : Nat} (h : j < n) (hz : (n : Int) ≤ 9223372036854775807) : wrap64 ((j : Int) + 1) = (j : Int) + 1 := Go.IntWalk.wrap64_in _ ⟨by omega, by omega⟩
section
variable {e e' g n cap base : Nat} {ok okp : Nat → Prop} {w W : World} {xs : Tb_} {x' : List Int} {v : Value}
/-- A row's header put into a row of rows of one's own. -/
theorem slices_DeleteFunc_int_int.put (h : Kd.N (Kd.slice e' (Kd.int .i64)) e W base ok (.slice (some ⟨g, 0, none⟩) n cap) xs) (i : Nat) (h1 : i < n) (hM : Kd.FK (Kd.slice e' (Kd.int .i64)) W okp x' [v]) (hokp : ∀ k, okp k → ok k ∧ k ≠ g) :
    Kd.N (Kd.slice e' (Kd.int .i64)) e (W.setCell ⟨g, i, none⟩ v) base ok (.slice (some ⟨g, 0, none⟩) n cap) (xs.set i x') := by
  obtain ⟨c, hcl, _, hcc, _⟩ := Kd.N_elem h ([] : List Int) (i : Int) (by omega) (by omega)
  have hs : (Kd.slice e' (Kd.int .i64)).sz = 1 := rfl
  rw [hs] at hcl hcc
  obtain ⟨c0, rfl⟩ := List.length_eq_one_iff.mp hcl
  have := (Kd.N_seg h (i : Int) (by omega) (by omega) (c := [c0]) (seg := [v]) (j := 0) (by rw [hs]; rfl) (by rw [hs]; exact hcc) (by rw [hs]; simp) (x' := x') (okp := okp) (by simpa using hM) hokp).1
  rw [hs, Int.toNat_natCast, Nat.mul_one, Nat.add_zero] at this
  exact this
theorem slices_DeleteFunc_int_int.nilFK : Kd.FK (Kd.slice e' (Kd.int .i64)) W okp ([] : List Int) [.slice none 0 0] := Kd.FK_slice_mk (Nat.le_refl _) (Kd.F_nil _ _ _)
theorem slices_DeleteFunc_int_int.clear : ∀ (m i : Nat) (W : World) (xs : Tb_), Kd.N (Kd.slice e' (Kd.int .i64)) e W base ok (.slice (some ⟨g, 0, none⟩) n cap) xs → xs.length = n → i + m = n → Below base w W → base ≤ g →
    ∃ ys : Tb_, ys.take i = xs.take i ∧ ys.length = n ∧ Kd.N (Kd.slice e' (Kd.int .i64)) e (W.setCells g i (List.replicate m (.slice none 0 0))) base ok (.slice (some ⟨g, 0, none⟩) n cap) ys ∧ Below base w (W.setCells g i (List.replicate m (.slice none 0 0)))
  | 0, i, W, xs, h, hl, hi, hb, hg => ⟨xs, rfl, hl, h, hb⟩
  | m + 1, i, W, xs, h, hl, hi, hb, hg => by
    obtain ⟨ys, e1, e2, e3, e4⟩ := slices_DeleteFunc_int_int.clear m (i + 1) (W.setCell ⟨g, i, none⟩ (.slice none 0 0)) (xs.set i []) (slices_DeleteFunc_int_int.put h i (by omega) (slices_DeleteFunc_int_int.nilFK (okp := fun _ => False)) (fun _ h => h.elim)) (by rw [List.length_set]; exact hl) (by omega) (hb.setCell hg _) hg
    refine ⟨ys, ?_, e2, e3, e4⟩
    have := congrArg (List.take i) e1
    rw [List.take_take, List.take_take, Nat.min_eq_left (by omega)] at this
    rw [this, List.take_set_of_le (Nat.le_refl _)]
end
theorem slices_DeleteFunc_int_int.calls (k : Nat) (A0 : Option Addr) (c0 : Nat) (l0 : Tb_) (g1 : Nat) (b1 : Array Value) (a1 : List Int → Option Bool) (r : Tb_) (ok : Nat → Prop) (w0 w : World) (hB : Below w0.heap.size w0 w)
    (ho : Kd.N (Kd.slice 3 (Kd.int .i64)) 32 w w0.heap.size ok (.slice A0 l0.length c0) l0) (hf1 : Fn1 (Kd.slice 3 (Kd.int .i64)) Value.bool Try.prog g1 b1 a1 w0) (h : slices_DeleteFunc_int_int.f k l0 a1 = some r) :
    Calls Try.prog 28 #[.slice A0 l0.length c0, .func (.func g1) #[] b1] w fun e w' => ∃ v0_, e = .returned v0_ ∧ Kd.N (Kd.slice 3 (Kd.int .i64)) 32 w' w0.heap.size ok v0_ r ∧ Below w0.heap.size w0 w' := by
  obtain ⟨ix, hi, h⟩ := Option.bind_eq_some_iff.mp h
  have HI := am_ hi
  have HO := am_ ho
  have HF := am_ hf1
  have HB := am_ hB
  have HFW := am_ (hf1.later hB)
  have HLN := am_ (Kd.N_reads' ho).2.2.2.1
  have HLC := am_ (Kd.N_reads' ho).2.1
  have eg := hf1.eg
  clear hi ho hf1 hB
  obtain ⟨n, hn⟩ : ∃ n, l0.length = n := ⟨_, rfl⟩
  have HN := am_ hn
  by_cases ci : ix = -1
  · rw [if_pos ci] at h
    subst ci
    obtain rfl := Option.some.inj h
    clear h
    rw [hn]
    clear hn
    go_enter Try.func28, Try.ntmps28
    go_wp2_with (first | (go_at_call 64; rw [← HN.out]; go_must (refine (slices_IndexFunc_int_int.calls k A0 c0 l0 g1 b1 a1 (-1) w (Kd.N_reads' HO.out).2.2 (Kd.N_reads' HO.out).2.1 HFW.out HI.out).mono ?_); rintro e w1 ⟨rfl, hb⟩; have HB1 := am_ hb; clear hb; rw [HN.out]))
    go_ret
    exact ⟨_, rfl, by rw [← HN.out]; exact Kd.N_below HO.out HB1.out, below_step HB.out HB1.out⟩
  · rw [if_neg ci] at h
    by_cases c1 : 0 ≤ ix
    case neg => rw [if_neg c1] at h; cases h
    rw [if_pos c1] at h
    by_cases c2 : ix < (l0.length : Int)
    case neg => rw [if_neg c2] at h; cases h
    rw [if_pos c2] at h
    have HL := am_ h
    have cib : (ix == -1) = false := beq_eq_false_iff_ne.mpr ci
    clear h ci
    obtain ⟨i0, rfl⟩ : ∃ i0 : Nat, ix = (i0 : Int) := ⟨ix.toNat, by omega⟩
    have hi0 : i0 < l0.length := by omega
    rw [Int.toNat_natCast] at HL
    obtain ⟨g, cap, e6, hgb, _⟩ := Kd.N_form HO.out (by omega)
    injection e6 with e6a _ e6c
    subst e6a e6c
    have HG := am_ hgb
    have HI0 := am_ hi0
    clear c1 c2 hgb hi0
    rw [hn]
    rw [hn] at HO HLN HLC
    clear hn
    have hz : (n : Int) ≤ 9223372036854775807 := by have := HLN.out; omega
    have hz2 : Aside0 (wrap64 ((i0 : Int) + 1) = (i0 : Int) + 1) := am_ (Go.IntWalk.wrap64_in _ ⟨by omega, by have := HI0.out; rw [HN.out] at this; omega⟩)
    go_enter Try.func28, Try.ntmps28
    go_wp2_with (first | (go_at_call 64; rw [← HN.out]; go_must (refine (slices_IndexFunc_int_int.calls k _ c0 l0 g1 b1 a1 (i0 : Int) w (Kd.N_reads' HO.out).2.2 (by rw [HN.out]; exact (Kd.N_reads' HO.out).2.1) HFW.out HI.out).mono ?_); rintro e w1 ⟨rfl, hb⟩; have HB1 := am_ (below_step HB.out hb); have HO1 := am_ (Kd.N_below HO.out hb); clear hb; rw [HN.out]))
    go_loopg [5, 6] k (fun kq v5 v6 w' => ∃ (acc ys : Tb_) (j : Nat), v5 = .int .i64 (acc.length : Int) ∧ v6 = .int .i64 (j : Int) ∧ Aside0 (slices_DeleteFunc_int_int.l0 kq a1 l0 acc (j : Int) = some r) ∧ Aside0 (kq ≤ k) ∧ Aside0 (acc.length < j ∧ j ≤ n ∧ ys.take acc.length = acc ∧ ys.drop j = l0.drop j ∧ ys.length = n) ∧ Aside0 (Kd.N (Kd.slice 3 (Kd.int .i64)) 32 w' w0.heap.size ok (.slice (some ⟨g, 0, none⟩) n c0) ys) ∧ Aside0 (Below w0.heap.size w0 w'))
    case atStart => exact ⟨l0.take i0, l0, i0 + 1, by rw [List.length_take, Nat.min_eq_left (by have := HI0.out; omega)], by rw [hz2.out]; rfl, HL, ⟨Nat.le_refl _⟩, ⟨by rw [List.length_take]; omega, by have := HI0.out; have := HN.out; omega, by rw [List.length_take, Nat.min_eq_left (by have := HI0.out; omega)], rfl, HN.out⟩, HO1, HB1⟩
    case round =>
      clear HL HO1 HB1 HO HB HFW HI HI0
      obtain ⟨acc, ys, j, rfl, rfl, HE, HK1, HY, HO, HB⟩ := hrel
      cases gk with
      | zero => exact absurd HE.out (by simp [slices_DeleteFunc_int_int.l0])
      | succ k1 =>
        have H := HE.out
        clear HE
        simp only [slices_DeleteFunc_int_int.l0, Int.toNat_natCast] at H
        obtain ⟨y1, y2, y3, y4, y5⟩ := HY.out
        by_cases c5 : (j : Int) < (l0.length : Int)
        · rw [if_pos c5] at H
          have hj : j < n := by have := HN.out; omega
          have c5b : decide ((j : Int) < (n : Int)) = true := decide_eq_true (by omega)
          obtain ⟨t, ht, H⟩ := Option.bind_eq_some_iff.mp H
          have ey : ys.getD j [] = l0.getD j [] := by
            have := congrArg (fun z : Tb_ => z.getD 0 []) y4
            simpa [List.getD_eq_getElem?_getD, List.getElem?_drop] using this
          obtain ⟨c, hcl, hFK, hcc, hfr⟩ := Kd.N_elem HO.out ([] : List Int) (j : Int) (by omega) (by omega)
          rw [Int.toNat_natCast, ey] at hFK
          obtain ⟨AL, cL, rfl, hlL, hF⟩ := Kd.FK_slice_open hFK
          have hxj := hcc 0 _ rfl
          rw [show (Kd.slice 3 (Kd.int .i64)).sz = 1 from rfl, Int.toNat_natCast, Nat.mul_one, Nat.add_zero] at hxj
          obtain ⟨d, hdl, _, hdc, hdf⟩ := Kd.N_elem HO.out ([] : List Int) (acc.length : Int) (by omega) (by omega)
          obtain ⟨d0, rfl⟩ := List.length_eq_one_iff.mp (show d.length = 1 from hdl)
          have hxi := hdc 0 _ rfl
          have hfi := hdf 0
          rw [show (Kd.slice 3 (Kd.int .i64)).sz = 1 from rfl, Int.toNat_natCast, Nat.mul_one, Nat.add_zero] at hxi hfi
          have HX := am_ ht
          have HFK := am_ hFK
          have HCX := am_ (Kd.F_now hF)
          have HLX := am_ hlL
          have hw1 : wrap64 ((j : Int) + 1) = (j : Int) + 1 := slices_DeleteFunc_int_int.up hj hz
          have hw2 : wrap64 ((acc.length : Int) + 1) = (acc.length : Int) + 1 := slices_DeleteFunc_int_int.up (Nat.lt_trans y1 hj) hz
          generalize l0.getD j [] = x at *
          have H' := am_ H
          clear H ht hFK hF hcc hfr hcl hdc hdf hdl c5 ey hlL
          have zj : ((j : Int) < (n : Int)) = True := eq_true (by omega)
          have zi : ((acc.length : Int) < (n : Int)) = True := eq_true (by omega)
          have zi0 : ((0 : Int) ≤ (acc.length : Int)) = True := eq_true (by omega)
          have zj0 : ((0 : Int) ≤ (j : Int)) = True := eq_true (by omega)
          have HYY := am_ (And.intro y1 (And.intro hj (And.intro y3 (And.intro y4 y5))))
          clear y1 y2 y3 y4 y5 hj HY
          go_wp2_with fail
          refine (HF.out.cl wr HB.out x _ (K_slice HLX.out HCX.out) t HX.out).mono ?_
          rintro e w6 ⟨rfl, hb⟩
          have HO6 := am_ (Kd.N_below HO.out hb)
          have HB6 := am_ (below_step HB.out hb)
          have HFK6 := am_ (Kd.FK_below HFK.out hb)
          replace hxi := cell_of_below hb hxi
          replace hfi := Kd.N_elem HO6.out ([] : List Int) (acc.length : Int) (by omega) (by have := HYY.out; omega)
          obtain ⟨_, _, _, _, hfi⟩ := hfi
          replace hfi := hfi 0
          rw [show (Kd.slice 3 (Kd.int .i64)).sz = 1 from rfl, Int.toNat_natCast, Nat.mul_one, Nat.add_zero] at hfi
          clear hb hxj
          cases t with
          | true =>
            have H2 := H'.out
            rw [if_pos rfl] at H2
            have H3 := am_ H2
            clear H2 H' hxi hfi
            go_wp2
            go_roundg k1
            case measure => have := HK1.out; omega
            case rel =>
              obtain ⟨y1, y2, y3, y4, y5⟩ := HYY.out
              refine ⟨acc, ys, j + 1, rfl, by rw [hw1]; rfl, H3, ⟨by have := HK1.out; omega⟩, ⟨by omega, by omega, y3, ?_, y5⟩, HO6, HB6⟩
              rw [← List.drop_drop, y4, List.drop_drop]
          | false =>
            have H2 := H'.out
            rw [if_neg (by simp)] at H2
            have H3 := am_ H2
            clear H2 H'
            go_wp2
            go_roundg k1
            case measure => have := HK1.out; omega
            case rel =>
              obtain ⟨y1, y2, y3, y4, y5⟩ := HYY.out
              refine ⟨acc ++ [x], ys.set acc.length x, j + 1, by rw [hw2, List.length_append]; rfl, by rw [hw1]; rfl, H3, ⟨by have := HK1.out; omega⟩, ⟨by rw [List.length_append]; simp; omega, by omega, ?_, ?_, by rw [List.length_set]; exact y5⟩, ⟨slices_DeleteFunc_int_int.put HO6.out acc.length (by omega) HFK6.out (fun k_ hk => hk)⟩, ⟨HB6.out.setCell HG.out _⟩⟩
              · rw [List.length_append, List.length_singleton, List.take_add_one, List.take_set_of_le (Nat.le_refl _), y3, List.getElem?_set_self (by omega)]; rfl
              · rw [List.drop_set_of_lt (by omega), ← List.drop_drop, y4, List.drop_drop]
        · rw [if_neg c5] at H
          obtain rfl := Option.some.inj H
          obtain rfl : j = n := by have := HN.out; omega
          have c5b : decide ((j : Int) < (j : Int)) = false := decide_eq_false (by omega)
          have hgb := HG.out
          have hcl : ∀ ty, (Builtin.clear_ #[24] ty #[.slice (some ⟨g, 0 + acc.length, none⟩) (j - acc.length) (c0 - acc.length)]).run Try.prog wr = .ok (.tuple #[]) (wr.setCells g (0 + acc.length) (List.replicate (j - acc.length) (.slice none 0 0))) :=
            fun ty => Lib.run_clear_slice wr _ _ ty _ Try.underlying24 (fun _ => by rfl) rfl rfl g (0 + acc.length) _ _ (by omega)
              (fun t_ ht_ => by
                obtain ⟨d, hdl, _, hdc, hdf⟩ := Kd.N_elem HO.out ([] : List Int) ((acc.length + t_ : Nat) : Int) (by omega) (by omega)
                obtain ⟨d0, rfl⟩ := List.length_eq_one_iff.mp (show d.length = 1 from hdl)
                have := hdc 0 _ rfl
                rw [show (Kd.slice 3 (Kd.int .i64)).sz = 1 from rfl, Int.toNat_natCast, Nat.mul_one, Nat.add_zero] at this
                rw [Nat.zero_add, this]; rfl)
              (fun t_ ht_ => by
                obtain ⟨d, hdl, _, hdc, hdf⟩ := Kd.N_elem HO.out ([] : List Int) ((acc.length + t_ : Nat) : Int) (by omega) (by omega)
                have := hdf 0
                rw [show (Kd.slice 3 (Kd.int .i64)).sz = 1 from rfl, Int.toNat_natCast, Nat.mul_one, Nat.add_zero] at this
                rw [Nat.zero_add]; exact this)
          obtain ⟨zs, e1, e2, e3, e4⟩ := slices_DeleteFunc_int_int.clear (j - acc.length) acc.length wr ys HO.out y5 (by omega) HB.out hgb
          have HZ := am_ (Kd.N_take e3 (m := acc.length) (by omega))
          rw [e1, y3] at HZ
          have HBZ := am_ e4
          have hlc := HLC.out
          have q1 : acc.length ≤ j := by omega
          have q2 : acc.length ≤ c0 := by omega
          have q3 : (acc.length : Int) ≤ (j : Int) := by omega
          have q4 : (acc.length : Int) ≤ (c0 : Int) := by omega
          have q5 : (0 : Int) ≤ (acc.length : Int) := by omega
          have q6 : (c0 = acc.length) = False := eq_false (by omega)
          clear e1 e2 e3 e4 HO HB y1 y2 y3 y4 y5 HY H c5
          rw [Nat.zero_add] at hcl
          go_wp2
          go_ret
          exact ⟨_, rfl, HZ.out, HBZ.out⟩

/-! ### impl_FlippedCells_1: function 30 -/
def impl_FlippedCells_1.f (k : Nat) (l0 : List Int) (l1_0 : Tb_) : Option (Bool) := if 0 < (l0.length : Int) then (if 1 < (l0.length : Int) then ((impl_way.f k l1_0 (rd l0 0) (rd l0 1)).bind fun t103 => (some (t103 == 0))) else (none)) else (none)
def impl_FlippedCells_1.T1 : Bool × List (List Nat × List Nat) := (true, [([], []), ([], []), ([1], [1]), ([2], [2]), ([], []), ([4], [4]), ([5], [5]), ([0, 3, 6], [0, 3, 6]), ([7], [7]), ([8, 7, 0, 1, 2, 3, 4, 5, 6, 7, 8], [8])])
def impl_FlippedCells_1.B1 : List Nat := [0, 0, 2, 6, 0, 16, 48, 127, 255, 511]
theorem impl_FlippedCells_1.tab1 : rtab .any (opsOf Try.f30 1) = impl_FlippedCells_1.T1 := by kernel_rfl
theorem impl_FlippedCells_1.bits1 : waitsOk impl_FlippedCells_1.T1.2 impl_FlippedCells_1.B1 = true := by kernel_rfl
theorem impl_FlippedCells_1.calls (k : Nat) (A0 : Option Addr) (c0 : Nat) (l0 : List Int) (B1 : Nat) (A1_0 : Option Addr) (c1_0 : Nat) (l1_0 : Tb_) (r : Bool) (w : World) (hr0 : Kd.C (Kd.int .i64) w A0 l0.length l0) (hc0 : l0.length ≤ c0) (hb1 : w.heap[B1]? = some (.cells #[.slice A1_0 l1_0.length c1_0] 24 (0, 0))) (hr1_0 : Kd.C (Kd.slice 3 (Kd.int .i64)) w A1_0 l1_0.length l1_0) (hc1_0 : l1_0.length ≤ c1_0) (h : impl_FlippedCells_1.f k l0 l1_0 = some r) :
  Calls Try.prog 30 #[.slice A0 l0.length c0, .pointer (some ⟨B1, 0, none⟩)] w fun e w' => e = .returned (.bool r) ∧ Below w.heap.size w w' := by
 have HR0 := am_ hr0; have HC0 := am_ hc0; clear hr0 hc0; have HR1_0 := am_ hr1_0; have HC1_0 := am_ hc1_0; clear hr1_0 hc1_0; have BK61 := am_ hb1; clear hb1; have HB := am_ (Below.refl w.heap.size w); (try unfold impl_FlippedCells_1.f at h); have H := h; clear h; replace H := pp_ H; obtain ⟨c3, H⟩ := H; have c3b0 : decide (0 < (l0.length : Int)) = true := decide_eq_true c3; have c3b1 : decide (0 < l0.length) = true := decide_eq_true (by omega); clear c3; replace H := pp_ H; obtain ⟨c4, H⟩ := H; have c4b0 : decide (1 < (l0.length : Int)) = true := decide_eq_true c4; have c4b1 : decide (1 < l0.length) = true := decide_eq_true (by omega); clear c4; replace H := bd_ H; obtain ⟨t103, A5, H⟩ := H; (try dsimp only at H); obtain rfl := Option.some.inj H; go_enter Try.func30, Try.ntmps30
 try go_wp2
 replace BK61 := am_ (blk_drew BK61.out); replace HB := am_ (below_drew1 HB.out); have p101 : 0 ≤ (0 : Int) := (by omega); have q101 : 0 < (l0.length : Int) := od_; obtain ⟨ad101, e101, hx101_0⟩ := Kd.at_int HR0.out 0 p101 q101; have hw101_0 := hx101_0; (try rw [show ((0 : Int)).toNat = 0 from rfl] at hw101_0); (try rw [show 0 * 1 = 0 from rfl] at hw101_0); (try rw [Addr.add_zero'] at hw101_0); cases e101; have qi101 : (0 < l0.length) = True := eq_true (by omega); (try rw [show ((0 : Int)).toNat = 0 from rfl] at hx101_0); (try rw [Addr.add_zero'] at hx101_0); replace hx101_0 := (HB.out.cell (World.block_lt_of_cell? w _ hx101_0)).trans hx101_0; replace p101 := eq_true p101; replace q101 := eq_true q101; have p102 : 0 ≤ (1 : Int) := (by omega); have q102 : 1 < (l0.length : Int) := od_; obtain ⟨ad102, e102, hx102_0⟩ := Kd.at_int HR0.out 1 p102 q102; have hw102_0 := hx102_0; (try rw [show ((1 : Int)).toNat = 1 from rfl] at hw102_0); (try rw [show 1 * 1 = 1 from rfl] at hw102_0); (try simp only [Nat.reduceMul, Nat.reduceEqDiff, Go.Addr.add, ↓reduceIte] at hw102_0); obtain rfl : ad101 = ad102 := (by injection e102); (try simp only [show (1 : Int).toNat = 1 from rfl, Nat.reduceMul, Nat.reduceEqDiff, Go.Addr.add, ↓reduceIte] at hx102_0); have qi102 : (1 < l0.length) = True := eq_true (by omega); (try rw [show ((1 : Int)).toNat = 1 from rfl] at hx102_0); replace hx102_0 := (HB.out.cell (World.block_lt_of_cell? w _ hx102_0)).trans hx102_0; replace p102 := eq_true p102; replace q102 := eq_true q102; refine start_ (n := 10) (S := fun w' => w'.cell? ⟨B1, 0, none⟩ = some (.slice A1_0 l1_0.length c1_0) ∧ w'.cell? ad101 = some (.int .i64 (rd l0 0)) ∧ w'.cell? ⟨ad101.block, ad101.off + 1, none⟩ = some (.int .i64 (rd l0 1))) (ds := []) #[F,F,F,F,F,F,F,F,F,F] (by kernel_rfl) rfl rfl ⟨(blk_cell BK61.out 0).trans rfl, ((HB.out.cell (World.block_lt_of_cell? w _ hw101_0)).trans hw101_0), ((HB.out.cell (World.block_lt_of_cell? w _ hw102_0)).trans hw102_0)⟩ (fun hHeld => ?_); refine with_tabW impl_FlippedCells_1.tab1 impl_FlippedCells_1.bits1 (fun HT_ HW_ => ?_); generalize w.drew = w6 at BK61 HB hx101_0 hx102_0 hHeld ⊢; refine pure_ (i := 1) (N := some 5) #[F,T,F,F,F,F,F,F,F,F] rfl rfl an_ hq_ yi_ nm_ ?_; refine pure_ (i := 2) (N := some 6) #[F,T,T,F,F,F,F,F,F,F] rfl rfl an_ hq_ yi_ nm_ ?_; refine pure_ (i := 4) (N := some 8) #[F,T,T,F,T,F,F,F,F,F] rfl rfl an_ hq_ yi_ nm_ ?_; refine pure_ (i := 5) (N := some 9) #[F,T,T,F,T,T,F,F,F,F] rfl rfl an_ hq_ yi_ nm_ ?_; refine take_ (i := 0) (N := some 4) #[T,T,T,F,T,T,F,F,F,F] rfl rfl av_ hq_ yj3_ hHeld nm_ ?_; refine take_ (i := 3) (N := some 7) #[T,T,T,T,T,T,F,F,F,F] rfl rfl av_ hq_ yj3_ hHeld nm_ ?_; refine take_ (i := 6) (N := some 10) #[T,T,T,T,T,T,T,F,F,F] rfl rfl av_ hq_ yj3_ hHeld nm_ ?_; refine one_ (i := 7) (N := some 11) #[T,T,T,T,T,T,T,T,F,F] rfl rfl (one_of HT_.out (by kernel_rfl)) (by decide) (fun K hK => ?_); refine goes_ Try.func31 (by kernel_rfl) rfl #[.slice A1_0 l1_0.length c1_0, .int .i64 (rd l0 0), .int .i64 (rd l0 1)] (by rfl) rfl rfl tc1_ ?_
 with_reducible refine (impl_way.calls k _ _ l1_0 (rd l0 0) (rd l0 1) t103 _ ?side1 ?side2 A5.out).mono ?_
 (case side1 => repeat (first | exact (Kd.C_below HR1_0.out HB.out) | (with_reducible refine Kd.C_alloc ?_ _) | (with_reducible refine Kd.C_drewN ?_ _) | (with_reducible refine Kd.C_drew ?_)))
 (case side2 => exact HC1_0.out)
 rintro e w7 ⟨rfl, hb⟩; refine ⟨_, rfl, ?_⟩; replace BK61 := am_ (blk_below (g := B1) (o := .cells #[.slice A1_0 l1_0.length c1_0] 24 (0, 0)) (by (with_reducible repeat (first | refine blk_drewN ?_ _ | refine blk_drew ?_ | refine blk_alloc ?_ _)); exact BK61.out) hb); replace HB := am_ (below_step tc103_ hb); (try clear hb); (try clear hb2); (try clear hk); (try clear hi); refine hK.out _ _ ⟨(blk_cell BK61.out 0).trans rfl, ((HB.out.cell (World.block_lt_of_cell? w _ hw101_0)).trans hw101_0), ((HB.out.cell (World.block_lt_of_cell? w _ hw102_0)).trans hw102_0)⟩ (fun hHeld => ?_); clear hK K; refine norm_ (a' := ?_) ?_ ?_; rotate_left
 ·show Act.put _ (some 11) _ = _
  simp only [Act.put, List.setIfInBounds_toArray, List.set_cons_zero, List.set_cons_succ, i64_w, i32_w]
  rfl
 refine pure_ (i := 8) (N := some 12) #[T,T,T,T,T,T,T,T,T,F] rfl rfl an_ hq_ yi_ nm_ ?_; refine pure_ (i := 9) (N := some 3) #[T,T,T,T,T,T,T,T,T,T] rfl rfl an_ hq_ yi_ nm_ ?_; refine done_ (done_of HT_.out (by kernel_rfl)) ?_
 try go_wp2
 go_ret
 exact ⟨tc9_, tc103_⟩

/-! ### impl_FlippedCells: function 8 (by hand) -/
def impl_FlippedCells.f (k : Nat) (l0 : Tb_) (a1 : Int) : Option (Tb_ × Bool) := (impl_IsSignMatrix.f k l0).bind fun t => if t = true then ((impl_isColour.f a1).bind fun t2 => if t2 = true then ((impl_heights.f k l0).bind fun h => (impl_coloured.f k (l0.length : Int) a1).bind fun cs => (slices_DeleteFunc_int_int.f k cs (fun x => impl_FlippedCells_1.f k x h)).bind fun r => some (r, true)) else some ([], false)) else some ([], false)
theorem impl_FlippedCells.calls (k : Nat) (A0 : Option Addr) (c0 : Nat) (l0 : Tb_) (a1 : Int) (r1 : Tb_) (r2 : Bool) (w : World) (hr0 : Kd.C (Kd.slice 3 (Kd.int .i64)) w A0 l0.length l0) (hc0 : l0.length ≤ c0) (h : impl_FlippedCells.f k l0 a1 = some (r1, r2)) :
    Calls Try.prog 8 #[.slice A0 l0.length c0, .int .i64 a1] w fun e w' => ∃ v0_ : Value, e = .returned (.tuple #[v0_, .bool r2]) ∧ Kd.N (Kd.slice 3 (Kd.int .i64)) 32 w' w.heap.size (fun k_ => w.heap.size ≤ k_) v0_ r1 ∧ Below w.heap.size w w' := by
  obtain ⟨t, ht, h⟩ := Option.bind_eq_some_iff.mp h
  have HT := am_ ht
  have HR0 := am_ hr0
  have HC0 := am_ hc0
  clear ht hr0 hc0
  cases t with
  | false =>
    rw [if_neg (by simp)] at h
    obtain ⟨rfl, rfl⟩ := Prod.mk.inj (Option.some.inj h)
    clear h
    go_enter Try.func8, Try.ntmps8
    go_wp2_with (first | (go_at_call 21; (refine (impl_IsSignMatrix.calls k _ _ l0 false _ HR0.out HC0.out HT.out).mono ?_); rintro e w1 ⟨rfl, hb⟩; have HB1 := am_ hb; clear hb))
    go_ret2
    exact ⟨_, rfl, Kd.N_nil _ _ _ _ _, HB1.out⟩
  | true =>
    rw [if_pos rfl] at h
    obtain ⟨t, ht, h⟩ := Option.bind_eq_some_iff.mp h
    have HT2 := am_ ht
    clear ht
    cases t with
    | false =>
      rw [if_neg (by simp)] at h
      obtain ⟨rfl, rfl⟩ := Prod.mk.inj (Option.some.inj h)
      clear h
      go_enter Try.func8, Try.ntmps8
      go_wp2_with (first | (go_at_call 21; (refine (impl_IsSignMatrix.calls k _ _ l0 true _ HR0.out HC0.out HT.out).mono ?_); rintro e w1 ⟨rfl, hb⟩; have HB1 := am_ hb; clear hb) | (go_at_call 22; (refine (impl_isColour.calls a1 false _ HT2.out).mono ?_); rintro e w2 ⟨rfl, hd⟩; have HB2 := am_ (below_step HB1.out (below_of_drawn hd)); clear hd))
      go_ret2
      exact ⟨_, rfl, Kd.N_nil _ _ _ _ _, HB2.out⟩
    | true =>
      rw [if_pos rfl] at h
      obtain ⟨q, hq, h⟩ := Option.bind_eq_some_iff.mp h
      obtain ⟨cs, hcs, h⟩ := Option.bind_eq_some_iff.mp h
      obtain ⟨r, hr, h⟩ := Option.bind_eq_some_iff.mp h
      obtain ⟨rfl, rfl⟩ := Prod.mk.inj (Option.some.inj h)
      have HQ := am_ hq
      have HCS := am_ hcs
      have HR := am_ hr
      clear hq hcs hr h
      go_enter Try.func8, Try.ntmps8
      go_wp2_with (first | (go_at_call 21; (refine (impl_IsSignMatrix.calls k _ _ l0 true _ HR0.out HC0.out HT.out).mono ?_); rintro e w1 ⟨rfl, hb⟩; have HB1 := am_ hb; clear hb) | (go_at_call 22; (refine (impl_isColour.calls a1 true _ HT2.out).mono ?_); rintro e w2 ⟨rfl, hd⟩; have HB2 := am_ (below_step HB1.out (below_of_drawn hd)); clear hd) | (go_at_call 27; (refine (impl_heights.calls k A0 c0 l0 q w2 (Kd.C_below HR0.out HB2.out) HC0.out HQ.out).mono ?_); rintro e w3 ⟨v3, rfl, ho3, hb3⟩; obtain ⟨A3, c3, e3⟩ := Kd.S_slice ho3; subst e3; have HO3 := am_ (Kd.S_lower ho3 (below_size HB2.out)); have HB3 := am_ (below_step HB2.out hb3); clear ho3 hb3) | (go_at_call 29; (refine (impl_coloured.calls k (l0.length : Int) a1 cs _ HCS.out).mono ?_); rintro e w4 ⟨v4, rfl, ho4, hb4⟩; obtain ⟨A4, c4, e4⟩ := Kd.S_slice ho4; subst e4; have HO4 := am_ (Kd.S_N (Kd.S_mono (Kd.S_bound ho4) (ok' := fun k_ => (w3.alloc (.cells #[.slice A3 q.length c3] 24 (0, 0))).heap.size ≤ k_) (fun k_ hk => hk.2.1))); have HB4 := am_ hb4; clear ho4 hb4) | (go_at_call 28; go_must (refine (slices_DeleteFunc_int_int.calls k A4 c4 cs _ _ (fun x => impl_FlippedCells_1.f k x q) r (fun k_ => (w3.alloc (.cells #[.slice A3 q.length c3] 24 (0, 0))).heap.size ≤ k_) (w3.alloc (.cells #[.slice A3 q.length c3] 24 (0, 0))) w4 HB4.out HO4.out ?fn HR.out).mono ?_); (case fn => refine ⟨enters_of Try.func30 (by kernel_rfl) rfl, fun W_ hW_ x0_ v0_ hK0_ r_ hr_ => ?_⟩; obtain ⟨A0_, c0_, e0_, hl0_, hC0_⟩ := hK0_; cases e0_; refine (impl_FlippedCells_1.calls k A0_ c0_ x0_ w3.heap.size A3 c3 q r_ W_ hC0_ hl0_ (blk_below (blk_new _ _) hW_) (Kd.C_below (Kd.C_alloc (Kd.S_reads' HO3.out).2.2 _) hW_) (Kd.S_reads' HO3.out).2.1 hr_).mono ?_; exact fun _ _ h_ => h_); rintro e w5 ⟨v5, rfl, ho5, hb5⟩; have HO5 := am_ ho5; have HB5 := am_ hb5; clear ho5 hb5))
      go_ret2
      exact ⟨_, rfl, Kd.N_mono (Kd.N_lower HO5.out (below_size (below_alloc HB3.out _))) (fun k_ hk => Nat.le_trans (below_size (below_alloc HB3.out _)) hk), (below_alloc HB3.out _).trans (HB5.out.mono (below_size (below_alloc HB3.out _)))⟩

/-! ### spec_FlippedCells: function 9 -/
mutual
def spec_FlippedCells.j0 : Nat → Tb_ → Int → Bool → Option (Tb_ × Bool)
 | 0, _, _, _ => none
 | k + 1, x0, x1, x17 => if x17 = true then (some (([] : Tb_), false)) else ((spec_heOf.f k x0).bind fun t103 => (spec_FlippedCells.l0 k x0 x1 t103 ([] : Tb_) 1))
def spec_FlippedCells.l0 : Nat → Tb_ → Int → Tb_ → Tb_ → Int → Option (Tb_ × Bool)
 | 0, _, _, _, _, _ => none
 | k + 1, x0, x1, x6, x7, x8 => if x8 < (x0.length : Int) then (spec_FlippedCells.l1 k x0 x1 x6 x7 x8 1) else (some (x7, true))
def spec_FlippedCells.l1 : Nat → Tb_ → Int → Tb_ → Tb_ → Int → Int → Option (Tb_ × Bool)
 | 0, _, _, _, _, _, _ => none
 | k + 1, x0, x1, x6, x7, x8, x9 => if x9 < (x0.length : Int) then (if (Int.tmod (wrap64 (x8 + x9)) 2) = x1 then ((spec_heWay.f k x6 x8 x9).bind fun t106 => (if t106 = 0 then (spec_FlippedCells.l1 k x0 x1 x6 x7 x8 (wrap64 (x9 + 1))) else (if x7.length < 5864062014805 then (spec_FlippedCells.l1 k x0 x1 x6 (x7 ++ [(([x8, x9] : List Int))]) x8 (wrap64 (x9 + 1))) else (none)))) else (spec_FlippedCells.l1 k x0 x1 x6 x7 x8 (wrap64 (x9 + 1)))) else (spec_FlippedCells.l0 k x0 x1 x6 x7 (wrap64 (x8 + 1)))
end
def spec_FlippedCells.f (k : Nat) (l0 : Tb_) (a1 : Int) : Option (Tb_ × Bool) := (spec_sgGood.f k l0).bind fun t101 => (if t101 = true then ((spec_l1In.f a1 0 1).bind fun t102 => (spec_FlippedCells.j0 k l0 a1 (!t102))) else (spec_FlippedCells.j0 k l0 a1 true))
theorem spec_FlippedCells.calls (k : Nat) (A0 : Option Addr) (c0 : Nat) (l0 : Tb_) (a1 : Int) (r1 : Tb_) (r2 : Bool) (w : World) (hr0 : Kd.C (Kd.slice 3 (Kd.int .i64)) w A0 l0.length l0) (hc0 : l0.length ≤ c0) (h : spec_FlippedCells.f k l0 a1 = some (r1, r2)) :
  Calls Try.prog 9 #[.slice A0 l0.length c0, .int .i64 a1] w fun e w' => ∃ v0_ : Value, e = .returned (.tuple #[v0_, .bool r2]) ∧ Kd.S (Kd.slice 3 (Kd.int .i64)) 32 w' w.heap.size (fun _ => True) v0_ r1 ∧ Below w.heap.size w w' := by
 have HR0 := am_ hr0; have HC0 := am_ hc0; clear hr0 hc0; have HB := am_ (Below.refl w.heap.size w); (try unfold spec_FlippedCells.f at h); have H := h; clear h; have HC3 := am_ H; clear H; go_enter Try.func9, Try.ntmps9
 go_upto_region 1 with (fail)
 go_cut [17] (fun v17 wc => ∃ (kq : Nat) (x17_2 : Bool), v17 = .bool x17_2 ∧ Aside0 (spec_FlippedCells.j0 kq l0 a1 x17_2 = some (r1, r2)) ∧ Aside0 (kq ≤ k) ∧ Aside0 (Below w.heap.size w wc))
 case first =>
  have H := HC3.out; clear HC3; replace H := bd_ H; obtain ⟨t101, A4, H⟩ := H; (try dsimp only at H)
  by_cases c5 : t101 = true
  ·subst c5; have H1 : ((spec_l1In.f a1 0 1).bind fun t102 => (spec_FlippedCells.j0 k l0 a1 (!t102))) = some (r1, r2) := tc21_; clear H; have H := H1; clear H1; replace H := bd_ H; obtain ⟨t102, A6, H⟩ := H; (try dsimp only at H); have H' := am_ H; clear H
   go_wp2_with (first | (refine gc_ (some 11) Try.func24 #[.slice A0 l0.length c0] ?_; (with_reducible refine (spec_sgGood.calls k _ _ l0 true _ ?side1 ?side2 A4.out).mono ?_); (case side1 => exact tc20_); (case side2 => exact HC0.out); rintro e w7 ⟨rfl, hb⟩; refine ⟨_, rfl, ?_⟩; replace HB := am_ (below_step tc0_ hb); (try clear hb)) | (go_at_call 25; (with_reducible refine (spec_l1In.calls a1 0 1 t102 _ A6.out).mono ?_); rintro e w' ⟨rfl, ⟨nd, rfl⟩⟩))
   go_meet
   case rel => exact ⟨_, (!t102), tc8_, H', ⟨tc127_⟩, ⟨tc0_⟩⟩
  ·replace c5 := Bool.eq_false_iff.mpr c5; subst c5; have H1 : (spec_FlippedCells.j0 k l0 a1 true) = some (r1, r2) := tc14_; clear H; have H := H1; clear H1; have H' := am_ H; clear H
   go_wp2_with (first | (refine gc_ (some 11) Try.func24 #[.slice A0 l0.length c0] ?_; (with_reducible refine (spec_sgGood.calls k _ _ l0 false _ ?side1 ?side2 A4.out).mono ?_); (case side1 => exact tc20_); (case side2 => exact HC0.out); rintro e w8 ⟨rfl, hb⟩; refine ⟨_, rfl, ?_⟩; replace HB := am_ (below_step tc0_ hb); (try clear hb)))
   go_meet
   case rel => exact ⟨_, (true), tc8_, H', ⟨tc127_⟩, ⟨tc0_⟩⟩
 case rest =>
  clear HC3; (try clear c2); (try clear p2); (try clear c5); obtain ⟨kq, x17_2, rfl, HA, HJ2, HB⟩ := hcut
  cases kq with
  | zero => exact absurd HA.out (by simp [spec_FlippedCells.j0])
  | succ kj2 =>
   have H := HA.out; clear HA; simp only [spec_FlippedCells.j0] at H
   by_cases c9 : x17_2 = true
   ·subst c9; have H1 : (some (([] : Tb_), false)) = some (r1, r2) := tc21_; clear H; have H := H1; clear H1; simp only [Option.some.injEq, Prod.mk.injEq] at H; obtain ⟨rfl, rfl⟩ := H; go_wp2
    go_ret2
    exact ⟨_, tc9_, tc17_, tc0_⟩
   ·replace c9 := Bool.eq_false_iff.mpr c9; subst c9; have H1 : ((spec_heOf.f kj2 l0).bind fun t103 => (spec_FlippedCells.l0 kj2 l0 a1 t103 ([] : Tb_) 1)) = some (r1, r2) := tc14_; clear H; have H := H1; clear H1; replace H := bd_ H; obtain ⟨t103, A10, H⟩ := H; (try dsimp only at H); have H' := am_ H; clear H
    go_wp2_with (first | (refine gc_ (some 19) Try.func32 #[.slice A0 l0.length c0] ?_; (with_reducible refine (spec_heOf.calls kj2 _ _ l0 t103 _ ?side1 ?side2 A10.out).mono ?_); (case side1 => exact tc20_); (case side2 => exact HC0.out); rintro e w11 ⟨v104, rfl, ho0, hb⟩; refine ⟨_, rfl, ?_⟩; have HO105 := am_ (Kd.S_lower ho0 (below_size tc0_)); replace HB := am_ (below_step tc0_ hb); (try clear hb ho0)))
    go_loopg [7, 8] kj2 (fun kq v7 v8 w' => ∃ (x7_2 : Tb_) (x8_2 : Int), v8 = .int .i64 x8_2 ∧ Aside0 (spec_FlippedCells.l0 kq l0 a1 t103 x7_2 x8_2 = some (r1, r2)) ∧ Aside0 (kq ≤ kj2) ∧ Aside0 (Kd.S (Kd.slice 3 (Kd.int .i64)) 32 w' w.heap.size (fun k_ => some k_ ≠ (v7 : Value).ownBlock) v104 t103) ∧ Aside0 (Kd.S (Kd.slice 3 (Kd.int .i64)) 32 w' w.heap.size (fun k_ => some k_ ≠ (v104 : Value).ownBlock) v7 x7_2) ∧ Aside0 (Below w.heap.size w w'))
    case atStart => exact ⟨(([] : Tb_)), (1), tc8_, H', ⟨Nat.le_refl _⟩, ⟨(by (with_reducible repeat (first | apply Kd.S_alloc | apply Kd.S_drewN | apply Kd.S_drew)); exact Kd.S_mono HO105.out (fun _ hk => tc100_))⟩, ⟨tc17_⟩, ⟨tc0_⟩⟩
    case round =>
     clear H'; (try clear c2); (try clear p2); (try clear c3); (try clear c5); (try clear c9); (try clear p2); obtain ⟨x7_2, x8_2, rfl, HA, HK2, HO_6, HO_7, HB⟩ := hrel
     cases gk with
     | zero => exact absurd HA.out (by simp [spec_FlippedCells.l0])
     | succ k2 =>
      have H := HA.out; clear HA; simp only [spec_FlippedCells.l0] at H
      replace H := sp_ H; obtain ⟨c12b0, H⟩ | ⟨c12b0, H⟩ := H
      ·have H' := am_ H; clear H; go_wp2
       go_loopg [7, 9] k2 (fun kq v7 v9 w' => ∃ (x7_3 : Tb_) (x9_3 : Int), v9 = .int .i64 x9_3 ∧ Aside0 (spec_FlippedCells.l1 kq l0 a1 t103 x7_3 x8_2 x9_3 = some (r1, r2)) ∧ Aside0 (kq ≤ k2) ∧ Aside0 (Kd.S (Kd.slice 3 (Kd.int .i64)) 32 w' w.heap.size (fun k_ => some k_ ≠ (v7 : Value).ownBlock) v104 t103) ∧ Aside0 (Kd.S (Kd.slice 3 (Kd.int .i64)) 32 w' w.heap.size (fun k_ => some k_ ≠ (v104 : Value).ownBlock) v7 x7_3) ∧ Aside0 (Below w.heap.size w w'))
       case atStart => exact ⟨(x7_2), (1), tc8_, H', ⟨Nat.le_refl _⟩, ⟨tc13_⟩, ⟨tc34_⟩, ⟨tc0_⟩⟩
       case round =>
        clear H'; (try clear c1); (try clear c2); (try clear p2); (try clear c3); (try clear c5); (try clear c9); (try clear c12); (try clear c12b0); (try clear p2); obtain ⟨x7_3, x9_3, rfl, HA, HK3, HO_6, HO_7, HB⟩ := hrel
        cases gk with
        | zero => exact absurd HA.out (by simp [spec_FlippedCells.l1])
        | succ k3 =>
         have H := HA.out; clear HA; simp only [spec_FlippedCells.l1] at H
         replace H := sp_ H; obtain ⟨c13b0, H⟩ | ⟨c13b0, H⟩ := H
         ·replace H := pn_ H; obtain ⟨c14, H⟩ | ⟨c14, H⟩ := H
          ·have c14b0 : ((Int.tmod (wrap64 (x8_2 + x9_3)) 2) == a1) = true := beq_iff_eq.mpr c14; have c14b1 : ((Int.tmod (wrap64 (x8_2 + x9_3)) 2) != a1) = false := bne_eq_false_iff_eq.mpr c14; clear c14; replace H := bd_ H; obtain ⟨t106, A15, H⟩ := H; (try dsimp only at H)
           replace H := pn_ H; obtain ⟨c16, H⟩ | ⟨c16, H⟩ := H
           ·have c16b0 : (t106 == 0) = true := beq_iff_eq.mpr c16; have c16b1 : (t106 != 0) = false := bne_eq_false_iff_eq.mpr c16; clear c16; have H' := am_ H; clear H; obtain ⟨Ao17, co17, eo17⟩ := Kd.S_slice HO_6.out; subst eo17
            go_wp2_with (first | (go_at_call 33; (with_reducible refine (spec_heWay.calls k3 _ _ t103 x8_2 x9_3 t106 _ ?side1 ?side2 A15.out).mono ?_); (case side1 => exact tc44_); (case side2 => exact tc136_); rintro e w18 ⟨rfl, hb⟩; replace HO_6 := am_ (Kd.S_below tc13_ hb); replace HO_7 := am_ (Kd.S_below tc34_ hb); replace HB := am_ (below_step tc0_ hb); (try clear hb)))
            go_roundg k3
            case measure => have := HJ2.out; have := HK2.out; have := HK3.out; omega
            case rel => exact ⟨(x7_3), (wrap64 (x9_3 + 1)), tc8_, H', ⟨tc131_⟩, ⟨tc13_⟩, ⟨tc34_⟩, ⟨tc0_⟩⟩
           ·have c16b0 : (t106 == 0) = false := beq_eq_false_iff_ne.mpr c16; have c16b1 : (t106 != 0) = true := bne_iff_ne.mpr c16; obtain ⟨y107, hy107⟩ : ∃ y_ : List Int, y_ = (([x8_2, x9_3] : List Int)) := ⟨_, rfl⟩; replace H : (if x7_3.length < 5864062014805 then (spec_FlippedCells.l1 k3 l0 a1 t103 (x7_3 ++ [y107]) x8_2 (wrap64 (x9_3 + 1))) else (none)) = some (r1, r2) := tc31_; have Ny107 := am_ hy107; clear hy107; replace H := pp_ H; obtain ⟨c19, H⟩ := H; have LMc19 := am_ c19; clear c19; obtain ⟨y110, hy110⟩ : ∃ y_ : Tb_, y_ = (x7_3 ++ [y107]) := ⟨_, rfl⟩; replace H : (spec_FlippedCells.l1 k3 l0 a1 t103 y110 x8_2 (wrap64 (x9_3 + 1))) = some (r1, r2) := tc73_; have Ny110 := am_ hy110; clear hy110; have H' := am_ H; clear H; obtain ⟨Ao20, co20, eo20⟩ := Kd.S_slice HO_6.out; subst eo20
            go_wp2_with (first | (go_at_call 33; (with_reducible refine (spec_heWay.calls k3 _ _ t103 x8_2 x9_3 t106 _ ?side1 ?side2 A15.out).mono ?_); (case side1 => exact tc44_); (case side2 => exact tc136_); rintro e w21 ⟨rfl, hb⟩; replace HO_6 := am_ (Kd.S_below tc13_ hb); replace HO_7 := am_ (Kd.S_below tc34_ hb); replace HB := am_ (below_step tc0_ hb); (try clear hb)) | ((with_reducible refine gate_dst (N := 48) rfl ?_); refine Kd.R_lit (Kd.int .i64) _ 3 ?hg (N := 48) ?hd (xs := ([x8_2, x9_3] : List Int)) (inner := [.int .i64 x8_2, .int .i64 x9_3]) (ok := fun _ => True) (okp := fun _ => True) ?hr ?hp (fun _ hk => hk) trivial (Below.refl _ _) (Nat.le_refl _) (by simp) ?_; (case hd => rfl); (case hg => rfl); (case hr => exact tc26_); (case hp => exact (Reps.one (show Kd.M (Kd.int .i64) _ _ _ x8_2 [.int .i64 x8_2] from rfl) (Reps.one (show Kd.M (Kd.int .i64) _ _ _ x9_3 [.int .i64 x9_3] from rfl) (Reps.none _ _)))); intro v108 w22 ho23 hb hg_ hnew_; clear hg_ hnew_; (first | rw [← Ny107.out] at ho23 | (simp only [Int.reduceToNat] at ho23; rw [← Ny107.out] at ho23)); replace HO_6 := am_ (Kd.S_elder' tc13_ (Kd.R_base ho23) hb); replace HO_7 := am_ (Kd.S_elder' tc34_ (Kd.R_base ho23) hb); have HO109 := am_ (Kd.R_lower ho23 (below_size tc0_)); replace HB := am_ (below_step tc0_ hb); clear hb ho23; obtain ⟨Ao25, co25, eo25⟩ := Kd.R_slice HO109.out; subst eo25) | ((with_reducible refine gate_builtin (b := .append) (xs := #[.tmp 45, .tmp 49]) rfl ?_); at_builtin; refine Kd.S_append (Kd.slice 3 (Kd.int .i64)) (w0 := w) w.heap.size rfl (.tmp 45) (.tmp 49) 24 32 (.slice none 0 0) 24 rfl Try.underlying24 info32 rfl (by decide) (by omega) u7 x7_3 y107 [.slice Ao25 y107.length co25] (fun k_ => some k_ ≠ (.slice Ao20 t103.length co20 : Value).ownBlock) (fun k_ => some k_ = (.slice Ao25 y107.length co25 : Value).ownBlock) rfl rfl ?aP (fun k_ hk_ => ((Kd.R_mono (ok' := fun k_ => ((fun k_ => some k_ ≠ (.slice Ao20 t103.length co20 : Value).ownBlock)) k_ ∧ some k_ ≠ (u7 : Value).ownBlock) (Kd.R_apart' (Kd.R_apart' (HO109.out) (Kd.S_typed HO_6.out) (by decide)) (Kd.S_typed HO_7.out) (by decide)) (fun k_ hk => ⟨hk.1.2, hk.2⟩))).1 k_ hk_.symm) ?aF ?aO ?aB ?aS ?aL ?_; (case aP => exact Kd.M_row (Kd.R_mono (Kd.R_tight rfl (Kd.R_mono (ok' := fun k_ => ((fun k_ => some k_ ≠ (.slice Ao20 t103.length co20 : Value).ownBlock)) k_ ∧ some k_ ≠ (u7 : Value).ownBlock) (Kd.R_apart' (Kd.R_apart' (HO109.out) (Kd.S_typed HO_6.out) (by decide)) (Kd.S_typed HO_7.out) (by decide)) (fun k_ hk => ⟨hk.1.2, hk.2⟩))) (fun _ h_ => h_))); (case aB => exact tc15_); (case aF => exact (fun k_ hk => Kd.fresh' (Kd.S_lt tc13_) k_ hk)); (case aO => exact (by (with_reducible repeat (first | apply Kd.S_alloc | apply Kd.S_drewN | apply Kd.S_drew)); exact Kd.S_mono HO_7.out (fun k_ hk => ⟨hk.1, fun e_ => hk.2 e_⟩))); (case aS => exact tc22_); (case aL => have := LMc19.out; omega); intro v111 w24 ho hb hg hat; rw [← Ny110.out] at ho; have n0_ := am_ (Kd.S_after (ok := (fun k_ => some k_ ≠ (.slice Ao25 y107.length co25 : Value).ownBlock)) (by (with_reducible repeat (first | apply Kd.S_alloc | apply Kd.S_drewN | apply Kd.S_drew)); exact Kd.S_mono HO_6.out (fun _ hk => ⟨hk.2, hk.1⟩)) hg hat); have n1_ := am_ (hb); have n2_ := am_ (ho); clear HO_6 HB; clear HO_7 HO109; have HO_6 := n0_; have HB := n1_; have HO112 := n2_; clear n0_ n1_ n2_; clear ho hb hg hat))
            go_roundg k3
            case measure => have := HJ2.out; have := HK2.out; have := HK3.out; omega
            case rel => exact ⟨(y110), (wrap64 (x9_3 + 1)), tc8_, H', ⟨tc131_⟩, ⟨(by (with_reducible repeat (first | apply Kd.S_alloc | apply Kd.S_drewN | apply Kd.S_drew)); exact Kd.S_mono HO_6.out (fun _ hk => hk.2))⟩, ⟨(by (with_reducible repeat (first | apply Kd.S_alloc | apply Kd.S_drewN | apply Kd.S_drew)); exact HO112.out)⟩, ⟨tc0_⟩⟩
          ·have c14b0 : ((Int.tmod (wrap64 (x8_2 + x9_3)) 2) == a1) = false := beq_eq_false_iff_ne.mpr c14; have c14b1 : ((Int.tmod (wrap64 (x8_2 + x9_3)) 2) != a1) = true := bne_iff_ne.mpr c14; have H' := am_ H; clear H; go_wp2
           go_roundg k3
           case measure => have := HJ2.out; have := HK2.out; have := HK3.out; omega
           case rel => exact ⟨(x7_3), (wrap64 (x9_3 + 1)), tc8_, H', ⟨tc131_⟩, ⟨tc13_⟩, ⟨tc34_⟩, ⟨tc0_⟩⟩
         ·have H' := am_ H; clear H; go_wp2
          go_roundg k3
          case measure => have := HJ2.out; have := HK2.out; have := HK3.out; omega
          case rel => exact ⟨(x7_3), (wrap64 (x8_2 + 1)), tc8_, H', ⟨tc131_⟩, ⟨tc13_⟩, ⟨tc34_⟩, ⟨tc0_⟩⟩
      ·simp only [Option.some.injEq, Prod.mk.injEq] at H; obtain ⟨rfl, rfl⟩ := H; go_wp2
       go_ret2
       exact ⟨_, tc9_, (by (with_reducible repeat (first | apply Kd.S_alloc | apply Kd.S_drewN | apply Kd.S_drew)); exact Kd.S_mono HO_7.out (fun _ hk => trivial)), tc0_⟩

/-! ### laws_hSame: function 34 -/
def laws_hSame.l0 : Nat → List Int → List Int → Int → Int → Option (Bool)
 | 0, _, _, _, _ => none
 | k + 1, x0, x1, x12, x13 => if x13 < x12 then (if 0 ≤ x13 then (if x13 < (x0.length : Int) then (if x13 < (x1.length : Int) then (if (rd x0 x13) = (rd x1 x13) then (laws_hSame.l0 k x0 x1 x12 (wrap64 (x13 + 1))) else (some false)) else (none)) else (none)) else (none)) else (some true)
def laws_hSame.f (k : Nat) (l0 : List Int) (l1 : List Int) : Option (Bool) := if (l0.length : Int) = (l1.length : Int) then (laws_hSame.l0 k l0 l1 (l0.length : Int) 0) else (some false)
theorem laws_hSame.calls (k : Nat) (A0 : Option Addr) (c0 : Nat) (l0 : List Int) (A1 : Option Addr) (c1 : Nat) (l1 : List Int) (r : Bool) (w : World) (hr0 : Kd.C (Kd.int .i64) w A0 l0.length l0) (hc0 : l0.length ≤ c0) (hr1 : Kd.C (Kd.int .i64) w A1 l1.length l1) (hc1 : l1.length ≤ c1) (h : laws_hSame.f k l0 l1 = some r) :
  Calls Try.prog 34 #[.slice A0 l0.length c0, .slice A1 l1.length c1] w fun e w' => e = .returned (.bool r) ∧ Drawn0 w w' := by
 have HR0 := am_ hr0; have HC0 := am_ hc0; clear hr0 hc0; have HR1 := am_ hr1; have HC1 := am_ hc1; clear hr1 hc1; (try unfold laws_hSame.f at h); have H := h; clear h
 replace H := pn_ H; obtain ⟨c3, H⟩ | ⟨c3, H⟩ := H
 ·have c3b0 : ((l0.length : Int) == (l1.length : Int)) = true := beq_iff_eq.mpr c3; have c3b1 : ((l0.length : Int) != (l1.length : Int)) = false := bne_eq_false_iff_eq.mpr c3; have c3b2 : (l0.length == l1.length) = true := tc134_; clear c3; have H' := am_ H; clear H; go_enter Try.func34, Try.ntmps34; go_wp2
  repeat (go_quiet (fail); try go_wp2)
  go_loopg [13] k (fun kq v13 w' => ∃ (x13_1 : Int), v13 = .int .i64 x13_1 ∧ Aside0 (laws_hSame.l0 kq l0 l1 (l0.length : Int) x13_1 = some r) ∧ Aside0 (kq ≤ k) ∧ Drawn0 w w')
  case atStart => exact ⟨(0), tc8_, H', ⟨Nat.le_refl _⟩, tc12_⟩
  case round =>
   clear H'; (try clear c1); (try clear p2); (try clear c3); (try clear c3b0); (try clear c3b1); (try clear c3b2); obtain ⟨x13_1, rfl, HA, HK1, ⟨m1, rfl⟩⟩ := hrel
   cases gk with
   | zero => exact absurd HA.out (by simp [laws_hSame.l0])
   | succ k1 =>
    have H := HA.out; clear HA; simp only [laws_hSame.l0] at H
    replace H := sp_ H; obtain ⟨c4b0, H⟩ | ⟨c4b0, H⟩ := H
    ·replace H := ps_ H; obtain ⟨c5b0, H⟩ := H; replace H := ps_ H; obtain ⟨c6b0, H⟩ := H; replace H := ps_ H; obtain ⟨c7b0, H⟩ := H
     replace H := pn_ H; obtain ⟨c8, H⟩ | ⟨c8, H⟩ := H
     ·have c8b0 : ((rd l0 x13_1) == (rd l1 x13_1)) = true := beq_iff_eq.mpr c8; have c8b1 : ((rd l0 x13_1) != (rd l1 x13_1)) = false := bne_eq_false_iff_eq.mpr c8; clear c8; have H' := am_ H; clear H; have p101 : 0 ≤ (x13_1 : Int) := od_; have q101 : x13_1 < (l0.length : Int) := od_; obtain ⟨ad101, e101, hx101_0⟩ := Kd.at_int HR0.out x13_1 p101 q101; cases e101; replace p101 := eq_true p101; replace q101 := eq_true q101; have p102 : 0 ≤ (x13_1 : Int) := od_; have q102 : x13_1 < (l1.length : Int) := od_; obtain ⟨ad102, e102, hx102_0⟩ := Kd.at_int HR1.out x13_1 p102 q102; cases e102; replace p102 := eq_true p102; replace q102 := eq_true q102; go_wp2
      repeat (go_quiet (fail); try go_wp2)
      go_roundg k1
      case measure => have := HK1.out; omega
      case rel => exact ⟨(wrap64 (x13_1 + 1)), tc8_, H', ⟨tc101_⟩, tc12_⟩
     ·have c8b0 : ((rd l0 x13_1) == (rd l1 x13_1)) = false := beq_eq_false_iff_ne.mpr c8; have c8b1 : ((rd l0 x13_1) != (rd l1 x13_1)) = true := bne_iff_ne.mpr c8; obtain rfl := Option.some.inj H; have p101 : 0 ≤ (x13_1 : Int) := od_; have q101 : x13_1 < (l0.length : Int) := od_; obtain ⟨ad101, e101, hx101_0⟩ := Kd.at_int HR0.out x13_1 p101 q101; cases e101; replace p101 := eq_true p101; replace q101 := eq_true q101; have p102 : 0 ≤ (x13_1 : Int) := od_; have q102 : x13_1 < (l1.length : Int) := od_; obtain ⟨ad102, e102, hx102_0⟩ := Kd.at_int HR1.out x13_1 p102 q102; cases e102; replace p102 := eq_true p102; replace q102 := eq_true q102; go_wp2
      repeat (go_quiet (fail); try go_wp2)
      go_ret
      exact ⟨tc8_, tc12_⟩
    ·obtain rfl := Option.some.inj H; go_wp2
     repeat (go_quiet (fail); try go_wp2)
     go_ret
     exact ⟨tc8_, tc12_⟩
 ·have c3b0 : ((l0.length : Int) == (l1.length : Int)) = false := beq_eq_false_iff_ne.mpr c3; have c3b1 : ((l0.length : Int) != (l1.length : Int)) = true := bne_iff_ne.mpr c3; have c3b2 : (l0.length == l1.length) = false := tc134_; obtain rfl := Option.some.inj H; go_enter Try.func34, Try.ntmps34; go_wp2
  repeat (go_quiet (fail); try go_wp2)
  go_ret
  exact ⟨tc8_, tc12_⟩

/-! ### laws_hRows: function 10 -/
def laws_hRows.l0 : Nat → Tb_ → Tb_ → Int → Int → Option (Bool)
 | 0, _, _, _, _ => none
 | k + 1, x0, x1, x12, x13 => if x13 < x12 then (if 0 ≤ x13 then (if x13 < (x0.length : Int) then (if x13 < (x1.length : Int) then ((laws_hSame.f k (rd_L3 x0 x13) (rd_L3 x1 x13)).bind fun t103 => (if t103 = true then (laws_hRows.l0 k x0 x1 x12 (wrap64 (x13 + 1))) else (some false))) else (none)) else (none)) else (none)) else (some true)
def laws_hRows.f (k : Nat) (l0 : Tb_) (l1 : Tb_) : Option (Bool) := if (l0.length : Int) = (l1.length : Int) then (laws_hRows.l0 k l0 l1 (l0.length : Int) 0) else (some false)
theorem laws_hRows.calls (k : Nat) (A0 : Option Addr) (c0 : Nat) (l0 : Tb_) (A1 : Option Addr) (c1 : Nat) (l1 : Tb_) (r : Bool) (w : World) (hr0 : Kd.C (Kd.slice 3 (Kd.int .i64)) w A0 l0.length l0) (hc0 : l0.length ≤ c0) (hr1 : Kd.C (Kd.slice 3 (Kd.int .i64)) w A1 l1.length l1) (hc1 : l1.length ≤ c1) (h : laws_hRows.f k l0 l1 = some r) :
  Calls Try.prog 10 #[.slice A0 l0.length c0, .slice A1 l1.length c1] w fun e w' => e = .returned (.bool r) ∧ Drawn0 w w' := by
 have HR0 := am_ hr0; have HC0 := am_ hc0; clear hr0 hc0; have HR1 := am_ hr1; have HC1 := am_ hc1; clear hr1 hc1; (try unfold laws_hRows.f at h); have H := h; clear h
 replace H := pn_ H; obtain ⟨c3, H⟩ | ⟨c3, H⟩ := H
 ·have c3b0 : ((l0.length : Int) == (l1.length : Int)) = true := beq_iff_eq.mpr c3; have c3b1 : ((l0.length : Int) != (l1.length : Int)) = false := bne_eq_false_iff_eq.mpr c3; have c3b2 : (l0.length == l1.length) = true := tc134_; clear c3; have H' := am_ H; clear H; go_enter Try.func10, Try.ntmps10; go_wp2
  repeat (go_quiet (fail); try go_wp2)
  go_loopg [13] k (fun kq v13 w' => ∃ (x13_1 : Int), v13 = .int .i64 x13_1 ∧ Aside0 (laws_hRows.l0 kq l0 l1 (l0.length : Int) x13_1 = some r) ∧ Aside0 (kq ≤ k) ∧ Drawn0 w w')
  case atStart => exact ⟨(0), tc8_, H', ⟨Nat.le_refl _⟩, tc12_⟩
  case round =>
   clear H'; (try clear c1); (try clear p2); (try clear c3); (try clear c3b0); (try clear c3b1); (try clear c3b2); obtain ⟨x13_1, rfl, HA, HK1, ⟨m1, rfl⟩⟩ := hrel
   cases gk with
   | zero => exact absurd HA.out (by simp [laws_hRows.l0])
   | succ k1 =>
    have H := HA.out; clear HA; simp only [laws_hRows.l0] at H
    replace H := sp_ H; obtain ⟨c4b0, H⟩ | ⟨c4b0, H⟩ := H
    ·replace H := ps_ H; obtain ⟨c5b0, H⟩ := H; replace H := ps_ H; obtain ⟨c6b0, H⟩ := H; replace H := ps_ H; obtain ⟨c7b0, H⟩ := H; replace H := bd_ H; obtain ⟨t103, A8, H⟩ := H; (try dsimp only at H)
     by_cases c9 : t103 = true
     ·subst c9; have H1 : (laws_hRows.l0 k1 l0 l1 (l0.length : Int) (wrap64 (x13_1 + 1))) = some r := tc21_; clear H; have H := H1; clear H1; have H' := am_ H; clear H; have p101 : 0 ≤ (x13_1 : Int) := od_; have q101 : x13_1 < (l0.length : Int) := od_; obtain ⟨ad101, A101_0, c101_0, e101, hx101_0, hl101_0, hi101_0⟩ := at_L3 HR0.out x13_1 p101 q101; cases e101; have HR101_0 := am_ hi101_0; have HC101_0 := am_ hl101_0; clear hi101_0 hl101_0; replace p101 := eq_true p101; replace q101 := eq_true q101; have p102 : 0 ≤ (x13_1 : Int) := od_; have q102 : x13_1 < (l1.length : Int) := od_; obtain ⟨ad102, A102_0, c102_0, e102, hx102_0, hl102_0, hi102_0⟩ := at_L3 HR1.out x13_1 p102 q102; cases e102; have HR102_0 := am_ hi102_0; have HC102_0 := am_ hl102_0; clear hi102_0 hl102_0; replace p102 := eq_true p102; replace q102 := eq_true q102
      go_wp2_with (first | (go_at_call 34; (with_reducible refine (laws_hSame.calls k1 _ _ (rd_L3 l0 x13_1) _ _ (rd_L3 l1 x13_1) true _ ?side1 ?side2 ?side3 ?side4 A8.out).mono ?_); (case side1 => exact tc37_); (case side2 => exact HC101_0.out); (case side3 => exact tc38_); (case side4 => exact HC102_0.out); rintro e w' ⟨rfl, ⟨nd, rfl⟩⟩; (try first | exact ⟨rfl, _, World.drewN_drewN _ _ _⟩ | exact ⟨rfl, _, Eq.trans (World.drewN_drewN _ _ _) (congrArg (World.drewN _) (Nat.add_assoc _ _ _))⟩)))
      repeat (go_quiet (first | (go_at_call 34; (with_reducible refine (laws_hSame.calls k1 _ _ (rd_L3 l0 x13_1) _ _ (rd_L3 l1 x13_1) true _ ?side1 ?side2 ?side3 ?side4 A8.out).mono ?_); (case side1 => exact tc37_); (case side2 => exact HC101_0.out); (case side3 => exact tc38_); (case side4 => exact HC102_0.out); rintro e w' ⟨rfl, ⟨nd, rfl⟩⟩; (try first | exact ⟨rfl, _, World.drewN_drewN _ _ _⟩ | exact ⟨rfl, _, Eq.trans (World.drewN_drewN _ _ _) (congrArg (World.drewN _) (Nat.add_assoc _ _ _))⟩))); try go_wp2_with (first | (go_at_call 34; (with_reducible refine (laws_hSame.calls k1 _ _ (rd_L3 l0 x13_1) _ _ (rd_L3 l1 x13_1) true _ ?side1 ?side2 ?side3 ?side4 A8.out).mono ?_); (case side1 => exact tc37_); (case side2 => exact HC101_0.out); (case side3 => exact tc38_); (case side4 => exact HC102_0.out); rintro e w' ⟨rfl, ⟨nd, rfl⟩⟩; (try first | exact ⟨rfl, _, World.drewN_drewN _ _ _⟩ | exact ⟨rfl, _, Eq.trans (World.drewN_drewN _ _ _) (congrArg (World.drewN _) (Nat.add_assoc _ _ _))⟩))))
      go_roundg k1
      case measure => have := HK1.out; omega
      case rel => exact ⟨(wrap64 (x13_1 + 1)), tc8_, H', ⟨tc101_⟩, tc12_⟩
     ·replace c9 := Bool.eq_false_iff.mpr c9; subst c9; have H1 : (some false) = some r := tc14_; clear H; have H := H1; clear H1; obtain rfl := Option.some.inj H; have p101 : 0 ≤ (x13_1 : Int) := od_; have q101 : x13_1 < (l0.length : Int) := od_; obtain ⟨ad101, A101_0, c101_0, e101, hx101_0, hl101_0, hi101_0⟩ := at_L3 HR0.out x13_1 p101 q101; cases e101; have HR101_0 := am_ hi101_0; have HC101_0 := am_ hl101_0; clear hi101_0 hl101_0; replace p101 := eq_true p101; replace q101 := eq_true q101; have p102 : 0 ≤ (x13_1 : Int) := od_; have q102 : x13_1 < (l1.length : Int) := od_; obtain ⟨ad102, A102_0, c102_0, e102, hx102_0, hl102_0, hi102_0⟩ := at_L3 HR1.out x13_1 p102 q102; cases e102; have HR102_0 := am_ hi102_0; have HC102_0 := am_ hl102_0; clear hi102_0 hl102_0; replace p102 := eq_true p102; replace q102 := eq_true q102
      go_wp2_with (first | (go_at_call 34; (with_reducible refine (laws_hSame.calls k1 _ _ (rd_L3 l0 x13_1) _ _ (rd_L3 l1 x13_1) false _ ?side1 ?side2 ?side3 ?side4 A8.out).mono ?_); (case side1 => exact tc37_); (case side2 => exact HC101_0.out); (case side3 => exact tc38_); (case side4 => exact HC102_0.out); rintro e w' ⟨rfl, ⟨nd, rfl⟩⟩; (try first | exact ⟨rfl, _, World.drewN_drewN _ _ _⟩ | exact ⟨rfl, _, Eq.trans (World.drewN_drewN _ _ _) (congrArg (World.drewN _) (Nat.add_assoc _ _ _))⟩)))
      repeat (go_quiet (first | (go_at_call 34; (with_reducible refine (laws_hSame.calls k1 _ _ (rd_L3 l0 x13_1) _ _ (rd_L3 l1 x13_1) false _ ?side1 ?side2 ?side3 ?side4 A8.out).mono ?_); (case side1 => exact tc37_); (case side2 => exact HC101_0.out); (case side3 => exact tc38_); (case side4 => exact HC102_0.out); rintro e w' ⟨rfl, ⟨nd, rfl⟩⟩; (try first | exact ⟨rfl, _, World.drewN_drewN _ _ _⟩ | exact ⟨rfl, _, Eq.trans (World.drewN_drewN _ _ _) (congrArg (World.drewN _) (Nat.add_assoc _ _ _))⟩))); try go_wp2_with (first | (go_at_call 34; (with_reducible refine (laws_hSame.calls k1 _ _ (rd_L3 l0 x13_1) _ _ (rd_L3 l1 x13_1) false _ ?side1 ?side2 ?side3 ?side4 A8.out).mono ?_); (case side1 => exact tc37_); (case side2 => exact HC101_0.out); (case side3 => exact tc38_); (case side4 => exact HC102_0.out); rintro e w' ⟨rfl, ⟨nd, rfl⟩⟩; (try first | exact ⟨rfl, _, World.drewN_drewN _ _ _⟩ | exact ⟨rfl, _, Eq.trans (World.drewN_drewN _ _ _) (congrArg (World.drewN _) (Nat.add_assoc _ _ _))⟩))))
      go_ret
      exact ⟨tc8_, tc12_⟩
    ·obtain rfl := Option.some.inj H; go_wp2
     repeat (go_quiet (fail); try go_wp2)
     go_ret
     exact ⟨tc8_, tc12_⟩
 ·have c3b0 : ((l0.length : Int) == (l1.length : Int)) = false := beq_eq_false_iff_ne.mpr c3; have c3b1 : ((l0.length : Int) != (l1.length : Int)) = true := bne_iff_ne.mpr c3; have c3b2 : (l0.length == l1.length) = false := tc134_; obtain rfl := Option.some.inj H; go_enter Try.func10, Try.ntmps10; go_wp2
  repeat (go_quiet (fail); try go_wp2)
  go_ret
  exact ⟨tc8_, tc12_⟩

/-! ### impl_arePair: function 35 -/
def impl_arePair.f (k : Nat) (l0 : Tb_) (l1 : Tb_) : Option (Bool) := (impl_IsSignMatrix.f k l0).bind fun t101 => (if t101 = true then ((impl_IsSignMatrix.f k l1).bind fun t102 => (if t102 = true then (some ((l0.length : Int) == (l1.length : Int))) else (some false))) else (some false))
theorem impl_arePair.calls (k : Nat) (A0 : Option Addr) (c0 : Nat) (l0 : Tb_) (A1 : Option Addr) (c1 : Nat) (l1 : Tb_) (r : Bool) (w : World) (hr0 : Kd.C (Kd.slice 3 (Kd.int .i64)) w A0 l0.length l0) (hc0 : l0.length ≤ c0) (hr1 : Kd.C (Kd.slice 3 (Kd.int .i64)) w A1 l1.length l1) (hc1 : l1.length ≤ c1) (h : impl_arePair.f k l0 l1 = some r) :
  Calls Try.prog 35 #[.slice A0 l0.length c0, .slice A1 l1.length c1] w fun e w' => e = .returned (.bool r) ∧ Below w.heap.size w w' := by
 have HR0 := am_ hr0; have HC0 := am_ hc0; clear hr0 hc0; have HR1 := am_ hr1; have HC1 := am_ hc1; clear hr1 hc1; have HB := am_ (Below.refl w.heap.size w); (try unfold impl_arePair.f at h); have H := h; clear h; replace H := bd_ H; obtain ⟨t101, A3, H⟩ := H; (try dsimp only at H)
 by_cases c4 : t101 = true
 ·subst c4; have H1 : ((impl_IsSignMatrix.f k l1).bind fun t102 => (if t102 = true then (some ((l0.length : Int) == (l1.length : Int))) else (some false))) = some r := tc21_; clear H; have H := H1; clear H1; replace H := bd_ H; obtain ⟨t102, A5, H⟩ := H; (try dsimp only at H)
  by_cases c6 : t102 = true
  ·subst c6; have H1 : (some ((l0.length : Int) == (l1.length : Int))) = some r := tc21_; clear H; have H := H1; clear H1; obtain rfl := Option.some.inj H; go_enter Try.func35, Try.ntmps35
   go_wp2_with (first | (refine gc_ (some 6) Try.func21 #[.slice A0 l0.length c0] ?_; (with_reducible refine (impl_IsSignMatrix.calls k _ _ l0 true _ ?side1 ?side2 A3.out).mono ?_); (case side1 => exact tc11_); (case side2 => exact HC0.out); rintro e w7 ⟨rfl, hb⟩; refine ⟨_, rfl, ?_⟩; replace HB := am_ (below_step tc0_ hb); (try clear hb)) | (go_at_call 21; (with_reducible refine (impl_IsSignMatrix.calls k _ _ l1 true _ ?side1 ?side2 A5.out).mono ?_); (case side1 => exact tc18_); (case side2 => exact HC1.out); rintro e w8 ⟨rfl, hb⟩; replace HB := am_ (below_step tc0_ hb); (try clear hb hb2 hk hi)))
   go_ret
   exact ⟨tc9_, tc0_⟩
  ·replace c6 := Bool.eq_false_iff.mpr c6; subst c6; have H1 : (some false) = some r := tc14_; clear H; have H := H1; clear H1; obtain rfl := Option.some.inj H; go_enter Try.func35, Try.ntmps35
   go_wp2_with (first | (refine gc_ (some 6) Try.func21 #[.slice A0 l0.length c0] ?_; (with_reducible refine (impl_IsSignMatrix.calls k _ _ l0 true _ ?side1 ?side2 A3.out).mono ?_); (case side1 => exact tc11_); (case side2 => exact HC0.out); rintro e w9 ⟨rfl, hb⟩; refine ⟨_, rfl, ?_⟩; replace HB := am_ (below_step tc0_ hb); (try clear hb)) | (go_at_call 21; (with_reducible refine (impl_IsSignMatrix.calls k _ _ l1 false _ ?side1 ?side2 A5.out).mono ?_); (case side1 => exact tc18_); (case side2 => exact HC1.out); rintro e w10 ⟨rfl, hb⟩; replace HB := am_ (below_step tc0_ hb); (try clear hb hb2 hk hi)))
   go_ret
   exact ⟨tc9_, tc0_⟩
 ·replace c4 := Bool.eq_false_iff.mpr c4; subst c4; have H1 : (some false) = some r := tc14_; clear H; have H := H1; clear H1; obtain rfl := Option.some.inj H; go_enter Try.func35, Try.ntmps35
  go_wp2_with (first | (refine gc_ (some 6) Try.func21 #[.slice A0 l0.length c0] ?_; (with_reducible refine (impl_IsSignMatrix.calls k _ _ l0 false _ ?side1 ?side2 A3.out).mono ?_); (case side1 => exact tc11_); (case side2 => exact HC0.out); rintro e w11 ⟨rfl, hb⟩; refine ⟨_, rfl, ?_⟩; replace HB := am_ (below_step tc0_ hb); (try clear hb)))
  go_ret
  exact ⟨tc9_, tc0_⟩

/-! ### impl_distance: function 36 -/
mutual
def impl_distance.l0 : Nat → Tb_ → Int → Tb_ → Int → Int → Option (Int)
 | 0, _, _, _, _, _ => none
 | k + 1, x6, x7, x16, x17, x18 => if x18 < x17 then (if 0 ≤ x18 then (if x18 < (x16.length : Int) then (impl_distance.l1 k x6 x7 x18 x16 x17 x18 (rd_L3 x16 x18) ((rd_L3 x16 x18).length : Int) 0) else (none)) else (none)) else (some (wrap64 (Int.tdiv x7 2)))
def impl_distance.l1 : Nat → Tb_ → Int → Int → Tb_ → Int → Int → List Int → Int → Int → Option (Int)
 | 0, _, _, _, _, _, _, _, _, _ => none
 | k + 1, x6, x7, x8, x16, x17, x18, x23, x24, x25 => if x25 < x24 then (if 0 ≤ x25 then (if x25 < (x23.length : Int) then (if 0 ≤ x8 then (if x8 < (x6.length : Int) then (if x25 < ((rd_L3 x6 x8).length : Int) then (impl_distance.l1 k x6 (wrap64 (x7 + (mx (wrap64 ((rd x23 x25) - (rd (rd_L3 x6 x8) x25))) (wrap64 ((rd (rd_L3 x6 x8) x25) - (rd x23 x25)))))) x8 x16 x17 x18 x23 x24 (wrap64 (x25 + 1))) else (none)) else (none)) else (none)) else (none)) else (none)) else (impl_distance.l0 k x6 x7 x16 x17 (wrap64 (x18 + 1)))
end
def impl_distance.f (k : Nat) (l0 : Tb_) (l1 : Tb_) : Option (Int) := (impl_heights.f k l0).bind fun t101 => ((impl_heights.f k l1).bind fun t104 => (impl_distance.l0 k t104 0 t101 (t101.length : Int) 0))
theorem impl_distance.calls (k : Nat) (A0 : Option Addr) (c0 : Nat) (l0 : Tb_) (A1 : Option Addr) (c1 : Nat) (l1 : Tb_) (r : Int) (w : World) (hr0 : Kd.C (Kd.slice 3 (Kd.int .i64)) w A0 l0.length l0) (hc0 : l0.length ≤ c0) (hr1 : Kd.C (Kd.slice 3 (Kd.int .i64)) w A1 l1.length l1) (hc1 : l1.length ≤ c1) (h : impl_distance.f k l0 l1 = some r) :
  Calls Try.prog 36 #[.slice A0 l0.length c0, .slice A1 l1.length c1] w fun e w' => e = .returned (.int .i64 r) ∧ Below w.heap.size w w' := by
 have HR0 := am_ hr0; have HC0 := am_ hc0; clear hr0 hc0; have HR1 := am_ hr1; have HC1 := am_ hc1; clear hr1 hc1; have HB := am_ (Below.refl w.heap.size w); (try unfold impl_distance.f at h); have H := h; clear h; replace H := bd_ H; obtain ⟨t101, A3, H⟩ := H; (try dsimp only at H); replace H := bd_ H; obtain ⟨t104, A4, H⟩ := H; (try dsimp only at H); have H' := am_ H; clear H; go_enter Try.func36, Try.ntmps36
 go_wp2_with (first | (go_at_call 27; (with_reducible refine (impl_heights.calls k _ _ l0 t101 _ ?side1 ?side2 A3.out).mono ?_); (case side1 => exact tc11_); (case side2 => exact HC0.out); rintro e w5 ⟨v102, rfl, ho0, hb⟩; have HO103 := am_ (Kd.S_lower ho0 (below_size tc0_)); replace HB := am_ (below_step tc0_ hb); (try clear hb ho0)) | (go_at_call 27; (with_reducible refine (impl_heights.calls k _ _ l1 t104 _ ?side1 ?side2 A4.out).mono ?_); (case side1 => exact tc18_); (case side2 => exact HC1.out); rintro e w6 ⟨v105, rfl, ho0, hb⟩; have HO106 := am_ (Kd.S_lower (Kd.S_new' ho0 (Kd.S_lt tc24_)) (below_size tc0_)); replace HO103 := am_ (Kd.S_elder' tc24_ (Kd.S_base ho0) hb); replace HB := am_ (below_step tc0_ hb); (try clear hb hb2 hk hi ho0); obtain ⟨Ao7, co7, eo7⟩ := Kd.S_slice HO103.out; subst eo7))
 repeat (go_quiet (first | (go_at_call 27; (with_reducible refine (impl_heights.calls k _ _ l0 t101 _ ?side1 ?side2 A3.out).mono ?_); (case side1 => exact tc11_); (case side2 => exact HC0.out); rintro e w5 ⟨v102, rfl, ho0, hb⟩; have HO103 := am_ (Kd.S_lower ho0 (below_size tc0_)); replace HB := am_ (below_step tc0_ hb); (try clear hb ho0)) | (go_at_call 27; (with_reducible refine (impl_heights.calls k _ _ l1 t104 _ ?side1 ?side2 A4.out).mono ?_); (case side1 => exact tc18_); (case side2 => exact HC1.out); rintro e w6 ⟨v105, rfl, ho0, hb⟩; have HO106 := am_ (Kd.S_lower (Kd.S_new' ho0 (Kd.S_lt tc24_)) (below_size tc0_)); replace HO103 := am_ (Kd.S_elder' tc24_ (Kd.S_base ho0) hb); replace HB := am_ (below_step tc0_ hb); (try clear hb hb2 hk hi ho0); obtain ⟨Ao7, co7, eo7⟩ := Kd.S_slice HO103.out; subst eo7)); try go_wp2_with (first | (go_at_call 27; (with_reducible refine (impl_heights.calls k _ _ l0 t101 _ ?side1 ?side2 A3.out).mono ?_); (case side1 => exact tc11_); (case side2 => exact HC0.out); rintro e w5 ⟨v102, rfl, ho0, hb⟩; have HO103 := am_ (Kd.S_lower ho0 (below_size tc0_)); replace HB := am_ (below_step tc0_ hb); (try clear hb hb2 hk hi ho0)) | (go_at_call 27; (with_reducible refine (impl_heights.calls k _ _ l1 t104 _ ?side1 ?side2 A4.out).mono ?_); (case side1 => exact tc18_); (case side2 => exact HC1.out); rintro e w6 ⟨v105, rfl, ho0, hb⟩; have HO106 := am_ (Kd.S_lower (Kd.S_new' ho0 (Kd.S_lt tc24_)) (below_size tc0_)); replace HO103 := am_ (Kd.S_elder' tc24_ (Kd.S_base ho0) hb); replace HB := am_ (below_step tc0_ hb); (try clear hb hb2 hk hi ho0); obtain ⟨Ao7, co7, eo7⟩ := Kd.S_slice HO103.out; subst eo7)))
 go_loopg [7, 18] k (fun kq v7 v18 w' => ∃ (x7_1 : Int) (x18_1 : Int), v7 = .int .i64 x7_1 ∧ v18 = .int .i64 x18_1 ∧ Aside0 (impl_distance.l0 kq t104 x7_1 t101 (t101.length : Int) x18_1 = some r) ∧ Aside0 (kq ≤ k) ∧ Aside0 (Kd.S (Kd.slice 3 (Kd.int .i64)) 32 w' w.heap.size (fun k_ => some k_ ≠ ((.slice Ao7 t101.length co7) : Value).ownBlock) v105 t104) ∧ Aside0 (Kd.S (Kd.slice 3 (Kd.int .i64)) 32 w' w.heap.size (fun k_ => some k_ ≠ (v105 : Value).ownBlock) (.slice Ao7 t101.length co7) t101) ∧ Aside0 (Below w.heap.size w w'))
 case atStart => exact ⟨(0), (0), tc8_, tc8_, H', ⟨Nat.le_refl _⟩, ⟨(by (with_reducible repeat (first | apply Kd.S_alloc | apply Kd.S_drewN | apply Kd.S_drew)); exact Kd.S_mono HO106.out (fun _ hk => hk.2))⟩, ⟨(by (with_reducible repeat (first | apply Kd.S_alloc | apply Kd.S_drewN | apply Kd.S_drew)); exact Kd.S_mono HO103.out (fun _ hk => hk.2))⟩, ⟨tc0_⟩⟩
 case round =>
  clear H'; (try clear c1); (try clear p2); (try clear c3); obtain ⟨x7_1, x18_1, rfl, rfl, HA, HK1, HO_6, HO_16, HB⟩ := hrel
  cases gk with
  | zero => exact absurd HA.out (by simp [impl_distance.l0])
  | succ k1 =>
   have H := HA.out; clear HA; simp only [impl_distance.l0] at H
   replace H := sp_ H; obtain ⟨c8b0, H⟩ | ⟨c8b0, H⟩ := H
   ·replace H := ps_ H; obtain ⟨c9b0, H⟩ := H; replace H := ps_ H; obtain ⟨c10b0, H⟩ := H; have H' := am_ H; clear H; have p107 : 0 ≤ (x18_1 : Int) := od_; have q107 : x18_1 < (t101.length : Int) := od_; obtain ⟨ad107, A107_0, c107_0, e107, hx107_0, hl107_0, hi107_0⟩ := at_L3 (Kd.S_reads' HO_16.out).2.2 x18_1 p107 q107; cases e107; obtain ⟨ce107, hce107, hMe107, hcc107⟩ := Kd.S_get HO_16.out [] x18_1 p107 (by first | exact q107 | exact od_ | (have e_ := (Kd.S_reads' HO_16.out).1; omega)); obtain ⟨ve107_0, rfl, ge107_0⟩ := hMe107; have hv107_0 := hcc107 0 _ rfl; rw [Nat.add_zero, show ((Kd.slice 3 (Kd.int .i64))).sz = 1 from rfl, Nat.mul_one] at hv107_0; replace hv107_0 := Option.some.inj (hv107_0.symm.trans hx107_0); rw [hv107_0] at ge107_0; have HL107_0 := am_ (show Kd.R (Kd.int .i64) 3 _ _ _ _ (rd_L3 t101 x18_1) from ge107_0); clear hv107_0 ge107_0; clear hcc107 hce107; have HR107_0 := am_ hi107_0; have HC107_0 := am_ hl107_0; clear hi107_0 hl107_0; replace p107 := eq_true p107; replace q107 := eq_true q107; go_wp2
    repeat (go_quiet (fail); try go_wp2)
    go_loopg [7, 25] k1 (fun kq v7 v25 w' => ∃ (x7_2 : Int) (x25_2 : Int), v7 = .int .i64 x7_2 ∧ v25 = .int .i64 x25_2 ∧ Aside0 (impl_distance.l1 kq t104 x7_2 x18_1 t101 (t101.length : Int) x18_1 (rd_L3 t101 x18_1) ((rd_L3 t101 x18_1).length : Int) x25_2 = some r) ∧ Aside0 (kq ≤ k1) ∧ Aside0 (Kd.S (Kd.slice 3 (Kd.int .i64)) 32 w' w.heap.size (fun k_ => some k_ ≠ ((.slice (some ad107) t101.length co7) : Value).ownBlock) v105 t104) ∧ Aside0 (Kd.S (Kd.slice 3 (Kd.int .i64)) 32 w' w.heap.size (fun k_ => some k_ ≠ (v105 : Value).ownBlock) (.slice (some ad107) t101.length co7) t101) ∧ Aside0 (Kd.C (Kd.int .i64) w' A107_0 (rd_L3 t101 x18_1).length (rd_L3 t101 x18_1)) ∧ Aside0 (Below w.heap.size w w'))
    case atStart => exact ⟨(x7_1), (0), tc8_, tc8_, H', ⟨Nat.le_refl _⟩, ⟨tc13_⟩, ⟨tc107_⟩, ⟨tc98_⟩, ⟨tc0_⟩⟩
    case round =>
     clear H'; (try clear c1); (try clear p1); (try clear q1); (try clear hx1); (try clear p2); (try clear c3); (try clear c8); (try clear c8b0); (try clear c9); (try clear c9b0); (try clear c10); (try clear c10b0); (try clear p10); (try clear q10); (try clear hx10); (try clear hx107_0); (try clear p107); (try clear p2); (try clear q107); obtain ⟨x7_2, x25_2, rfl, rfl, HA, HK2, HO_6, HO_16, HR107_0, HB⟩ := hrel
     cases gk with
     | zero => exact absurd HA.out (by simp [impl_distance.l1])
     | succ k2 =>
      have H := HA.out; clear HA; simp only [impl_distance.l1] at H
      replace H := sp_ H; obtain ⟨c11b0, H⟩ | ⟨c11b0, H⟩ := H
      ·replace H := ps_ H; obtain ⟨c12b0, H⟩ := H; replace H := ps_ H; obtain ⟨c13b0, H⟩ := H; replace H := ps_ H; obtain ⟨c14b0, H⟩ := H; replace H := ps_ H; obtain ⟨c15b0, H⟩ := H; replace H := ps_ H; obtain ⟨c16b0, H⟩ := H; obtain ⟨ji17, hji17⟩ : ∃ j_ : Int, (mx (wrap64 ((rd (rd_L3 t101 x18_1) x25_2) - (rd (rd_L3 t104 x18_1) x25_2))) (wrap64 ((rd (rd_L3 t104 x18_1) x25_2) - (rd (rd_L3 t101 x18_1) x25_2)))) = j_ := ⟨_, rfl⟩; replace H : (impl_distance.l1 k2 t104 (wrap64 (x7_2 + (ji17))) x18_1 t101 (t101.length : Int) x18_1 (rd_L3 t101 x18_1) ((rd_L3 t101 x18_1).length : Int) (wrap64 (x25_2 + 1))) = some r := (by first | (rw [hji17] at H; exact H) | (simp only [hji17] at H ⊢; exact H)); have hji17_ : (if (wrap64 ((rd (rd_L3 t101 x18_1) x25_2) - (rd (rd_L3 t104 x18_1) x25_2))) < (wrap64 ((rd (rd_L3 t104 x18_1) x25_2) - (rd (rd_L3 t101 x18_1) x25_2))) then (wrap64 ((rd (rd_L3 t104 x18_1) x25_2) - (rd (rd_L3 t101 x18_1) x25_2))) else (wrap64 ((rd (rd_L3 t101 x18_1) x25_2) - (rd (rd_L3 t104 x18_1) x25_2)))) = ji17 := hji17; have H' := am_ H; clear H; have p108 : 0 ≤ (x25_2 : Int) := od_; have q108 : x25_2 < ((rd_L3 t101 x18_1).length : Int) := od_; obtain ⟨ad108, e108, hx108_0⟩ := Kd.at_int HR107_0.out x25_2 p108 q108; cases e108; (first | replace hx108_0 := (HB.out.cell (World.block_lt_of_cell? w _ hx108_0)).trans hx108_0 | skip); replace p108 := eq_true p108; replace q108 := eq_true q108; obtain ⟨Ao18, co18, eo18⟩ := Kd.S_slice HO_6.out; subst eo18; have p109 : 0 ≤ (x18_1 : Int) := od_; have q109 : x18_1 < (t104.length : Int) := od_; obtain ⟨ad109, A109_0, c109_0, e109, hx109_0, hl109_0, hi109_0⟩ := at_L3 (Kd.S_reads' HO_6.out).2.2 x18_1 p109 q109; cases e109; obtain ⟨ce109, hce109, hMe109, hcc109⟩ := Kd.S_get HO_6.out [] x18_1 p109 (by first | exact q109 | exact od_ | (have e_ := (Kd.S_reads' HO_6.out).1; omega)); obtain ⟨ve109_0, rfl, ge109_0⟩ := hMe109; have hv109_0 := hcc109 0 _ rfl; rw [Nat.add_zero, show ((Kd.slice 3 (Kd.int .i64))).sz = 1 from rfl, Nat.mul_one] at hv109_0; replace hv109_0 := Option.some.inj (hv109_0.symm.trans hx109_0); rw [hv109_0] at ge109_0; have HL109_0 := am_ (show Kd.R (Kd.int .i64) 3 _ _ _ _ (rd_L3 t104 x18_1) from ge109_0); clear hv109_0 ge109_0; clear hcc109 hce109; have HR109_0 := am_ hi109_0; have HC109_0 := am_ hl109_0; clear hi109_0 hl109_0; replace p109 := eq_true p109; replace q109 := eq_true q109; have p110 : 0 ≤ (x25_2 : Int) := od_; have q110 : x25_2 < ((rd_L3 t104 x18_1).length : Int) := od_; obtain ⟨ad110, e110, hx110_0⟩ := Kd.at_int tc96_ x25_2 p110 q110; cases e110; replace p110 := eq_true p110; replace q110 := eq_true q110; have p111 : 0 ≤ (x18_1 : Int) := od_; have q111 : x18_1 < (t104.length : Int) := od_; obtain ⟨ad111, A111_0, c111_0, e111, hx111_0, hl111_0, hi111_0⟩ := at_L3 (Kd.S_reads' HO_6.out).2.2 x18_1 p111 q111; obtain rfl : ad109 = ad111 := (by injection e111); obtain ⟨ce111, hce111, hMe111, hcc111⟩ := Kd.S_get HO_6.out [] x18_1 p111 tc122_; obtain ⟨ve111_0, rfl, ge111_0⟩ := hMe111; have hv111_0 := hcc111 0 _ rfl; rw [Nat.add_zero, show ((Kd.slice 3 (Kd.int .i64))).sz = 1 from rfl, Nat.mul_one] at hv111_0; replace hv111_0 := Option.some.inj (hv111_0.symm.trans hx111_0); rw [hv111_0] at ge111_0; have HL111_0 := am_ (show Kd.R (Kd.int .i64) 3 _ _ _ _ (rd_L3 t104 x18_1) from ge111_0); clear hv111_0 ge111_0; clear hcc111 hce111; have HR111_0 := am_ hi111_0; have HC111_0 := am_ hl111_0; clear hi111_0 hl111_0; replace p111 := eq_true p111; replace q111 := eq_true q111; have ea_ := Option.some.inj (hx109_0.symm.trans hx111_0)
       injection ea_ with ea_ en_ ec_
       subst ea_; subst ec_; clear en_; have p112 : 0 ≤ (x25_2 : Int) := od_; have q112 : x25_2 < ((rd_L3 t104 x18_1).length : Int) := od_; obtain ⟨ad112, e112, hx112_0⟩ := Kd.at_int tc99_ x25_2 p112 q112; cases e112; replace p112 := eq_true p112; replace q112 := eq_true q112; go_wp2
       repeat (go_quiet (fail); try go_wp2)
       go_roundg k2
       case measure => have := HK1.out; have := HK2.out; omega
       case rel => exact ⟨(wrap64 (x7_2 + (ji17))), (wrap64 (x25_2 + 1)), (by first | rfl | (simp; done) | (simp only [← hji17] <;> (first | rfl | simp)) | (simp [*]; done)), tc8_, H', ⟨tc39_⟩, ⟨tc13_⟩, ⟨tc107_⟩, ⟨tc98_⟩, ⟨tc0_⟩⟩
      ·have H' := am_ H; clear H; go_wp2
       repeat (go_quiet (fail); try go_wp2)
       go_roundg k2
       case measure => have := HK1.out; have := HK2.out; omega
       case rel => exact ⟨(x7_2), (wrap64 (x18_1 + 1)), tc8_, tc8_, H', ⟨tc39_⟩, ⟨tc13_⟩, ⟨tc107_⟩, ⟨tc0_⟩⟩
   ·obtain rfl := Option.some.inj H; go_wp2
    repeat (go_quiet (fail); try go_wp2)
    go_ret
    exact ⟨tc9_, tc0_⟩

/-! ### impl_FlipDistance: function 11 -/
def impl_FlipDistance.f (k : Nat) (l0 : Tb_) (l1 : Tb_) : Option (Int × Bool) := (impl_arePair.f k l0 l1).bind fun t101 => (if t101 = true then ((impl_distance.f k l0 l1).bind fun t102 => (some (t102, true))) else (some (0, false)))
theorem impl_FlipDistance.calls (k : Nat) (A0 : Option Addr) (c0 : Nat) (l0 : Tb_) (A1 : Option Addr) (c1 : Nat) (l1 : Tb_) (r1 : Int) (r2 : Bool) (w : World) (hr0 : Kd.C (Kd.slice 3 (Kd.int .i64)) w A0 l0.length l0) (hc0 : l0.length ≤ c0) (hr1 : Kd.C (Kd.slice 3 (Kd.int .i64)) w A1 l1.length l1) (hc1 : l1.length ≤ c1) (h : impl_FlipDistance.f k l0 l1 = some (r1, r2)) :
  Calls Try.prog 11 #[.slice A0 l0.length c0, .slice A1 l1.length c1] w fun e w' => e = .returned (.tuple #[.int .i64 r1, .bool r2]) ∧ Below w.heap.size w w' := by
 have HR0 := am_ hr0; have HC0 := am_ hc0; clear hr0 hc0; have HR1 := am_ hr1; have HC1 := am_ hc1; clear hr1 hc1; have HB := am_ (Below.refl w.heap.size w); (try unfold impl_FlipDistance.f at h); have H := h; clear h; replace H := bd_ H; obtain ⟨t101, A3, H⟩ := H; (try dsimp only at H)
 by_cases c4 : t101 = true
 ·subst c4; have H1 : ((impl_distance.f k l0 l1).bind fun t102 => (some (t102, true))) = some (r1, r2) := tc21_; clear H; have H := H1; clear H1; replace H := bd_ H; obtain ⟨t102, A5, H⟩ := H; (try dsimp only at H); simp only [Option.some.injEq, Prod.mk.injEq] at H; obtain ⟨rfl, rfl⟩ := H; go_enter Try.func11, Try.ntmps11
  go_wp2_with (first | (refine gc_ (some 8) Try.func35 #[.slice A0 l0.length c0, .slice A1 l1.length c1] ?_; (with_reducible refine (impl_arePair.calls k _ _ l0 _ _ l1 true _ ?side1 ?side2 ?side3 ?side4 A3.out).mono ?_); (case side1 => exact tc11_); (case side2 => exact HC0.out); (case side3 => exact tc62_); (case side4 => exact HC1.out); rintro e w6 ⟨rfl, hb⟩; refine ⟨_, rfl, ?_⟩; replace HB := am_ (below_step tc0_ hb); (try clear hb)) | (refine gc_ (some 12) Try.func36 #[.slice A0 l0.length c0, .slice A1 l1.length c1] ?_; (with_reducible refine (impl_distance.calls k _ _ l0 _ _ l1 t102 _ ?side1 ?side2 ?side3 ?side4 A5.out).mono ?_); (case side1 => exact tc20_); (case side2 => exact HC0.out); (case side3 => exact tc18_); (case side4 => exact HC1.out); rintro e w7 ⟨rfl, hb⟩; refine ⟨_, rfl, ?_⟩; replace HB := am_ (below_step tc0_ hb); (try clear hb)))
  go_ret2
  exact ⟨tc9_, tc0_⟩
 ·replace c4 := Bool.eq_false_iff.mpr c4; subst c4; have H1 : (some (0, false)) = some (r1, r2) := tc14_; clear H; have H := H1; clear H1; simp only [Option.some.injEq, Prod.mk.injEq] at H; obtain ⟨rfl, rfl⟩ := H; go_enter Try.func11, Try.ntmps11
  go_wp2_with (first | (refine gc_ (some 8) Try.func35 #[.slice A0 l0.length c0, .slice A1 l1.length c1] ?_; (with_reducible refine (impl_arePair.calls k _ _ l0 _ _ l1 false _ ?side1 ?side2 ?side3 ?side4 A3.out).mono ?_); (case side1 => exact tc11_); (case side2 => exact HC0.out); (case side3 => exact tc62_); (case side4 => exact HC1.out); rintro e w8 ⟨rfl, hb⟩; refine ⟨_, rfl, ?_⟩; replace HB := am_ (below_step tc0_ hb); (try clear hb)))
  go_ret2
  exact ⟨tc9_, tc0_⟩

/-! ### impl_isCell: function 73 -/
def impl_isCell.f (a0 : Int) (a1 : Int) (a2 : Int) : Option (Bool) := (impl_within.f a1 1 (wrap64 (a0 - 1))).bind fun t101 => (if t101 = true then ((impl_within.f a2 1 (wrap64 (a0 - 1))).bind fun t102 => (some t102)) else (some false))
theorem impl_isCell.calls (a0 : Int) (a1 : Int) (a2 : Int) (r : Bool) (w : World) (h : impl_isCell.f a0 a1 a2 = some r) :
  Calls Try.prog 73 #[.int .i64 a0, .int .i64 a1, .int .i64 a2] w fun e w' => e = .returned (.bool r) ∧ Drawn0 w w' := by
 (try unfold impl_isCell.f at h); have H := h; clear h; replace H := bd_ H; obtain ⟨t101, A4, H⟩ := H; (try dsimp only at H)
 by_cases c5 : t101 = true
 ·subst c5; have H1 : ((impl_within.f a2 1 (wrap64 (a0 - 1))).bind fun t102 => (some t102)) = some r := tc21_; clear H; have H := H1; clear H1; replace H := bd_ H; obtain ⟨t102, A6, H⟩ := H; (try dsimp only at H); obtain rfl := Option.some.inj H; go_enter Try.func73, Try.ntmps73
  go_wp2_with (first | (refine gc_ (some 10) Try.func56 #[.int .i64 a1, .int .i64 1, .int .i64 (wrap64 (a0 - 1))] ?_; (with_reducible refine (impl_within.calls a1 1 (wrap64 (a0 - 1)) true _ A4.out).mono ?_); rintro e w' ⟨rfl, ⟨nd, rfl⟩⟩; refine ⟨_, rfl, ?_⟩) | (go_at_call 56; (with_reducible refine (impl_within.calls a2 1 (wrap64 (a0 - 1)) t102 _ A6.out).mono ?_); rintro e w' ⟨rfl, ⟨nd, rfl⟩⟩))
  go_ret
  exact ⟨tc8_, tc12_⟩
 ·replace c5 := Bool.eq_false_iff.mpr c5; subst c5; have H1 : (some false) = some r := tc14_; clear H; have H := H1; clear H1; obtain rfl := Option.some.inj H; go_enter Try.func73, Try.ntmps73
  go_wp2_with (first | (refine gc_ (some 10) Try.func56 #[.int .i64 a1, .int .i64 1, .int .i64 (wrap64 (a0 - 1))] ?_; (with_reducible refine (impl_within.calls a1 1 (wrap64 (a0 - 1)) false _ A4.out).mono ?_); rintro e w' ⟨rfl, ⟨nd, rfl⟩⟩; refine ⟨_, rfl, ?_⟩))
  go_ret
  exact ⟨tc8_, tc12_⟩

/-! ### impl_areCells_1: function 72 -/
def impl_areCells_1.f (l0 : List Int) (a1_0 : Int) : Option (Bool) := if (l0.length : Int) = 2 then (if 0 < (l0.length : Int) then (if 1 < (l0.length : Int) then ((impl_isCell.f a1_0 (rd l0 0) (rd l0 1)).bind fun t103 => (some (!t103))) else (none)) else (none)) else (some true)
theorem impl_areCells_1.calls (A0 : Option Addr) (c0 : Nat) (l0 : List Int) (B1 : Nat) (a1_0 : Int) (r : Bool) (w : World) (hr0 : Kd.C (Kd.int .i64) w A0 l0.length l0) (hc0 : l0.length ≤ c0) (hb1 : w.heap[B1]? = some (.cells #[.int .i64 a1_0] 3 (0, 0))) (h : impl_areCells_1.f l0 a1_0 = some r) :
  Calls Try.prog 72 #[.slice A0 l0.length c0, .pointer (some ⟨B1, 0, none⟩)] w fun e w' => e = .returned (.bool r) ∧ Drawn0 w w' := by
 have HR0 := am_ hr0; have HC0 := am_ hc0; clear hr0 hc0; have BK61 := am_ hb1; clear hb1; (try unfold impl_areCells_1.f at h); have H := h; clear h
 replace H := pn_ H; obtain ⟨c3, H⟩ | ⟨c3, H⟩ := H
 ·have c3b0 : ((l0.length : Int) == 2) = true := beq_iff_eq.mpr c3; have c3b1 : ((l0.length : Int) != 2) = false := bne_eq_false_iff_eq.mpr c3; clear c3; replace H := pp_ H; obtain ⟨c4, H⟩ := H; have c4b0 : decide (0 < (l0.length : Int)) = true := decide_eq_true c4; have c4b1 : decide (0 < l0.length) = true := decide_eq_true (by omega); clear c4; replace H := pp_ H; obtain ⟨c5, H⟩ := H; have c5b0 : decide (1 < (l0.length : Int)) = true := decide_eq_true c5; have c5b1 : decide (1 < l0.length) = true := decide_eq_true (by omega); clear c5; replace H := bd_ H; obtain ⟨t103, A6, H⟩ := H; (try dsimp only at H); obtain rfl := Option.some.inj H; have hcz7_0 : w.cell? ⟨B1, 0, none⟩ = some (.int .i64 a1_0) := (blk_cell BK61.out 0).trans rfl; have hfz7_0 := blk_frozen BK61.out 0; have p101 : 0 ≤ (0 : Int) := (by omega); have q101 : 0 < (l0.length : Int) := od_; obtain ⟨ad101, e101, hx101_0⟩ := Kd.at_int HR0.out 0 p101 q101; cases e101; have qi101 : (0 < l0.length) = True := eq_true (by omega); (try rw [show ((0 : Int)).toNat = 0 from rfl] at hx101_0); (try rw [Addr.add_zero'] at hx101_0); replace p101 := eq_true p101; replace q101 := eq_true q101; have p102 : 0 ≤ (1 : Int) := (by omega); have q102 : 1 < (l0.length : Int) := od_; obtain ⟨ad102, e102, hx102_0⟩ := Kd.at_int HR0.out 1 p102 q102; obtain rfl : ad101 = ad102 := (by injection e102); (try simp only [show (1 : Int).toNat = 1 from rfl, Nat.reduceMul, Nat.reduceEqDiff, Go.Addr.add, ↓reduceIte] at hx102_0); have qi102 : (1 < l0.length) = True := eq_true (by omega); (try rw [show ((1 : Int)).toNat = 1 from rfl] at hx102_0); replace p102 := eq_true p102; replace q102 := eq_true q102; go_enter Try.func72, Try.ntmps72
  go_wp2_with (first | (go_at_call 73; (with_reducible refine (impl_isCell.calls a1_0 (rd l0 0) (rd l0 1) t103 _ A6.out).mono ?_); rintro e w' ⟨rfl, ⟨nd, rfl⟩⟩; (try first | exact ⟨rfl, _, World.drewN_drewN _ _ _⟩ | exact ⟨rfl, _, Eq.trans (World.drewN_drewN _ _ _) (congrArg (World.drewN _) (Nat.add_assoc _ _ _))⟩)))
  repeat (go_quiet (first | (go_at_call 73; (with_reducible refine (impl_isCell.calls a1_0 (rd l0 0) (rd l0 1) t103 _ A6.out).mono ?_); rintro e w' ⟨rfl, ⟨nd, rfl⟩⟩; (try first | exact ⟨rfl, _, World.drewN_drewN _ _ _⟩ | exact ⟨rfl, _, Eq.trans (World.drewN_drewN _ _ _) (congrArg (World.drewN _) (Nat.add_assoc _ _ _))⟩))); try go_wp2_with (first | (go_at_call 73; (with_reducible refine (impl_isCell.calls a1_0 (rd l0 0) (rd l0 1) t103 _ A6.out).mono ?_); rintro e w' ⟨rfl, ⟨nd, rfl⟩⟩; (try first | exact ⟨rfl, _, World.drewN_drewN _ _ _⟩ | exact ⟨rfl, _, Eq.trans (World.drewN_drewN _ _ _) (congrArg (World.drewN _) (Nat.add_assoc _ _ _))⟩))))
  go_ret
  exact ⟨tc8_, tc12_⟩
 ·have c3b0 : ((l0.length : Int) == 2) = false := beq_eq_false_iff_ne.mpr c3; have c3b1 : ((l0.length : Int) != 2) = true := bne_iff_ne.mpr c3; obtain rfl := Option.some.inj H; go_enter Try.func72, Try.ntmps72; go_wp2
  repeat (go_quiet (fail); try go_wp2)
  go_ret
  exact ⟨tc8_, tc12_⟩

end Go.Proofs.Ytgmeijbomnijiaa.X
