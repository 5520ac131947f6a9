-- Written by a program of this session (wip/xprint.py) that drives the kit's print; the contracts of what it does not take are this session's own.
import Derived.Test.YtgmeijbomnijiaaCFnColoursFlipx0
import Derived.Test.YtgmeijbomnijiaaCFnColoursFlipx1
import Derived.Test.YtgmeijbomnijiaaCFnColoursFlipx2
import Derived.Test.YtgmeijbomnijiaaCFnColoursFlipx3
import Derived.Test.YtgmeijbomnijiaaCFnColoursFlipx4
namespace Go.Proofs.Ytgmeijbomnijiaa.X
open Go.RowKit Go.Proofs.YtgmeijbomnijiaaW.PrintWords Go.Proofs.YtgmeijbomnijiaaW.PrintLast Go.Proofs.YtgmeijbomnijiaaW.PrintMore
set_option maxHeartbeats 8000000
set_option maxRecDepth 100000
attribute [local go_sem] max2_int min2_int max_two min_two max_three min_three max_four min_four   -- for this text's walks alone
set_option linter.unusedVariables false
set_option linter.unusedSimpArgs false

/-! ### impl_areCells: function 37 -/
def impl_areCells.f (k : Nat) (a0 : Int) (l1 : Tb_) : Option (Bool) := if (l1.length : Int) ≤ 200 then ((slices_ContainsFunc_int_int.f k l1 (fun x0_ => impl_areCells_1.f x0_ a0)).bind fun t102 => (some (!t102))) else (some false)
theorem impl_areCells.calls (k : Nat) (a0 : Int) (A1 : Option Addr) (c1 : Nat) (l1 : Tb_) (r : Bool) (w : World) (hr1 : Kd.C (Kd.slice 3 (Kd.int .i64)) w A1 l1.length l1) (hc1 : l1.length ≤ c1) (h : impl_areCells.f k a0 l1 = some r) :
  Calls Try.prog 37 #[.int .i64 a0, .slice A1 l1.length c1] w fun e w' => e = .returned (.bool r) ∧ Below w.heap.size w w' := by
 have HR1 := am_ hr1; have HC1 := am_ hc1; clear hr1 hc1; have HB := am_ (Below.refl w.heap.size w); (try unfold impl_areCells.f at h); have H := h; clear h
 replace H := pn_ H; obtain ⟨c3, H⟩ | ⟨c3, H⟩ := H
 ·have c3b0 : decide ((l1.length : Int) ≤ 200) = true := decide_eq_true c3; have c3b1 : decide (l1.length ≤ 200) = true := decide_eq_true (by omega); clear c3; replace H := bd_ H; obtain ⟨t102, A4, H⟩ := H; (try dsimp only at H); obtain rfl := Option.some.inj H; go_enter Try.func37, Try.ntmps37
  go_wp2_with (first | ((with_reducible refine gate_dst (N := 2) rfl ?_); refine box_event ?hg (N := 2) ?hd (cs := #[.int .i64 a0]) (t := 3) ?hr ?_; (case hd => rfl); (case hg => rfl); (case hr => exact tc26_); intro gb101 hg w5 hbox hb; have BK101 := am_ (hbox); have GW101 := am_ ((by rw [hg]; exact (below_size tc0_) : w.heap.size ≤ gb101)); have GE101 := am_ ((by rw [hg]; exact (below_size tc0_) : w.heap.size ≤ gb101)); replace HB := am_ (below_step tc0_ hb); clear hb hbox hg) | (go_at_call 71; (with_reducible refine (slices_ContainsFunc_int_int.calls k _ _ l1 _ _ (fun x0_ => impl_areCells_1.f x0_ a0) t102 _ ?side1 ?side2 ?side3 A4.out).mono ?_); (case side1 => exact tc18_); (case side2 => exact HC1.out); (case side3 => refine ⟨enters_of Try.func72 (by kernel_rfl) rfl, fun W_ hW_ x0_ v0_ hK0_ r_ hr_ => ?_⟩; obtain ⟨A0_, c0_, e0_, hl0_, hC0_⟩ := hK0_; cases e0_; refine (impl_areCells_1.calls A0_ c0_ x0_ _ a0 r_ W_ hC0_ hl0_ ?cb1 hr_).mono ?_; (case cb1 => exact tc64_); exact fun _ _ h_ => ⟨h_.1, h_.2.below⟩); rintro e w6 ⟨rfl, hb⟩; replace BK101 := am_ (blk_below (g := gb101) (o := .cells #[.int .i64 a0] 3 (0, 0)) tc28_ hb); replace HB := am_ (below_step tc16_ hb); (try clear hb)))
  go_ret
  exact ⟨tc9_, tc16_⟩
 ·have c3b0 : decide ((l1.length : Int) ≤ 200) = false := decide_eq_false c3; have c3b1 : decide (l1.length ≤ 200) = false := decide_eq_false (by omega); clear c3; obtain rfl := Option.some.inj H; go_enter Try.func37, Try.ntmps37
  go_wp2_with (first | ((with_reducible refine gate_dst (N := 2) rfl ?_); refine box_event ?hg (N := 2) ?hd (cs := #[.int .i64 a0]) (t := 3) ?hr ?_; (case hd => rfl); (case hg => rfl); (case hr => exact tc26_); intro gb101 hg w7 hbox hb; have BK101 := am_ (hbox); have GW101 := am_ ((by rw [hg]; exact (below_size tc0_) : w.heap.size ≤ gb101)); have GE101 := am_ ((by rw [hg]; exact (below_size tc0_) : w.heap.size ≤ gb101)); replace HB := am_ (below_step tc0_ hb); clear hb hbox hg))
  go_ret
  exact ⟨tc9_, tc16_⟩

/-! ### impl_FollowFlips: function 12 -/
mutual
def impl_FollowFlips.j0 : Nat → Tb_ → Tb_ → Bool → Option (Tb_ × Bool)
 | 0, _, _, _ => none
 | k + 1, x0, x1, x19 => if x19 = true then (some (([] : Tb_), false)) else ((impl_heights.f k x0).bind fun t103 => (impl_FollowFlips.l0 k t103 x1 (x1.length : Int) 0))
def impl_FollowFlips.l0 : Nat → Tb_ → Tb_ → Int → Int → Option (Tb_ × Bool)
 | 0, _, _, _, _ => none
 | k + 1, x6, x22, x23, x24 => if x24 < x23 then (if 0 ≤ x24 then (if x24 < (x22.length : Int) then (if 0 < ((rd_L3 x22 x24).length : Int) then (if 1 < ((rd_L3 x22 x24).length : Int) then ((impl_way.f k x6 (rd (rd_L3 x22 x24) 0) (rd (rd_L3 x22 x24) 1)).bind fun t109 => (if t109 = 0 then (some (([] : Tb_), false)) else (if 0 ≤ (rd (rd_L3 x22 x24) 0) then (if (rd (rd_L3 x22 x24) 0) < (x6.length : Int) then (if 0 ≤ (rd (rd_L3 x22 x24) 1) then (if (rd (rd_L3 x22 x24) 1) < ((rd_L3 x6 (rd (rd_L3 x22 x24) 0)).length : Int) then (impl_FollowFlips.l0 k (x6.set ((rd (rd_L3 x22 x24) 0) : Int).toNat ((rd_L3 x6 (rd (rd_L3 x22 x24) 0)).set ((rd (rd_L3 x22 x24) 1) : Int).toNat (wrap64 ((rd (rd_L3 x6 (rd (rd_L3 x22 x24) 0)) (rd (rd_L3 x22 x24) 1)) + t109)))) x22 x23 (wrap64 (x24 + 1))) else (none)) else (none)) else (none)) else (none)))) else (none)) else (none)) else (none)) else (none)) else ((impl_fromHeights.f k x6).bind fun t117 => (some (t117, true)))
end
def impl_FollowFlips.f (k : Nat) (l0 : Tb_) (l1 : Tb_) : Option (Tb_ × Bool) := (impl_IsSignMatrix.f k l0).bind fun t101 => (if t101 = true then ((impl_areCells.f k (l0.length : Int) l1).bind fun t102 => (impl_FollowFlips.j0 k l0 l1 (!t102))) else (impl_FollowFlips.j0 k l0 l1 true))
def impl_FollowFlips.T7 : Bool × List (List Nat × List Nat) := (true, [([], []), ([], []), ([1], [1]), ([2], [2]), ([], []), ([4], [4]), ([5], [5]), ([0, 3, 6], [0, 3, 6]), ([7, 7, 0, 1, 2, 3, 4, 5, 6, 7], [7])])
def impl_FollowFlips.B7 : List Nat := [0, 0, 2, 6, 0, 16, 48, 127, 255]
theorem impl_FollowFlips.tab7 : rtab .any (opsOf Try.f12 7) = impl_FollowFlips.T7 := by kernel_rfl
theorem impl_FollowFlips.bits7 : waitsOk impl_FollowFlips.T7.2 impl_FollowFlips.B7 = true := by kernel_rfl
def impl_FollowFlips.T10 : Bool × List (List Nat × List Nat) := (true, [([], []), ([], []), ([1], [1]), ([2], [2]), ([0, 3], [0, 3]), ([4], [4]), ([], []), ([6], [6]), ([7], [7]), ([5, 8], [5, 8]), ([9], [9]), ([], []), ([10, 11], [10, 11]), ([5, 8, 0, 1, 2, 3, 4, 5, 6, 7, 8, 9, 10, 11, 12], [5, 8]), ([13, 12, 0, 1, 2, 3, 4, 5, 6, 7, 8, 9, 10, 11, 12], [12, 13])])
def impl_FollowFlips.B10 : List Nat := [0, 0, 2, 6, 15, 31, 0, 64, 192, 511, 1023, 0, 4095, 8191, 16383]
theorem impl_FollowFlips.tab10 : rtab .any (opsOf Try.f12 10) = impl_FollowFlips.T10 := by kernel_rfl
theorem impl_FollowFlips.bits10 : waitsOk impl_FollowFlips.T10.2 impl_FollowFlips.B10 = true := by kernel_rfl
theorem impl_FollowFlips.calls (k : Nat) (A0 : Option Addr) (c0 : Nat) (l0 : Tb_) (A1 : Option Addr) (c1 : Nat) (l1 : Tb_) (r1 : Tb_) (r2 : Bool) (w : World) (hr0 : Kd.C (Kd.slice 3 (Kd.int .i64)) w A0 l0.length l0) (hc0 : l0.length ≤ c0) (hr1 : Kd.C (Kd.slice 3 (Kd.int .i64)) w A1 l1.length l1) (hc1 : l1.length ≤ c1) (h : impl_FollowFlips.f k l0 l1 = some (r1, r2)) :
  Calls Try.prog 12 #[.slice A0 l0.length c0, .slice A1 l1.length c1] w fun e w' => ∃ v0_ : Value, e = .returned (.tuple #[v0_, .bool r2]) ∧ Kd.S (Kd.slice 3 (Kd.int .i64)) 32 w' w.heap.size (fun _ => True) v0_ r1 ∧ Below w.heap.size w w' := by
 have HR0 := am_ hr0; have HC0 := am_ hc0; clear hr0 hc0; have HR1 := am_ hr1; have HC1 := am_ hc1; clear hr1 hc1; have HB := am_ (Below.refl w.heap.size w); (try unfold impl_FollowFlips.f at h); have H := h; clear h; have HC3 := am_ H; clear H; go_enter Try.func12, Try.ntmps12
 go_upto_region 1 with (fail)
 go_cut [19] (fun v19 wc => ∃ (kq : Nat) (x19_2 : Bool), v19 = .bool x19_2 ∧ Aside0 (impl_FollowFlips.j0 kq l0 l1 x19_2 = some (r1, r2)) ∧ Aside0 (kq ≤ k) ∧ Aside0 (Below w.heap.size w wc))
 case first =>
  have H := HC3.out; clear HC3; replace H := bd_ H; obtain ⟨t101, A4, H⟩ := H; (try dsimp only at H)
  by_cases c5 : t101 = true
  ·subst c5; have H1 : ((impl_areCells.f k (l0.length : Int) l1).bind fun t102 => (impl_FollowFlips.j0 k l0 l1 (!t102))) = some (r1, r2) := tc21_; clear H; have H := H1; clear H1; replace H := bd_ H; obtain ⟨t102, A6, H⟩ := H; (try dsimp only at H); have H' := am_ H; clear H
   go_wp2_with (first | (refine gc_ (some 11) Try.func21 #[.slice A0 l0.length c0] ?_; (with_reducible refine (impl_IsSignMatrix.calls k _ _ l0 true _ ?side1 ?side2 A4.out).mono ?_); (case side1 => exact tc20_); (case side2 => exact HC0.out); rintro e w7 ⟨rfl, hb⟩; refine ⟨_, rfl, ?_⟩; replace HB := am_ (below_step tc0_ hb); (try clear hb)) | (go_at_call 37; (with_reducible refine (impl_areCells.calls k (l0.length : Int) _ _ l1 t102 _ ?side1 ?side2 A6.out).mono ?_); (case side1 => exact tc18_); (case side2 => exact HC1.out); rintro e w8 ⟨rfl, hb⟩; replace HB := am_ (below_step tc0_ hb); (try clear hb hb2 hk hi)))
   go_meet
   case rel => exact ⟨_, (!t102), tc8_, H', ⟨tc127_⟩, ⟨tc0_⟩⟩
  ·replace c5 := Bool.eq_false_iff.mpr c5; subst c5; have H1 : (impl_FollowFlips.j0 k l0 l1 true) = some (r1, r2) := tc14_; clear H; have H := H1; clear H1; have H' := am_ H; clear H
   go_wp2_with (first | (refine gc_ (some 11) Try.func21 #[.slice A0 l0.length c0] ?_; (with_reducible refine (impl_IsSignMatrix.calls k _ _ l0 false _ ?side1 ?side2 A4.out).mono ?_); (case side1 => exact tc20_); (case side2 => exact HC0.out); rintro e w9 ⟨rfl, hb⟩; refine ⟨_, rfl, ?_⟩; replace HB := am_ (below_step tc0_ hb); (try clear hb)))
   go_meet
   case rel => exact ⟨_, (true), tc8_, H', ⟨tc127_⟩, ⟨tc0_⟩⟩
 case rest =>
  clear HC3; (try clear c1); (try clear c2); (try clear p2); (try clear c5); obtain ⟨kq, x19_2, rfl, HA, HJ2, HB⟩ := hcut
  cases kq with
  | zero => exact absurd HA.out (by simp [impl_FollowFlips.j0])
  | succ kj2 =>
   have H := HA.out; clear HA; simp only [impl_FollowFlips.j0] at H
   by_cases c10 : x19_2 = true
   ·subst c10; have H1 : (some (([] : Tb_), false)) = some (r1, r2) := tc21_; clear H; have H := H1; clear H1; simp only [Option.some.injEq, Prod.mk.injEq] at H; obtain ⟨rfl, rfl⟩ := H; go_wp2
    go_ret2
    exact ⟨_, tc9_, tc17_, tc0_⟩
   ·replace c10 := Bool.eq_false_iff.mpr c10; subst c10; have H1 : ((impl_heights.f kj2 l0).bind fun t103 => (impl_FollowFlips.l0 kj2 t103 l1 (l1.length : Int) 0)) = some (r1, r2) := tc14_; clear H; have H := H1; clear H1; replace H := bd_ H; obtain ⟨t103, A11, H⟩ := H; (try dsimp only at H); have H' := am_ H; clear H
    go_wp2_with (first | (refine gc_ (some 21) Try.func27 #[.slice A0 l0.length c0] ?_; (with_reducible refine (impl_heights.calls kj2 _ _ l0 t103 _ ?side1 ?side2 A11.out).mono ?_); (case side1 => exact tc20_); (case side2 => exact HC0.out); rintro e w12 ⟨v104, rfl, ho0, hb⟩; refine ⟨_, rfl, ?_⟩; have HO105 := am_ (Kd.S_lower ho0 (below_size tc0_)); replace HB := am_ (below_step tc0_ hb); (try clear hb ho0)))
    go_loopg [24] kj2 (fun kq v24 w' => ∃ (x6_2 : Tb_) (x24_2 : Int), v24 = .int .i64 x24_2 ∧ Aside0 (impl_FollowFlips.l0 kq x6_2 l1 (l1.length : Int) x24_2 = some (r1, r2)) ∧ Aside0 (kq ≤ kj2) ∧ Aside0 (Kd.S (Kd.slice 3 (Kd.int .i64)) 32 w' w.heap.size (fun _ => True) v104 x6_2) ∧ Aside0 (Below w.heap.size w w'))
    case atStart => exact ⟨(t103), (0), tc8_, H', ⟨Nat.le_refl _⟩, ⟨tc87_⟩, ⟨tc0_⟩⟩
    case round =>
     clear H'; (try clear c1); (try clear c2); (try clear p2); (try clear c5); (try clear c10); (try clear c12); (try clear p2); obtain ⟨x6_2, x24_2, rfl, HA, HK2, HO_6, HB⟩ := hrel
     cases gk with
     | zero => exact absurd HA.out (by simp [impl_FollowFlips.l0])
     | succ k2 =>
      have H := HA.out; clear HA; simp only [impl_FollowFlips.l0] at H
      replace H := sp_ H; obtain ⟨c13b0, H⟩ | ⟨c13b0, H⟩ := H
      ·replace H := ps_ H; obtain ⟨c14b0, H⟩ := H; replace H := ps_ H; obtain ⟨c15b0, H⟩ := H; replace H := pp_ H; obtain ⟨c16, H⟩ := H; have c16b0 : decide (0 < ((rd_L3 l1 x24_2).length : Int)) = true := decide_eq_true c16; have c16b1 : decide (0 < (rd_L3 l1 x24_2).length) = true := decide_eq_true (by omega); clear c16; replace H := pp_ H; obtain ⟨c17, H⟩ := H; have c17b0 : decide (1 < ((rd_L3 l1 x24_2).length : Int)) = true := decide_eq_true c17; have c17b1 : decide (1 < (rd_L3 l1 x24_2).length) = true := decide_eq_true (by omega); clear c17; replace H := bd_ H; obtain ⟨t109, A18, H⟩ := H; (try dsimp only at H)
       replace H := pn_ H; obtain ⟨c19, H⟩ | ⟨c19, H⟩ := H
       ·have c19b0 : (t109 == 0) = true := beq_iff_eq.mpr c19; have c19b1 : (t109 != 0) = false := bne_eq_false_iff_eq.mpr c19; clear c19; simp only [Option.some.injEq, Prod.mk.injEq] at H; obtain ⟨rfl, rfl⟩ := H; have p106 : 0 ≤ (x24_2 : Int) := od_; have q106 : x24_2 < (l1.length : Int) := od_; obtain ⟨ad106, A106_0, c106_0, e106, hx106_0, hl106_0, hi106_0⟩ := at_L3 HR1.out x24_2 p106 q106; cases e106; replace hx106_0 := (HB.out.cell (World.block_lt_of_cell? w _ hx106_0)).trans hx106_0; have HR106_0 := am_ hi106_0; have HC106_0 := am_ hl106_0; clear hi106_0 hl106_0; replace p106 := eq_true p106; replace q106 := eq_true q106
        try go_wp2
        replace HO_6 := am_ (Kd.S_drew HO_6.out); replace HB := am_ (below_drew1 HB.out); have p107 : 0 ≤ (0 : Int) := (by omega); have q107 : 0 < ((rd_L3 l1 x24_2).length : Int) := od_; obtain ⟨ad107, e107, hx107_0⟩ := Kd.at_int HR106_0.out 0 p107 q107; have hw107_0 := hx107_0; (try rw [show ((0 : Int)).toNat = 0 from rfl] at hw107_0); (try rw [show 0 * 1 = 0 from rfl] at hw107_0); (try rw [Addr.add_zero'] at hw107_0); cases e107; have qi107 : (0 < (rd_L3 l1 x24_2).length) = True := eq_true (by omega); (try rw [show ((0 : Int)).toNat = 0 from rfl] at hx107_0); (try rw [Addr.add_zero'] at hx107_0); replace hx107_0 := (HB.out.cell (World.block_lt_of_cell? w _ hx107_0)).trans hx107_0; replace p107 := eq_true p107; replace q107 := eq_true q107; have p108 : 0 ≤ (1 : Int) := (by omega); have q108 : 1 < ((rd_L3 l1 x24_2).length : Int) := od_; obtain ⟨ad108, e108, hx108_0⟩ := Kd.at_int HR106_0.out 1 p108 q108; have hw108_0 := hx108_0; (try rw [show ((1 : Int)).toNat = 1 from rfl] at hw108_0); (try rw [show 1 * 1 = 1 from rfl] at hw108_0); (try simp only [Nat.reduceMul, Nat.reduceEqDiff, Go.Addr.add, ↓reduceIte] at hw108_0); obtain rfl : ad107 = ad108 := (by injection e108); (try simp only [show (1 : Int).toNat = 1 from rfl, Nat.reduceMul, Nat.reduceEqDiff, Go.Addr.add, ↓reduceIte] at hx108_0); have qi108 : (1 < (rd_L3 l1 x24_2).length) = True := eq_true (by omega); (try rw [show ((1 : Int)).toNat = 1 from rfl] at hx108_0); replace hx108_0 := (HB.out.cell (World.block_lt_of_cell? w _ hx108_0)).trans hx108_0; replace p108 := eq_true p108; replace q108 := eq_true q108; obtain ⟨Ao21, co21, eo21⟩ := Kd.S_slice HO_6.out; (first | subst eo21 | (injection eo21 with f1_ f2_ f3_; have f4_ := f1_.symm; have f5_ := f3_.symm; clear f1_ f2_ f3_; subst f4_; subst f5_)); refine start_ (n := 9) (S := fun w' => w'.cell? ad107 = some (.int .i64 (rd (rd_L3 l1 x24_2) 0)) ∧ w'.cell? ⟨ad107.block, ad107.off + 1, none⟩ = some (.int .i64 (rd (rd_L3 l1 x24_2) 1))) (ds := []) #[F,F,F,F,F,F,F,F,F] (by kernel_rfl) rfl rfl ⟨((HB.out.cell (World.block_lt_of_cell? w _ hw107_0)).trans hw107_0), ((HB.out.cell (World.block_lt_of_cell? w _ hw108_0)).trans hw108_0)⟩ (fun hHeld => ?_); refine with_tabW impl_FollowFlips.tab7 impl_FollowFlips.bits7 (fun HT_ HW_ => ?_); generalize wr.drew = w20 at HO_6 HB hx107_0 hx108_0 hHeld ⊢; refine pure_ (i := 0) (N := some 28) #[T,F,F,F,F,F,F,F,F] rfl rfl an_ hq_ yi_ nm_ ?_; refine pure_ (i := 1) (N := some 29) #[T,T,F,F,F,F,F,F,F] rfl rfl an_ hq_ yi_ nm_ ?_; refine pure_ (i := 2) (N := some 30) #[T,T,T,F,F,F,F,F,F] rfl rfl an_ hq_ yi_ nm_ ?_; refine pure_ (i := 4) (N := some 32) #[T,T,T,F,T,F,F,F,F] rfl rfl an_ hq_ yi_ nm_ ?_; refine pure_ (i := 5) (N := some 33) #[T,T,T,F,T,T,F,F,F] rfl rfl an_ hq_ yi_ nm_ ?_; refine take_ (i := 3) (N := some 31) #[T,T,T,T,T,T,F,F,F] rfl rfl av_ hq_ yj2_ hHeld nm_ ?_; refine take_ (i := 6) (N := some 34) #[T,T,T,T,T,T,T,F,F] rfl rfl av_ hq_ yj2_ hHeld nm_ ?_; refine one_ (i := 7) (N := some 35) #[T,T,T,T,T,T,T,T,F] rfl rfl (one_of HT_.out (by kernel_rfl)) (by decide) (fun K hK => ?_); refine goes_ Try.func31 (by kernel_rfl) rfl #[.slice Ao21 x6_2.length co21, .int .i64 (rd (rd_L3 l1 x24_2) 0), .int .i64 (rd (rd_L3 l1 x24_2) 1)] (by rfl) rfl rfl tc1_ ?_
        with_reducible refine (impl_way.calls k2 _ _ x6_2 (rd (rd_L3 l1 x24_2) 0) (rd (rd_L3 l1 x24_2) 1) t109 _ ?side1 ?side2 A18.out).mono ?_
        (case side1 => exact tc44_)
        (case side2 => exact tc136_)
        rintro e w22 ⟨rfl, hb⟩; refine ⟨_, rfl, ?_⟩; replace HO_6 := am_ (Kd.S_below tc13_ hb); replace HB := am_ (below_step tc0_ hb); (try clear hb); (try clear hb2); (try clear hk); (try clear hi); refine hK.out _ _ ⟨((HB.out.cell (World.block_lt_of_cell? w _ hw107_0)).trans hw107_0), ((HB.out.cell (World.block_lt_of_cell? w _ hw108_0)).trans hw108_0)⟩ (fun hHeld => ?_); clear hK K; refine norm_ (a' := ?_) ?_ ?_; rotate_left
        ·show Act.put _ (some 35) _ = _
         simp only [Act.put, List.setIfInBounds_toArray, List.set_cons_zero, List.set_cons_succ, i64_w, i32_w]
         rfl
        refine pure_ (i := 8) (N := some 9) #[T,T,T,T,T,T,T,T,T] rfl rfl an_ hq_ yi_ nm_ ?_; refine done_ (done_of HT_.out (by kernel_rfl)) ?_
        try go_wp2
        go_ret2
        exact ⟨_, tc9_, tc17_, tc0_⟩
       ·have c19b0 : (t109 == 0) = false := beq_eq_false_iff_ne.mpr c19; have c19b1 : (t109 != 0) = true := bne_iff_ne.mpr c19; replace H := ps_ H; obtain ⟨c23b0, H⟩ := H; replace H := ps_ H; obtain ⟨c24b0, H⟩ := H; replace H := ps_ H; obtain ⟨c25b0, H⟩ := H; replace H := ps_ H; obtain ⟨c26b0, H⟩ := H; obtain ⟨y114, hy114⟩ : ∃ y_ : List Int, y_ = ((rd_L3 x6_2 (rd (rd_L3 l1 x24_2) 0)).set ((rd (rd_L3 l1 x24_2) 1) : Int).toNat (wrap64 ((rd (rd_L3 x6_2 (rd (rd_L3 l1 x24_2) 0)) (rd (rd_L3 l1 x24_2) 1)) + t109))) := ⟨_, rfl⟩; replace H : (impl_FollowFlips.l0 k2 (x6_2.set ((rd (rd_L3 l1 x24_2) 0) : Int).toNat y114) l1 (l1.length : Int) (wrap64 (x24_2 + 1))) = some (r1, r2) := tc51_; have Ny114 := am_ hy114; clear hy114; obtain ⟨y116, hy116⟩ : ∃ y_ : Tb_, y_ = (x6_2.set ((rd (rd_L3 l1 x24_2) 0) : Int).toNat y114) := ⟨_, rfl⟩; replace H : (impl_FollowFlips.l0 k2 y116 l1 (l1.length : Int) (wrap64 (x24_2 + 1))) = some (r1, r2) := tc72_; have Ny116 := am_ hy116; clear hy116; have H' := am_ H; clear H; have p106 : 0 ≤ (x24_2 : Int) := od_; have q106 : x24_2 < (l1.length : Int) := od_; obtain ⟨ad106, A106_0, c106_0, e106, hx106_0, hl106_0, hi106_0⟩ := at_L3 HR1.out x24_2 p106 q106; cases e106; replace hx106_0 := (HB.out.cell (World.block_lt_of_cell? w _ hx106_0)).trans hx106_0; have HR106_0 := am_ hi106_0; have HC106_0 := am_ hl106_0; clear hi106_0 hl106_0; replace p106 := eq_true p106; replace q106 := eq_true q106
        try go_wp2
        replace HO_6 := am_ (Kd.S_drew HO_6.out); replace HB := am_ (below_drew1 HB.out); have p107 : 0 ≤ (0 : Int) := (by omega); have q107 : 0 < ((rd_L3 l1 x24_2).length : Int) := od_; obtain ⟨ad107, e107, hx107_0⟩ := Kd.at_int HR106_0.out 0 p107 q107; have hw107_0 := hx107_0; (try rw [show ((0 : Int)).toNat = 0 from rfl] at hw107_0); (try rw [show 0 * 1 = 0 from rfl] at hw107_0); (try rw [Addr.add_zero'] at hw107_0); cases e107; have qi107 : (0 < (rd_L3 l1 x24_2).length) = True := eq_true (by omega); (try rw [show ((0 : Int)).toNat = 0 from rfl] at hx107_0); (try rw [Addr.add_zero'] at hx107_0); replace hx107_0 := (HB.out.cell (World.block_lt_of_cell? w _ hx107_0)).trans hx107_0; replace p107 := eq_true p107; replace q107 := eq_true q107; have p108 : 0 ≤ (1 : Int) := (by omega); have q108 : 1 < ((rd_L3 l1 x24_2).length : Int) := od_; obtain ⟨ad108, e108, hx108_0⟩ := Kd.at_int HR106_0.out 1 p108 q108; have hw108_0 := hx108_0; (try rw [show ((1 : Int)).toNat = 1 from rfl] at hw108_0); (try rw [show 1 * 1 = 1 from rfl] at hw108_0); (try simp only [Nat.reduceMul, Nat.reduceEqDiff, Go.Addr.add, ↓reduceIte] at hw108_0); obtain rfl : ad107 = ad108 := (by injection e108); (try simp only [show (1 : Int).toNat = 1 from rfl, Nat.reduceMul, Nat.reduceEqDiff, Go.Addr.add, ↓reduceIte] at hx108_0); have qi108 : (1 < (rd_L3 l1 x24_2).length) = True := eq_true (by omega); (try rw [show ((1 : Int)).toNat = 1 from rfl] at hx108_0); replace hx108_0 := (HB.out.cell (World.block_lt_of_cell? w _ hx108_0)).trans hx108_0; replace p108 := eq_true p108; replace q108 := eq_true q108; obtain ⟨Ao29, co29, eo29⟩ := Kd.S_slice HO_6.out; (first | subst eo29 | (injection eo29 with f1_ f2_ f3_; have f4_ := f1_.symm; have f5_ := f3_.symm; clear f1_ f2_ f3_; subst f4_; subst f5_)); refine start_ (n := 9) (S := fun w' => w'.cell? ad107 = some (.int .i64 (rd (rd_L3 l1 x24_2) 0)) ∧ w'.cell? ⟨ad107.block, ad107.off + 1, none⟩ = some (.int .i64 (rd (rd_L3 l1 x24_2) 1))) (ds := []) #[F,F,F,F,F,F,F,F,F] (by kernel_rfl) rfl rfl ⟨((HB.out.cell (World.block_lt_of_cell? w _ hw107_0)).trans hw107_0), ((HB.out.cell (World.block_lt_of_cell? w _ hw108_0)).trans hw108_0)⟩ (fun hHeld => ?_); refine with_tabW impl_FollowFlips.tab7 impl_FollowFlips.bits7 (fun HT_ HW_ => ?_); generalize wr.drew = w28 at HO_6 HB hx107_0 hx108_0 hHeld ⊢; refine pure_ (i := 0) (N := some 28) #[T,F,F,F,F,F,F,F,F] rfl rfl an_ hq_ yi_ nm_ ?_; refine pure_ (i := 1) (N := some 29) #[T,T,F,F,F,F,F,F,F] rfl rfl an_ hq_ yi_ nm_ ?_; refine pure_ (i := 2) (N := some 30) #[T,T,T,F,F,F,F,F,F] rfl rfl an_ hq_ yi_ nm_ ?_; refine pure_ (i := 4) (N := some 32) #[T,T,T,F,T,F,F,F,F] rfl rfl an_ hq_ yi_ nm_ ?_; refine pure_ (i := 5) (N := some 33) #[T,T,T,F,T,T,F,F,F] rfl rfl an_ hq_ yi_ nm_ ?_; refine take_ (i := 3) (N := some 31) #[T,T,T,T,T,T,F,F,F] rfl rfl av_ hq_ yj2_ hHeld nm_ ?_; refine take_ (i := 6) (N := some 34) #[T,T,T,T,T,T,T,F,F] rfl rfl av_ hq_ yj2_ hHeld nm_ ?_; refine one_ (i := 7) (N := some 35) #[T,T,T,T,T,T,T,T,F] rfl rfl (one_of HT_.out (by kernel_rfl)) (by decide) (fun K hK => ?_); refine goes_ Try.func31 (by kernel_rfl) rfl #[.slice Ao29 x6_2.length co29, .int .i64 (rd (rd_L3 l1 x24_2) 0), .int .i64 (rd (rd_L3 l1 x24_2) 1)] (by rfl) rfl rfl tc1_ ?_
        with_reducible refine (impl_way.calls k2 _ _ x6_2 (rd (rd_L3 l1 x24_2) 0) (rd (rd_L3 l1 x24_2) 1) t109 _ ?side1 ?side2 A18.out).mono ?_
        (case side1 => exact tc44_)
        (case side2 => exact tc136_)
        rintro e w30 ⟨rfl, hb⟩; refine ⟨_, rfl, ?_⟩; replace HO_6 := am_ (Kd.S_below tc13_ hb); replace HB := am_ (below_step tc0_ hb); (try clear hb); (try clear hb2); (try clear hk); (try clear hi); refine hK.out _ _ ⟨((HB.out.cell (World.block_lt_of_cell? w _ hw107_0)).trans hw107_0), ((HB.out.cell (World.block_lt_of_cell? w _ hw108_0)).trans hw108_0)⟩ (fun hHeld => ?_); clear hK K; refine norm_ (a' := ?_) ?_ ?_; rotate_left
        ·show Act.put _ (some 35) _ = _
         simp only [Act.put, List.setIfInBounds_toArray, List.set_cons_zero, List.set_cons_succ, i64_w, i32_w]
         rfl
        refine pure_ (i := 8) (N := some 9) #[T,T,T,T,T,T,T,T,T] rfl rfl an_ hq_ yi_ nm_ ?_; refine done_ (done_of HT_.out (by kernel_rfl)) ?_
        try go_wp2
        replace HO_6 := am_ (Kd.S_drew HO_6.out); replace HB := am_ (below_drew1 HB.out); have p110 : 0 ≤ (0 : Int) := (by omega); have q110 : 0 < ((rd_L3 l1 x24_2).length : Int) := od_; obtain ⟨ad110, e110, hx110_0⟩ := Kd.at_int HR106_0.out 0 p110 q110; have hw110_0 := hx110_0; (try rw [show ((0 : Int)).toNat = 0 from rfl] at hw110_0); (try rw [show 0 * 1 = 0 from rfl] at hw110_0); (try rw [Addr.add_zero'] at hw110_0); obtain rfl : ad107 = ad110 := (by injection e110); have qi110 : (0 < (rd_L3 l1 x24_2).length) = True := eq_true (by omega); (try rw [show ((0 : Int)).toNat = 0 from rfl] at hx110_0); (try rw [Addr.add_zero'] at hx110_0); replace hx110_0 := (HB.out.cell (World.block_lt_of_cell? w _ hx110_0)).trans hx110_0; replace p110 := eq_true p110; replace q110 := eq_true q110; have p111 : 0 ≤ ((rd (rd_L3 l1 x24_2) 0) : Int) := od_; have q111 : (rd (rd_L3 l1 x24_2) 0) < (x6_2.length : Int) := od_; obtain ⟨ad111, A111_0, c111_0, e111, hx111_0, hl111_0, hi111_0⟩ := at_L3 (Kd.S_reads' HO_6.out).2.2 (rd (rd_L3 l1 x24_2) 0) p111 q111; cases e111; obtain ⟨ce111, hce111, hMe111, hcc111⟩ := Kd.S_get HO_6.out [] (rd (rd_L3 l1 x24_2) 0) p111 tc122_; obtain ⟨ve111_0, rfl, ge111_0⟩ := hMe111; have hv111_0 := hcc111 0 _ rfl; rw [Nat.add_zero, show ((Kd.slice 3 (Kd.int .i64))).sz = 1 from rfl, Nat.mul_one] at hv111_0; replace hv111_0 := Option.some.inj (hv111_0.symm.trans hx111_0); rw [hv111_0] at ge111_0; have HL111_0 := am_ (show Kd.R (Kd.int .i64) 3 _ _ _ _ (rd_L3 x6_2 (rd (rd_L3 l1 x24_2) 0)) from ge111_0); clear hv111_0 ge111_0; have HX111_0 := am_ hx111_0; clear hcc111 hce111; have HR111_0 := am_ hi111_0; have HC111_0 := am_ hl111_0; clear hi111_0 hl111_0; replace p111 := eq_true p111; replace q111 := eq_true q111; have p112 : 0 ≤ (1 : Int) := (by omega); have q112 : 1 < ((rd_L3 l1 x24_2).length : Int) := od_; obtain ⟨ad112, e112, hx112_0⟩ := Kd.at_int HR106_0.out 1 p112 q112; have hw112_0 := hx112_0; (try rw [show ((1 : Int)).toNat = 1 from rfl] at hw112_0); (try rw [show 1 * 1 = 1 from rfl] at hw112_0); (try simp only [Nat.reduceMul, Nat.reduceEqDiff, Go.Addr.add, ↓reduceIte] at hw112_0); obtain rfl : ad107 = ad112 := (by injection e112); (try simp only [show (1 : Int).toNat = 1 from rfl, Nat.reduceMul, Nat.reduceEqDiff, Go.Addr.add, ↓reduceIte] at hx112_0); have qi112 : (1 < (rd_L3 l1 x24_2).length) = True := eq_true (by omega); (try rw [show ((1 : Int)).toNat = 1 from rfl] at hx112_0); replace hx112_0 := (HB.out.cell (World.block_lt_of_cell? w _ hx112_0)).trans hx112_0; replace p112 := eq_true p112; replace q112 := eq_true q112; have p113 : 0 ≤ ((rd (rd_L3 l1 x24_2) 1) : Int) := od_; have q113 : (rd (rd_L3 l1 x24_2) 1) < ((rd_L3 x6_2 (rd (rd_L3 l1 x24_2) 0)).length : Int) := od_; obtain ⟨ad113, e113, hx113_0⟩ := Kd.at_int tc99_ (rd (rd_L3 l1 x24_2) 1) p113 q113; cases e113; replace p113 := eq_true p113; replace q113 := eq_true q113; have p27 : 0 ≤ ((rd (rd_L3 l1 x24_2) 1) : Int) := od_; have q27 : ((rd (rd_L3 l1 x24_2) 1) : Int) < (((rd_L3 x6_2 (rd (rd_L3 l1 x24_2) 0)).length : Int) : Int) := od_; obtain ⟨go27, co27, eo27, gb27, gl27, cl27, HG27⟩ := Kd.R_form HL111_0.out (by omega); (first | cases eo27 | (injection eo27 with ea_ en_ ec_; (first | subst ea_ | (injection ea_ with ea_; subst ea_)); subst ec_; clear en_)); have GB27 := am_ gb27; have GG27 := am_ HG27; clear gb27 gl27 HG27; (first | simp only [add_plain] at hx113_0 | skip); obtain ⟨hx27_0, hf27_0⟩ := Kd.R_celln 0 HL111_0.out ((rd (rd_L3 l1 x24_2) 1) : Int) p27 q27; replace p27 := eq_true p27; replace q27 := eq_true q27; have hq32 : ((rd (rd_L3 l1 x24_2) 0) : Int) < (x6_2.length : Int) := (by have h_ : ((rd (rd_L3 l1 x24_2) 0) : Int) < ((x6_2.length : Int) : Int) := od_; first | exact h_ | (have e_ := (Kd.S_reads' HO_6.out).1; omega) | simpa only [List.length_set, List.length_set] using h_); obtain ⟨oki32, ce32, hcl32, hM32, hcc32, hok32, hbk32⟩ := Kd.S_borrow HO_6.out [] ((rd (rd_L3 l1 x24_2) 0) : Int) (od_) hq32; obtain ⟨ve32_0, rfl, ge32_0⟩ := hM32; have hv32 := hcc32 0 _ rfl; rw [Nat.add_zero, show ((Kd.slice 3 (Kd.int .i64))).sz = 1 from rfl, Nat.mul_one] at hv32; replace hv32 := Option.some.inj (hv32.symm.trans HX111_0.out); subst hv32; clear hcc32 hcl32; replace ge32_0 := (show Kd.R (Kd.int .i64) 3 _ _ _ _ (rd_L3 x6_2 (rd (rd_L3 l1 x24_2) 0)) from ge32_0); have HP32 := Kd.R_putg ge32_0 ((rd (rd_L3 l1 x24_2) 1) : Int) (wrap64 ((rd (rd_L3 x6_2 (rd (rd_L3 l1 x24_2) 0)) (rd (rd_L3 l1 x24_2) 1)) + t109)); rw [← Ny114.out] at HP32; have HS32 := hbk32 HP32.2 (fun k_ e_ => by injection e_ with e_; subst e_; exact ge32_0.1 _ rfl) (x' := y114) (Kd.M_row HP32.1); rw [← Ny116.out] at HS32; have HQ32 := am_ HS32; clear HP32 HS32 hbk32 hok32; refine start_ (n := 15) (S := fun w' => w'.cell? ad107 = some (.int .i64 (rd (rd_L3 l1 x24_2) 0)) ∧ w'.cell? (ad111.add ((rd (rd_L3 l1 x24_2) 0)).toNat) = some (.slice (some ⟨go27, 0, none⟩) (rd_L3 x6_2 (rd (rd_L3 l1 x24_2) 0)).length c111_0) ∧ w'.cell? ⟨ad107.block, ad107.off + 1, none⟩ = some (.int .i64 (rd (rd_L3 l1 x24_2) 1)) ∧ w'.cell? ⟨go27, ((rd (rd_L3 l1 x24_2) 1)).toNat, none⟩ = some (.int .i64 (rd (rd_L3 x6_2 (rd (rd_L3 l1 x24_2) 0)) (rd (rd_L3 l1 x24_2) 1)))) (ds := [14]) #[F,F,F,F,F,F,F,F,F,F,F,F,F,F,F] (by kernel_rfl) rfl rfl ⟨((HB.out.cell (World.block_lt_of_cell? w _ hw110_0)).trans hw110_0), hx111_0, ((HB.out.cell (World.block_lt_of_cell? w _ hw112_0)).trans hw112_0), hx113_0⟩ (fun hHeld => ?_); refine with_tabW impl_FollowFlips.tab10 impl_FollowFlips.bits10 (fun HT_ HW_ => ?_); generalize w30.drew = w31 at HO_6 HB GG27 HL111_0 HQ32 HR111_0 HX111_0 hf27_0 hx110_0 hx111_0 hx112_0 hx113_0 hx27_0 hHeld ⊢; refine pure_ (i := 0) (N := some 38) #[T,F,F,F,F,F,F,F,F,F,F,F,F,F,F] rfl rfl an_ hq_ yi_ nm_ ?_; refine pure_ (i := 1) (N := some 39) #[T,T,F,F,F,F,F,F,F,F,F,F,F,F,F] rfl rfl an_ hq_ yi_ nm_ ?_; refine pure_ (i := 2) (N := some 40) #[T,T,T,F,F,F,F,F,F,F,F,F,F,F,F] rfl rfl an_ hq_ yi_ nm_ ?_; refine pure_ (i := 6) (N := some 44) #[T,T,T,F,F,F,T,F,F,F,F,F,F,F,F] rfl rfl an_ hq_ yi_ nm_ ?_; refine pure_ (i := 7) (N := some 45) #[T,T,T,F,F,F,T,T,F,F,F,F,F,F,F] rfl rfl an_ hq_ yi_ nm_ ?_; refine pure_ (i := 11) (N := some 49) #[T,T,T,F,F,F,T,T,F,F,F,T,F,F,F] rfl rfl an_ hq_ yi_ nm_ ?_; refine take_ (i := 3) (N := some 41) #[T,T,T,T,F,F,T,T,F,F,F,T,F,F,F] rfl rfl av_ hq_ yj4_ hHeld nm_ ?_; refine pure_ (i := 4) (N := some 42) #[T,T,T,T,T,F,T,T,F,F,F,T,F,F,F] rfl rfl an_ hq_ yi_ nm_ ?_; refine take_ (i := 5) (N := some 43) #[T,T,T,T,T,T,T,T,F,F,F,T,F,F,F] rfl rfl av_ hq_ yj4_ hHeld nm_ ?_; refine take_ (i := 8) (N := some 46) #[T,T,T,T,T,T,T,T,T,F,F,T,F,F,F] rfl rfl av_ hq_ yj4_ hHeld nm_ ?_; refine pure_ (i := 9) (N := some 47) #[T,T,T,T,T,T,T,T,T,T,F,T,F,F,F] rfl rfl an_ hq_ yi_ nm_ ?_; refine take_ (i := 10) (N := some 48) #[T,T,T,T,T,T,T,T,T,T,T,T,F,F,F] rfl rfl av_ hq_ yj4_ hHeld nm_ ?_; refine pure_ (i := 12) (N := some 50) #[T,T,T,T,T,T,T,T,T,T,T,T,T,F,F] rfl rfl an_ hq_ yi_ nm_ ?_; refine pure_ (i := 13) (N := some 51) #[T,T,T,T,T,T,T,T,T,T,T,T,T,T,F] rfl rfl an_ hq_ yi_ nm_ ?_; refine last_ (i := 14) (N := none) #[T,T,T,T,T,T,T,T,T,T,T,T,T,T,T] rfl rfl (one_of HT_.out (by kernel_rfl)) (by decide) (fun K hK => ?_); refine skip_ (w1 := ?_) (by rfl) rfl ?_ ?_; rotate_left
        ·go_simp
         rfl
        refine hK.out _ _ ?_; clear hK K; refine done_ (done_of HT_.out (by kernel_rfl)) ?_
        try go_wp2
        go_roundg k2
        case measure => have := HJ2.out; have := HK2.out; omega
        case rel => exact ⟨(y116), (wrap64 (x24_2 + 1)), tc8_, H', ⟨(by have := HJ2.out; have := HK2.out; omega)⟩, ⟨(by (with_reducible repeat (first | apply Kd.S_alloc | apply Kd.S_drewN | apply Kd.S_drew)); exact HQ32.out)⟩, ⟨(by repeat (first | (with_reducible first | exact HB.out | apply below_alloc | apply pw_below_drewN | apply below_drew1 | refine below_set ?_ GB27.out) | exact HB.out))⟩⟩
      ·replace H := bd_ H; obtain ⟨t117, A34, H⟩ := H; (try dsimp only at H); simp only [Option.some.injEq, Prod.mk.injEq] at H; obtain ⟨rfl, rfl⟩ := H; obtain ⟨Ao35, co35, eo35⟩ := Kd.S_slice HO_6.out; subst eo35
       go_wp2_with (first | (refine gc_ (some 54) Try.func38 #[.slice Ao35 x6_2.length co35] ?_; (with_reducible refine (impl_fromHeights.calls k2 _ _ x6_2 t117 _ ?side1 ?side2 A34.out).mono ?_); (case side1 => exact tc44_); (case side2 => exact tc136_); rintro e w36 ⟨v118, rfl, ho0, hb⟩; refine ⟨_, rfl, ?_⟩; have HO119 := am_ (Kd.S_lower (Kd.S_new' ho0 (Kd.S_lt tc13_)) (below_size tc0_)); replace HO_6 := am_ (Kd.S_elder' tc13_ (Kd.S_base ho0) hb); replace HB := am_ (below_step tc0_ hb); (try clear hb ho0)))
       go_ret2
       exact ⟨_, tc9_, (by (with_reducible repeat (first | apply Kd.S_alloc | apply Kd.S_drewN | apply Kd.S_drew)); exact Kd.S_mono HO119.out (fun _ hk => trivial)), tc0_⟩

/-! ### spec_l1Most: function 40 -/
def spec_l1Most.f (a0 : Int) (a1 : Int) : Option (Int) := if a0 > a1 then (some a0) else (some a1)
theorem spec_l1Most.calls (a0 : Int) (a1 : Int) (r : Int) (w : World) (h : spec_l1Most.f a0 a1 = some r) :
  Calls Try.prog 40 #[.int .i64 a0, .int .i64 a1] w fun e w' => e = .returned (.int .i64 r) ∧ Drawn0 w w' := by
 (try unfold spec_l1Most.f at h); have H := h; clear h
 replace H := pn_ H; obtain ⟨c3, H⟩ | ⟨c3, H⟩ := H
 ·have c3b0 : decide (a1 < a0) = true := decide_eq_true c3; clear c3; obtain rfl := Option.some.inj H; go_enter Try.func40, Try.ntmps40; go_wp2
  go_ret
  exact ⟨tc8_, tc12_⟩
 ·have c3b0 : decide (a1 < a0) = false := decide_eq_false c3; clear c3; obtain rfl := Option.some.inj H; go_enter Try.func40, Try.ntmps40; go_wp2
  go_ret
  exact ⟨tc8_, tc12_⟩

/-! ### spec_DrawToggleCells: function 13 -/
def spec_DrawToggleCells.l0 : Nat → Tb_ → Tb_ → Int → List Int → Int → Int → Option (Tb_ × Tb_)
 | 0, _, _, _, _, _, _ => none
 | k + 1, x5, x6, x7, x102000, x102001, x102002 => if x7 > 0 then ((spec_l1Most.f 1 (wrap64 ((x5.length : Int) - 1))).bind fun t113 => ((spec_l1Cur_pick.f x102000 x102001 x102002 t113).bind fun bt114 => ((spec_l1Most.f 1 (wrap64 ((x5.length : Int) - 1))).bind fun t117 => ((spec_l1Cur_pick.f x102000 bt114.2.1 bt114.2.2 t117).bind fun bt118 => (if x6.length < 5864062014805 then (spec_DrawToggleCells.l0 k x5 (x6 ++ [(([wrap64 (1 + bt114.1), wrap64 (1 + bt118.1)] : List Int))]) (wrap64 (x7 - 1)) x102000 bt118.2.1 bt118.2.2) else (none)))))) else ((spec_l1Cur_one.f x102000 x102001 x102002 15).bind fun bt127 => (if bt127.1 = true then ((spec_l1Cur_among.f x102000 bt127.2.1 bt127.2.2 (([0, (-1), 6] : List Int))).bind fun bt133 => (if x6.length < 5864062014805 then ((some (x6 ++ [(([bt133.1, 1] : List Int))] : Tb_)).bind fun y139 => ((spec_l1Cur_one.f x102000 bt133.2.1 bt133.2.2 20).bind fun bt142 => (if bt142.1 = true then (if y139.length < 5864062014805 then (some (x5, (y139 ++ [(([1] : List Int))]))) else (none)) else (some (x5, y139))))) else (none))) else ((spec_l1Cur_one.f x102000 bt127.2.1 bt127.2.2 20).bind fun bt151 => (if bt151.1 = true then (if x6.length < 5864062014805 then (some (x5, (x6 ++ [(([1] : List Int))]))) else (none)) else (some (x5, x6))))))
def spec_DrawToggleCells.f (k : Nat) (l0 : List Int) : Option (Tb_ × Tb_) := (spec_l1Cur_signs.f k l0 0 0 5).bind fun bt102 => ((spec_l1Cur_among.f l0 bt102.2.1 bt102.2.2 (([0, 1, 3, 8] : List Int))).bind fun bt110 => (spec_DrawToggleCells.l0 k bt102.1 ([] : Tb_) bt110.1 l0 bt110.2.1 bt110.2.2))
theorem spec_DrawToggleCells.calls (k : Nat) (A0 : Option Addr) (c0 : Nat) (l0 : List Int) (r1 : Tb_) (r2 : Tb_) (w : World) (hr0 : Kd.C (Kd.int .u8) w A0 l0.length l0) (hc0 : l0.length ≤ c0) (h : spec_DrawToggleCells.f k l0 = some (r1, r2)) :
  Calls Try.prog 13 #[.slice A0 l0.length c0] w fun e w' => ∃ v0_ v1_ : Value, e = .returned (.tuple #[v0_, v1_]) ∧ Kd.S (Kd.slice 3 (Kd.int .i64)) 32 w' w.heap.size (fun k_ => some k_ ≠ (v1_ : Value).ownBlock) v0_ r1 ∧ Kd.S (Kd.slice 3 (Kd.int .i64)) 32 w' w.heap.size (fun k_ => some k_ ≠ (v0_ : Value).ownBlock) v1_ r2 ∧ Below w.heap.size w w' := by
 have hu41 := Try.underlying41; have HR0 := am_ hr0; have HC0 := am_ hc0; clear hr0 hc0; have HB := am_ (Below.refl w.heap.size w); (try unfold spec_DrawToggleCells.f at h); have H := h; clear h; replace H := Option.bind_eq_some_iff.mp H; obtain ⟨⟨t102, t105, t106⟩, A20, H⟩ := H; (try dsimp only at H); have A2 := am_ A20; clear A20; obtain ⟨y107, hy107⟩ : ∃ y_ : List Int, y_ = (([0, 1, 3, 8] : List Int)) := ⟨_, rfl⟩; replace H : ((spec_l1Cur_among.f l0 t105 t106 y107).bind fun bt110 => (spec_DrawToggleCells.l0 k t102 ([] : Tb_) bt110.1 l0 bt110.2.1 bt110.2.2)) = some (r1, r2) := tc31_; have Ny107 := am_ hy107; clear hy107; replace H := Option.bind_eq_some_iff.mp H; obtain ⟨⟨t110, t111, t112⟩, A30, H⟩ := H; (try dsimp only at H); have A3 := am_ A30; clear A30; have H' := am_ H; clear H; go_enter Try.func13, Try.ntmps13
 go_wp2_with (first | ((with_reducible refine gate_dst (N := 10) rfl ?_); refine box_event ?hg (N := 10) ?hd (cs := #[.slice A0 l0.length c0, .int .i64 0, .int .u64 0]) (t := 41) ?hr ?_; (case hd => rfl); (case hg => rfl); (case hr => exact tc26_); intro gb101 hg w4 hbox hb; have GW101 := am_ ((by rw [hg]; exact (below_size tc0_) : w.heap.size ≤ gb101)); have GE101 := am_ ((by rw [hg]; exact (below_size tc0_) : w.heap.size ≤ gb101)); have HI101 := am_ ((show IsS41 w w4 gb101 l0 0 0 from ⟨A0, c0, hbox, (by rw [hg]; exact (below_size tc0_) : w.heap.size ≤ gb101), HR0.out⟩)); replace HB := am_ (below_step tc0_ hb); clear hb hbox hg) | (refine gc_ (some 12) Try.func19 #[.pointer (some ⟨gb101, 0, none⟩), .int .i64 5] ?_; (with_reducible refine (spec_l1Cur_signs.calls k gb101 l0 0 0 5 t102 t105 t106 w _ ?side1 ?side2 A2.out).mono ?_); (case side1 => exact tc6_); (case side2 => exact tc7_); rintro e w5 ⟨v103, rfl, ho0, hi, hb, hk⟩; refine ⟨_, rfl, ?_⟩; have HO104 := am_ (Kd.S_lower ho0 (below_size tc7_)); replace HB := am_ (hb); replace HI101 := am_ (hi); (try clear hb hk hi ho0)) | ((with_reducible refine gate_dst (N := 14) rfl ?_); refine Kd.R_lit (Kd.int .i64) _ 3 ?hg (N := 14) ?hd (xs := ([0, 1, 3, 8] : List Int)) (inner := [.int .i64 0, .int .i64 1, .int .i64 3, .int .i64 8]) (ok := fun _ => True) (okp := fun _ => True) ?hr ?hp (fun _ hk => hk) trivial (Below.refl _ _) (Nat.le_refl _) (by simp) ?_; (case hd => rfl); (case hg => rfl); (case hr => exact tc26_); (case hp => exact (Reps.one (show Kd.M (Kd.int .i64) _ _ _ 0 [.int .i64 0] from rfl) (Reps.one (show Kd.M (Kd.int .i64) _ _ _ 1 [.int .i64 1] from rfl) (Reps.one (show Kd.M (Kd.int .i64) _ _ _ 3 [.int .i64 3] from rfl) (Reps.one (show Kd.M (Kd.int .i64) _ _ _ 8 [.int .i64 8] from rfl) (Reps.none _ _)))))); intro v108 w6 ho7 hb hg_ hnew_; clear hg_ hnew_; (first | rw [← Ny107.out] at ho7 | (simp only [Int.reduceToNat] at ho7; rw [← Ny107.out] at ho7)); replace HO104 := am_ (Kd.S_elder' tc45_ (Kd.R_base ho7) hb); have HO109 := am_ (Kd.R_lower ho7 (below_size tc7_)); replace HB := am_ (below_step tc7_ hb); replace HI101 := am_ (IsS41.below tc6_ hb); clear hb ho7; obtain ⟨Ao8, co8, eo8⟩ := Kd.R_slice HO109.out; subst eo8) | (refine gc_ (some 15) Try.func20 #[.pointer (some ⟨gb101, 0, none⟩), .slice Ao8 y107.length co8] ?_; (with_reducible refine (spec_l1Cur_among.calls gb101 l0 t105 t106 _ _ y107 t110 t111 t112 w _ ?side1 ?side2 ?side3 ?side4 ?side5 A3.out).mono ?_); (case side1 => exact tc6_); (case side2 => exact tc7_); (case side3 => repeat (first | exact (Kd.R_reads' HO109.out).2.2 | (with_reducible refine Kd.C_alloc ?_ _) | (with_reducible refine Kd.C_drewN ?_ _) | (with_reducible refine Kd.C_drew ?_))); (case side4 => exact (Kd.R_reads' HO109.out).2.1); (case side5 => exact far_slice (IsS41.own_ne HI101.out HO109.out (by decide))); rintro e w9 ⟨rfl, hi, hb, hk⟩; refine ⟨_, rfl, ?_⟩; have n0_ := am_ (Kd.S_mono (Kd.S_keep (IsS41.apartS (show IsS41 w _ gb101 l0 t105 t106 from tc6_) tc45_ (by decide)) hk (fun _ h => h.2)) (fun _ h => h.1)); have n1_ := am_ (Kd.R_mono (Kd.R_keep (IsS41.apart (show IsS41 w _ gb101 l0 t105 t106 from tc6_) (by (with_reducible repeat (first | apply Kd.R_alloc | apply Kd.R_drewN | apply Kd.R_drew)); exact HO109.out) (by decide)) hk (fun _ h => h.2)) (fun _ h => h.1)); have n2_ := am_ (hb); have n3_ := am_ (hi); clear HO104 HO109; clear HB HI101; have HO104 := n0_; have HO109 := n1_; have HB := n2_; have HI101 := n3_; clear n0_ n1_ n2_ n3_; (try clear hb hk hi)))
 go_loopg [6, 7] k (fun kq v6 v7 w' => ∃ (x6_1 : Tb_) (x7_1 : Int) (x102001_1 : Int) (x102002_1 : Int), v7 = .int .i64 x7_1 ∧ Aside0 (spec_DrawToggleCells.l0 kq t102 x6_1 x7_1 l0 x102001_1 x102002_1 = some (r1, r2)) ∧ Aside0 (kq ≤ k) ∧ Aside0 (Kd.S (Kd.slice 3 (Kd.int .i64)) 32 w' w.heap.size (fun k_ => some k_ ≠ (v6 : Value).ownBlock) v103 t102) ∧ Aside0 (Kd.S (Kd.slice 3 (Kd.int .i64)) 32 w' w.heap.size (fun k_ => some k_ ≠ (v103 : Value).ownBlock) v6 x6_1) ∧ Aside0 (IsS41 w w' gb101 l0 x102001_1 x102002_1) ∧ Aside0 (Below w.heap.size w w'))
 case atStart => exact ⟨(([] : Tb_)), (t110), (t111), (t112), tc8_, H', ⟨Nat.le_refl _⟩, ⟨(by (with_reducible repeat (first | apply Kd.S_alloc | apply Kd.S_drewN | apply Kd.S_drew)); exact Kd.S_mono HO104.out (fun _ hk => tc100_))⟩, ⟨tc17_⟩, ⟨tc6_⟩, ⟨tc7_⟩⟩
 case round =>
  clear H'; (try clear c1); (try clear c2); (try clear p2); obtain ⟨x6_1, x7_1, x102001_1, x102002_1, rfl, HA, HK1, HO_5, HO_6, HI101, HB⟩ := hrel
  cases gk with
  | zero => exact absurd HA.out (by simp [spec_DrawToggleCells.l0])
  | succ k1 =>
   have H := HA.out; clear HA; simp only [spec_DrawToggleCells.l0] at H
   replace H := pn_ H; obtain ⟨c10, H⟩ | ⟨c10, H⟩ := H
   ·have c10b0 : decide (0 < x7_1) = true := decide_eq_true c10; clear c10; replace H := bd_ H; obtain ⟨t113, A11, H⟩ := H; (try dsimp only at H); replace H := Option.bind_eq_some_iff.mp H; obtain ⟨⟨t114, t115, t116⟩, A120, H⟩ := H; (try dsimp only at H); have A12 := am_ A120; clear A120; replace H := bd_ H; obtain ⟨t117, A13, H⟩ := H; (try dsimp only at H); replace H := Option.bind_eq_some_iff.mp H; obtain ⟨⟨t118, t119, t120⟩, A140, H⟩ := H; (try dsimp only at H); have A14 := am_ A140; clear A140; obtain ⟨y121, hy121⟩ : ∃ y_ : List Int, y_ = (([wrap64 (1 + t114), wrap64 (1 + t118)] : List Int)) := ⟨_, rfl⟩; replace H : (if x6_1.length < 5864062014805 then (spec_DrawToggleCells.l0 k1 t102 (x6_1 ++ [y121]) (wrap64 (x7_1 - 1)) l0 t119 t120) else (none)) = some (r1, r2) := (by first | (rw [hy121]; with_reducible exact H) | (have H2_ := (Option.bind_some _ _).symm.trans H; rw [hy121]; with_reducible exact H2_) | (have H2_ := (Option.bind_some _ _).symm.trans H; with_reducible exact H2_) | with_reducible exact H | (rw [hy121]; exact H) | exact H); have Ny121 := am_ hy121; clear hy121; replace H := pp_ H; obtain ⟨c15, H⟩ := H; have LMc15 := am_ c15; clear c15; obtain ⟨y124, hy124⟩ : ∃ y_ : Tb_, y_ = (x6_1 ++ [y121]) := ⟨_, rfl⟩; replace H : (spec_DrawToggleCells.l0 k1 t102 y124 (wrap64 (x7_1 - 1)) l0 t119 t120) = some (r1, r2) := (by first | (rw [hy124]; with_reducible exact H) | (have H2_ := (Option.bind_some _ _).symm.trans H; rw [hy124]; with_reducible exact H2_) | (have H2_ := (Option.bind_some _ _).symm.trans H; with_reducible exact H2_) | with_reducible exact H | (rw [hy124]; exact H) | exact H); have Ny124 := am_ hy124; clear hy124; have H' := am_ H; clear H; obtain ⟨Ao16, co16, eo16⟩ := Kd.S_slice HO_5.out; subst eo16
    go_wp2_with (first | (refine gc_ (some 25) Try.func40 #[.int .i64 1, .int .i64 (wrap64 ((t102.length : Int) - 1))] ?_; (with_reducible refine (spec_l1Most.calls 1 (wrap64 ((t102.length : Int) - 1)) t113 _ A11.out).mono ?_); rintro e w' ⟨rfl, ⟨nd, rfl⟩⟩; refine ⟨_, rfl, ?_⟩) | (refine gc_ (some 26) Try.func39 #[.pointer (some ⟨gb101, 0, none⟩), .int .i64 t113] ?_; (with_reducible refine (spec_l1Cur_pick.calls gb101 l0 x102001_1 x102002_1 t113 t114 t115 t116 w _ ?side1 ?side2 A12.out).mono ?_); (case side1 => exact tc6_); (case side2 => exact tc7_); rintro e w17 ⟨rfl, hi, hb, hk⟩; refine ⟨_, rfl, ?_⟩; replace HO_5 := am_ (Kd.S_mono (Kd.S_keep (IsS41.apartS (show IsS41 w _ gb101 l0 x102001_1 x102002_1 from tc6_) tc10_ (by decide)) hk (fun _ h => h.2)) (fun _ h => h.1)); replace HO_6 := am_ (Kd.S_mono (Kd.S_keep (IsS41.apartS (show IsS41 w _ gb101 l0 x102001_1 x102002_1 from tc6_) tc13_ (by decide)) hk (fun _ h => h.2)) (fun _ h => h.1)); replace HB := am_ (hb); replace HI101 := am_ (hi); (try clear hb hk hi)) | (refine gc_ (some 32) Try.func40 #[.int .i64 1, .int .i64 (wrap64 ((t102.length : Int) - 1))] ?_; (with_reducible refine (spec_l1Most.calls 1 (wrap64 ((t102.length : Int) - 1)) t117 _ A13.out).mono ?_); rintro e w' ⟨rfl, ⟨nd, rfl⟩⟩; refine ⟨_, rfl, ?_⟩) | (refine gc_ (some 33) Try.func39 #[.pointer (some ⟨gb101, 0, none⟩), .int .i64 t117] ?_; (with_reducible refine (spec_l1Cur_pick.calls gb101 l0 t115 t116 t117 t118 t119 t120 w _ ?side1 ?side2 A14.out).mono ?_); (case side1 => exact tc6_); (case side2 => exact tc7_); rintro e w18 ⟨rfl, hi, hb, hk⟩; refine ⟨_, rfl, ?_⟩; replace HO_5 := am_ (Kd.S_mono (Kd.S_keep (IsS41.apartS (show IsS41 w _ gb101 l0 t115 t116 from tc6_) tc10_ (by decide)) hk (fun _ h => h.2)) (fun _ h => h.1)); replace HO_6 := am_ (Kd.S_mono (Kd.S_keep (IsS41.apartS (show IsS41 w _ gb101 l0 t115 t116 from tc6_) tc13_ (by decide)) hk (fun _ h => h.2)) (fun _ h => h.1)); replace HB := am_ (hb); replace HI101 := am_ (hi); (try clear hb hk hi)) | ((with_reducible refine gate_dst (N := 35) rfl ?_); refine Kd.R_lit (Kd.int .i64) _ 3 ?hg (N := 35) ?hd (xs := ([wrap64 (1 + t114), wrap64 (1 + t118)] : List Int)) (inner := [.int .i64 (wrap64 (1 + t114)), .int .i64 (wrap64 (1 + t118))]) (ok := fun _ => True) (okp := fun _ => True) ?hr ?hp (fun _ hk => hk) trivial (Below.refl _ _) (Nat.le_refl _) (by simp) ?_; (case hd => rfl); (case hg => rfl); (case hr => exact tc26_); (case hp => exact (Reps.one (show Kd.M (Kd.int .i64) _ _ _ (wrap64 (1 + t114)) [.int .i64 (wrap64 (1 + t114))] from rfl) (Reps.one (show Kd.M (Kd.int .i64) _ _ _ (wrap64 (1 + t118)) [.int .i64 (wrap64 (1 + t118))] from rfl) (Reps.none _ _)))); intro v122 w19 ho20 hb hg_ hnew_; clear hg_ hnew_; (first | rw [← Ny121.out] at ho20 | (simp only [Int.reduceToNat] at ho20; rw [← Ny121.out] at ho20)); replace HO_5 := am_ (Kd.S_elder' tc10_ (Kd.R_base ho20) hb); replace HO_6 := am_ (Kd.S_elder' tc13_ (Kd.R_base ho20) hb); have HO123 := am_ (Kd.R_lower ho20 (below_size tc7_)); replace HB := am_ (below_step tc7_ hb); replace HI101 := am_ (IsS41.below tc6_ hb); clear hb ho20; obtain ⟨Ao22, co22, eo22⟩ := Kd.R_slice HO123.out; subst eo22) | ((with_reducible refine gate_builtin (b := .append) (xs := #[.tmp 20, .tmp 36]) rfl ?_); at_builtin; refine Kd.S_append (Kd.slice 3 (Kd.int .i64)) (w0 := w) w.heap.size rfl (.tmp 20) (.tmp 36) 24 32 (.slice none 0 0) 24 rfl Try.underlying24 info32 rfl (by decide) (by omega) u6 x6_1 y121 [.slice Ao22 y121.length co22] (fun k_ => some k_ ≠ (.slice Ao16 t102.length co16 : Value).ownBlock) (fun k_ => some k_ = (.slice Ao22 y121.length co22 : Value).ownBlock) rfl rfl ?aP (fun k_ hk_ => ((Kd.R_mono (ok' := fun k_ => ((fun k_ => some k_ ≠ (.slice Ao16 t102.length co16 : Value).ownBlock)) k_ ∧ some k_ ≠ (u6 : Value).ownBlock) (Kd.R_apart' (Kd.R_apart' (HO123.out) (Kd.S_typed HO_5.out) (by decide)) (Kd.S_typed HO_6.out) (by decide)) (fun k_ hk => ⟨hk.1.2, hk.2⟩))).1 k_ hk_.symm) ?aF ?aO ?aB ?aS ?aL ?_; (case aP => exact Kd.M_row (Kd.R_mono (Kd.R_tight rfl (Kd.R_mono (ok' := fun k_ => ((fun k_ => some k_ ≠ (.slice Ao16 t102.length co16 : Value).ownBlock)) k_ ∧ some k_ ≠ (u6 : Value).ownBlock) (Kd.R_apart' (Kd.R_apart' (HO123.out) (Kd.S_typed HO_5.out) (by decide)) (Kd.S_typed HO_6.out) (by decide)) (fun k_ hk => ⟨hk.1.2, hk.2⟩))) (fun _ h_ => h_))); (case aB => exact tc40_); (case aF => exact (fun k_ hk => Kd.fresh' (Kd.S_lt tc10_) k_ hk)); (case aO => exact tc115_); (case aS => exact tc35_); (case aL => have := LMc15.out; omega); intro v125 w21 ho hb hg hat; rw [← Ny124.out] at ho; replace HO_5 := am_ (Kd.S_after (ok := (fun k_ => some k_ ≠ (.slice Ao22 y121.length co22 : Value).ownBlock)) tc124_ hg hat); replace HI101 := am_ (IsS41.grown tc6_ hg (IsS41.own_neS HI101.out HO_6.out (by decide))); replace HB := am_ (hb); have HO126 := am_ (ho); clear HO_6 HO123; clear ho hb hg hat))
    go_roundg k1
    case measure => have := HK1.out; omega
    case rel => exact ⟨(y124), (wrap64 (x7_1 - 1)), (t119), (t120), tc8_, H', ⟨tc101_⟩, ⟨tc74_⟩, ⟨(by (with_reducible repeat (first | apply Kd.S_alloc | apply Kd.S_drewN | apply Kd.S_drew)); exact HO126.out)⟩, ⟨tc6_⟩, ⟨tc7_⟩⟩
   ·have c10b0 : decide (0 < x7_1) = false := decide_eq_false c10; clear c10; replace H := Option.bind_eq_some_iff.mp H; obtain ⟨⟨t127, t128, t129⟩, A230, H⟩ := H; (try dsimp only at H); have A23 := am_ A230; clear A230
    by_cases c24 : t127 = true
    ·subst c24; have H1 : ((spec_l1Cur_among.f l0 t128 t129 (([0, (-1), 6] : List Int))).bind fun bt133 => (if x6_1.length < 5864062014805 then ((some (x6_1 ++ [(([bt133.1, 1] : List Int))] : Tb_)).bind fun y139 => ((spec_l1Cur_one.f l0 bt133.2.1 bt133.2.2 20).bind fun bt142 => (if bt142.1 = true then (if y139.length < 5864062014805 then (some (t102, (y139 ++ [(([1] : List Int))]))) else (none)) else (some (t102, y139))))) else (none))) = some (r1, r2) := tc21_; clear H; have H := H1; clear H1; obtain ⟨y130, hy130⟩ : ∃ y_ : List Int, y_ = (([0, (-1), 6] : List Int)) := ⟨_, rfl⟩; replace H : ((spec_l1Cur_among.f l0 t128 t129 y130).bind fun bt133 => (if x6_1.length < 5864062014805 then ((some (x6_1 ++ [(([bt133.1, 1] : List Int))] : Tb_)).bind fun y139 => ((spec_l1Cur_one.f l0 bt133.2.1 bt133.2.2 20).bind fun bt142 => (if bt142.1 = true then (if y139.length < 5864062014805 then (some (t102, (y139 ++ [(([1] : List Int))]))) else (none)) else (some (t102, y139))))) else (none))) = some (r1, r2) := (by first | (rw [hy130]; with_reducible exact H) | (have H2_ := (Option.bind_some _ _).symm.trans H; rw [hy130]; with_reducible exact H2_) | (have H2_ := (Option.bind_some _ _).symm.trans H; with_reducible exact H2_) | with_reducible exact H | (rw [hy130]; exact H) | exact H); have Ny130 := am_ hy130; clear hy130; replace H := Option.bind_eq_some_iff.mp H; obtain ⟨⟨t133, t134, t135⟩, A250, H⟩ := H; (try dsimp only at H); have A25 := am_ A250; clear A250; obtain ⟨y136, hy136⟩ : ∃ y_ : List Int, y_ = (([t133, 1] : List Int)) := ⟨_, rfl⟩; replace H : (if x6_1.length < 5864062014805 then ((some (x6_1 ++ [y136] : Tb_)).bind fun y139 => ((spec_l1Cur_one.f l0 t134 t135 20).bind fun bt142 => (if bt142.1 = true then (if y139.length < 5864062014805 then (some (t102, (y139 ++ [(([1] : List Int))]))) else (none)) else (some (t102, y139))))) else (none)) = some (r1, r2) := (by first | (rw [hy136]; with_reducible exact H) | (have H2_ := (Option.bind_some _ _).symm.trans H; rw [hy136]; with_reducible exact H2_) | (have H2_ := (Option.bind_some _ _).symm.trans H; with_reducible exact H2_) | with_reducible exact H | (rw [hy136]; exact H) | exact H); have Ny136 := am_ hy136; clear hy136; replace H := pp_ H; obtain ⟨c26, H⟩ := H; have LMc26 := am_ c26; clear c26; obtain ⟨y139, hy139⟩ : ∃ y_ : Tb_, y_ = (x6_1 ++ [y136]) := ⟨_, rfl⟩; replace H : ((spec_l1Cur_one.f l0 t134 t135 20).bind fun bt142 => (if bt142.1 = true then (if y139.length < 5864062014805 then (some (t102, (y139 ++ [(([1] : List Int))]))) else (none)) else (some (t102, y139)))) = some (r1, r2) := (by first | (rw [hy139]; with_reducible exact H) | (have H2_ := (Option.bind_some _ _).symm.trans H; rw [hy139]; with_reducible exact H2_) | (have H2_ := (Option.bind_some _ _).symm.trans H; with_reducible exact H2_) | with_reducible exact H | (rw [hy139]; exact H) | exact H); have Ny139 := am_ hy139; clear hy139; replace H := Option.bind_eq_some_iff.mp H; obtain ⟨⟨t142, t143, t144⟩, A270, H⟩ := H; (try dsimp only at H); have A27 := am_ A270; clear A270
     by_cases c28 : t142 = true
     ·subst c28; have H1 : (if y139.length < 5864062014805 then (some (t102, (y139 ++ [(([1] : List Int))]))) else (none)) = some (r1, r2) := tc21_; clear H; have H := H1; clear H1; obtain ⟨y145, hy145⟩ : ∃ y_ : List Int, y_ = (([1] : List Int)) := ⟨_, rfl⟩; replace H : (if y139.length < 5864062014805 then (some (t102, (y139 ++ [y145]))) else (none)) = some (r1, r2) := (by first | (rw [hy145]; with_reducible exact H) | (have H2_ := (Option.bind_some _ _).symm.trans H; rw [hy145]; with_reducible exact H2_) | (have H2_ := (Option.bind_some _ _).symm.trans H; with_reducible exact H2_) | with_reducible exact H | (rw [hy145]; exact H) | exact H); have Ny145 := am_ hy145; clear hy145; replace H := pp_ H; obtain ⟨c29, H⟩ := H; have LMc29 := am_ c29; clear c29; obtain ⟨y148, hy148⟩ : ∃ y_ : Tb_, y_ = (y139 ++ [y145]) := ⟨_, rfl⟩; replace H : (some (t102, y148)) = some (r1, r2) := (by first | (rw [hy148]; with_reducible exact H) | (have H2_ := (Option.bind_some _ _).symm.trans H; rw [hy148]; with_reducible exact H2_) | (have H2_ := (Option.bind_some _ _).symm.trans H; with_reducible exact H2_) | with_reducible exact H | (rw [hy148]; exact H) | exact H); have Ny148 := am_ hy148; clear hy148; simp only [Option.some.injEq, Prod.mk.injEq] at H; obtain ⟨rfl, rfl⟩ := H
      go_wp2_with (first | (refine gc_ (some 39) Try.func41 #[.pointer (some ⟨gb101, 0, none⟩), .int .i64 15] ?_; (with_reducible refine (spec_l1Cur_one.calls gb101 l0 x102001_1 x102002_1 15 true t128 t129 w _ ?side1 ?side2 A23.out).mono ?_); (case side1 => exact tc6_); (case side2 => exact tc7_); rintro e w30 ⟨rfl, hi, hb, hk⟩; refine ⟨_, rfl, ?_⟩; replace HO_5 := am_ (Kd.S_mono (Kd.S_keep (IsS41.apartS (show IsS41 w _ gb101 l0 x102001_1 x102002_1 from tc6_) tc10_ (by decide)) hk (fun _ h => h.2)) (fun _ h => h.1)); replace HO_6 := am_ (Kd.S_mono (Kd.S_keep (IsS41.apartS (show IsS41 w _ gb101 l0 x102001_1 x102002_1 from tc6_) tc13_ (by decide)) hk (fun _ h => h.2)) (fun _ h => h.1)); replace HB := am_ (hb); replace HI101 := am_ (hi); (try clear hb hk hi)) | ((with_reducible refine gate_dst (N := 42) rfl ?_); refine Kd.R_lit (Kd.int .i64) _ 3 ?hg (N := 42) ?hd (xs := ([0, (-1), 6] : List Int)) (inner := [.int .i64 0, .int .i64 (-1), .int .i64 6]) (ok := fun _ => True) (okp := fun _ => True) ?hr ?hp (fun _ hk => hk) trivial (Below.refl _ _) (Nat.le_refl _) (by simp) ?_; (case hd => rfl); (case hg => rfl); (case hr => exact tc26_); (case hp => exact (Reps.one (show Kd.M (Kd.int .i64) _ _ _ 0 [.int .i64 0] from rfl) (Reps.one (show Kd.M (Kd.int .i64) _ _ _ (-1) [.int .i64 (-1)] from rfl) (Reps.one (show Kd.M (Kd.int .i64) _ _ _ 6 [.int .i64 6] from rfl) (Reps.none _ _))))); intro v131 w31 ho32 hb hg_ hnew_; clear hg_ hnew_; (first | rw [← Ny130.out] at ho32 | (simp only [Int.reduceToNat] at ho32; rw [← Ny130.out] at ho32)); replace HO_5 := am_ (Kd.S_elder' tc10_ (Kd.R_base ho32) hb); replace HO_6 := am_ (Kd.S_elder' tc13_ (Kd.R_base ho32) hb); have HO132 := am_ (Kd.R_lower ho32 (below_size tc7_)); replace HB := am_ (below_step tc7_ hb); replace HI101 := am_ (IsS41.below tc6_ hb); clear hb ho32; obtain ⟨Ao33, co33, eo33⟩ := Kd.R_slice HO132.out; subst eo33) | (refine gc_ (some 43) Try.func20 #[.pointer (some ⟨gb101, 0, none⟩), .slice Ao33 y130.length co33] ?_; (with_reducible refine (spec_l1Cur_among.calls gb101 l0 t128 t129 _ _ y130 t133 t134 t135 w _ ?side1 ?side2 ?side3 ?side4 ?side5 A25.out).mono ?_); (case side1 => exact tc6_); (case side2 => exact tc7_); (case side3 => repeat (first | exact (Kd.R_reads' HO132.out).2.2 | (with_reducible refine Kd.C_alloc ?_ _) | (with_reducible refine Kd.C_drewN ?_ _) | (with_reducible refine Kd.C_drew ?_))); (case side4 => exact (Kd.R_reads' HO132.out).2.1); (case side5 => exact far_slice (IsS41.own_ne HI101.out HO132.out (by decide))); rintro e w34 ⟨rfl, hi, hb, hk⟩; refine ⟨_, rfl, ?_⟩; replace HO_5 := am_ (Kd.S_mono (Kd.S_keep (IsS41.apartS (show IsS41 w _ gb101 l0 t128 t129 from tc6_) tc10_ (by decide)) hk (fun _ h => h.2)) (fun _ h => h.1)); replace HO_6 := am_ (Kd.S_mono (Kd.S_keep (IsS41.apartS (show IsS41 w _ gb101 l0 t128 t129 from tc6_) tc13_ (by decide)) hk (fun _ h => h.2)) (fun _ h => h.1)); replace HO132 := am_ (Kd.R_mono (Kd.R_keep (IsS41.apart (show IsS41 w _ gb101 l0 t128 t129 from tc6_) tc25_ (by decide)) hk (fun _ h => h.2)) (fun _ h => h.1)); replace HB := am_ (hb); replace HI101 := am_ (hi); (try clear hb hk hi)) | ((with_reducible refine gate_dst (N := 44) rfl ?_); refine Kd.R_lit (Kd.int .i64) _ 3 ?hg (N := 44) ?hd (xs := ([t133, 1] : List Int)) (inner := [.int .i64 t133, .int .i64 1]) (ok := fun _ => True) (okp := fun _ => True) ?hr ?hp (fun _ hk => hk) trivial (Below.refl _ _) (Nat.le_refl _) (by simp) ?_; (case hd => rfl); (case hg => rfl); (case hr => exact tc26_); (case hp => exact (Reps.one (show Kd.M (Kd.int .i64) _ _ _ t133 [.int .i64 t133] from rfl) (Reps.one (show Kd.M (Kd.int .i64) _ _ _ 1 [.int .i64 1] from rfl) (Reps.none _ _)))); intro v137 w35 ho36 hb hg_ hnew_; clear hg_ hnew_; (first | rw [← Ny136.out] at ho36 | (simp only [Int.reduceToNat] at ho36; rw [← Ny136.out] at ho36)); replace HO_5 := am_ (Kd.S_elder' tc10_ (Kd.R_base ho36) hb); replace HO_6 := am_ (Kd.S_elder' tc13_ (Kd.R_base ho36) hb); have HO138 := am_ (Kd.R_lower (Kd.R_new' ho36 (Kd.R_lt tc25_)) (below_size tc7_)); replace HO132 := am_ (Kd.R_elder' tc25_ (Kd.R_base ho36) hb); replace HB := am_ (below_step tc7_ hb); replace HI101 := am_ (IsS41.below tc6_ hb); clear hb ho36; obtain ⟨Ao38, co38, eo38⟩ := Kd.R_slice HO138.out; subst eo38) | ((with_reducible refine gate_builtin (b := .append) (xs := #[.tmp 40, .tmp 45]) rfl ?_); at_builtin; refine Kd.S_append (Kd.slice 3 (Kd.int .i64)) (w0 := w) w.heap.size rfl (.tmp 40) (.tmp 45) 24 32 (.slice none 0 0) 24 rfl Try.underlying24 info32 rfl (by decide) (by omega) u6 x6_1 y136 [.slice Ao38 y136.length co38] (fun k_ => some k_ ≠ (v103 : Value).ownBlock ∧ some k_ ≠ (.slice Ao33 y130.length co33 : Value).ownBlock) (fun k_ => some k_ = (.slice Ao38 y136.length co38 : Value).ownBlock) rfl rfl ?aP (fun k_ hk_ => ((Kd.R_mono (ok' := fun k_ => ((fun k_ => some k_ ≠ (v103 : Value).ownBlock ∧ some k_ ≠ (.slice Ao33 y130.length co33 : Value).ownBlock)) k_ ∧ some k_ ≠ (u6 : Value).ownBlock) (Kd.R_apart' (Kd.R_apart' (HO138.out) (Kd.S_typed HO_5.out) (by decide)) (Kd.S_typed HO_6.out) (by decide)) (fun k_ hk => ⟨⟨hk.1.2, hk.1.1.2⟩, hk.2⟩))).1 k_ hk_.symm) ?aF ?aO ?aB ?aS ?aL ?_; (case aP => exact Kd.M_row (Kd.R_mono (Kd.R_tight rfl (Kd.R_mono (ok' := fun k_ => ((fun k_ => some k_ ≠ (v103 : Value).ownBlock ∧ some k_ ≠ (.slice Ao33 y130.length co33 : Value).ownBlock)) k_ ∧ some k_ ≠ (u6 : Value).ownBlock) (Kd.R_apart' (Kd.R_apart' (HO138.out) (Kd.S_typed HO_5.out) (by decide)) (Kd.S_typed HO_6.out) (by decide)) (fun k_ hk => ⟨⟨hk.1.2, hk.1.1.2⟩, hk.2⟩))) (fun _ h_ => h_))); (case aB => exact tc40_); (case aF => exact tc41_); (case aO => exact tc102_); (case aS => exact tc35_); (case aL => have := LMc26.out; omega); intro v140 w37 ho hb hg hat; rw [← Ny139.out] at ho; replace HO_5 := am_ (Kd.S_after (ok := (fun k_ => some k_ ≠ (.slice Ao33 y130.length co33 : Value).ownBlock ∧ some k_ ≠ (.slice Ao38 y136.length co38 : Value).ownBlock)) tc116_ hg hat); replace HI101 := am_ (IsS41.grown tc6_ hg (IsS41.own_neS HI101.out HO_6.out (by decide))); replace HO132 := am_ (Kd.R_over' tc25_ (Kd.S_typed tc13_) (by decide) hg); replace HB := am_ (hb); have HO141 := am_ (ho); clear HO_6 HO138; clear ho hb hg hat) | (refine gc_ (some 48) Try.func41 #[.pointer (some ⟨gb101, 0, none⟩), .int .i64 20] ?_; (with_reducible refine (spec_l1Cur_one.calls gb101 l0 t134 t135 20 true t143 t144 w _ ?side1 ?side2 A27.out).mono ?_); (case side1 => exact tc6_); (case side2 => exact tc7_); rintro e w39 ⟨rfl, hi, hb, hk⟩; refine ⟨_, rfl, ?_⟩; replace HO_5 := am_ (Kd.S_mono (Kd.S_keep (IsS41.apartS (show IsS41 w _ gb101 l0 t134 t135 from tc6_) tc10_ (by decide)) hk (fun _ h => h.2)) (fun _ h => h.1)); replace HO132 := am_ (Kd.R_mono (Kd.R_keep (IsS41.apart (show IsS41 w _ gb101 l0 t134 t135 from tc6_) tc25_ (by decide)) hk (fun _ h => h.2)) (fun _ h => h.1)); replace HO141 := am_ (Kd.S_mono (Kd.S_keep (IsS41.apartS (show IsS41 w _ gb101 l0 t134 t135 from tc6_) tc56_ (by decide)) hk (fun _ h => h.2)) (fun _ h => h.1)); replace HB := am_ (hb); replace HI101 := am_ (hi); (try clear hb hk hi)) | ((with_reducible refine gate_dst (N := 50) rfl ?_); refine Kd.R_lit (Kd.int .i64) _ 3 ?hg (N := 50) ?hd (xs := ([1] : List Int)) (inner := [.int .i64 1]) (ok := fun _ => True) (okp := fun _ => True) ?hr ?hp (fun _ hk => hk) trivial (Below.refl _ _) (Nat.le_refl _) (by simp) ?_; (case hd => rfl); (case hg => rfl); (case hr => exact tc26_); (case hp => exact (Reps.one (show Kd.M (Kd.int .i64) _ _ _ 1 [.int .i64 1] from rfl) (Reps.none _ _))); intro v146 w40 ho41 hb hg_ hnew_; clear hg_ hnew_; (first | rw [← Ny145.out] at ho41 | (simp only [Int.reduceToNat] at ho41; rw [← Ny145.out] at ho41)); replace HO_5 := am_ (Kd.S_elder' tc10_ (Kd.R_base ho41) hb); replace HO141 := am_ (Kd.S_elder' tc56_ (Kd.R_base ho41) hb); have HO147 := am_ (Kd.R_lower (Kd.R_new' ho41 (Kd.R_lt tc25_)) (below_size tc7_)); replace HO132 := am_ (Kd.R_elder' tc25_ (Kd.R_base ho41) hb); replace HB := am_ (below_step tc7_ hb); replace HI101 := am_ (IsS41.below tc6_ hb); clear hb ho41; obtain ⟨Ao43, co43, eo43⟩ := Kd.R_slice HO147.out; subst eo43) | ((with_reducible refine gate_builtin (b := .append) (xs := #[.tmp 49, .tmp 51]) rfl ?_); at_builtin; refine Kd.S_append (Kd.slice 3 (Kd.int .i64)) (w0 := w) w.heap.size rfl (.tmp 49) (.tmp 51) 24 32 (.slice none 0 0) 24 rfl Try.underlying24 info32 rfl (by decide) (by omega) v140 y139 y145 [.slice Ao43 y145.length co43] (fun k_ => some k_ ≠ (v103 : Value).ownBlock ∧ some k_ ≠ (.slice Ao33 y130.length co33 : Value).ownBlock) (fun k_ => some k_ = (.slice Ao43 y145.length co43 : Value).ownBlock) rfl rfl ?aP (fun k_ hk_ => ((Kd.R_mono (ok' := fun k_ => ((fun k_ => some k_ ≠ (v103 : Value).ownBlock ∧ some k_ ≠ (.slice Ao33 y130.length co33 : Value).ownBlock)) k_ ∧ some k_ ≠ (v140 : Value).ownBlock) (Kd.R_apart' (Kd.R_apart' (HO147.out) (Kd.S_typed HO_5.out) (by decide)) (Kd.S_typed HO141.out) (by decide)) (fun k_ hk => ⟨⟨hk.1.2, hk.1.1.2⟩, hk.2⟩))).1 k_ hk_.symm) ?aF ?aO ?aB ?aS ?aL ?_; (case aP => exact Kd.M_row (Kd.R_mono (Kd.R_tight rfl (Kd.R_mono (ok' := fun k_ => ((fun k_ => some k_ ≠ (v103 : Value).ownBlock ∧ some k_ ≠ (.slice Ao33 y130.length co33 : Value).ownBlock)) k_ ∧ some k_ ≠ (v140 : Value).ownBlock) (Kd.R_apart' (Kd.R_apart' (HO147.out) (Kd.S_typed HO_5.out) (by decide)) (Kd.S_typed HO141.out) (by decide)) (fun k_ hk => ⟨⟨hk.1.2, hk.1.1.2⟩, hk.2⟩))) (fun _ h_ => h_))); (case aB => exact tc40_); (case aF => exact tc41_); (case aO => exact (by (with_reducible repeat (first | apply Kd.S_alloc | apply Kd.S_drewN | apply Kd.S_drew)); exact Kd.S_mono HO141.out (fun k_ hk => ⟨⟨hk.1.1, hk.1.2⟩, fun e_ => hk.2 e_⟩))); (case aS => exact tc35_); (case aL => have := LMc29.out; omega); intro v149 w42 ho hb hg hat; rw [← Ny148.out] at ho; have n0_ := am_ (Kd.S_after (ok := (fun k_ => some k_ ≠ (.slice Ao33 y130.length co33 : Value).ownBlock ∧ some k_ ≠ (.slice Ao43 y145.length co43 : Value).ownBlock)) (by (with_reducible repeat (first | apply Kd.S_alloc | apply Kd.S_drewN | apply Kd.S_drew)); exact Kd.S_mono HO_5.out (fun _ hk => ⟨⟨hk.1.1.1, hk.2⟩, hk.1.2⟩)) hg hat); have n1_ := am_ (IsS41.grown tc6_ hg (IsS41.own_neS HI101.out HO141.out (by decide))); have n2_ := am_ (Kd.R_over' tc25_ (Kd.S_typed tc56_) (by decide) hg); have n3_ := am_ (hb); have n4_ := am_ (ho); clear HO_5 HI101; clear HO132 HB; clear HO141 HO147; have HO_5 := n0_; have HI101 := n1_; have HO132 := n2_; have HB := n3_; have HO150 := n4_; clear n0_ n1_ n2_ n3_ n4_; clear ho hb hg hat))
      go_ret2
      exact ⟨_, _, tc9_, tc74_, (by (with_reducible repeat (first | apply Kd.S_alloc | apply Kd.S_drewN | apply Kd.S_drew)); exact Kd.S_mono HO150.out (fun _ hk => hk.1)), tc7_⟩
     ·replace c28 := Bool.eq_false_iff.mpr c28; subst c28; have H1 : (some (t102, y139)) = some (r1, r2) := tc14_; clear H; have H := H1; clear H1; simp only [Option.some.injEq, Prod.mk.injEq] at H; obtain ⟨rfl, rfl⟩ := H
      go_wp2_with (first | (refine gc_ (some 39) Try.func41 #[.pointer (some ⟨gb101, 0, none⟩), .int .i64 15] ?_; (with_reducible refine (spec_l1Cur_one.calls gb101 l0 x102001_1 x102002_1 15 true t128 t129 w _ ?side1 ?side2 A23.out).mono ?_); (case side1 => exact tc6_); (case side2 => exact tc7_); rintro e w44 ⟨rfl, hi, hb, hk⟩; refine ⟨_, rfl, ?_⟩; replace HO_5 := am_ (Kd.S_mono (Kd.S_keep (IsS41.apartS (show IsS41 w _ gb101 l0 x102001_1 x102002_1 from tc6_) tc10_ (by decide)) hk (fun _ h => h.2)) (fun _ h => h.1)); replace HO_6 := am_ (Kd.S_mono (Kd.S_keep (IsS41.apartS (show IsS41 w _ gb101 l0 x102001_1 x102002_1 from tc6_) tc13_ (by decide)) hk (fun _ h => h.2)) (fun _ h => h.1)); replace HB := am_ (hb); replace HI101 := am_ (hi); (try clear hb hk hi)) | ((with_reducible refine gate_dst (N := 42) rfl ?_); refine Kd.R_lit (Kd.int .i64) _ 3 ?hg (N := 42) ?hd (xs := ([0, (-1), 6] : List Int)) (inner := [.int .i64 0, .int .i64 (-1), .int .i64 6]) (ok := fun _ => True) (okp := fun _ => True) ?hr ?hp (fun _ hk => hk) trivial (Below.refl _ _) (Nat.le_refl _) (by simp) ?_; (case hd => rfl); (case hg => rfl); (case hr => exact tc26_); (case hp => exact (Reps.one (show Kd.M (Kd.int .i64) _ _ _ 0 [.int .i64 0] from rfl) (Reps.one (show Kd.M (Kd.int .i64) _ _ _ (-1) [.int .i64 (-1)] from rfl) (Reps.one (show Kd.M (Kd.int .i64) _ _ _ 6 [.int .i64 6] from rfl) (Reps.none _ _))))); intro v131 w45 ho46 hb hg_ hnew_; clear hg_ hnew_; (first | rw [← Ny130.out] at ho46 | (simp only [Int.reduceToNat] at ho46; rw [← Ny130.out] at ho46)); replace HO_5 := am_ (Kd.S_elder' tc10_ (Kd.R_base ho46) hb); replace HO_6 := am_ (Kd.S_elder' tc13_ (Kd.R_base ho46) hb); have HO132 := am_ (Kd.R_lower ho46 (below_size tc7_)); replace HB := am_ (below_step tc7_ hb); replace HI101 := am_ (IsS41.below tc6_ hb); clear hb ho46; obtain ⟨Ao47, co47, eo47⟩ := Kd.R_slice HO132.out; subst eo47) | (refine gc_ (some 43) Try.func20 #[.pointer (some ⟨gb101, 0, none⟩), .slice Ao47 y130.length co47] ?_; (with_reducible refine (spec_l1Cur_among.calls gb101 l0 t128 t129 _ _ y130 t133 t134 t135 w _ ?side1 ?side2 ?side3 ?side4 ?side5 A25.out).mono ?_); (case side1 => exact tc6_); (case side2 => exact tc7_); (case side3 => repeat (first | exact (Kd.R_reads' HO132.out).2.2 | (with_reducible refine Kd.C_alloc ?_ _) | (with_reducible refine Kd.C_drewN ?_ _) | (with_reducible refine Kd.C_drew ?_))); (case side4 => exact (Kd.R_reads' HO132.out).2.1); (case side5 => exact far_slice (IsS41.own_ne HI101.out HO132.out (by decide))); rintro e w48 ⟨rfl, hi, hb, hk⟩; refine ⟨_, rfl, ?_⟩; replace HO_5 := am_ (Kd.S_mono (Kd.S_keep (IsS41.apartS (show IsS41 w _ gb101 l0 t128 t129 from tc6_) tc10_ (by decide)) hk (fun _ h => h.2)) (fun _ h => h.1)); replace HO_6 := am_ (Kd.S_mono (Kd.S_keep (IsS41.apartS (show IsS41 w _ gb101 l0 t128 t129 from tc6_) tc13_ (by decide)) hk (fun _ h => h.2)) (fun _ h => h.1)); replace HO132 := am_ (Kd.R_mono (Kd.R_keep (IsS41.apart (show IsS41 w _ gb101 l0 t128 t129 from tc6_) tc25_ (by decide)) hk (fun _ h => h.2)) (fun _ h => h.1)); replace HB := am_ (hb); replace HI101 := am_ (hi); (try clear hb hk hi)) | ((with_reducible refine gate_dst (N := 44) rfl ?_); refine Kd.R_lit (Kd.int .i64) _ 3 ?hg (N := 44) ?hd (xs := ([t133, 1] : List Int)) (inner := [.int .i64 t133, .int .i64 1]) (ok := fun _ => True) (okp := fun _ => True) ?hr ?hp (fun _ hk => hk) trivial (Below.refl _ _) (Nat.le_refl _) (by simp) ?_; (case hd => rfl); (case hg => rfl); (case hr => exact tc26_); (case hp => exact (Reps.one (show Kd.M (Kd.int .i64) _ _ _ t133 [.int .i64 t133] from rfl) (Reps.one (show Kd.M (Kd.int .i64) _ _ _ 1 [.int .i64 1] from rfl) (Reps.none _ _)))); intro v137 w49 ho50 hb hg_ hnew_; clear hg_ hnew_; (first | rw [← Ny136.out] at ho50 | (simp only [Int.reduceToNat] at ho50; rw [← Ny136.out] at ho50)); replace HO_5 := am_ (Kd.S_elder' tc10_ (Kd.R_base ho50) hb); replace HO_6 := am_ (Kd.S_elder' tc13_ (Kd.R_base ho50) hb); have HO138 := am_ (Kd.R_lower (Kd.R_new' ho50 (Kd.R_lt tc25_)) (below_size tc7_)); replace HO132 := am_ (Kd.R_elder' tc25_ (Kd.R_base ho50) hb); replace HB := am_ (below_step tc7_ hb); replace HI101 := am_ (IsS41.below tc6_ hb); clear hb ho50; obtain ⟨Ao52, co52, eo52⟩ := Kd.R_slice HO138.out; subst eo52) | ((with_reducible refine gate_builtin (b := .append) (xs := #[.tmp 40, .tmp 45]) rfl ?_); at_builtin; refine Kd.S_append (Kd.slice 3 (Kd.int .i64)) (w0 := w) w.heap.size rfl (.tmp 40) (.tmp 45) 24 32 (.slice none 0 0) 24 rfl Try.underlying24 info32 rfl (by decide) (by omega) u6 x6_1 y136 [.slice Ao52 y136.length co52] (fun k_ => some k_ ≠ (v103 : Value).ownBlock ∧ some k_ ≠ (.slice Ao47 y130.length co47 : Value).ownBlock) (fun k_ => some k_ = (.slice Ao52 y136.length co52 : Value).ownBlock) rfl rfl ?aP (fun k_ hk_ => ((Kd.R_mono (ok' := fun k_ => ((fun k_ => some k_ ≠ (v103 : Value).ownBlock ∧ some k_ ≠ (.slice Ao47 y130.length co47 : Value).ownBlock)) k_ ∧ some k_ ≠ (u6 : Value).ownBlock) (Kd.R_apart' (Kd.R_apart' (HO138.out) (Kd.S_typed HO_5.out) (by decide)) (Kd.S_typed HO_6.out) (by decide)) (fun k_ hk => ⟨⟨hk.1.2, hk.1.1.2⟩, hk.2⟩))).1 k_ hk_.symm) ?aF ?aO ?aB ?aS ?aL ?_; (case aP => exact Kd.M_row (Kd.R_mono (Kd.R_tight rfl (Kd.R_mono (ok' := fun k_ => ((fun k_ => some k_ ≠ (v103 : Value).ownBlock ∧ some k_ ≠ (.slice Ao47 y130.length co47 : Value).ownBlock)) k_ ∧ some k_ ≠ (u6 : Value).ownBlock) (Kd.R_apart' (Kd.R_apart' (HO138.out) (Kd.S_typed HO_5.out) (by decide)) (Kd.S_typed HO_6.out) (by decide)) (fun k_ hk => ⟨⟨hk.1.2, hk.1.1.2⟩, hk.2⟩))) (fun _ h_ => h_))); (case aB => exact tc40_); (case aF => exact tc41_); (case aO => exact tc102_); (case aS => exact tc35_); (case aL => have := LMc26.out; omega); intro v140 w51 ho hb hg hat; rw [← Ny139.out] at ho; replace HO_5 := am_ (Kd.S_after (ok := (fun k_ => some k_ ≠ (.slice Ao47 y130.length co47 : Value).ownBlock ∧ some k_ ≠ (.slice Ao52 y136.length co52 : Value).ownBlock)) tc116_ hg hat); replace HI101 := am_ (IsS41.grown tc6_ hg (IsS41.own_neS HI101.out HO_6.out (by decide))); replace HO132 := am_ (Kd.R_over' tc25_ (Kd.S_typed tc13_) (by decide) hg); replace HB := am_ (hb); have HO141 := am_ (ho); clear HO_6 HO138; clear ho hb hg hat) | (refine gc_ (some 48) Try.func41 #[.pointer (some ⟨gb101, 0, none⟩), .int .i64 20] ?_; (with_reducible refine (spec_l1Cur_one.calls gb101 l0 t134 t135 20 false t143 t144 w _ ?side1 ?side2 A27.out).mono ?_); (case side1 => exact tc6_); (case side2 => exact tc7_); rintro e w53 ⟨rfl, hi, hb, hk⟩; refine ⟨_, rfl, ?_⟩; replace HO_5 := am_ (Kd.S_mono (Kd.S_keep (IsS41.apartS (show IsS41 w _ gb101 l0 t134 t135 from tc6_) tc10_ (by decide)) hk (fun _ h => h.2)) (fun _ h => h.1)); replace HO132 := am_ (Kd.R_mono (Kd.R_keep (IsS41.apart (show IsS41 w _ gb101 l0 t134 t135 from tc6_) tc25_ (by decide)) hk (fun _ h => h.2)) (fun _ h => h.1)); replace HO141 := am_ (Kd.S_mono (Kd.S_keep (IsS41.apartS (show IsS41 w _ gb101 l0 t134 t135 from tc6_) tc56_ (by decide)) hk (fun _ h => h.2)) (fun _ h => h.1)); replace HB := am_ (hb); replace HI101 := am_ (hi); (try clear hb hk hi)))
      go_ret2
      exact ⟨_, _, tc9_, tc74_, (by (with_reducible repeat (first | apply Kd.S_alloc | apply Kd.S_drewN | apply Kd.S_drew)); exact Kd.S_mono HO141.out (fun _ hk => hk.1)), tc7_⟩
    ·replace c24 := Bool.eq_false_iff.mpr c24; subst c24; have H1 : ((spec_l1Cur_one.f l0 t128 t129 20).bind fun bt151 => (if bt151.1 = true then (if x6_1.length < 5864062014805 then (some (t102, (x6_1 ++ [(([1] : List Int))]))) else (none)) else (some (t102, x6_1)))) = some (r1, r2) := tc14_; clear H; have H := H1; clear H1; replace H := Option.bind_eq_some_iff.mp H; obtain ⟨⟨t151, t152, t153⟩, A540, H⟩ := H; (try dsimp only at H); have A54 := am_ A540; clear A540
     by_cases c55 : t151 = true
     ·subst c55; have H1 : (if x6_1.length < 5864062014805 then (some (t102, (x6_1 ++ [(([1] : List Int))]))) else (none)) = some (r1, r2) := tc21_; clear H; have H := H1; clear H1; obtain ⟨y154, hy154⟩ : ∃ y_ : List Int, y_ = (([1] : List Int)) := ⟨_, rfl⟩; replace H : (if x6_1.length < 5864062014805 then (some (t102, (x6_1 ++ [y154]))) else (none)) = some (r1, r2) := (by first | (rw [hy154]; with_reducible exact H) | (have H2_ := (Option.bind_some _ _).symm.trans H; rw [hy154]; with_reducible exact H2_) | (have H2_ := (Option.bind_some _ _).symm.trans H; with_reducible exact H2_) | with_reducible exact H | (rw [hy154]; exact H) | exact H); have Ny154 := am_ hy154; clear hy154; replace H := pp_ H; obtain ⟨c56, H⟩ := H; have LMc56 := am_ c56; clear c56; obtain ⟨y157, hy157⟩ : ∃ y_ : Tb_, y_ = (x6_1 ++ [y154]) := ⟨_, rfl⟩; replace H : (some (t102, y157)) = some (r1, r2) := (by first | (rw [hy157]; with_reducible exact H) | (have H2_ := (Option.bind_some _ _).symm.trans H; rw [hy157]; with_reducible exact H2_) | (have H2_ := (Option.bind_some _ _).symm.trans H; with_reducible exact H2_) | with_reducible exact H | (rw [hy157]; exact H) | exact H); have Ny157 := am_ hy157; clear hy157; simp only [Option.some.injEq, Prod.mk.injEq] at H; obtain ⟨rfl, rfl⟩ := H
      go_wp2_with (first | (refine gc_ (some 39) Try.func41 #[.pointer (some ⟨gb101, 0, none⟩), .int .i64 15] ?_; (with_reducible refine (spec_l1Cur_one.calls gb101 l0 x102001_1 x102002_1 15 false t128 t129 w _ ?side1 ?side2 A23.out).mono ?_); (case side1 => exact tc6_); (case side2 => exact tc7_); rintro e w57 ⟨rfl, hi, hb, hk⟩; refine ⟨_, rfl, ?_⟩; replace HO_5 := am_ (Kd.S_mono (Kd.S_keep (IsS41.apartS (show IsS41 w _ gb101 l0 x102001_1 x102002_1 from tc6_) tc10_ (by decide)) hk (fun _ h => h.2)) (fun _ h => h.1)); replace HO_6 := am_ (Kd.S_mono (Kd.S_keep (IsS41.apartS (show IsS41 w _ gb101 l0 x102001_1 x102002_1 from tc6_) tc13_ (by decide)) hk (fun _ h => h.2)) (fun _ h => h.1)); replace HB := am_ (hb); replace HI101 := am_ (hi); (try clear hb hk hi)) | (refine gc_ (some 48) Try.func41 #[.pointer (some ⟨gb101, 0, none⟩), .int .i64 20] ?_; (with_reducible refine (spec_l1Cur_one.calls gb101 l0 t128 t129 20 true t152 t153 w _ ?side1 ?side2 A54.out).mono ?_); (case side1 => exact tc6_); (case side2 => exact tc7_); rintro e w58 ⟨rfl, hi, hb, hk⟩; refine ⟨_, rfl, ?_⟩; replace HO_5 := am_ (Kd.S_mono (Kd.S_keep (IsS41.apartS (show IsS41 w _ gb101 l0 t128 t129 from tc6_) tc10_ (by decide)) hk (fun _ h => h.2)) (fun _ h => h.1)); replace HO_6 := am_ (Kd.S_mono (Kd.S_keep (IsS41.apartS (show IsS41 w _ gb101 l0 t128 t129 from tc6_) tc13_ (by decide)) hk (fun _ h => h.2)) (fun _ h => h.1)); replace HB := am_ (hb); replace HI101 := am_ (hi); (try clear hb hk hi)) | ((with_reducible refine gate_dst (N := 50) rfl ?_); refine Kd.R_lit (Kd.int .i64) _ 3 ?hg (N := 50) ?hd (xs := ([1] : List Int)) (inner := [.int .i64 1]) (ok := fun _ => True) (okp := fun _ => True) ?hr ?hp (fun _ hk => hk) trivial (Below.refl _ _) (Nat.le_refl _) (by simp) ?_; (case hd => rfl); (case hg => rfl); (case hr => exact tc26_); (case hp => exact (Reps.one (show Kd.M (Kd.int .i64) _ _ _ 1 [.int .i64 1] from rfl) (Reps.none _ _))); intro v155 w59 ho60 hb hg_ hnew_; clear hg_ hnew_; (first | rw [← Ny154.out] at ho60 | (simp only [Int.reduceToNat] at ho60; rw [← Ny154.out] at ho60)); replace HO_5 := am_ (Kd.S_elder' tc10_ (Kd.R_base ho60) hb); replace HO_6 := am_ (Kd.S_elder' tc13_ (Kd.R_base ho60) hb); have HO156 := am_ (Kd.R_lower ho60 (below_size tc7_)); replace HB := am_ (below_step tc7_ hb); replace HI101 := am_ (IsS41.below tc6_ hb); clear hb ho60; obtain ⟨Ao62, co62, eo62⟩ := Kd.R_slice HO156.out; subst eo62) | ((with_reducible refine gate_builtin (b := .append) (xs := #[.tmp 49, .tmp 51]) rfl ?_); at_builtin; refine Kd.S_append (Kd.slice 3 (Kd.int .i64)) (w0 := w) w.heap.size rfl (.tmp 49) (.tmp 51) 24 32 (.slice none 0 0) 24 rfl Try.underlying24 info32 rfl (by decide) (by omega) u6 x6_1 y154 [.slice Ao62 y154.length co62] (fun k_ => some k_ ≠ (v103 : Value).ownBlock) (fun k_ => some k_ = (.slice Ao62 y154.length co62 : Value).ownBlock) rfl rfl ?aP (fun k_ hk_ => ((Kd.R_mono (ok' := fun k_ => ((fun k_ => some k_ ≠ (v103 : Value).ownBlock)) k_ ∧ some k_ ≠ (u6 : Value).ownBlock) (Kd.R_apart' (Kd.R_apart' (HO156.out) (Kd.S_typed HO_5.out) (by decide)) (Kd.S_typed HO_6.out) (by decide)) (fun k_ hk => ⟨hk.1.2, hk.2⟩))).1 k_ hk_.symm) ?aF ?aO ?aB ?aS ?aL ?_; (case aP => exact Kd.M_row (Kd.R_mono (Kd.R_tight rfl (Kd.R_mono (ok' := fun k_ => ((fun k_ => some k_ ≠ (v103 : Value).ownBlock)) k_ ∧ some k_ ≠ (u6 : Value).ownBlock) (Kd.R_apart' (Kd.R_apart' (HO156.out) (Kd.S_typed HO_5.out) (by decide)) (Kd.S_typed HO_6.out) (by decide)) (fun k_ hk => ⟨hk.1.2, hk.2⟩))) (fun _ h_ => h_))); (case aB => exact tc40_); (case aF => exact (fun k_ hk => Kd.fresh' (Kd.S_lt tc10_) k_ hk)); (case aO => exact tc115_); (case aS => exact tc35_); (case aL => have := LMc56.out; omega); intro v158 w61 ho hb hg hat; rw [← Ny157.out] at ho; replace HO_5 := am_ (Kd.S_after (ok := (fun k_ => some k_ ≠ (.slice Ao62 y154.length co62 : Value).ownBlock)) tc124_ hg hat); replace HI101 := am_ (IsS41.grown tc6_ hg (IsS41.own_neS HI101.out HO_6.out (by decide))); replace HB := am_ (hb); have HO159 := am_ (ho); clear HO_6 HO156; clear ho hb hg hat))
      go_ret2
      exact ⟨_, _, tc9_, tc74_, (by (with_reducible repeat (first | apply Kd.S_alloc | apply Kd.S_drewN | apply Kd.S_drew)); exact HO159.out), tc7_⟩
     ·replace c55 := Bool.eq_false_iff.mpr c55; subst c55; have H1 : (some (t102, x6_1)) = some (r1, r2) := tc14_; clear H; have H := H1; clear H1; simp only [Option.some.injEq, Prod.mk.injEq] at H; obtain ⟨rfl, rfl⟩ := H
      go_wp2_with (first | (refine gc_ (some 39) Try.func41 #[.pointer (some ⟨gb101, 0, none⟩), .int .i64 15] ?_; (with_reducible refine (spec_l1Cur_one.calls gb101 l0 x102001_1 x102002_1 15 false t128 t129 w _ ?side1 ?side2 A23.out).mono ?_); (case side1 => exact tc6_); (case side2 => exact tc7_); rintro e w63 ⟨rfl, hi, hb, hk⟩; refine ⟨_, rfl, ?_⟩; replace HO_5 := am_ (Kd.S_mono (Kd.S_keep (IsS41.apartS (show IsS41 w _ gb101 l0 x102001_1 x102002_1 from tc6_) tc10_ (by decide)) hk (fun _ h => h.2)) (fun _ h => h.1)); replace HO_6 := am_ (Kd.S_mono (Kd.S_keep (IsS41.apartS (show IsS41 w _ gb101 l0 x102001_1 x102002_1 from tc6_) tc13_ (by decide)) hk (fun _ h => h.2)) (fun _ h => h.1)); replace HB := am_ (hb); replace HI101 := am_ (hi); (try clear hb hk hi)) | (refine gc_ (some 48) Try.func41 #[.pointer (some ⟨gb101, 0, none⟩), .int .i64 20] ?_; (with_reducible refine (spec_l1Cur_one.calls gb101 l0 t128 t129 20 false t152 t153 w _ ?side1 ?side2 A54.out).mono ?_); (case side1 => exact tc6_); (case side2 => exact tc7_); rintro e w64 ⟨rfl, hi, hb, hk⟩; refine ⟨_, rfl, ?_⟩; replace HO_5 := am_ (Kd.S_mono (Kd.S_keep (IsS41.apartS (show IsS41 w _ gb101 l0 t128 t129 from tc6_) tc10_ (by decide)) hk (fun _ h => h.2)) (fun _ h => h.1)); replace HO_6 := am_ (Kd.S_mono (Kd.S_keep (IsS41.apartS (show IsS41 w _ gb101 l0 t128 t129 from tc6_) tc13_ (by decide)) hk (fun _ h => h.2)) (fun _ h => h.1)); replace HB := am_ (hb); replace HI101 := am_ (hi); (try clear hb hk hi)))
      go_ret2
      exact ⟨_, _, tc9_, tc10_, tc13_, tc7_⟩

/-! ### impl_ToggleCells: function 14 -/
def impl_ToggleCells.f (k : Nat) (l0 : Tb_) (l1 : Tb_) : Option (Tb_ × Bool) := (impl_IsSignMatrix.f k l0).bind fun t101 => (if t101 = true then ((impl_areCells.f k (l0.length : Int) l1).bind fun t102 => (if t102 = true then ((impl_toggled.f k l0 l1).bind fun t103 => (some (t103, true))) else (some (([] : Tb_), false)))) else (some (([] : Tb_), false)))
theorem impl_ToggleCells.calls (k : Nat) (A0 : Option Addr) (c0 : Nat) (l0 : Tb_) (A1 : Option Addr) (c1 : Nat) (l1 : Tb_) (r1 : Tb_) (r2 : Bool) (w : World) (hr0 : Kd.C (Kd.slice 3 (Kd.int .i64)) w A0 l0.length l0) (hc0 : l0.length ≤ c0) (hr1 : Kd.C (Kd.slice 3 (Kd.int .i64)) w A1 l1.length l1) (hc1 : l1.length ≤ c1) (h : impl_ToggleCells.f k l0 l1 = some (r1, r2)) :
  Calls Try.prog 14 #[.slice A0 l0.length c0, .slice A1 l1.length c1] w fun e w' => ∃ v0_ : Value, e = .returned (.tuple #[v0_, .bool r2]) ∧ Kd.S (Kd.slice 3 (Kd.int .i64)) 32 w' w.heap.size (fun _ => True) v0_ r1 ∧ Below w.heap.size w w' := by
 have HR0 := am_ hr0; have HC0 := am_ hc0; clear hr0 hc0; have HR1 := am_ hr1; have HC1 := am_ hc1; clear hr1 hc1; have HB := am_ (Below.refl w.heap.size w); (try unfold impl_ToggleCells.f at h); have H := h; clear h; replace H := bd_ H; obtain ⟨t101, A3, H⟩ := H; (try dsimp only at H)
 by_cases c4 : t101 = true
 ·subst c4; have H1 : ((impl_areCells.f k (l0.length : Int) l1).bind fun t102 => (if t102 = true then ((impl_toggled.f k l0 l1).bind fun t103 => (some (t103, true))) else (some (([] : Tb_), false)))) = some (r1, r2) := tc21_; clear H; have H := H1; clear H1; replace H := bd_ H; obtain ⟨t102, A5, H⟩ := H; (try dsimp only at H)
  by_cases c6 : t102 = true
  ·subst c6; have H1 : ((impl_toggled.f k l0 l1).bind fun t103 => (some (t103, true))) = some (r1, r2) := tc21_; clear H; have H := H1; clear H1; replace H := bd_ H; obtain ⟨t103, A7, H⟩ := H; (try dsimp only at H); simp only [Option.some.injEq, Prod.mk.injEq] at H; obtain ⟨rfl, rfl⟩ := H; go_enter Try.func14, Try.ntmps14
   go_wp2_with (first | (refine gc_ (some 7) Try.func21 #[.slice A0 l0.length c0] ?_; (with_reducible refine (impl_IsSignMatrix.calls k _ _ l0 true _ ?side1 ?side2 A3.out).mono ?_); (case side1 => exact tc11_); (case side2 => exact HC0.out); rintro e w8 ⟨rfl, hb⟩; refine ⟨_, rfl, ?_⟩; replace HB := am_ (below_step tc0_ hb); (try clear hb)) | (go_at_call 37; (with_reducible refine (impl_areCells.calls k (l0.length : Int) _ _ l1 true _ ?side1 ?side2 A5.out).mono ?_); (case side1 => exact tc18_); (case side2 => exact HC1.out); rintro e w9 ⟨rfl, hb⟩; replace HB := am_ (below_step tc0_ hb); (try clear hb hb2 hk hi)) | (refine gc_ (some 18) Try.func42 #[.slice A0 l0.length c0, .slice A1 l1.length c1] ?_; (with_reducible refine (impl_toggled.calls k _ _ l0 _ _ l1 t103 _ ?side1 ?side2 ?side3 ?side4 A7.out).mono ?_); (case side1 => exact tc20_); (case side2 => exact HC0.out); (case side3 => exact tc18_); (case side4 => exact HC1.out); rintro e w10 ⟨v104, rfl, ho0, hb⟩; refine ⟨_, rfl, ?_⟩; have HO105 := am_ (Kd.S_lower ho0 (below_size tc0_)); replace HB := am_ (below_step tc0_ hb); (try clear hb ho0)))
   go_ret2
   exact ⟨_, tc9_, tc87_, tc0_⟩
  ·replace c6 := Bool.eq_false_iff.mpr c6; subst c6; have H1 : (some (([] : Tb_), false)) = some (r1, r2) := tc14_; clear H; have H := H1; clear H1; simp only [Option.some.injEq, Prod.mk.injEq] at H; obtain ⟨rfl, rfl⟩ := H; go_enter Try.func14, Try.ntmps14
   go_wp2_with (first | (refine gc_ (some 7) Try.func21 #[.slice A0 l0.length c0] ?_; (with_reducible refine (impl_IsSignMatrix.calls k _ _ l0 true _ ?side1 ?side2 A3.out).mono ?_); (case side1 => exact tc11_); (case side2 => exact HC0.out); rintro e w11 ⟨rfl, hb⟩; refine ⟨_, rfl, ?_⟩; replace HB := am_ (below_step tc0_ hb); (try clear hb)) | (go_at_call 37; (with_reducible refine (impl_areCells.calls k (l0.length : Int) _ _ l1 false _ ?side1 ?side2 A5.out).mono ?_); (case side1 => exact tc18_); (case side2 => exact HC1.out); rintro e w12 ⟨rfl, hb⟩; replace HB := am_ (below_step tc0_ hb); (try clear hb hb2 hk hi)))
   go_ret2
   exact ⟨_, tc9_, tc17_, tc0_⟩
 ·replace c4 := Bool.eq_false_iff.mpr c4; subst c4; have H1 : (some (([] : Tb_), false)) = some (r1, r2) := tc14_; clear H; have H := H1; clear H1; simp only [Option.some.injEq, Prod.mk.injEq] at H; obtain ⟨rfl, rfl⟩ := H; go_enter Try.func14, Try.ntmps14
  go_wp2_with (first | (refine gc_ (some 7) Try.func21 #[.slice A0 l0.length c0] ?_; (with_reducible refine (impl_IsSignMatrix.calls k _ _ l0 false _ ?side1 ?side2 A3.out).mono ?_); (case side1 => exact tc11_); (case side2 => exact HC0.out); rintro e w13 ⟨rfl, hb⟩; refine ⟨_, rfl, ?_⟩; replace HB := am_ (below_step tc0_ hb); (try clear hb)))
  go_ret2
  exact ⟨_, tc9_, tc17_, tc0_⟩

/-! ### spec_heCell: function 43 -/
def spec_heCell.f (a0 : Int) (a1 : Int) (a2 : Int) : Option (Bool) := (spec_l1In.f a1 1 (wrap64 (a0 - 1))).bind fun t101 => (if t101 = true then ((spec_l1In.f a2 1 (wrap64 (a0 - 1))).bind fun t102 => (some t102)) else (some false))
theorem spec_heCell.calls (a0 : Int) (a1 : Int) (a2 : Int) (r : Bool) (w : World) (h : spec_heCell.f a0 a1 a2 = some r) :
  Calls Try.prog 43 #[.int .i64 a0, .int .i64 a1, .int .i64 a2] w fun e w' => e = .returned (.bool r) ∧ Drawn0 w w' := by
 (try unfold spec_heCell.f at h); have H := h; clear h; replace H := bd_ H; obtain ⟨t101, A4, H⟩ := H; (try dsimp only at H)
 by_cases c5 : t101 = true
 ·subst c5; have H1 : ((spec_l1In.f a2 1 (wrap64 (a0 - 1))).bind fun t102 => (some t102)) = some r := tc21_; clear H; have H := H1; clear H1; replace H := bd_ H; obtain ⟨t102, A6, H⟩ := H; (try dsimp only at H); obtain rfl := Option.some.inj H; go_enter Try.func43, Try.ntmps43
  go_wp2_with (first | (refine gc_ (some 10) Try.func25 #[.int .i64 a1, .int .i64 1, .int .i64 (wrap64 (a0 - 1))] ?_; (with_reducible refine (spec_l1In.calls a1 1 (wrap64 (a0 - 1)) true _ A4.out).mono ?_); rintro e w' ⟨rfl, ⟨nd, rfl⟩⟩; refine ⟨_, rfl, ?_⟩) | (go_at_call 25; (with_reducible refine (spec_l1In.calls a2 1 (wrap64 (a0 - 1)) t102 _ A6.out).mono ?_); rintro e w' ⟨rfl, ⟨nd, rfl⟩⟩))
  go_ret
  exact ⟨tc8_, tc12_⟩
 ·replace c5 := Bool.eq_false_iff.mpr c5; subst c5; have H1 : (some false) = some r := tc14_; clear H; have H := H1; clear H1; obtain rfl := Option.some.inj H; go_enter Try.func43, Try.ntmps43
  go_wp2_with (first | (refine gc_ (some 10) Try.func25 #[.int .i64 a1, .int .i64 1, .int .i64 (wrap64 (a0 - 1))] ?_; (with_reducible refine (spec_l1In.calls a1 1 (wrap64 (a0 - 1)) false _ A4.out).mono ?_); rintro e w' ⟨rfl, ⟨nd, rfl⟩⟩; refine ⟨_, rfl, ?_⟩))
  go_ret
  exact ⟨tc8_, tc12_⟩

/-! ### spec_ToggleCells: function 15 (by hand) -/
def spec_ToggleCells.l0 : Nat → Int → Tb_ → Int → Option Bool
  | 0, _, _, _ => none
  | k + 1, n, cs, i => if i < (cs.length : Int) then (if 0 ≤ i then (if ((rd_L3 cs i).length : Int) = 2 then ((spec_heCell.f n (rd (rd_L3 cs i) 0) (rd (rd_L3 cs i) 1)).bind fun t => if t = true then spec_ToggleCells.l0 k n cs (wrap64 (i + 1)) else some false) else some false) else none) else some true
def spec_ToggleCells.l1 : Nat → Tb_ → Tb_ → Int → Option Tb_
  | 0, _, _, _ => none
  | k + 1, cs, h, i => if i < (cs.length : Int) then (if 0 ≤ i then (if 1 < ((rd_L3 cs i).length : Int) then ((spec_gyToggle.f k h (rd (rd_L3 cs i) 0) (rd (rd_L3 cs i) 1)).bind fun h' => spec_ToggleCells.l1 k cs h' (wrap64 (i + 1))) else none) else none) else some h
def spec_ToggleCells.f (k : Nat) (l0 l1 : Tb_) : Option (Tb_ × Bool) := (spec_sgGood.f k l0).bind fun t => if t = true then (if (l1.length : Int) > 200 then some ([], false) else ((spec_ToggleCells.l0 k (l0.length : Int) l1 0).bind fun b => if b = true then ((spec_heOf.f k l0).bind fun h => (spec_ToggleCells.l1 k l1 h 0).bind fun g => (spec_heFrom.f k g).bind fun r => some (r, true)) else some ([], false))) else some ([], false)
theorem spec_ToggleCells.mono0 : ∀ k n cs i, LeO (spec_ToggleCells.l0 k n cs i) (spec_ToggleCells.l0 (k + 1) n cs i)
  | 0, _, _, _ => LeO.none _
  | k + 1, n, cs, i => by
    unfold spec_ToggleCells.l0
    exact LeO.ite (LeO.ite (LeO.ite (LeO.bind (LeO.refl _) (fun _ => LeO.ite (spec_ToggleCells.mono0 k _ _ _) (LeO.refl _))) (LeO.refl _)) (LeO.none _)) (LeO.refl _)
theorem spec_ToggleCells.mono1 : ∀ k cs h i, LeO (spec_ToggleCells.l1 k cs h i) (spec_ToggleCells.l1 (k + 1) cs h i)
  | 0, _, _, _ => LeO.none _
  | k + 1, cs, h, i => by
    unfold spec_ToggleCells.l1
    exact LeO.ite (LeO.ite (LeO.ite (LeO.bind (spec_gyToggle.mono _ _ _ _) (fun _ => spec_ToggleCells.mono1 k _ _ _)) (LeO.none _)) (LeO.none _)) (LeO.refl _)
theorem spec_ToggleCells.calls (k : Nat) (A0 : Option Addr) (c0 : Nat) (l0 : Tb_) (A1 : Option Addr) (c1 : Nat) (l1 : Tb_) (r1 : Tb_) (r2 : Bool) (w : World) (hr0 : Kd.C (Kd.slice 3 (Kd.int .i64)) w A0 l0.length l0) (hc0 : l0.length ≤ c0) (hr1 : Kd.C (Kd.slice 3 (Kd.int .i64)) w A1 l1.length l1) (hc1 : l1.length ≤ c1) (h : spec_ToggleCells.f k l0 l1 = some (r1, r2)) :
    Calls Try.prog 15 #[.slice A0 l0.length c0, .slice A1 l1.length c1] w fun e w' => ∃ v0_ : Value, e = .returned (.tuple #[v0_, .bool r2]) ∧ Kd.S (Kd.slice 3 (Kd.int .i64)) 32 w' w.heap.size (fun _ => True) v0_ r1 ∧ Below w.heap.size w w' := by
  obtain ⟨t, ht, h⟩ := Option.bind_eq_some_iff.mp h
  have HTT := am_ ht
  have HR0 := am_ hr0
  have HC0 := am_ hc0
  have HR1 := am_ hr1
  have HC1 := am_ hc1
  clear ht hr0 hc0 hr1 hc1
  cases t with
  | false =>
    rw [if_neg (by simp)] at h
    obtain ⟨rfl, rfl⟩ := Prod.mk.inj (Option.some.inj h)
    clear h
    go_enter Try.func15, Try.ntmps15
    go_wp2_with (first | (go_at_call 24; (refine (spec_sgGood.calls k _ _ l0 false _ HR0.out HC0.out HTT.out).mono ?_); rintro e w1 ⟨rfl, hb⟩; have HB1 := am_ hb; clear hb))
    go_ret2
    exact ⟨_, rfl, Kd.S_nil _ _ _ _ _, HB1.out⟩
  | true =>
    rw [if_pos rfl] at h
    by_cases c1_ : (l1.length : Int) > 200
    · rw [if_pos c1_] at h
      have c1b := decide_eq_true c1_
      obtain ⟨rfl, rfl⟩ := Prod.mk.inj (Option.some.inj h)
      clear h c1_
      go_enter Try.func15, Try.ntmps15
      go_wp2_with (first | (go_at_call 24; (refine (spec_sgGood.calls k _ _ l0 true _ HR0.out HC0.out HTT.out).mono ?_); rintro e w1 ⟨rfl, hb⟩; have HB1 := am_ hb; clear hb))
      go_ret2
      exact ⟨_, rfl, Kd.S_nil _ _ _ _ _, HB1.out⟩
    rw [if_neg c1_] at h
    have c1b := decide_eq_false c1_
    obtain ⟨bb, hbb, h⟩ := Option.bind_eq_some_iff.mp h
    have HL0 := am_ hbb
    have HH := am_ h
    obtain ⟨m, hm⟩ : ∃ m, l0.length = m := ⟨_, rfl⟩
    have HM := am_ hm
    clear hbb h c1_
    rw [hm] at HL0 HR0 HC0 ⊢
    clear hm
    go_enter Try.func15, Try.ntmps15
    go_wp2_with (first | (go_at_call 24; rw [← HM.out]; (refine (spec_sgGood.calls k _ _ l0 true _ (by rw [HM.out]; exact HR0.out) (by rw [HM.out]; exact HC0.out) HTT.out).mono ?_); rintro e w1 ⟨rfl, hb⟩; have HB1 := am_ hb; rw [HM.out]; clear hb))
    go_loopg [21] k (fun kq v21 w' => ∃ (i : Int), v21 = .int .i64 i ∧ Aside0 (spec_ToggleCells.l0 kq (m : Int) l1 i = some bb) ∧ Aside0 (kq ≤ k) ∧ Aside0 (Below w.heap.size w w'))
    case atStart => exact ⟨0, rfl, HL0, ⟨Nat.le_refl _⟩, HB1⟩
    case round =>
      clear HL0 HB1 HTT
      obtain ⟨i, rfl, HE, HK1, HB⟩ := hrel
      cases gk with
      | zero => exact absurd HE.out (by simp [spec_ToggleCells.l0])
      | succ k1 =>
        have H := HE.out
        clear HE
        simp only [spec_ToggleCells.l0] at H
        by_cases c2 : i < (l1.length : Int)
        · rw [if_pos c2] at H
          have c2b := decide_eq_true c2
          by_cases c3 : 0 ≤ i
          case neg => rw [if_neg c3] at H; exact absurd H (by simp)
          rw [if_pos c3] at H
          have c2p := eq_true c2
          have c3p := eq_true c3
          obtain ⟨adL, AL, cL, eL, hxL, hlL, hiL⟩ := at_L3 (Kd.C_below HR1.out HB.out) i c3 c2
          cases eL
          by_cases c4 : ((rd_L3 l1 i).length : Int) = 2
          · rw [if_pos c4] at H
            have c4b : (((rd_L3 l1 i).length : Int) != 2) = false := by rw [c4]; rfl
            obtain ⟨t, ht, H⟩ := Option.bind_eq_some_iff.mp H
            have HT := am_ ht
            clear ht
            cases t with
            | true =>
              rw [if_pos rfl] at H
              have H' := am_ H
              clear H
              go_wp2_with fail
              have HBW := am_ (below_drew1 HB.out)
              replace hiL := Kd.C_drew hiL
              have AC0 := Kd.at_int hiL 0 (by omega) (by omega)
              obtain ⟨adc, eac, hc0⟩ := AC0
              subst eac
              obtain ⟨adc2, eac2, hc1⟩ := Kd.at_int hiL 1 (by omega) (by omega)
              obtain rfl := Option.some.inj eac2
              clear eac2
              rw [show ((0 : Int)).toNat = 0 from rfl, Addr.add_zero'] at hc0
              simp only [show (1 : Int).toNat = 1 from rfl, Nat.reduceMul, Nat.reduceEqDiff, Go.Addr.add, ↓reduceIte] at hc1
              have z5 : (0 < (rd_L3 l1 i).length) = True := eq_true (by omega)
              have z6 : (1 < (rd_L3 l1 i).length) = True := eq_true (by omega)
              have z7 : ((0 : Int) < ((rd_L3 l1 i).length : Int)) = True := eq_true (by omega)
              have z8 : ((1 : Int) < ((rd_L3 l1 i).length : Int)) = True := eq_true (by omega)
              refine start_ (n := 15) (S := fun w' => w'.cell? adc = some (.int .i64 (rd (rd_L3 l1 i) 0)) ∧ w'.cell? ⟨adc.block, adc.off + 1, none⟩ = some (.int .i64 (rd (rd_L3 l1 i) 1))) (ds := []) #[F_, F_, F_, F_, F_, F_, F_, F_, F_, F_, F_, F_, F_, F_, F_] (by kernel_rfl) rfl rfl ⟨hc0, hc1⟩ (fun hHeld => ?_)
              generalize hW_ : World.drew _ = W at HBW hc0 hc1 hHeld ⊢
              clear hW_
              refine pure_ (i := 0) (N := some 25) #[T_, F_, F_, F_, F_, F_, F_, F_, F_, F_, F_, F_, F_, F_, F_] rfl rfl ak_ hq_ yi_ nm_ ?_
              refine pure_ (i := 1) (N := some 26) #[T_, T_, F_, F_, F_, F_, F_, F_, F_, F_, F_, F_, F_, F_, F_] rfl rfl ak_ hq_ yi_ nm_ ?_
              refine pure_ (i := 2) (N := some 27) #[T_, T_, T_, F_, F_, F_, F_, F_, F_, F_, F_, F_, F_, F_, F_] rfl rfl ak_ hq_ yi_ nm_ ?_
              refine pure_ (i := 3) (N := some 28) #[T_, T_, T_, T_, F_, F_, F_, F_, F_, F_, F_, F_, F_, F_, F_] rfl rfl ak_ hq_ yi_ nm_ ?_
              refine pure_ (i := 4) (N := some 29) #[T_, T_, T_, T_, T_, F_, F_, F_, F_, F_, F_, F_, F_, F_, F_] rfl rfl ak_ hq_ yi_ nm_ ?_
              refine pure_ (i := 5) (N := some 30) #[T_, T_, T_, T_, T_, T_, F_, F_, F_, F_, F_, F_, F_, F_, F_] rfl rfl ak_ hq_ yi_ nm_ ?_
              refine pure_ (i := 6) (N := some 31) #[T_, T_, T_, T_, T_, T_, T_, F_, F_, F_, F_, F_, F_, F_, F_] rfl rfl ak_ hq_ yi_ nm_ ?_
              refine pure_ (i := 7) (N := some 32) #[T_, T_, T_, T_, T_, T_, T_, T_, F_, F_, F_, F_, F_, F_, F_] rfl rfl ak_ hq_ yi_ nm_ ?_
              refine pure_ (i := 9) (N := some 34) #[T_, T_, T_, T_, T_, T_, T_, T_, F_, T_, F_, F_, F_, F_, F_] rfl rfl ak_ hq_ yi_ nm_ ?_
              refine pure_ (i := 10) (N := some 35) #[T_, T_, T_, T_, T_, T_, T_, T_, F_, T_, T_, F_, F_, F_, F_] rfl rfl ak_ hq_ yi_ nm_ ?_
              refine take_ (i := 8) (N := some 33) #[T_, T_, T_, T_, T_, T_, T_, T_, T_, T_, T_, F_, F_, F_, F_] rfl rfl ak_ hq_ yj2_ hHeld nm_ ?_
              refine take_ (i := 11) (N := some 36) #[T_, T_, T_, T_, T_, T_, T_, T_, T_, T_, T_, T_, F_, F_, F_] rfl rfl ak_ hq_ yj2_ hHeld nm_ ?_
              refine one_ (i := 12) (N := some 37) #[T_, T_, T_, T_, T_, T_, T_, T_, T_, T_, T_, T_, T_, F_, F_] rfl rfl (by kernel_rfl) (by decide) (fun K hK => ?_)
              refine goes_ Try.func43 (by kernel_rfl) rfl #[.int .i64 (m : Int), .int .i64 (rd (rd_L3 l1 i) 0), .int .i64 (rd (rd_L3 l1 i) 1)] (by rfl) rfl rfl tc32_ ?_
              refine (spec_heCell.calls (m : Int) (rd (rd_L3 l1 i) 0) (rd (rd_L3 l1 i) 1) true W HT.out).mono ?_
              rintro e w7 ⟨rfl, hd_⟩
              refine ⟨_, rfl, ?_⟩
              have HB_w7 := am_ (below_of_drawn hd_)
              clear hd_
              refine hK.out _ _ ⟨cell_of_below HB_w7.out hc0, cell_of_below HB_w7.out hc1⟩ (fun hHeld => ?_)
              clear hK K
              refine norm_ (a' := ?_) ?_ ?_
              rotate_left
              · show Act.put _ (some 37) _ = _
                simp only [Act.put, List.setIfInBounds_toArray, List.set_cons_zero, List.set_cons_succ, i64_w, i32_w]
                rfl
              refine pure_ (i := 13) (N := some 38) #[T_, T_, T_, T_, T_, T_, T_, T_, T_, T_, T_, T_, T_, T_, F_] rfl rfl ak_ hq_ yi_ nm_ ?_
              refine pure_ (i := 14) (N := some 39) #[T_, T_, T_, T_, T_, T_, T_, T_, T_, T_, T_, T_, T_, T_, T_] rfl rfl ak_ hq_ yi_ nm_ ?_
              refine done_ (by kernel_rfl) ?_
              have HB8 := am_ (below_step HBW.out HB_w7.out)
              go_wp2
              go_roundg k1
              case measure => have := HK1.out; omega
              case rel => exact ⟨wrap64 (i + 1), rfl, H', ⟨by have := HK1.out; omega⟩, HB8⟩
            | false =>
              rw [if_neg (by simp)] at H
              obtain rfl := Option.some.inj H
              have h := HH.out
              rw [if_neg (by simp)] at h
              obtain ⟨rfl, rfl⟩ := Prod.mk.inj (Option.some.inj h)
              clear H h
              go_wp2_with fail
              have HBW := am_ (below_drew1 HB.out)
              replace hiL := Kd.C_drew hiL
              have AC0 := Kd.at_int hiL 0 (by omega) (by omega)
              obtain ⟨adc, eac, hc0⟩ := AC0
              subst eac
              obtain ⟨adc2, eac2, hc1⟩ := Kd.at_int hiL 1 (by omega) (by omega)
              obtain rfl := Option.some.inj eac2
              clear eac2
              rw [show ((0 : Int)).toNat = 0 from rfl, Addr.add_zero'] at hc0
              simp only [show (1 : Int).toNat = 1 from rfl, Nat.reduceMul, Nat.reduceEqDiff, Go.Addr.add, ↓reduceIte] at hc1
              have z5 : (0 < (rd_L3 l1 i).length) = True := eq_true (by omega)
              have z6 : (1 < (rd_L3 l1 i).length) = True := eq_true (by omega)
              have z7 : ((0 : Int) < ((rd_L3 l1 i).length : Int)) = True := eq_true (by omega)
              have z8 : ((1 : Int) < ((rd_L3 l1 i).length : Int)) = True := eq_true (by omega)
              refine start_ (n := 15) (S := fun w' => w'.cell? adc = some (.int .i64 (rd (rd_L3 l1 i) 0)) ∧ w'.cell? ⟨adc.block, adc.off + 1, none⟩ = some (.int .i64 (rd (rd_L3 l1 i) 1))) (ds := []) #[F_, F_, F_, F_, F_, F_, F_, F_, F_, F_, F_, F_, F_, F_, F_] (by kernel_rfl) rfl rfl ⟨hc0, hc1⟩ (fun hHeld => ?_)
              generalize hW_ : World.drew _ = W at HBW hc0 hc1 hHeld ⊢
              clear hW_
              refine pure_ (i := 0) (N := some 25) #[T_, F_, F_, F_, F_, F_, F_, F_, F_, F_, F_, F_, F_, F_, F_] rfl rfl ak_ hq_ yi_ nm_ ?_
              refine pure_ (i := 1) (N := some 26) #[T_, T_, F_, F_, F_, F_, F_, F_, F_, F_, F_, F_, F_, F_, F_] rfl rfl ak_ hq_ yi_ nm_ ?_
              refine pure_ (i := 2) (N := some 27) #[T_, T_, T_, F_, F_, F_, F_, F_, F_, F_, F_, F_, F_, F_, F_] rfl rfl ak_ hq_ yi_ nm_ ?_
              refine pure_ (i := 3) (N := some 28) #[T_, T_, T_, T_, F_, F_, F_, F_, F_, F_, F_, F_, F_, F_, F_] rfl rfl ak_ hq_ yi_ nm_ ?_
              refine pure_ (i := 4) (N := some 29) #[T_, T_, T_, T_, T_, F_, F_, F_, F_, F_, F_, F_, F_, F_, F_] rfl rfl ak_ hq_ yi_ nm_ ?_
              refine pure_ (i := 5) (N := some 30) #[T_, T_, T_, T_, T_, T_, F_, F_, F_, F_, F_, F_, F_, F_, F_] rfl rfl ak_ hq_ yi_ nm_ ?_
              refine pure_ (i := 6) (N := some 31) #[T_, T_, T_, T_, T_, T_, T_, F_, F_, F_, F_, F_, F_, F_, F_] rfl rfl ak_ hq_ yi_ nm_ ?_
              refine pure_ (i := 7) (N := some 32) #[T_, T_, T_, T_, T_, T_, T_, T_, F_, F_, F_, F_, F_, F_, F_] rfl rfl ak_ hq_ yi_ nm_ ?_
              refine pure_ (i := 9) (N := some 34) #[T_, T_, T_, T_, T_, T_, T_, T_, F_, T_, F_, F_, F_, F_, F_] rfl rfl ak_ hq_ yi_ nm_ ?_
              refine pure_ (i := 10) (N := some 35) #[T_, T_, T_, T_, T_, T_, T_, T_, F_, T_, T_, F_, F_, F_, F_] rfl rfl ak_ hq_ yi_ nm_ ?_
              refine take_ (i := 8) (N := some 33) #[T_, T_, T_, T_, T_, T_, T_, T_, T_, T_, T_, F_, F_, F_, F_] rfl rfl ak_ hq_ yj2_ hHeld nm_ ?_
              refine take_ (i := 11) (N := some 36) #[T_, T_, T_, T_, T_, T_, T_, T_, T_, T_, T_, T_, F_, F_, F_] rfl rfl ak_ hq_ yj2_ hHeld nm_ ?_
              refine one_ (i := 12) (N := some 37) #[T_, T_, T_, T_, T_, T_, T_, T_, T_, T_, T_, T_, T_, F_, F_] rfl rfl (by kernel_rfl) (by decide) (fun K hK => ?_)
              refine goes_ Try.func43 (by kernel_rfl) rfl #[.int .i64 (m : Int), .int .i64 (rd (rd_L3 l1 i) 0), .int .i64 (rd (rd_L3 l1 i) 1)] (by rfl) rfl rfl tc32_ ?_
              refine (spec_heCell.calls (m : Int) (rd (rd_L3 l1 i) 0) (rd (rd_L3 l1 i) 1) false W HT.out).mono ?_
              rintro e w7 ⟨rfl, hd_⟩
              refine ⟨_, rfl, ?_⟩
              have HB_w7 := am_ (below_of_drawn hd_)
              clear hd_
              refine hK.out _ _ ⟨cell_of_below HB_w7.out hc0, cell_of_below HB_w7.out hc1⟩ (fun hHeld => ?_)
              clear hK K
              refine norm_ (a' := ?_) ?_ ?_
              rotate_left
              · show Act.put _ (some 37) _ = _
                simp only [Act.put, List.setIfInBounds_toArray, List.set_cons_zero, List.set_cons_succ, i64_w, i32_w]
                rfl
              refine pure_ (i := 13) (N := some 38) #[T_, T_, T_, T_, T_, T_, T_, T_, T_, T_, T_, T_, T_, T_, F_] rfl rfl ak_ hq_ yi_ nm_ ?_
              refine pure_ (i := 14) (N := some 39) #[T_, T_, T_, T_, T_, T_, T_, T_, T_, T_, T_, T_, T_, T_, T_] rfl rfl ak_ hq_ yi_ nm_ ?_
              refine done_ (by kernel_rfl) ?_
              have HB8 := am_ (below_step HBW.out HB_w7.out)
              go_wp2
              go_ret2
              exact ⟨_, rfl, Kd.S_nil _ _ _ _ _, HB8.out⟩
          · rw [if_neg c4] at H
            have c4b : (((rd_L3 l1 i).length : Int) != 2) = true := by simpa using c4
            obtain rfl := Option.some.inj H
            have h := HH.out
            rw [if_neg (by simp)] at h
            obtain ⟨rfl, rfl⟩ := Prod.mk.inj (Option.some.inj h)
            clear H h
            · go_wp2_with fail
              have HBW := am_ (below_drew1 HB.out)
              refine start_ (n := 15) (S := fun w' => True) (ds := []) #[F_, F_, F_, F_, F_, F_, F_, F_, F_, F_, F_, F_, F_, F_, F_] (by kernel_rfl) rfl rfl trivial (fun hHeld => ?_)
              refine pure_ (i := 0) (N := some 25) #[T_, F_, F_, F_, F_, F_, F_, F_, F_, F_, F_, F_, F_, F_, F_] rfl rfl ak_ hq_ yi_ nm_ ?_
              refine pure_ (i := 1) (N := some 26) #[T_, T_, F_, F_, F_, F_, F_, F_, F_, F_, F_, F_, F_, F_, F_] rfl rfl ak_ hq_ yi_ nm_ ?_
              refine pure_ (i := 2) (N := some 27) #[T_, T_, T_, F_, F_, F_, F_, F_, F_, F_, F_, F_, F_, F_, F_] rfl rfl ak_ hq_ yi_ nm_ ?_
              refine pure_ (i := 3) (N := some 28) #[T_, T_, T_, T_, F_, F_, F_, F_, F_, F_, F_, F_, F_, F_, F_] rfl rfl ak_ hq_ yi_ nm_ ?_
              refine pure_ (i := 4) (N := some 29) (v := undef) (a' := ?_) #[T_, T_, T_, T_, T_, F_, F_, F_, F_, F_, F_, F_, F_, F_, F_] rfl rfl (by kernel_rfl) (fun _ _ _ h => h) (Or.inr ⟨by rfl, rfl⟩) ?_ ?_
              rotate_left
              · simp only [Act.put, List.setIfInBounds_toArray, List.set_cons_zero, List.set_cons_succ, i64_w, i32_w]
                rfl
              refine pure_ (i := 5) (N := some 30) (v := undef) (a' := ?_) #[T_, T_, T_, T_, T_, T_, F_, F_, F_, F_, F_, F_, F_, F_, F_] rfl rfl (by kernel_rfl) (fun _ _ _ h => h) (Or.inr ⟨by rfl, rfl⟩) ?_ ?_
              rotate_left
              · simp only [Act.put, List.setIfInBounds_toArray, List.set_cons_zero, List.set_cons_succ, i64_w, i32_w]
                rfl
              refine pure_ (i := 6) (N := some 31) (v := undef) (a' := ?_) #[T_, T_, T_, T_, T_, T_, T_, F_, F_, F_, F_, F_, F_, F_, F_] rfl rfl (by kernel_rfl) (fun _ _ _ h => h) (Or.inr ⟨by rfl, rfl⟩) ?_ ?_
              rotate_left
              · simp only [Act.put, List.setIfInBounds_toArray, List.set_cons_zero, List.set_cons_succ, i64_w, i32_w]
                rfl
              refine pure_ (i := 7) (N := some 32) (v := undef) (a' := ?_) #[T_, T_, T_, T_, T_, T_, T_, T_, F_, F_, F_, F_, F_, F_, F_] rfl rfl (by kernel_rfl) (fun _ _ _ h => h) (Or.inr ⟨by rfl, rfl⟩) ?_ ?_
              rotate_left
              · simp only [Act.put, List.setIfInBounds_toArray, List.set_cons_zero, List.set_cons_succ, i64_w, i32_w]
                rfl
              refine pure_ (i := 8) (N := some 33) (v := undef) (a' := ?_) #[T_, T_, T_, T_, T_, T_, T_, T_, T_, F_, F_, F_, F_, F_, F_] rfl rfl (by kernel_rfl) (fun _ _ _ h => h) (Or.inr ⟨by rfl, rfl⟩) ?_ ?_
              rotate_left
              · simp only [Act.put, List.setIfInBounds_toArray, List.set_cons_zero, List.set_cons_succ, i64_w, i32_w]
                rfl
              refine pure_ (i := 9) (N := some 34) (v := undef) (a' := ?_) #[T_, T_, T_, T_, T_, T_, T_, T_, T_, T_, F_, F_, F_, F_, F_] rfl rfl (by kernel_rfl) (fun _ _ _ h => h) (Or.inr ⟨by rfl, rfl⟩) ?_ ?_
              rotate_left
              · simp only [Act.put, List.setIfInBounds_toArray, List.set_cons_zero, List.set_cons_succ, i64_w, i32_w]
                rfl
              refine pure_ (i := 10) (N := some 35) (v := undef) (a' := ?_) #[T_, T_, T_, T_, T_, T_, T_, T_, T_, T_, T_, F_, F_, F_, F_] rfl rfl (by kernel_rfl) (fun _ _ _ h => h) (Or.inr ⟨by rfl, rfl⟩) ?_ ?_
              rotate_left
              · simp only [Act.put, List.setIfInBounds_toArray, List.set_cons_zero, List.set_cons_succ, i64_w, i32_w]
                rfl
              refine pure_ (i := 11) (N := some 36) (v := undef) (a' := ?_) #[T_, T_, T_, T_, T_, T_, T_, T_, T_, T_, T_, T_, F_, F_, F_] rfl rfl (by kernel_rfl) (fun _ _ _ h => h) (Or.inr ⟨by rfl, rfl⟩) ?_ ?_
              rotate_left
              · simp only [Act.put, List.setIfInBounds_toArray, List.set_cons_zero, List.set_cons_succ, i64_w, i32_w]
                rfl
              refine pure_ (i := 12) (N := some 37) (v := undef) (a' := ?_) #[T_, T_, T_, T_, T_, T_, T_, T_, T_, T_, T_, T_, T_, F_, F_] rfl rfl (by kernel_rfl) (fun _ _ _ h => h) (Or.inr ⟨by rfl, rfl⟩) ?_ ?_
              rotate_left
              · simp only [Act.put, List.setIfInBounds_toArray, List.set_cons_zero, List.set_cons_succ, i64_w, i32_w]
                rfl
              refine pure_ (i := 13) (N := some 38) (v := undef) (a' := ?_) #[T_, T_, T_, T_, T_, T_, T_, T_, T_, T_, T_, T_, T_, T_, F_] rfl rfl (by kernel_rfl) (fun _ _ _ h => h) (Or.inr ⟨by rfl, rfl⟩) ?_ ?_
              rotate_left
              · simp only [Act.put, List.setIfInBounds_toArray, List.set_cons_zero, List.set_cons_succ, i64_w, i32_w]
                rfl
              refine pure_ (i := 14) (N := some 39) #[T_, T_, T_, T_, T_, T_, T_, T_, T_, T_, T_, T_, T_, T_, T_] rfl rfl ak_ hq_ yi_ nm_ ?_
              refine done_ (by kernel_rfl) ?_
              go_wp2
              go_ret2
              exact ⟨_, rfl, Kd.S_nil _ _ _ _ _, HBW.out⟩
        · rw [if_neg c2] at H
          have c2b := decide_eq_false c2
          clear c2
          obtain rfl := Option.some.inj H
          clear H
          have h := HH.out
          clear HH
          rw [if_pos rfl] at h
          obtain ⟨q, hq, h⟩ := Option.bind_eq_some_iff.mp h
          obtain ⟨g, hg, h⟩ := Option.bind_eq_some_iff.mp h
          obtain ⟨r, hr, h⟩ := Option.bind_eq_some_iff.mp h
          obtain ⟨rfl, rfl⟩ := Prod.mk.inj (Option.some.inj h)
          have HQ := am_ hq
          have HL := am_ hg
          have HF := am_ hr
          obtain ⟨n, hn⟩ : ∃ n, q.length = n := ⟨_, rfl⟩
          have HN := am_ hn
          clear hq hg hr h hn
          go_wp2_with (first | (go_at_call 32; rw [← HM.out]; (refine (spec_heOf.calls k A0 c0 l0 q _ (by rw [HM.out]; exact Kd.C_below HR0.out HB.out) (by rw [HM.out]; exact HC0.out) HQ.out).mono ?_); rintro e w2 ⟨v2, rfl, ho2, hb2⟩; rw [HM.out]; obtain ⟨A2, c2, e2⟩ := Kd.S_slice ho2; subst e2; rw [HN.out] at ho2 ⊢; have HO2 := am_ (Kd.S_lower ho2 (below_size HB.out)); have HB2 := am_ (below_step HB.out hb2); clear ho2 hb2))
          go_loopg [8, 45] k (fun kq v8 v45 w' => ∃ (q : Tb_) (i : Int), v8 = .slice A2 n c2 ∧ v45 = .int .i64 i ∧ Aside0 (spec_ToggleCells.l1 kq l1 q i = some g) ∧ Aside0 (kq ≤ k) ∧ Aside0 (Kd.S (Kd.slice 3 (Kd.int .i64)) 32 w' w.heap.size (fun _ => True) (.slice A2 n c2) q) ∧ Aside0 (Below w.heap.size w w'))
          case atStart => exact ⟨q, 0, rfl, rfl, HL, ⟨Nat.le_refl _⟩, HO2, HB2⟩
          case round =>
            clear HL HO2 HB2 HN HM HQ HR0 HC0 HB
            obtain ⟨q, i, rfl, rfl, HE, HK2, HO, HB⟩ := hrel
            cases gk with
            | zero => exact absurd HE.out (by simp [spec_ToggleCells.l1])
            | succ k1 =>
            have H := HE.out
            clear HE
            simp only [spec_ToggleCells.l1] at H
            by_cases c5 : i < (l1.length : Int)
            · rw [if_pos c5] at H
              have c5b := decide_eq_true c5
              by_cases c3 : 0 ≤ i
              case neg => rw [if_neg c3] at H; exact absurd H (by simp)
              rw [if_pos c3] at H
              have c5p := eq_true c5
              have c3p := eq_true c3
              by_cases c4 : 1 < ((rd_L3 l1 i).length : Int)
              case neg => rw [if_neg c4] at H; exact absurd H (by simp)
              rw [if_pos c4] at H
              obtain ⟨q2, hq2, H⟩ := Option.bind_eq_some_iff.mp H
              have HT := am_ hq2
              have H' := am_ H
              clear hq2 H
              obtain ⟨adL, AL, cL, eL, hxL, hlL, hiL⟩ := at_L3 (Kd.C_below HR1.out HB.out) i c3 c5
              cases eL
              go_wp2_with fail
              have HBW := am_ (below_drew1 HB.out)
              have HOW := am_ (Kd.S_drew HO.out)
              replace hiL := Kd.C_drew hiL
              have AC0 := Kd.at_int hiL 0 (by omega) (by omega)
              obtain ⟨adc, eac, hc0⟩ := AC0
              subst eac
              obtain ⟨adc2, eac2, hc1⟩ := Kd.at_int hiL 1 (by omega) (by omega)
              obtain rfl := Option.some.inj eac2
              clear eac2
              rw [show ((0 : Int)).toNat = 0 from rfl, Addr.add_zero'] at hc0
              simp only [show (1 : Int).toNat = 1 from rfl, Nat.reduceMul, Nat.reduceEqDiff, Go.Addr.add, ↓reduceIte] at hc1
              have z5 : (0 < (rd_L3 l1 i).length) = True := eq_true (by omega)
              have z6 : (1 < (rd_L3 l1 i).length) = True := eq_true (by omega)
              have z7 : ((0 : Int) < ((rd_L3 l1 i).length : Int)) = True := eq_true (by omega)
              have z8 : ((1 : Int) < ((rd_L3 l1 i).length : Int)) = True := eq_true (by omega)
              refine start_ (n := 9) (S := fun w' => w'.cell? adc = some (.int .i64 (rd (rd_L3 l1 i) 0)) ∧ w'.cell? ⟨adc.block, adc.off + 1, none⟩ = some (.int .i64 (rd (rd_L3 l1 i) 1))) (ds := [7]) #[F_, F_, F_, F_, F_, F_, F_, F_, F_] (by kernel_rfl) rfl rfl ⟨hc0, hc1⟩ (fun hHeld => ?_)
              generalize hW_ : World.drew _ = W at HBW HOW hc0 hc1 hHeld ⊢
              clear hW_
              refine pure_ (i := 0) (N := some 49) #[T_, F_, F_, F_, F_, F_, F_, F_, F_] rfl rfl ak_ hq_ yi_ nm_ ?_
              refine pure_ (i := 1) (N := some 50) #[T_, T_, F_, F_, F_, F_, F_, F_, F_] rfl rfl ak_ hq_ yi_ nm_ ?_
              refine pure_ (i := 2) (N := some 51) #[T_, T_, T_, F_, F_, F_, F_, F_, F_] rfl rfl ak_ hq_ yi_ nm_ ?_
              refine pure_ (i := 4) (N := some 53) #[T_, T_, T_, F_, T_, F_, F_, F_, F_] rfl rfl ak_ hq_ yi_ nm_ ?_
              refine pure_ (i := 5) (N := some 54) #[T_, T_, T_, F_, T_, T_, F_, F_, F_] rfl rfl ak_ hq_ yi_ nm_ ?_
              refine take_ (i := 3) (N := some 52) #[T_, T_, T_, T_, T_, T_, F_, F_, F_] rfl rfl ak_ hq_ yj2_ hHeld nm_ ?_
              refine take_ (i := 6) (N := some 55) #[T_, T_, T_, T_, T_, T_, T_, F_, F_] rfl rfl ak_ hq_ yj2_ hHeld nm_ ?_
              refine last_ (i := 7) (N := some 56) #[T_, T_, T_, T_, T_, T_, T_, T_, F_] rfl rfl (by kernel_rfl) (by decide) (fun K hK => ?_)
              refine goes_ Try.func44 (by kernel_rfl) rfl #[.slice A2 n c2, .int .i64 (rd (rd_L3 l1 i) 0), .int .i64 (rd (rd_L3 l1 i) 1)] (by rfl) rfl rfl tc32_ ?_
              refine (spec_gyToggle.calls k1 A2 n c2 q q2 (rd (rd_L3 l1 i) 0) (rd (rd_L3 l1 i) 1) w.heap.size (fun _ => True) W HBW.out.size HOW.out HT.out).mono ?_
              rintro e w7 ⟨rfl, ho7, hb7⟩
              refine ⟨_, rfl, ?_⟩
              have HO7 := am_ ho7
              have HB7 := am_ (HBW.out.trans hb7)
              clear ho7 hb7
              refine hK.out _ _ ?_
              clear hK K
              refine norm_ (a' := ?_) ?_ ?_
              rotate_left
              · show Act.put _ (some 56) _ = _
                simp only [Act.put, List.setIfInBounds_toArray, List.set_cons_zero, List.set_cons_succ, i64_w, i32_w]
                rfl
              refine pure_ (i := 8) (N := some 8) #[T_, T_, T_, T_, T_, T_, T_, T_, T_] rfl rfl ak_ hq_ yi_ nm_ ?_
              refine done_ (by kernel_rfl) ?_
              go_wp2
              go_roundg k1
              case measure => have := HK2.out; omega
              case rel => exact ⟨q2, wrap64 (i + 1), rfl, rfl, H', ⟨by have := HK2.out; omega⟩, HO7, HB7⟩
            · rw [if_neg c5] at H
              have c5b := decide_eq_false c5
              clear c5
              obtain rfl := Option.some.inj H
              clear H
              have HL2 := am_ (Kd.S_reads' HO.out).1
              go_wp2_with (first | (go_at_call 45; rw [HL2.out]; (refine (spec_heFrom.calls k A2 c2 q r _ (Kd.S_reads' HO.out).2.2 (by have := (Kd.S_reads' HO.out).2.1; have := HL2.out; omega) HF.out).mono ?_); rintro e w3 ⟨v3, rfl, ho3, hb3⟩; have HO3 := am_ (Kd.S_lower ho3 HB.out.size); have HB3 := am_ (below_step HB.out hb3); rw [← HL2.out]; clear ho3 hb3))
              go_ret2
              exact ⟨_, rfl, HO3.out, HB3.out⟩

/-! ### spec_DrawIsSignMatrix: function 46 -/
def spec_DrawIsSignMatrix.f (k : Nat) (l0 : List Int) : Option (Tb_) := (spec_l1Cur_signs.f k l0 0 0 5).bind fun bt102 => (some bt102.1)
theorem spec_DrawIsSignMatrix.calls (k : Nat) (A0 : Option Addr) (c0 : Nat) (l0 : List Int) (r : Tb_) (w : World) (hr0 : Kd.C (Kd.int .u8) w A0 l0.length l0) (hc0 : l0.length ≤ c0) (h : spec_DrawIsSignMatrix.f k l0 = some r) :
  Calls Try.prog 46 #[.slice A0 l0.length c0] w fun e w' => ∃ v0_ : Value, e = .returned (v0_) ∧ Kd.S (Kd.slice 3 (Kd.int .i64)) 32 w' w.heap.size (fun _ => True) v0_ r ∧ Below w.heap.size w w' := by
 have hu41 := Try.underlying41; have HR0 := am_ hr0; have HC0 := am_ hc0; clear hr0 hc0; have HB := am_ (Below.refl w.heap.size w); (try unfold spec_DrawIsSignMatrix.f at h); have H := h; clear h; replace H := Option.bind_eq_some_iff.mp H; obtain ⟨⟨t102, t105, t106⟩, A20, H⟩ := H; (try dsimp only at H); have A2 := am_ A20; clear A20; obtain rfl := Option.some.inj H; go_enter Try.func46, Try.ntmps46
 go_wp2_with (first | ((with_reducible refine gate_dst (N := 6) rfl ?_); refine box_event ?hg (N := 6) ?hd (cs := #[.slice A0 l0.length c0, .int .i64 0, .int .u64 0]) (t := 41) ?hr ?_; (case hd => rfl); (case hg => rfl); (case hr => exact tc26_); intro gb101 hg w3 hbox hb; have GW101 := am_ ((by rw [hg]; exact (below_size tc0_) : w.heap.size ≤ gb101)); have GE101 := am_ ((by rw [hg]; exact (below_size tc0_) : w.heap.size ≤ gb101)); have HI101 := am_ ((show IsS41 w w3 gb101 l0 0 0 from ⟨A0, c0, hbox, (by rw [hg]; exact (below_size tc0_) : w.heap.size ≤ gb101), HR0.out⟩)); replace HB := am_ (below_step tc0_ hb); clear hb hbox hg) | (refine gc_ (some 8) Try.func19 #[.pointer (some ⟨gb101, 0, none⟩), .int .i64 5] ?_; (with_reducible refine (spec_l1Cur_signs.calls k gb101 l0 0 0 5 t102 t105 t106 w _ ?side1 ?side2 A2.out).mono ?_); (case side1 => exact tc6_); (case side2 => exact tc7_); rintro e w4 ⟨v103, rfl, ho0, hi, hb, hk⟩; refine ⟨_, rfl, ?_⟩; have HO104 := am_ (Kd.S_lower ho0 (below_size tc7_)); replace HB := am_ (hb); replace HI101 := am_ (hi); (try clear hb hk hi ho0)))
 go_ret
 exact ⟨_, tc9_, tc45_, tc7_⟩

/-! ### spec_DrawRowWave: function 16 -/
def spec_DrawRowWave.f (k : Nat) (l0 : List Int) : Option (Tb_) := (spec_DrawIsSignMatrix.f k l0).bind fun t101 => (some t101)
theorem spec_DrawRowWave.calls (k : Nat) (A0 : Option Addr) (c0 : Nat) (l0 : List Int) (r : Tb_) (w : World) (hr0 : Kd.C (Kd.int .u8) w A0 l0.length l0) (hc0 : l0.length ≤ c0) (h : spec_DrawRowWave.f k l0 = some r) :
  Calls Try.prog 16 #[.slice A0 l0.length c0] w fun e w' => ∃ v0_ : Value, e = .returned (v0_) ∧ Kd.S (Kd.slice 3 (Kd.int .i64)) 32 w' w.heap.size (fun _ => True) v0_ r ∧ Below w.heap.size w w' := by
 have HR0 := am_ hr0; have HC0 := am_ hc0; clear hr0 hc0; have HB := am_ (Below.refl w.heap.size w); (try unfold spec_DrawRowWave.f at h); have H := h; clear h; replace H := bd_ H; obtain ⟨t101, A2, H⟩ := H; (try dsimp only at H); obtain rfl := Option.some.inj H; go_enter Try.func16, Try.ntmps16
 go_wp2_with (first | (refine gc_ (some 4) Try.func46 #[.slice A0 l0.length c0] ?_; (with_reducible refine (spec_DrawIsSignMatrix.calls k _ _ l0 t101 _ ?side1 ?side2 A2.out).mono ?_); (case side1 => exact tc11_); (case side2 => exact HC0.out); rintro e w3 ⟨v102, rfl, ho0, hb⟩; refine ⟨_, rfl, ?_⟩; have HO103 := am_ (Kd.S_lower ho0 (below_size tc0_)); replace HB := am_ (below_step tc0_ hb); (try clear hb ho0)))
 go_ret
 exact ⟨_, tc9_, tc24_, tc0_⟩

/-! ### impl_changed: function 47 (by hand) -/
/-- A function value that makes a table of a table, as p says, wherever memory has only grown. -/
structure FnR (P : Program) (g : Nat) (lb : Array Value) (p : Tb_ → Option Tb_) (w : World) : Prop where
  eg : ∀ args w, (callFunc g args).run P w = .ok (.enter g args) w
  cl : ∀ W, Below w.heap.size w W → ∀ (A : Option Addr) (c : Nat) (x : Tb_), Kd.C (Kd.slice 3 (Kd.int .i64)) W A x.length x → x.length ≤ c → ∀ r, p x = some r →
    Calls P g (#[.slice A x.length c] ++ lb) W fun e W' => ∃ v, e = .returned v ∧ Kd.S (Kd.slice 3 (Kd.int .i64)) 32 W' W.heap.size (fun _ => True) v r ∧ Below W.heap.size W W'
def impl_changed.f (k : Nat) (l0 : Tb_) (p : Tb_ → Option Tb_) : Option (Tb_ × Bool) := (impl_IsSignMatrix.f k l0).bind fun t => if t = true then (p l0).bind fun q => some (q, true) else some ([], false)
theorem impl_changed.calls (k : Nat) (A0 : Option Addr) (c0 : Nat) (l0 : Tb_) (g : Nat) (b : Array Value) (p : Tb_ → Option Tb_) (r1 : Tb_) (r2 : Bool) (w : World) (hr0 : Kd.C (Kd.slice 3 (Kd.int .i64)) w A0 l0.length l0) (hc0 : l0.length ≤ c0)
    (hf : FnR Try.prog g b p w) (h : impl_changed.f k l0 p = some (r1, r2)) :
    Calls Try.prog 47 #[.slice A0 l0.length c0, .func (.func g) #[] b] w fun e w' => ∃ v0_ : Value, e = .returned (.tuple #[v0_, .bool r2]) ∧ Kd.S (Kd.slice 3 (Kd.int .i64)) 32 w' w.heap.size (fun _ => True) v0_ r1 ∧ Below w.heap.size w w' := by
  have HR0 := am_ hr0
  have HC0 := am_ hc0
  have HF := am_ hf.cl
  have eg := hf.eg
  clear hr0 hc0 hf
  obtain ⟨t, ht, h⟩ := Option.bind_eq_some_iff.mp h
  have HT := am_ ht
  clear ht
  cases t with
  | true =>
    rw [if_pos rfl] at h
    obtain ⟨q, hq, h⟩ := Option.bind_eq_some_iff.mp h
    simp only [Option.some.injEq, Prod.mk.injEq] at h
    obtain ⟨rfl, rfl⟩ := h
    have HQ := am_ hq
    clear hq
    go_enter Try.func47, Try.ntmps47
    go_wp2_with (first | (go_at_call 21; (refine (impl_IsSignMatrix.calls k A0 c0 l0 true w HR0.out HC0.out HT.out).mono ?_); rintro e w1 ⟨rfl, hb1⟩; have HB1 := am_ hb1; clear hb1) | (go_at_fn g; (refine (HF.out w1 HB1.out A0 c0 l0 (Kd.C_below HR0.out HB1.out) HC0.out q HQ.out).mono ?_); rintro e w2 ⟨v2, rfl, ho2, hb2⟩; have HO2 := am_ ho2; have HB2 := am_ hb2; clear ho2 hb2))
    go_ret2
    exact ⟨_, rfl, Kd.S_lower HO2.out (below_size HB1.out), below_step HB1.out HB2.out⟩
  | false =>
    rw [if_neg (by simp)] at h
    simp only [Option.some.injEq, Prod.mk.injEq] at h
    obtain ⟨rfl, rfl⟩ := h
    go_enter Try.func47, Try.ntmps47
    go_wp2_with (go_at_call 21; (refine (impl_IsSignMatrix.calls k A0 c0 l0 false w HR0.out HC0.out HT.out).mono ?_); rintro e w1 ⟨rfl, hb1⟩; have HB1 := am_ hb1; clear hb1)
    go_ret2
    exact ⟨_, rfl, Kd.S_nil _ _ _ _ _, HB1.out⟩

/-! ### impl_RowWave_1_1: function 50 -/
def impl_RowWave_1_1.f (a0 : Int) (a1 : Int) : Option (Bool) := some true
theorem impl_RowWave_1_1.calls (a0 : Int) (a1 : Int) (r : Bool) (w : World) (h : impl_RowWave_1_1.f a0 a1 = some r) :
  Calls Try.prog 50 #[.int .i64 a0, .int .i64 a1] w fun e w' => e = .returned (.bool r) ∧ Drawn0 w w' := by
 (try unfold impl_RowWave_1_1.f at h); have H := h; clear h; obtain rfl := Option.some.inj H; go_enter Try.func50, Try.ntmps50; go_wp2
 go_ret
 exact ⟨tc8_, tc12_⟩

/-! ### impl_RowWave_1: function 48 -/
def impl_RowWave_1.f (k : Nat) (l0 : Tb_) : Option (Tb_) := (impl_cells.f k (l0.length : Int) (fun x0_ x1_ => impl_RowWave_1_1.f x0_ x1_)).bind fun t101 => ((impl_toggled.f k l0 t101).bind fun t104 => (some t104))
theorem impl_RowWave_1.calls (k : Nat) (A0 : Option Addr) (c0 : Nat) (l0 : Tb_) (r : Tb_) (w : World) (hr0 : Kd.C (Kd.slice 3 (Kd.int .i64)) w A0 l0.length l0) (hc0 : l0.length ≤ c0) (h : impl_RowWave_1.f k l0 = some r) :
  Calls Try.prog 48 #[.slice A0 l0.length c0] w fun e w' => ∃ v0_ : Value, e = .returned (v0_) ∧ Kd.S (Kd.slice 3 (Kd.int .i64)) 32 w' w.heap.size (fun _ => True) v0_ r ∧ Below w.heap.size w w' := by
 have HR0 := am_ hr0; have HC0 := am_ hc0; clear hr0 hc0; have HB := am_ (Below.refl w.heap.size w); (try unfold impl_RowWave_1.f at h); have H := h; clear h; replace H := bd_ H; obtain ⟨t101, A2, H⟩ := H; (try dsimp only at H); replace H := bd_ H; obtain ⟨t104, A3, H⟩ := H; (try dsimp only at H); obtain rfl := Option.some.inj H; go_enter Try.func48, Try.ntmps48
 go_wp2_with (first | (refine gc_ (some 6) Try.func49 #[.int .i64 (l0.length : Int), .func (.func 50) #[] #[]] ?_; (with_reducible refine (impl_cells.calls k (l0.length : Int) _ _ (fun x0_ x1_ => impl_RowWave_1_1.f x0_ x1_) t101 _ ?side1 A2.out).mono ?_); (case side1 => refine ⟨enters_of Try.func50 (by kernel_rfl) rfl, fun W_ hW_ x0_ v0_ hK0_ x1_ v1_ hK1_ r_ hr_ => ?_⟩; cases (show v0_ = .int .i64 x0_ from tc117_); cases (show v1_ = .int .i64 x1_ from tc118_); refine (impl_RowWave_1_1.calls x0_ x1_ r_ W_ hr_).mono ?_; exact fun _ _ h_ => ⟨h_.1, h_.2.below⟩); rintro e w4 ⟨v102, rfl, ho0, hb⟩; refine ⟨_, rfl, ?_⟩; have HO103 := am_ (Kd.S_lower ho0 (below_size tc0_)); replace HB := am_ (below_step tc0_ hb); (try clear hb ho0); obtain ⟨Ao5, co5, eo5⟩ := Kd.S_slice HO103.out; subst eo5) | (refine gc_ (some 7) Try.func42 #[.slice A0 l0.length c0, .slice Ao5 t101.length co5] ?_; (with_reducible refine (impl_toggled.calls k _ _ l0 _ _ t101 t104 _ ?side1 ?side2 ?side3 ?side4 A3.out).mono ?_); (case side1 => exact tc20_); (case side2 => exact HC0.out); (case side3 => repeat (first | exact (Kd.S_reads' HO103.out).2.2 | (with_reducible refine Kd.C_alloc ?_ _) | (with_reducible refine Kd.C_drewN ?_ _) | (with_reducible refine Kd.C_drew ?_))); (case side4 => exact (Kd.S_reads' HO103.out).2.1); rintro e w6 ⟨v105, rfl, ho0, hb⟩; refine ⟨_, rfl, ?_⟩; have HO106 := am_ (Kd.S_lower (Kd.S_new' ho0 (Kd.S_lt tc24_)) (below_size tc0_)); replace HO103 := am_ (Kd.S_elder' tc24_ (Kd.S_base ho0) hb); replace HB := am_ (below_step tc0_ hb); (try clear hb ho0)))
 go_ret
 exact ⟨_, tc9_, tc126_, tc0_⟩

/-! ### impl_RowWave: function 17 (by hand) -/
def impl_RowWave.f (k : Nat) (l0 : Tb_) : Option (Tb_ × Bool) := impl_changed.f k l0 (fun x => impl_RowWave_1.f k x)
theorem impl_RowWave.calls (k : Nat) (A0 : Option Addr) (c0 : Nat) (l0 : Tb_) (r1 : Tb_) (r2 : Bool) (w : World) (hr0 : Kd.C (Kd.slice 3 (Kd.int .i64)) w A0 l0.length l0) (hc0 : l0.length ≤ c0) (h : impl_RowWave.f k l0 = some (r1, r2)) :
    Calls Try.prog 17 #[.slice A0 l0.length c0] w fun e w' => ∃ v0_ : Value, e = .returned (.tuple #[v0_, .bool r2]) ∧ Kd.S (Kd.slice 3 (Kd.int .i64)) 32 w' w.heap.size (fun _ => True) v0_ r1 ∧ Below w.heap.size w w' := by
  have HR0 := am_ hr0
  have HC0 := am_ hc0
  have H := am_ h
  clear hr0 hc0 h
  go_enter Try.func17, Try.ntmps17
  go_wp2_with (go_at_call 47; (refine (impl_changed.calls k A0 c0 l0 48 #[] (fun x => impl_RowWave_1.f k x) r1 r2 w HR0.out HC0.out ?fn H.out).mono ?_); (case fn => exact ⟨enters_of Try.func48 (by kernel_rfl) rfl, fun W hW A c x hr hc r hx => by (refine (impl_RowWave_1.calls k A c x r W hr hc hx).mono ?_; rintro e W' ⟨v, rfl, ho, hb⟩; exact ⟨v, rfl, ho, hb⟩)⟩); rintro e w1 ⟨v1, rfl, ho1, hb1⟩; have HO := am_ ho1; have HB := am_ hb1; clear ho1 hb1)
  go_ret2
  exact ⟨_, rfl, HO.out, HB.out⟩

/-! ### spec_RowWave: function 18 (by hand) -/
def spec_RowWave.l1 : Nat → Int → Tb_ → Int → Int → Option Tb_
  | 0, _, _, _, _ => none
  | k + 1, n, h, i, j => if j < n then ((spec_gyToggle.f k h i j).bind fun h' => spec_RowWave.l1 k n h' i (wrap64 (j + 1))) else some h
def spec_RowWave.l0 : Nat → Int → Tb_ → Int → Option Tb_
  | 0, _, _, _ => none
  | k + 1, n, h, i => if i < n then ((spec_RowWave.l1 k n h i 1).bind fun h' => spec_RowWave.l0 k n h' (wrap64 (i + 1))) else some h
def spec_RowWave.f (k : Nat) (l0 : Tb_) : Option (Tb_ × Bool) := (spec_sgGood.f k l0).bind fun t => if t = true then ((spec_heOf.f k l0).bind fun h => (spec_RowWave.l0 k (l0.length : Int) h 1).bind fun g => (spec_heFrom.f k g).bind fun r => some (r, true)) else some ([], false)
theorem spec_RowWave.mono1 : ∀ k n h i j, LeO (spec_RowWave.l1 k n h i j) (spec_RowWave.l1 (k + 1) n h i j)
  | 0, _, _, _, _ => LeO.none _
  | k + 1, n, h, i, j => by
    unfold spec_RowWave.l1
    exact LeO.ite (LeO.bind (spec_gyToggle.mono _ _ _ _) (fun _ => spec_RowWave.mono1 k _ _ _ _)) (LeO.refl _)
theorem spec_RowWave.mono0 : ∀ k n h i, LeO (spec_RowWave.l0 k n h i) (spec_RowWave.l0 (k + 1) n h i)
  | 0, _, _, _ => LeO.none _
  | k + 1, n, h, i => by
    unfold spec_RowWave.l0
    exact LeO.ite (LeO.bind (spec_RowWave.mono1 _ _ _ _ _) (fun _ => spec_RowWave.mono0 k _ _ _)) (LeO.refl _)
theorem spec_RowWave.calls (k : Nat) (A0 : Option Addr) (c0 : Nat) (l0 : Tb_) (r1 : Tb_) (r2 : Bool) (w : World) (hr0 : Kd.C (Kd.slice 3 (Kd.int .i64)) w A0 l0.length l0) (hc0 : l0.length ≤ c0) (h : spec_RowWave.f k l0 = some (r1, r2)) :
    Calls Try.prog 18 #[.slice A0 l0.length c0] w fun e w' => ∃ v0_ : Value, e = .returned (.tuple #[v0_, .bool r2]) ∧ Kd.S (Kd.slice 3 (Kd.int .i64)) 32 w' w.heap.size (fun _ => True) v0_ r1 ∧ Below w.heap.size w w' := by
  obtain ⟨t, ht, h⟩ := Option.bind_eq_some_iff.mp h
  have HT := am_ ht
  have HR0 := am_ hr0
  have HC0 := am_ hc0
  clear ht hr0 hc0
  cases t with
  | false =>
    rw [if_neg (by simp)] at h
    obtain ⟨rfl, rfl⟩ := Prod.mk.inj (Option.some.inj h)
    clear h
    go_enter Try.func18, Try.ntmps18
    go_wp2_with (first | (go_at_call 24; (refine (spec_sgGood.calls k _ _ l0 false _ HR0.out HC0.out HT.out).mono ?_); rintro e w1 ⟨rfl, hb⟩; have HB1 := am_ hb; clear hb))
    go_ret2
    exact ⟨_, rfl, Kd.S_nil _ _ _ _ _, HB1.out⟩
  | true =>
    rw [if_pos rfl] at h
    obtain ⟨q, hq, h⟩ := Option.bind_eq_some_iff.mp h
    obtain ⟨g, hg, h⟩ := Option.bind_eq_some_iff.mp h
    obtain ⟨r, hr, h⟩ := Option.bind_eq_some_iff.mp h
    obtain ⟨rfl, rfl⟩ := Prod.mk.inj (Option.some.inj h)
    have HQ := am_ hq
    have HL := am_ hg
    have HF := am_ hr
    obtain ⟨n, hn⟩ : ∃ n, q.length = n := ⟨_, rfl⟩
    have HN := am_ hn
    obtain ⟨m, hm⟩ : ∃ m, l0.length = m := ⟨_, rfl⟩
    have HM := am_ hm
    clear hq hg hr h hn
    rw [hm] at HL HR0 HC0 ⊢
    clear hm
    go_enter Try.func18, Try.ntmps18
    go_wp2_with (first | (go_at_call 24; rw [← HM.out]; (refine (spec_sgGood.calls k A0 c0 l0 true _ (by rw [HM.out]; exact HR0.out) (by rw [HM.out]; exact HC0.out) HT.out).mono ?_); rintro e w1 ⟨rfl, hb⟩; have HB1 := am_ hb; rw [HM.out]; clear hb) | (go_at_call 32; rw [← HM.out]; (refine (spec_heOf.calls k A0 c0 l0 q w1 (by rw [HM.out]; exact Kd.C_below HR0.out HB1.out) (by rw [HM.out]; exact HC0.out) HQ.out).mono ?_); rintro e w2 ⟨v2, rfl, ho2, hb2⟩; rw [HM.out]; obtain ⟨A2, c2, e2⟩ := Kd.S_slice ho2; subst e2; rw [HN.out] at ho2 ⊢; have HO2 := am_ (Kd.S_lower ho2 (below_size HB1.out)); have HB2 := am_ (below_step HB1.out hb2); clear ho2 hb2))
    go_loopg [4, 5] k (fun kq v4 v5 w' => ∃ (q : Tb_) (i : Int), v4 = .slice A2 n c2 ∧ v5 = .int .i64 i ∧ Aside0 (spec_RowWave.l0 kq (m : Int) q i = some g) ∧ Aside0 (kq ≤ k) ∧ Aside0 (Kd.S (Kd.slice 3 (Kd.int .i64)) 32 w' w.heap.size (fun _ => True) (.slice A2 n c2) q) ∧ Aside0 (Below w.heap.size w w'))
    case atStart => exact ⟨q, 1, rfl, rfl, HL, ⟨Nat.le_refl _⟩, HO2, HB2⟩
    case round =>
      clear HL HO2 HB2 HN HM HT HQ HR0 HC0 HB1
      obtain ⟨q, i, rfl, rfl, HE, HK1, HO, HB⟩ := hrel
      cases gk with
      | zero => exact absurd HE.out (by simp [spec_RowWave.l0])
      | succ k1 =>
        have H := HE.out
        clear HE
        simp only [spec_RowWave.l0] at H
        by_cases c1 : i < (m : Int)
        · rw [if_pos c1] at H
          have c1b := decide_eq_true c1
          obtain ⟨q2, hq2, H⟩ := Option.bind_eq_some_iff.mp H
          have HI := am_ hq2
          have H' := am_ H
          clear H hq2 c1
          go_wp2
          go_loopg [4, 6] k1 (fun kq v4 v6 w' => ∃ (p : Tb_) (j : Int), v4 = .slice A2 n c2 ∧ v6 = .int .i64 j ∧ Aside0 (spec_RowWave.l1 kq (m : Int) p i j = some q2) ∧ Aside0 (kq ≤ k1) ∧ Aside0 (Kd.S (Kd.slice 3 (Kd.int .i64)) 32 w' w.heap.size (fun _ => True) (.slice A2 n c2) p) ∧ Aside0 (Below w.heap.size w w'))
          case atStart => exact ⟨q, 1, rfl, rfl, HI, ⟨Nat.le_refl _⟩, HO, HB⟩
          case round =>
            clear HI HO HB
            obtain ⟨p, j, rfl, rfl, HE, HK2, HO, HB⟩ := hrel
            cases gk with
            | zero => exact absurd HE.out (by simp [spec_RowWave.l1])
            | succ k2 =>
              have H := HE.out
              clear HE
              simp only [spec_RowWave.l1] at H
              by_cases c2_ : j < (m : Int)
              · rw [if_pos c2_] at H
                have c2b := decide_eq_true c2_
                clear c2_
                obtain ⟨p2, hp2, H⟩ := Option.bind_eq_some_iff.mp H
                have HT := am_ hp2
                have H2 := am_ H
                clear H hp2
                go_wp2_with (first | (go_at_call 44; (refine (spec_gyToggle.calls k2 A2 n c2 p p2 i j w.heap.size (fun _ => True) _ HB.out.size HO.out HT.out).mono ?_); rintro e w5 ⟨rfl, ho, hb⟩; have HO5 := am_ ho; have HB5 := am_ (HB.out.trans hb); clear ho hb))
                go_roundg k2
                case measure => have := HK2.out; omega
                case rel => exact ⟨p2, wrap64 (j + 1), rfl, rfl, H2, ⟨by have := HK2.out; omega⟩, HO5, HB5⟩
              · rw [if_neg c2_] at H
                have c2b := decide_eq_false c2_
                clear c2_
                obtain rfl := Option.some.inj H
                clear H
                go_wp2
                go_roundg k1
                case measure => have := HK1.out; omega
                case rel => exact ⟨p, wrap64 (i + 1), rfl, rfl, H', ⟨by have := HK1.out; omega⟩, HO, HB⟩
        · rw [if_neg c1] at H
          have c1b := decide_eq_false c1
          clear c1
          obtain rfl := Option.some.inj H
          clear H
          have HL2 := am_ (Kd.S_reads' HO.out).1
          go_wp2_with (first | (go_at_call 45; rw [HL2.out]; (refine (spec_heFrom.calls k A2 c2 q r _ (Kd.S_reads' HO.out).2.2 (by have := (Kd.S_reads' HO.out).2.1; have := HL2.out; omega) HF.out).mono ?_); rintro e w3 ⟨v3, rfl, ho3, hb3⟩; have HO3 := am_ (Kd.S_lower ho3 HB.out.size); have HB3 := am_ (below_step HB.out hb3); rw [← HL2.out]; clear ho3 hb3))
          go_ret2
          exact ⟨_, rfl, HO3.out, HB3.out⟩

end Go.Proofs.Ytgmeijbomnijiaa.X
