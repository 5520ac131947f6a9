-- Written by a program of this session (wip/xprint.py) that drives the kit's print; the contracts of what it does not take are this session's own.
import Derived.Test.YtgpmlfggfhkifaaGreatCFnSignLatticex0
import Derived.Test.YtgpmlfggfhkifaaGreatCFnSignLatticex1
import Derived.Test.YtgpmlfggfhkifaaGreatCFnSignLatticex2
import Derived.Test.YtgpmlfggfhkifaaGreatCFnSignLatticex3
import Derived.Test.YtgpmlfggfhkifaaGreatCFnSignLatticex4
namespace Go.Proofs.YtgpmlfggfhkifaaGreat.X
open Go.RowKit Go.Proofs.YtgpmlfggfhkifaaGreatW.PrintWords Go.Proofs.YtgpmlfggfhkifaaGreatW.PrintLast Go.Proofs.YtgpmlfggfhkifaaGreatW.PrintMore
set_option maxHeartbeats 8000000
set_option maxRecDepth 100000
attribute [local go_sem] max2_int min2_int max_two min_two max_three min_three max_four min_four   -- for this text's walks alone
set_option linter.unusedVariables false
set_option linter.unusedSimpArgs false

/-! ### impl_JoinOf: function 8 -/
def impl_JoinOf.f (k : Nat) (l0 : Tb_) (l1 : Tb_) : Option (Tb_ × Bool) := (impl_merged.f k l0 l1 (fun x0_ x1_ => impl_JoinOf_1.f x0_ x1_)).bind fun bt101 => (some (bt101.1, bt101.2))
theorem impl_JoinOf.calls (k : Nat) (A0 : Option Addr) (c0 : Nat) (l0 : Tb_) (A1 : Option Addr) (c1 : Nat) (l1 : Tb_) (r1 : Tb_) (r2 : Bool) (w : World) (hr0 : Kd.C (Kd.slice 3 (Kd.int .i64)) w A0 l0.length l0) (hc0 : l0.length ≤ c0) (hr1 : Kd.C (Kd.slice 3 (Kd.int .i64)) w A1 l1.length l1) (hc1 : l1.length ≤ c1) (h : impl_JoinOf.f k l0 l1 = some (r1, r2)) :
  Calls Tryz.prog 8 #[.slice A0 l0.length c0, .slice A1 l1.length c1] w fun e w' => ∃ v0_ : Value, e = .returned (.tuple #[v0_, .bool r2]) ∧ Kd.S (Kd.slice 3 (Kd.int .i64)) 44 w' w.heap.size (fun _ => True) v0_ r1 ∧ Below w.heap.size w w' := by
 have HR0 := am_ hr0; have HC0 := am_ hc0; clear hr0 hc0; have HR1 := am_ hr1; have HC1 := am_ hc1; clear hr1 hc1; have HB := am_ (Below.refl w.heap.size w); unfold impl_JoinOf.f at h; have H := h; clear h; replace H := Option.bind_eq_some_iff.mp H; obtain ⟨⟨t101, t102⟩, A30, H⟩ := H; (try dsimp only at H); have A3 := am_ A30; clear A30; simp only [Option.some.injEq, Prod.mk.injEq] at H; obtain ⟨rfl, rfl⟩ := H; go_enter Tryz.func8, Tryz.ntmps8
 go_wp2_with (first | (refine gc_ (some 8) Tryz.func23 #[.slice A0 l0.length c0, .slice A1 l1.length c1, .func (.func 29) #[] #[]] ?_; (with_reducible refine (impl_merged.calls k _ _ l0 _ _ l1 _ _ (fun x0_ x1_ => impl_JoinOf_1.f x0_ x1_) t101 t102 _ ?side1 ?side2 ?side3 ?side4 ?side5 A3.out).mono ?_); (case side1 => exact tc8_); (case side2 => exact HC0.out); (case side3 => exact tc26_); (case side4 => exact HC1.out); (case side5 => refine ⟨enters_of Tryz.func29 (by kernel_rfl) rfl, fun W_ hW_ x0_ v0_ hK0_ x1_ v1_ hK1_ r_ hr_ => ?_⟩; cases (show v0_ = .int .i64 x0_ from tc121_); cases (show v1_ = .int .i64 x1_ from tc122_); refine (impl_JoinOf_1.calls x0_ x1_ r_ W_ hr_).mono ?_; exact fun _ _ h_ => ⟨h_.1, h_.2⟩); rintro e w4 ⟨v103, rfl, ho0, hb⟩; refine ⟨_, rfl, ?_⟩; have HO104 := am_ (Kd.S_lower ho0 (below_size tc0_)); replace HB := am_ (below_step tc0_ hb); (try clear hb ho0)))
 go_ret2
 exact ⟨_, tc7_, tc23_, tc0_⟩

/-! ### spec_JoinOf: function 9 -/
def spec_JoinOf.f (k : Nat) (l0 : Tb_) (l1 : Tb_) : Option (Tb_ × Bool) := (spec_hePair.f k l0 l1).bind fun t101 => (if t101 = true then ((spec_heOf.f k l0).bind fun t102 => ((spec_heOf.f k l1).bind fun t105 => ((spec_heMix.f k t102 t105 false).bind fun t108 => ((spec_heFrom.f k t108).bind fun t111 => (some (t111, true)))))) else (some (([] : Tb_), false)))
theorem spec_JoinOf.calls (k : Nat) (A0 : Option Addr) (c0 : Nat) (l0 : Tb_) (A1 : Option Addr) (c1 : Nat) (l1 : Tb_) (r1 : Tb_) (r2 : Bool) (w : World) (hr0 : Kd.C (Kd.slice 3 (Kd.int .i64)) w A0 l0.length l0) (hc0 : l0.length ≤ c0) (hr1 : Kd.C (Kd.slice 3 (Kd.int .i64)) w A1 l1.length l1) (hc1 : l1.length ≤ c1) (h : spec_JoinOf.f k l0 l1 = some (r1, r2)) :
  Calls Tryz.prog 9 #[.slice A0 l0.length c0, .slice A1 l1.length c1] w fun e w' => ∃ v0_ : Value, e = .returned (.tuple #[v0_, .bool r2]) ∧ Kd.S (Kd.slice 3 (Kd.int .i64)) 44 w' w.heap.size (fun _ => True) v0_ r1 ∧ Below w.heap.size w w' := by
 have HR0 := am_ hr0; have HC0 := am_ hc0; clear hr0 hc0; have HR1 := am_ hr1; have HC1 := am_ hc1; clear hr1 hc1; have HB := am_ (Below.refl w.heap.size w); unfold spec_JoinOf.f at h; have H := h; clear h; replace H := bd_ H; obtain ⟨t101, A3, H⟩ := H; (try dsimp only at H)
 by_cases c4 : t101 = true
 ·subst c4; have H1 : ((spec_heOf.f k l0).bind fun t102 => ((spec_heOf.f k l1).bind fun t105 => ((spec_heMix.f k t102 t105 false).bind fun t108 => ((spec_heFrom.f k t108).bind fun t111 => (some (t111, true)))))) = some (r1, r2) := tc21_; clear H; have H := H1; clear H1; replace H := bd_ H; obtain ⟨t102, A5, H⟩ := H; (try dsimp only at H); replace H := bd_ H; obtain ⟨t105, A6, H⟩ := H; (try dsimp only at H); replace H := bd_ H; obtain ⟨t108, A7, H⟩ := H; (try dsimp only at H); replace H := bd_ H; obtain ⟨t111, A8, H⟩ := H; (try dsimp only at H); simp only [Option.some.injEq, Prod.mk.injEq] at H; obtain ⟨rfl, rfl⟩ := H; go_enter Tryz.func9, Tryz.ntmps9
  go_wp2_with (first | (refine gc_ (some 8) Tryz.func25 #[.slice A0 l0.length c0, .slice A1 l1.length c1] ?_; (with_reducible refine (spec_hePair.calls k _ _ l0 _ _ l1 true _ ?side1 ?side2 ?side3 ?side4 A3.out).mono ?_); (case side1 => exact tc8_); (case side2 => exact HC0.out); (case side3 => exact tc26_); (case side4 => exact HC1.out); rintro e w9 ⟨rfl, hb⟩; refine ⟨_, rfl, ?_⟩; replace HB := am_ (below_step tc0_ hb); (try clear hb)) | (refine gc_ (some 11) Tryz.func28 #[.slice A0 l0.length c0] ?_; (with_reducible refine (spec_heOf.calls k _ _ l0 t102 _ ?side1 ?side2 A5.out).mono ?_); (case side1 => exact tc9_); (case side2 => exact HC0.out); rintro e w10 ⟨v103, rfl, ho0, hb⟩; refine ⟨_, rfl, ?_⟩; have HO104 := am_ (Kd.S_lower ho0 (below_size tc0_)); replace HB := am_ (below_step tc0_ hb); (try clear hb ho0)) | (refine gc_ (some 13) Tryz.func28 #[.slice A1 l1.length c1] ?_; (with_reducible refine (spec_heOf.calls k _ _ l1 t105 _ ?side1 ?side2 A6.out).mono ?_); (case side1 => exact tc17_); (case side2 => exact HC1.out); rintro e w11 ⟨v106, rfl, ho0, hb⟩; refine ⟨_, rfl, ?_⟩; have HO107 := am_ (Kd.S_lower (Kd.S_new' ho0 (Kd.S_lt tc23_)) (below_size tc0_)); replace HO104 := am_ (Kd.S_elder' tc23_ (Kd.S_base ho0) hb); replace HB := am_ (below_step tc0_ hb); (try clear hb ho0); obtain ⟨Ao12, co12, eo12⟩ := Kd.S_slice HO104.out; subst eo12; obtain ⟨Ao13, co13, eo13⟩ := Kd.S_slice HO107.out; subst eo13) | (refine gc_ (some 14) Tryz.func27 #[.slice Ao12 t102.length co12, .slice Ao13 t105.length co13, .bool false] ?_; (with_reducible refine (spec_heMix.calls k _ _ t102 _ _ t105 false t108 _ ?side1 ?side2 ?side3 ?side4 A7.out).mono ?_); (case side1 => exact tc101_); (case side2 => exact tc204_); (case side3 => exact tc65_); (case side4 => exact tc199_); rintro e w14 ⟨v109, rfl, ho0, hb⟩; refine ⟨_, rfl, ?_⟩; have HO110 := am_ (Kd.S_lower (Kd.S_new' (Kd.S_new' ho0 (Kd.S_lt tc23_)) (Kd.S_lt tc28_)) (below_size tc0_)); replace HO104 := am_ (Kd.S_elder' tc23_ (Kd.S_base ho0) hb); replace HO107 := am_ (Kd.S_elder' tc28_ (Kd.S_base ho0) hb); replace HB := am_ (below_step tc0_ hb); (try clear hb ho0); obtain ⟨Ao15, co15, eo15⟩ := Kd.S_slice HO110.out; subst eo15) | (refine gc_ (some 15) Tryz.func26 #[.slice Ao15 t108.length co15] ?_; (with_reducible refine (spec_heFrom.calls k _ _ t108 t111 _ ?side1 ?side2 A8.out).mono ?_); (case side1 => repeat (first | exact (Kd.S_reads' HO110.out).2.2 | (with_reducible refine Kd.C_alloc ?_ _) | (with_reducible refine Kd.C_drewN ?_ _) | (with_reducible refine Kd.C_drew ?_))); (case side2 => exact (Kd.S_reads' HO110.out).2.1); rintro e w16 ⟨v112, rfl, ho0, hb⟩; refine ⟨_, rfl, ?_⟩; have HO113 := am_ (Kd.S_lower (Kd.S_new' (Kd.S_new' (Kd.S_new' ho0 (Kd.S_lt tc23_)) (Kd.S_lt tc28_)) (Kd.S_lt tc74_)) (below_size tc0_)); replace HO104 := am_ (Kd.S_elder' tc23_ (Kd.S_base ho0) hb); replace HO107 := am_ (Kd.S_elder' tc28_ (Kd.S_base ho0) hb); replace HO110 := am_ (Kd.S_elder' tc74_ (Kd.S_base ho0) hb); replace HB := am_ (below_step tc0_ hb); (try clear hb ho0)))
  go_ret2
  exact ⟨_, tc7_, tc189_, tc0_⟩
 ·replace c4 := Bool.eq_false_iff.mpr c4; subst c4; have H1 : (some (([] : Tb_), false)) = some (r1, r2) := tc12_; clear H; have H := H1; clear H1; simp only [Option.some.injEq, Prod.mk.injEq] at H; obtain ⟨rfl, rfl⟩ := H; go_enter Tryz.func9, Tryz.ntmps9
  go_wp2_with (first | (refine gc_ (some 8) Tryz.func25 #[.slice A0 l0.length c0, .slice A1 l1.length c1] ?_; (with_reducible refine (spec_hePair.calls k _ _ l0 _ _ l1 false _ ?side1 ?side2 ?side3 ?side4 A3.out).mono ?_); (case side1 => exact tc8_); (case side2 => exact HC0.out); (case side3 => exact tc26_); (case side4 => exact HC1.out); rintro e w17 ⟨rfl, hb⟩; refine ⟨_, rfl, ?_⟩; replace HB := am_ (below_step tc0_ hb); (try clear hb)))
  go_ret2
  exact ⟨_, tc7_, tc29_, tc0_⟩

/-! ### laws_hSame: function 30 -/
def laws_hSame.l0 : Nat → List Int → List Int → Int → Int → Option (Bool)
 | 0, _, _, _, _ => none
 | k + 1, x0, x1, x12, x13 => if x13 < x12 then (if 0 ≤ x13 then (if x13 < (x0.length : Int) then (if x13 < (x1.length : Int) then (if (rd x0 x13) = (rd x1 x13) then (laws_hSame.l0 k x0 x1 x12 (wrap64 (x13 + 1))) else (some false)) else (none)) else (none)) else (none)) else (some true)
def laws_hSame.f (k : Nat) (l0 : List Int) (l1 : List Int) : Option (Bool) := if (l0.length : Int) = (l1.length : Int) then (laws_hSame.l0 k l0 l1 (l0.length : Int) 0) else (some false)
theorem laws_hSame.calls (k : Nat) (A0 : Option Addr) (c0 : Nat) (l0 : List Int) (A1 : Option Addr) (c1 : Nat) (l1 : List Int) (r : Bool) (w : World) (hr0 : Kd.C (Kd.int .i64) w A0 l0.length l0) (hc0 : l0.length ≤ c0) (hr1 : Kd.C (Kd.int .i64) w A1 l1.length l1) (hc1 : l1.length ≤ c1) (h : laws_hSame.f k l0 l1 = some r) :
  Calls Tryz.prog 30 #[.slice A0 l0.length c0, .slice A1 l1.length c1] w fun e w' => e = .returned (.bool r) ∧ Drawn0 w w' := by
 have HR0 := am_ hr0; have HC0 := am_ hc0; clear hr0 hc0; have HR1 := am_ hr1; have HC1 := am_ hc1; clear hr1 hc1; unfold laws_hSame.f at h; have H := h; clear h
 replace H := pn_ H; obtain ⟨c3, H⟩ | ⟨c3, H⟩ := H
 ·have c3b0 : ((l0.length : Int) == (l1.length : Int)) = true := beq_iff_eq.mpr c3; have c3b1 : ((l0.length : Int) != (l1.length : Int)) = false := bne_eq_false_iff_eq.mpr c3; have c3b2 : (l0.length == l1.length) = true := tc202_; clear c3; have H' := am_ H; clear H; go_enter Tryz.func30, Tryz.ntmps30; go_wp2
  repeat (go_quiet (fail); try go_wp2)
  go_loopg [13] k (fun kq v13 w' => ∃ (x13_1 : Int), v13 = .int .i64 x13_1 ∧ Aside0 (laws_hSame.l0 kq l0 l1 (l0.length : Int) x13_1 = some r) ∧ Aside0 (kq ≤ k) ∧ Drawn0 w w')
  case atStart => exact ⟨(0), tc6_, H', ⟨Nat.le_refl _⟩, tc13_⟩
  case round =>
   clear H'; (try clear c1); (try clear p2); (try clear c3); (try clear c3b0); (try clear c3b1); (try clear c3b2); obtain ⟨x13_1, rfl, HA, HK1, ⟨m1, rfl⟩⟩ := hrel
   cases gk with
   | zero => exact absurd HA.out (by simp [laws_hSame.l0])
   | succ k1 =>
    have H := HA.out; clear HA; simp only [laws_hSame.l0] at H
    replace H := sp_ H; obtain ⟨c4b0, H⟩ | ⟨c4b0, H⟩ := H
    ·replace H := ps_ H; obtain ⟨c5b0, H⟩ := H; replace H := ps_ H; obtain ⟨c6b0, H⟩ := H; replace H := ps_ H; obtain ⟨c7b0, H⟩ := H
     replace H := pn_ H; obtain ⟨c8, H⟩ | ⟨c8, H⟩ := H
     ·have c8b0 : ((rd l0 x13_1) == (rd l1 x13_1)) = true := beq_iff_eq.mpr c8; have c8b1 : ((rd l0 x13_1) != (rd l1 x13_1)) = false := bne_eq_false_iff_eq.mpr c8; clear c8; have H' := am_ H; clear H; have p101 : 0 ≤ (x13_1 : Int) := od_; have q101 : x13_1 < (l0.length : Int) := od_; obtain ⟨ad101, e101, hx101_0⟩ := Kd.at_int HR0.out x13_1 p101 q101; cases e101; replace p101 := eq_true p101; replace q101 := eq_true q101; have p102 : 0 ≤ (x13_1 : Int) := od_; have q102 : x13_1 < (l1.length : Int) := od_; obtain ⟨ad102, e102, hx102_0⟩ := Kd.at_int HR1.out x13_1 p102 q102; cases e102; replace p102 := eq_true p102; replace q102 := eq_true q102; go_wp2
      repeat (go_quiet (fail); try go_wp2)
      go_roundg k1
      case measure => have := HK1.out; omega
      case rel => exact ⟨(wrap64 (x13_1 + 1)), tc6_, H', ⟨tc135_⟩, tc13_⟩
     ·have c8b0 : ((rd l0 x13_1) == (rd l1 x13_1)) = false := beq_eq_false_iff_ne.mpr c8; have c8b1 : ((rd l0 x13_1) != (rd l1 x13_1)) = true := bne_iff_ne.mpr c8; obtain rfl := Option.some.inj H; have p101 : 0 ≤ (x13_1 : Int) := od_; have q101 : x13_1 < (l0.length : Int) := od_; obtain ⟨ad101, e101, hx101_0⟩ := Kd.at_int HR0.out x13_1 p101 q101; cases e101; replace p101 := eq_true p101; replace q101 := eq_true q101; have p102 : 0 ≤ (x13_1 : Int) := od_; have q102 : x13_1 < (l1.length : Int) := od_; obtain ⟨ad102, e102, hx102_0⟩ := Kd.at_int HR1.out x13_1 p102 q102; cases e102; replace p102 := eq_true p102; replace q102 := eq_true q102; go_wp2
      repeat (go_quiet (fail); try go_wp2)
      go_ret
      exact ⟨tc6_, tc13_⟩
    ·obtain rfl := Option.some.inj H; go_wp2
     repeat (go_quiet (fail); try go_wp2)
     go_ret
     exact ⟨tc6_, tc13_⟩
 ·have c3b0 : ((l0.length : Int) == (l1.length : Int)) = false := beq_eq_false_iff_ne.mpr c3; have c3b1 : ((l0.length : Int) != (l1.length : Int)) = true := bne_iff_ne.mpr c3; have c3b2 : (l0.length == l1.length) = false := tc202_; obtain rfl := Option.some.inj H; go_enter Tryz.func30, Tryz.ntmps30; go_wp2
  repeat (go_quiet (fail); try go_wp2)
  go_ret
  exact ⟨tc6_, tc13_⟩

/-! ### laws_hRows: function 10 -/
def laws_hRows.l0 : Nat → Tb_ → Tb_ → Int → Int → Option (Bool)
 | 0, _, _, _, _ => none
 | k + 1, x0, x1, x12, x13 => if x13 < x12 then (if 0 ≤ x13 then (if x13 < (x0.length : Int) then (if x13 < (x1.length : Int) then ((laws_hSame.f k (rd_L3 x0 x13) (rd_L3 x1 x13)).bind fun t103 => (if t103 = true then (laws_hRows.l0 k x0 x1 x12 (wrap64 (x13 + 1))) else (some false))) else (none)) else (none)) else (none)) else (some true)
def laws_hRows.f (k : Nat) (l0 : Tb_) (l1 : Tb_) : Option (Bool) := if (l0.length : Int) = (l1.length : Int) then (laws_hRows.l0 k l0 l1 (l0.length : Int) 0) else (some false)
theorem laws_hRows.calls (k : Nat) (A0 : Option Addr) (c0 : Nat) (l0 : Tb_) (A1 : Option Addr) (c1 : Nat) (l1 : Tb_) (r : Bool) (w : World) (hr0 : Kd.C (Kd.slice 3 (Kd.int .i64)) w A0 l0.length l0) (hc0 : l0.length ≤ c0) (hr1 : Kd.C (Kd.slice 3 (Kd.int .i64)) w A1 l1.length l1) (hc1 : l1.length ≤ c1) (h : laws_hRows.f k l0 l1 = some r) :
  Calls Tryz.prog 10 #[.slice A0 l0.length c0, .slice A1 l1.length c1] w fun e w' => e = .returned (.bool r) ∧ Drawn0 w w' := by
 have HR0 := am_ hr0; have HC0 := am_ hc0; clear hr0 hc0; have HR1 := am_ hr1; have HC1 := am_ hc1; clear hr1 hc1; unfold laws_hRows.f at h; have H := h; clear h
 replace H := pn_ H; obtain ⟨c3, H⟩ | ⟨c3, H⟩ := H
 ·have c3b0 : ((l0.length : Int) == (l1.length : Int)) = true := beq_iff_eq.mpr c3; have c3b1 : ((l0.length : Int) != (l1.length : Int)) = false := bne_eq_false_iff_eq.mpr c3; have c3b2 : (l0.length == l1.length) = true := tc202_; clear c3; have H' := am_ H; clear H; go_enter Tryz.func10, Tryz.ntmps10; go_wp2
  repeat (go_quiet (fail); try go_wp2)
  go_loopg [13] k (fun kq v13 w' => ∃ (x13_1 : Int), v13 = .int .i64 x13_1 ∧ Aside0 (laws_hRows.l0 kq l0 l1 (l0.length : Int) x13_1 = some r) ∧ Aside0 (kq ≤ k) ∧ Drawn0 w w')
  case atStart => exact ⟨(0), tc6_, H', ⟨Nat.le_refl _⟩, tc13_⟩
  case round =>
   clear H'; (try clear c1); (try clear p2); (try clear c3); (try clear c3b0); (try clear c3b1); (try clear c3b2); obtain ⟨x13_1, rfl, HA, HK1, ⟨m1, rfl⟩⟩ := hrel
   cases gk with
   | zero => exact absurd HA.out (by simp [laws_hRows.l0])
   | succ k1 =>
    have H := HA.out; clear HA; simp only [laws_hRows.l0] at H
    replace H := sp_ H; obtain ⟨c4b0, H⟩ | ⟨c4b0, H⟩ := H
    ·replace H := ps_ H; obtain ⟨c5b0, H⟩ := H; replace H := ps_ H; obtain ⟨c6b0, H⟩ := H; replace H := ps_ H; obtain ⟨c7b0, H⟩ := H; replace H := bd_ H; obtain ⟨t103, A8, H⟩ := H; (try dsimp only at H)
     by_cases c9 : t103 = true
     ·subst c9; have H1 : (laws_hRows.l0 k1 l0 l1 (l0.length : Int) (wrap64 (x13_1 + 1))) = some r := tc21_; clear H; have H := H1; clear H1; have H' := am_ H; clear H; have p101 : 0 ≤ (x13_1 : Int) := od_; have q101 : x13_1 < (l0.length : Int) := od_; obtain ⟨ad101, A101_0, c101_0, e101, hx101_0, hl101_0, hi101_0⟩ := at_L3 HR0.out x13_1 p101 q101; cases e101; have HR101_0 := am_ hi101_0; have HC101_0 := am_ hl101_0; clear hi101_0 hl101_0; replace p101 := eq_true p101; replace q101 := eq_true q101; have p102 : 0 ≤ (x13_1 : Int) := od_; have q102 : x13_1 < (l1.length : Int) := od_; obtain ⟨ad102, A102_0, c102_0, e102, hx102_0, hl102_0, hi102_0⟩ := at_L3 HR1.out x13_1 p102 q102; cases e102; have HR102_0 := am_ hi102_0; have HC102_0 := am_ hl102_0; clear hi102_0 hl102_0; replace p102 := eq_true p102; replace q102 := eq_true q102
      go_wp2_with (first | (go_at_call 30; (with_reducible refine (laws_hSame.calls k1 _ _ (rd_L3 l0 x13_1) _ _ (rd_L3 l1 x13_1) true _ ?side1 ?side2 ?side3 ?side4 A8.out).mono ?_); (case side1 => exact tc77_); (case side2 => exact HC101_0.out); (case side3 => exact tc78_); (case side4 => exact HC102_0.out); rintro e w' ⟨rfl, ⟨nd, rfl⟩⟩; (try first | exact ⟨rfl, _, World.drewN_drewN _ _ _⟩ | exact ⟨rfl, _, Eq.trans (World.drewN_drewN _ _ _) (congrArg (World.drewN _) (Nat.add_assoc _ _ _))⟩)))
      repeat (go_quiet (first | (go_at_call 30; (with_reducible refine (laws_hSame.calls k1 _ _ (rd_L3 l0 x13_1) _ _ (rd_L3 l1 x13_1) true _ ?side1 ?side2 ?side3 ?side4 A8.out).mono ?_); (case side1 => exact tc77_); (case side2 => exact HC101_0.out); (case side3 => exact tc78_); (case side4 => exact HC102_0.out); rintro e w' ⟨rfl, ⟨nd, rfl⟩⟩; (try first | exact ⟨rfl, _, World.drewN_drewN _ _ _⟩ | exact ⟨rfl, _, Eq.trans (World.drewN_drewN _ _ _) (congrArg (World.drewN _) (Nat.add_assoc _ _ _))⟩))); try go_wp2_with (first | (go_at_call 30; (with_reducible refine (laws_hSame.calls k1 _ _ (rd_L3 l0 x13_1) _ _ (rd_L3 l1 x13_1) true _ ?side1 ?side2 ?side3 ?side4 A8.out).mono ?_); (case side1 => exact tc77_); (case side2 => exact HC101_0.out); (case side3 => exact tc78_); (case side4 => exact HC102_0.out); rintro e w' ⟨rfl, ⟨nd, rfl⟩⟩; (try first | exact ⟨rfl, _, World.drewN_drewN _ _ _⟩ | exact ⟨rfl, _, Eq.trans (World.drewN_drewN _ _ _) (congrArg (World.drewN _) (Nat.add_assoc _ _ _))⟩))))
      go_roundg k1
      case measure => have := HK1.out; omega
      case rel => exact ⟨(wrap64 (x13_1 + 1)), tc6_, H', ⟨tc135_⟩, tc13_⟩
     ·replace c9 := Bool.eq_false_iff.mpr c9; subst c9; have H1 : (some false) = some r := tc12_; clear H; have H := H1; clear H1; obtain rfl := Option.some.inj H; have p101 : 0 ≤ (x13_1 : Int) := od_; have q101 : x13_1 < (l0.length : Int) := od_; obtain ⟨ad101, A101_0, c101_0, e101, hx101_0, hl101_0, hi101_0⟩ := at_L3 HR0.out x13_1 p101 q101; cases e101; have HR101_0 := am_ hi101_0; have HC101_0 := am_ hl101_0; clear hi101_0 hl101_0; replace p101 := eq_true p101; replace q101 := eq_true q101; have p102 : 0 ≤ (x13_1 : Int) := od_; have q102 : x13_1 < (l1.length : Int) := od_; obtain ⟨ad102, A102_0, c102_0, e102, hx102_0, hl102_0, hi102_0⟩ := at_L3 HR1.out x13_1 p102 q102; cases e102; have HR102_0 := am_ hi102_0; have HC102_0 := am_ hl102_0; clear hi102_0 hl102_0; replace p102 := eq_true p102; replace q102 := eq_true q102
      go_wp2_with (first | (go_at_call 30; (with_reducible refine (laws_hSame.calls k1 _ _ (rd_L3 l0 x13_1) _ _ (rd_L3 l1 x13_1) false _ ?side1 ?side2 ?side3 ?side4 A8.out).mono ?_); (case side1 => exact tc77_); (case side2 => exact HC101_0.out); (case side3 => exact tc78_); (case side4 => exact HC102_0.out); rintro e w' ⟨rfl, ⟨nd, rfl⟩⟩; (try first | exact ⟨rfl, _, World.drewN_drewN _ _ _⟩ | exact ⟨rfl, _, Eq.trans (World.drewN_drewN _ _ _) (congrArg (World.drewN _) (Nat.add_assoc _ _ _))⟩)))
      repeat (go_quiet (first | (go_at_call 30; (with_reducible refine (laws_hSame.calls k1 _ _ (rd_L3 l0 x13_1) _ _ (rd_L3 l1 x13_1) false _ ?side1 ?side2 ?side3 ?side4 A8.out).mono ?_); (case side1 => exact tc77_); (case side2 => exact HC101_0.out); (case side3 => exact tc78_); (case side4 => exact HC102_0.out); rintro e w' ⟨rfl, ⟨nd, rfl⟩⟩; (try first | exact ⟨rfl, _, World.drewN_drewN _ _ _⟩ | exact ⟨rfl, _, Eq.trans (World.drewN_drewN _ _ _) (congrArg (World.drewN _) (Nat.add_assoc _ _ _))⟩))); try go_wp2_with (first | (go_at_call 30; (with_reducible refine (laws_hSame.calls k1 _ _ (rd_L3 l0 x13_1) _ _ (rd_L3 l1 x13_1) false _ ?side1 ?side2 ?side3 ?side4 A8.out).mono ?_); (case side1 => exact tc77_); (case side2 => exact HC101_0.out); (case side3 => exact tc78_); (case side4 => exact HC102_0.out); rintro e w' ⟨rfl, ⟨nd, rfl⟩⟩; (try first | exact ⟨rfl, _, World.drewN_drewN _ _ _⟩ | exact ⟨rfl, _, Eq.trans (World.drewN_drewN _ _ _) (congrArg (World.drewN _) (Nat.add_assoc _ _ _))⟩))))
      go_ret
      exact ⟨tc6_, tc13_⟩
    ·obtain rfl := Option.some.inj H; go_wp2
     repeat (go_quiet (fail); try go_wp2)
     go_ret
     exact ⟨tc6_, tc13_⟩
 ·have c3b0 : ((l0.length : Int) == (l1.length : Int)) = false := beq_eq_false_iff_ne.mpr c3; have c3b1 : ((l0.length : Int) != (l1.length : Int)) = true := bne_iff_ne.mpr c3; have c3b2 : (l0.length == l1.length) = false := tc202_; obtain rfl := Option.some.inj H; go_enter Tryz.func10, Tryz.ntmps10; go_wp2
  repeat (go_quiet (fail); try go_wp2)
  go_ret
  exact ⟨tc6_, tc13_⟩

/-! ### impl_isBelow: function 32 -/
mutual
def impl_isBelow.l0 : Nat → Tb_ → Tb_ → Int → Int → Option (Bool)
 | 0, _, _, _, _ => none
 | k + 1, x6, x15, x16, x17 => if x17 < x16 then (if 0 ≤ x17 then (if x17 < (x15.length : Int) then (impl_isBelow.l1 k x6 x17 x15 x16 x17 (rd_L3 x15 x17) ((rd_L3 x15 x17).length : Int) 0) else (none)) else (none)) else (some true)
def impl_isBelow.l1 : Nat → Tb_ → Int → Tb_ → Int → Int → List Int → Int → Int → Option (Bool)
 | 0, _, _, _, _, _, _, _, _ => none
 | k + 1, x6, x7, x15, x16, x17, x22, x23, x24 => if x24 < x23 then (if 0 ≤ x24 then (if x24 < (x22.length : Int) then (if 0 ≤ x7 then (if x7 < (x6.length : Int) then (if x24 < ((rd_L3 x6 x7).length : Int) then (if (rd x22 x24) > (rd (rd_L3 x6 x7) x24) then (some false) else (impl_isBelow.l1 k x6 x7 x15 x16 x17 x22 x23 (wrap64 (x24 + 1)))) else (none)) else (none)) else (none)) else (none)) else (none)) else (impl_isBelow.l0 k x6 x15 x16 (wrap64 (x17 + 1)))
end
def impl_isBelow.f (k : Nat) (l0 : Tb_) (l1 : Tb_) : Option (Bool) := (impl_heights.f k l0).bind fun t101 => ((impl_heights.f k l1).bind fun t104 => (impl_isBelow.l0 k t104 t101 (t101.length : Int) 0))
theorem impl_isBelow.calls (k : Nat) (A0 : Option Addr) (c0 : Nat) (l0 : Tb_) (A1 : Option Addr) (c1 : Nat) (l1 : Tb_) (r : Bool) (w : World) (hr0 : Kd.C (Kd.slice 3 (Kd.int .i64)) w A0 l0.length l0) (hc0 : l0.length ≤ c0) (hr1 : Kd.C (Kd.slice 3 (Kd.int .i64)) w A1 l1.length l1) (hc1 : l1.length ≤ c1) (h : impl_isBelow.f k l0 l1 = some r) :
  Calls Tryz.prog 32 #[.slice A0 l0.length c0, .slice A1 l1.length c1] w fun e w' => e = .returned (.bool r) ∧ Below w.heap.size w w' := by
 have HR0 := am_ hr0; have HC0 := am_ hc0; clear hr0 hc0; have HR1 := am_ hr1; have HC1 := am_ hc1; clear hr1 hc1; have HB := am_ (Below.refl w.heap.size w); unfold impl_isBelow.f at h; have H := h; clear h; replace H := bd_ H; obtain ⟨t101, A3, H⟩ := H; (try dsimp only at H); replace H := bd_ H; obtain ⟨t104, A4, H⟩ := H; (try dsimp only at H); have H' := am_ H; clear H; go_enter Tryz.func32, Tryz.ntmps32
 go_wp2_with (first | (refine gc_ (some 12) Tryz.func54 #[.slice A0 l0.length c0] ?_; (with_reducible refine (impl_heights.calls k _ _ l0 t101 _ ?side1 ?side2 A3.out).mono ?_); (case side1 => exact tc8_); (case side2 => exact HC0.out); rintro e w5 ⟨v102, rfl, ho0, hb⟩; refine ⟨_, rfl, ?_⟩; have HO103 := am_ (Kd.S_lower ho0 (below_size tc0_)); replace HB := am_ (below_step tc0_ hb); (try clear hb ho0)) | (refine gc_ (some 14) Tryz.func54 #[.slice A1 l1.length c1] ?_; (with_reducible refine (impl_heights.calls k _ _ l1 t104 _ ?side1 ?side2 A4.out).mono ?_); (case side1 => exact tc17_); (case side2 => exact HC1.out); rintro e w6 ⟨v105, rfl, ho0, hb⟩; refine ⟨_, rfl, ?_⟩; have HO106 := am_ (Kd.S_lower (Kd.S_new' ho0 (Kd.S_lt tc22_)) (below_size tc0_)); replace HO103 := am_ (Kd.S_elder' tc22_ (Kd.S_base ho0) hb); replace HB := am_ (below_step tc0_ hb); (try clear hb ho0); obtain ⟨Ao7, co7, eo7⟩ := Kd.S_slice HO103.out; subst eo7))
 go_loopg [17] k (fun kq v17 w' => ∃ (x17_1 : Int), v17 = .int .i64 x17_1 ∧ Aside0 (impl_isBelow.l0 kq t104 t101 (t101.length : Int) x17_1 = some r) ∧ Aside0 (kq ≤ k) ∧ Aside0 (Kd.S (Kd.slice 3 (Kd.int .i64)) 44 w' w.heap.size (fun k_ => some k_ ≠ ((.slice Ao7 t101.length co7) : Value).ownBlock) v105 t104) ∧ Aside0 (Kd.S (Kd.slice 3 (Kd.int .i64)) 44 w' w.heap.size (fun k_ => some k_ ≠ (v105 : Value).ownBlock) (.slice Ao7 t101.length co7) t101) ∧ Aside0 (Below w.heap.size w w'))
 case atStart => exact ⟨(0), tc6_, H', ⟨Nat.le_refl _⟩, ⟨tc191_⟩, ⟨tc192_⟩, ⟨tc0_⟩⟩
 case round =>
  clear H'; (try clear c1); (try clear p2); (try clear c3); (try clear c5); obtain ⟨x17_1, rfl, HA, HK1, HO_6, HO_15, HB⟩ := hrel
  cases gk with
  | zero => exact absurd HA.out (by simp [impl_isBelow.l0])
  | succ k1 =>
   have H := HA.out; clear HA; simp only [impl_isBelow.l0] at H
   replace H := sp_ H; obtain ⟨c8b0, H⟩ | ⟨c8b0, H⟩ := H
   ·replace H := ps_ H; obtain ⟨c9b0, H⟩ := H; replace H := ps_ H; obtain ⟨c10b0, H⟩ := H; have H' := am_ H; clear H; have p107 : 0 ≤ (x17_1 : Int) := od_; have q107 : x17_1 < (t101.length : Int) := od_; obtain ⟨ad107, A107_0, c107_0, e107, hx107_0, hl107_0, hi107_0⟩ := at_L3 (Kd.S_reads' HO_15.out).2.2 x17_1 p107 q107; cases e107; obtain ⟨ce107, hce107, hMe107, hcc107⟩ := Kd.S_get HO_15.out [] x17_1 p107 (by first | exact q107 | exact od_ | (have e_ := (Kd.S_reads' HO_15.out).1; omega)); obtain ⟨ve107_0, rfl, ge107_0⟩ := hMe107; have hv107_0 := hcc107 0 _ rfl; rw [Nat.add_zero, show ((Kd.slice 3 (Kd.int .i64))).sz = 1 from rfl, Nat.mul_one] at hv107_0; replace hv107_0 := Option.some.inj (hv107_0.symm.trans hx107_0); rw [hv107_0] at ge107_0; have HL107_0 := am_ (show Kd.R (Kd.int .i64) 3 _ _ _ _ (rd_L3 t101 x17_1) from ge107_0); clear hv107_0 ge107_0; clear hcc107 hce107; have HR107_0 := am_ hi107_0; have HC107_0 := am_ hl107_0; clear hi107_0 hl107_0; replace p107 := eq_true p107; replace q107 := eq_true q107; go_wp2
    go_loopg [24] k1 (fun kq v24 w' => ∃ (x24_2 : Int), v24 = .int .i64 x24_2 ∧ Aside0 (impl_isBelow.l1 kq t104 x17_1 t101 (t101.length : Int) x17_1 (rd_L3 t101 x17_1) ((rd_L3 t101 x17_1).length : Int) x24_2 = some r) ∧ Aside0 (kq ≤ k1) ∧ Aside0 (Kd.S (Kd.slice 3 (Kd.int .i64)) 44 w' w.heap.size (fun k_ => some k_ ≠ ((.slice (some ad107) t101.length co7) : Value).ownBlock) v105 t104) ∧ Aside0 (Kd.S (Kd.slice 3 (Kd.int .i64)) 44 w' w.heap.size (fun k_ => some k_ ≠ (v105 : Value).ownBlock) (.slice (some ad107) t101.length co7) t101) ∧ Aside0 (Kd.C (Kd.int .i64) w' A107_0 (rd_L3 t101 x17_1).length (rd_L3 t101 x17_1)) ∧ Aside0 (Below w.heap.size w w'))
    case atStart => exact ⟨(0), tc6_, H', ⟨Nat.le_refl _⟩, ⟨tc15_⟩, ⟨tc167_⟩, ⟨tc71_⟩, ⟨tc0_⟩⟩
    case round =>
     clear H'; (try clear c1); (try clear p1); (try clear q1); (try clear hx1); (try clear p2); (try clear c3); (try clear c5); (try clear c8); (try clear c8b0); (try clear c9); (try clear c9b0); (try clear c10); (try clear c10b0); (try clear p10); (try clear q10); (try clear hx10); (try clear hx107_0); (try clear p107); (try clear p2); (try clear q107); obtain ⟨x24_2, rfl, HA, HK2, HO_6, HO_15, HR107_0, HB⟩ := hrel
     cases gk with
     | zero => exact absurd HA.out (by simp [impl_isBelow.l1])
     | succ k2 =>
      have H := HA.out; clear HA; simp only [impl_isBelow.l1] at H
      replace H := sp_ H; obtain ⟨c11b0, H⟩ | ⟨c11b0, H⟩ := H
      ·replace H := ps_ H; obtain ⟨c12b0, H⟩ := H; replace H := ps_ H; obtain ⟨c13b0, H⟩ := H; replace H := ps_ H; obtain ⟨c14b0, H⟩ := H; replace H := ps_ H; obtain ⟨c15b0, H⟩ := H; replace H := ps_ H; obtain ⟨c16b0, H⟩ := H
       replace H := pn_ H; obtain ⟨c17, H⟩ | ⟨c17, H⟩ := H
       ·have c17b0 : decide ((rd (rd_L3 t104 x17_1) x24_2) < (rd (rd_L3 t101 x17_1) x24_2)) = true := decide_eq_true c17; clear c17; obtain rfl := Option.some.inj H; have p108 : 0 ≤ (x24_2 : Int) := od_; have q108 : x24_2 < ((rd_L3 t101 x17_1).length : Int) := od_; obtain ⟨ad108, e108, hx108_0⟩ := Kd.at_int HR107_0.out x24_2 p108 q108; cases e108; (first | replace hx108_0 := (HB.out.cell (World.block_lt_of_cell? w _ hx108_0)).trans hx108_0 | skip); replace p108 := eq_true p108; replace q108 := eq_true q108; obtain ⟨Ao18, co18, eo18⟩ := Kd.S_slice HO_6.out; subst eo18; have p109 : 0 ≤ (x17_1 : Int) := od_; have q109 : x17_1 < (t104.length : Int) := od_; obtain ⟨ad109, A109_0, c109_0, e109, hx109_0, hl109_0, hi109_0⟩ := at_L3 (Kd.S_reads' HO_6.out).2.2 x17_1 p109 q109; cases e109; obtain ⟨ce109, hce109, hMe109, hcc109⟩ := Kd.S_get HO_6.out [] x17_1 p109 tc142_; obtain ⟨ve109_0, rfl, ge109_0⟩ := hMe109; have hv109_0 := hcc109 0 _ rfl; rw [Nat.add_zero, show ((Kd.slice 3 (Kd.int .i64))).sz = 1 from rfl, Nat.mul_one] at hv109_0; replace hv109_0 := Option.some.inj (hv109_0.symm.trans hx109_0); rw [hv109_0] at ge109_0; have HL109_0 := am_ (show Kd.R (Kd.int .i64) 3 _ _ _ _ (rd_L3 t104 x17_1) from ge109_0); clear hv109_0 ge109_0; clear hcc109 hce109; have HR109_0 := am_ hi109_0; have HC109_0 := am_ hl109_0; clear hi109_0 hl109_0; replace p109 := eq_true p109; replace q109 := eq_true q109; have p110 : 0 ≤ (x24_2 : Int) := od_; have q110 : x24_2 < ((rd_L3 t104 x17_1).length : Int) := od_; obtain ⟨ad110, e110, hx110_0⟩ := Kd.at_int tc93_ x24_2 p110 q110; cases e110; replace p110 := eq_true p110; replace q110 := eq_true q110; go_wp2
        go_ret
        exact ⟨tc7_, tc0_⟩
       ·have c17b0 : decide ((rd (rd_L3 t104 x17_1) x24_2) < (rd (rd_L3 t101 x17_1) x24_2)) = false := decide_eq_false c17; clear c17; have H' := am_ H; clear H; have p108 : 0 ≤ (x24_2 : Int) := od_; have q108 : x24_2 < ((rd_L3 t101 x17_1).length : Int) := od_; obtain ⟨ad108, e108, hx108_0⟩ := Kd.at_int HR107_0.out x24_2 p108 q108; cases e108; (first | replace hx108_0 := (HB.out.cell (World.block_lt_of_cell? w _ hx108_0)).trans hx108_0 | skip); replace p108 := eq_true p108; replace q108 := eq_true q108; obtain ⟨Ao19, co19, eo19⟩ := Kd.S_slice HO_6.out; subst eo19; have p109 : 0 ≤ (x17_1 : Int) := od_; have q109 : x17_1 < (t104.length : Int) := od_; obtain ⟨ad109, A109_0, c109_0, e109, hx109_0, hl109_0, hi109_0⟩ := at_L3 (Kd.S_reads' HO_6.out).2.2 x17_1 p109 q109; cases e109; obtain ⟨ce109, hce109, hMe109, hcc109⟩ := Kd.S_get HO_6.out [] x17_1 p109 tc142_; obtain ⟨ve109_0, rfl, ge109_0⟩ := hMe109; have hv109_0 := hcc109 0 _ rfl; rw [Nat.add_zero, show ((Kd.slice 3 (Kd.int .i64))).sz = 1 from rfl, Nat.mul_one] at hv109_0; replace hv109_0 := Option.some.inj (hv109_0.symm.trans hx109_0); rw [hv109_0] at ge109_0; have HL109_0 := am_ (show Kd.R (Kd.int .i64) 3 _ _ _ _ (rd_L3 t104 x17_1) from ge109_0); clear hv109_0 ge109_0; clear hcc109 hce109; have HR109_0 := am_ hi109_0; have HC109_0 := am_ hl109_0; clear hi109_0 hl109_0; replace p109 := eq_true p109; replace q109 := eq_true q109; have p110 : 0 ≤ (x24_2 : Int) := od_; have q110 : x24_2 < ((rd_L3 t104 x17_1).length : Int) := od_; obtain ⟨ad110, e110, hx110_0⟩ := Kd.at_int tc93_ x24_2 p110 q110; cases e110; replace p110 := eq_true p110; replace q110 := eq_true q110; go_wp2
        go_roundg k2
        case measure => have := HK1.out; have := HK2.out; omega
        case rel => exact ⟨(wrap64 (x24_2 + 1)), tc6_, H', ⟨tc39_⟩, ⟨tc15_⟩, ⟨tc167_⟩, ⟨tc71_⟩, ⟨tc0_⟩⟩
      ·have H' := am_ H; clear H; go_wp2
       go_roundg k2
       case measure => have := HK1.out; have := HK2.out; omega
       case rel => exact ⟨(wrap64 (x17_1 + 1)), tc6_, H', ⟨tc39_⟩, ⟨tc15_⟩, ⟨tc167_⟩, ⟨tc0_⟩⟩
   ·obtain rfl := Option.some.inj H; go_wp2
    go_ret
    exact ⟨tc7_, tc0_⟩

/-! ### impl_IsBelow: function 11 -/
def impl_IsBelow.f (k : Nat) (l0 : Tb_) (l1 : Tb_) : Option (Bool × Bool) := (impl_arePair.f k l0 l1).bind fun t101 => (if t101 = true then ((impl_isBelow.f k l0 l1).bind fun t102 => (some (t102, true))) else (some (false, false)))
theorem impl_IsBelow.calls (k : Nat) (A0 : Option Addr) (c0 : Nat) (l0 : Tb_) (A1 : Option Addr) (c1 : Nat) (l1 : Tb_) (r1 : Bool) (r2 : Bool) (w : World) (hr0 : Kd.C (Kd.slice 3 (Kd.int .i64)) w A0 l0.length l0) (hc0 : l0.length ≤ c0) (hr1 : Kd.C (Kd.slice 3 (Kd.int .i64)) w A1 l1.length l1) (hc1 : l1.length ≤ c1) (h : impl_IsBelow.f k l0 l1 = some (r1, r2)) :
  Calls Tryz.prog 11 #[.slice A0 l0.length c0, .slice A1 l1.length c1] w fun e w' => e = .returned (.tuple #[.bool r1, .bool r2]) ∧ Below w.heap.size w w' := by
 have HR0 := am_ hr0; have HC0 := am_ hc0; clear hr0 hc0; have HR1 := am_ hr1; have HC1 := am_ hc1; clear hr1 hc1; have HB := am_ (Below.refl w.heap.size w); unfold impl_IsBelow.f at h; have H := h; clear h; replace H := bd_ H; obtain ⟨t101, A3, H⟩ := H; (try dsimp only at H)
 by_cases c4 : t101 = true
 ·subst c4; have H1 : ((impl_isBelow.f k l0 l1).bind fun t102 => (some (t102, true))) = some (r1, r2) := tc21_; clear H; have H := H1; clear H1; replace H := bd_ H; obtain ⟨t102, A5, H⟩ := H; (try dsimp only at H); simp only [Option.some.injEq, Prod.mk.injEq] at H; obtain ⟨rfl, rfl⟩ := H; go_enter Tryz.func11, Tryz.ntmps11
  go_wp2_with (first | (refine gc_ (some 8) Tryz.func31 #[.slice A0 l0.length c0, .slice A1 l1.length c1] ?_; (with_reducible refine (impl_arePair.calls k _ _ l0 _ _ l1 true _ ?side1 ?side2 ?side3 ?side4 A3.out).mono ?_); (case side1 => exact tc8_); (case side2 => exact HC0.out); (case side3 => exact tc26_); (case side4 => exact HC1.out); rintro e w6 ⟨rfl, hb⟩; refine ⟨_, rfl, ?_⟩; replace HB := am_ (below_step tc0_ hb); (try clear hb)) | (refine gc_ (some 12) Tryz.func32 #[.slice A0 l0.length c0, .slice A1 l1.length c1] ?_; (with_reducible refine (impl_isBelow.calls k _ _ l0 _ _ l1 t102 _ ?side1 ?side2 ?side3 ?side4 A5.out).mono ?_); (case side1 => exact tc9_); (case side2 => exact HC0.out); (case side3 => exact tc17_); (case side4 => exact HC1.out); rintro e w7 ⟨rfl, hb⟩; refine ⟨_, rfl, ?_⟩; replace HB := am_ (below_step tc0_ hb); (try clear hb)))
  go_ret2
  exact ⟨tc7_, tc0_⟩
 ·replace c4 := Bool.eq_false_iff.mpr c4; subst c4; have H1 : (some (false, false)) = some (r1, r2) := tc12_; clear H; have H := H1; clear H1; simp only [Option.some.injEq, Prod.mk.injEq] at H; obtain ⟨rfl, rfl⟩ := H; go_enter Tryz.func11, Tryz.ntmps11
  go_wp2_with (first | (refine gc_ (some 8) Tryz.func31 #[.slice A0 l0.length c0, .slice A1 l1.length c1] ?_; (with_reducible refine (impl_arePair.calls k _ _ l0 _ _ l1 false _ ?side1 ?side2 ?side3 ?side4 A3.out).mono ?_); (case side1 => exact tc8_); (case side2 => exact HC0.out); (case side3 => exact tc26_); (case side4 => exact HC1.out); rintro e w8 ⟨rfl, hb⟩; refine ⟨_, rfl, ?_⟩; replace HB := am_ (below_step tc0_ hb); (try clear hb)))
  go_ret2
  exact ⟨tc7_, tc0_⟩

/-! ### impl_distance: function 33 -/
mutual
def impl_distance.l0 : Nat → Tb_ → Int → Tb_ → Int → Int → Option (Int)
 | 0, _, _, _, _, _ => none
 | k + 1, x6, x7, x16, x17, x18 => if x18 < x17 then (if 0 ≤ x18 then (if x18 < (x16.length : Int) then (impl_distance.l1 k x6 x7 x18 x16 x17 x18 (rd_L3 x16 x18) ((rd_L3 x16 x18).length : Int) 0) else (none)) else (none)) else (some (wrap64 (Int.tdiv x7 2)))
def impl_distance.l1 : Nat → Tb_ → Int → Int → Tb_ → Int → Int → List Int → Int → Int → Option (Int)
 | 0, _, _, _, _, _, _, _, _, _ => none
 | k + 1, x6, x7, x8, x16, x17, x18, x23, x24, x25 => if x25 < x24 then (if 0 ≤ x25 then (if x25 < (x23.length : Int) then (if 0 ≤ x8 then (if x8 < (x6.length : Int) then (if x25 < ((rd_L3 x6 x8).length : Int) then (impl_distance.l1 k x6 (wrap64 (x7 + (mx (wrap64 ((rd x23 x25) - (rd (rd_L3 x6 x8) x25))) (wrap64 ((rd (rd_L3 x6 x8) x25) - (rd x23 x25)))))) x8 x16 x17 x18 x23 x24 (wrap64 (x25 + 1))) else (none)) else (none)) else (none)) else (none)) else (none)) else (impl_distance.l0 k x6 x7 x16 x17 (wrap64 (x18 + 1)))
end
def impl_distance.f (k : Nat) (l0 : Tb_) (l1 : Tb_) : Option (Int) := (impl_heights.f k l0).bind fun t101 => ((impl_heights.f k l1).bind fun t104 => (impl_distance.l0 k t104 0 t101 (t101.length : Int) 0))
theorem impl_distance.calls (k : Nat) (A0 : Option Addr) (c0 : Nat) (l0 : Tb_) (A1 : Option Addr) (c1 : Nat) (l1 : Tb_) (r : Int) (w : World) (hr0 : Kd.C (Kd.slice 3 (Kd.int .i64)) w A0 l0.length l0) (hc0 : l0.length ≤ c0) (hr1 : Kd.C (Kd.slice 3 (Kd.int .i64)) w A1 l1.length l1) (hc1 : l1.length ≤ c1) (h : impl_distance.f k l0 l1 = some r) :
  Calls Tryz.prog 33 #[.slice A0 l0.length c0, .slice A1 l1.length c1] w fun e w' => e = .returned (.int .i64 r) ∧ Below w.heap.size w w' := by
 have HR0 := am_ hr0; have HC0 := am_ hc0; clear hr0 hc0; have HR1 := am_ hr1; have HC1 := am_ hc1; clear hr1 hc1; have HB := am_ (Below.refl w.heap.size w); unfold impl_distance.f at h; have H := h; clear h; replace H := bd_ H; obtain ⟨t101, A3, H⟩ := H; (try dsimp only at H); replace H := bd_ H; obtain ⟨t104, A4, H⟩ := H; (try dsimp only at H); have H' := am_ H; clear H; go_enter Tryz.func33, Tryz.ntmps33
 go_wp2_with (first | (go_at_call 54; (with_reducible refine (impl_heights.calls k _ _ l0 t101 _ ?side1 ?side2 A3.out).mono ?_); (case side1 => exact tc8_); (case side2 => exact HC0.out); rintro e w5 ⟨v102, rfl, ho0, hb⟩; have HO103 := am_ (Kd.S_lower ho0 (below_size tc0_)); replace HB := am_ (below_step tc0_ hb); (try clear hb ho0)) | (go_at_call 54; (with_reducible refine (impl_heights.calls k _ _ l1 t104 _ ?side1 ?side2 A4.out).mono ?_); (case side1 => exact tc17_); (case side2 => exact HC1.out); rintro e w6 ⟨v105, rfl, ho0, hb⟩; have HO106 := am_ (Kd.S_lower (Kd.S_new' ho0 (Kd.S_lt tc22_)) (below_size tc0_)); replace HO103 := am_ (Kd.S_elder' tc22_ (Kd.S_base ho0) hb); replace HB := am_ (below_step tc0_ hb); (try clear hb hb2 hk hi ho0); obtain ⟨Ao7, co7, eo7⟩ := Kd.S_slice HO103.out; subst eo7))
 repeat (go_quiet (first | (go_at_call 54; (with_reducible refine (impl_heights.calls k _ _ l0 t101 _ ?side1 ?side2 A3.out).mono ?_); (case side1 => exact tc8_); (case side2 => exact HC0.out); rintro e w5 ⟨v102, rfl, ho0, hb⟩; have HO103 := am_ (Kd.S_lower ho0 (below_size tc0_)); replace HB := am_ (below_step tc0_ hb); (try clear hb ho0))); try go_wp2_with (first | (go_at_call 54; (with_reducible refine (impl_heights.calls k _ _ l0 t101 _ ?side1 ?side2 A3.out).mono ?_); (case side1 => exact tc8_); (case side2 => exact HC0.out); rintro e w5 ⟨v102, rfl, ho0, hb⟩; have HO103 := am_ (Kd.S_lower ho0 (below_size tc0_)); replace HB := am_ (below_step tc0_ hb); (try clear hb hb2 hk hi ho0))))
 go_loopg [7, 18] k (fun kq v7 v18 w' => ∃ (x7_1 : Int) (x18_1 : Int), v7 = .int .i64 x7_1 ∧ v18 = .int .i64 x18_1 ∧ Aside0 (impl_distance.l0 kq t104 x7_1 t101 (t101.length : Int) x18_1 = some r) ∧ Aside0 (kq ≤ k) ∧ Aside0 (Kd.S (Kd.slice 3 (Kd.int .i64)) 44 w' w.heap.size (fun k_ => some k_ ≠ ((.slice Ao7 t101.length co7) : Value).ownBlock) v105 t104) ∧ Aside0 (Kd.S (Kd.slice 3 (Kd.int .i64)) 44 w' w.heap.size (fun k_ => some k_ ≠ (v105 : Value).ownBlock) (.slice Ao7 t101.length co7) t101) ∧ Aside0 (Below w.heap.size w w'))
 case atStart => exact ⟨(0), (0), tc6_, tc6_, H', ⟨Nat.le_refl _⟩, ⟨tc191_⟩, ⟨tc192_⟩, ⟨tc0_⟩⟩
 case round =>
  clear H'; (try clear c1); (try clear p2); (try clear c3); obtain ⟨x7_1, x18_1, rfl, rfl, HA, HK1, HO_6, HO_16, HB⟩ := hrel
  cases gk with
  | zero => exact absurd HA.out (by simp [impl_distance.l0])
  | succ k1 =>
   have H := HA.out; clear HA; simp only [impl_distance.l0] at H
   replace H := sp_ H; obtain ⟨c8b0, H⟩ | ⟨c8b0, H⟩ := H
   ·replace H := ps_ H; obtain ⟨c9b0, H⟩ := H; replace H := ps_ H; obtain ⟨c10b0, H⟩ := H; have H' := am_ H; clear H; have p107 : 0 ≤ (x18_1 : Int) := od_; have q107 : x18_1 < (t101.length : Int) := od_; obtain ⟨ad107, A107_0, c107_0, e107, hx107_0, hl107_0, hi107_0⟩ := at_L3 (Kd.S_reads' HO_16.out).2.2 x18_1 p107 q107; cases e107; obtain ⟨ce107, hce107, hMe107, hcc107⟩ := Kd.S_get HO_16.out [] x18_1 p107 (by first | exact q107 | exact od_ | (have e_ := (Kd.S_reads' HO_16.out).1; omega)); obtain ⟨ve107_0, rfl, ge107_0⟩ := hMe107; have hv107_0 := hcc107 0 _ rfl; rw [Nat.add_zero, show ((Kd.slice 3 (Kd.int .i64))).sz = 1 from rfl, Nat.mul_one] at hv107_0; replace hv107_0 := Option.some.inj (hv107_0.symm.trans hx107_0); rw [hv107_0] at ge107_0; have HL107_0 := am_ (show Kd.R (Kd.int .i64) 3 _ _ _ _ (rd_L3 t101 x18_1) from ge107_0); clear hv107_0 ge107_0; clear hcc107 hce107; have HR107_0 := am_ hi107_0; have HC107_0 := am_ hl107_0; clear hi107_0 hl107_0; replace p107 := eq_true p107; replace q107 := eq_true q107; go_wp2
    repeat (go_quiet (fail); try go_wp2)
    go_loopg [7, 25] k1 (fun kq v7 v25 w' => ∃ (x7_2 : Int) (x25_2 : Int), v7 = .int .i64 x7_2 ∧ v25 = .int .i64 x25_2 ∧ Aside0 (impl_distance.l1 kq t104 x7_2 x18_1 t101 (t101.length : Int) x18_1 (rd_L3 t101 x18_1) ((rd_L3 t101 x18_1).length : Int) x25_2 = some r) ∧ Aside0 (kq ≤ k1) ∧ Aside0 (Kd.S (Kd.slice 3 (Kd.int .i64)) 44 w' w.heap.size (fun k_ => some k_ ≠ ((.slice (some ad107) t101.length co7) : Value).ownBlock) v105 t104) ∧ Aside0 (Kd.S (Kd.slice 3 (Kd.int .i64)) 44 w' w.heap.size (fun k_ => some k_ ≠ (v105 : Value).ownBlock) (.slice (some ad107) t101.length co7) t101) ∧ Aside0 (Kd.C (Kd.int .i64) w' A107_0 (rd_L3 t101 x18_1).length (rd_L3 t101 x18_1)) ∧ Aside0 (Below w.heap.size w w'))
    case atStart => exact ⟨(x7_1), (0), tc6_, tc6_, H', ⟨Nat.le_refl _⟩, ⟨tc15_⟩, ⟨tc168_⟩, ⟨tc71_⟩, ⟨tc0_⟩⟩
    case round =>
     clear H'; (try clear c1); (try clear p1); (try clear q1); (try clear hx1); (try clear p2); (try clear c3); (try clear c8); (try clear c8b0); (try clear c9); (try clear c9b0); (try clear c10); (try clear c10b0); (try clear p10); (try clear q10); (try clear hx10); (try clear hx107_0); (try clear p107); (try clear p2); (try clear q107); obtain ⟨x7_2, x25_2, rfl, rfl, HA, HK2, HO_6, HO_16, HR107_0, HB⟩ := hrel
     cases gk with
     | zero => exact absurd HA.out (by simp [impl_distance.l1])
     | succ k2 =>
      have H := HA.out; clear HA; simp only [impl_distance.l1] at H
      replace H := sp_ H; obtain ⟨c11b0, H⟩ | ⟨c11b0, H⟩ := H
      ·replace H := ps_ H; obtain ⟨c12b0, H⟩ := H; replace H := ps_ H; obtain ⟨c13b0, H⟩ := H; replace H := ps_ H; obtain ⟨c14b0, H⟩ := H; replace H := ps_ H; obtain ⟨c15b0, H⟩ := H; replace H := ps_ H; obtain ⟨c16b0, H⟩ := H; obtain ⟨ji17, hji17⟩ : ∃ j_ : Int, (mx (wrap64 ((rd (rd_L3 t101 x18_1) x25_2) - (rd (rd_L3 t104 x18_1) x25_2))) (wrap64 ((rd (rd_L3 t104 x18_1) x25_2) - (rd (rd_L3 t101 x18_1) x25_2)))) = j_ := ⟨_, rfl⟩; replace H : (impl_distance.l1 k2 t104 (wrap64 (x7_2 + (ji17))) x18_1 t101 (t101.length : Int) x18_1 (rd_L3 t101 x18_1) ((rd_L3 t101 x18_1).length : Int) (wrap64 (x25_2 + 1))) = some r := (by first | (rw [hji17] at H; exact H) | (simp only [hji17] at H ⊢; exact H)); have hji17_ : (if (wrap64 ((rd (rd_L3 t101 x18_1) x25_2) - (rd (rd_L3 t104 x18_1) x25_2))) < (wrap64 ((rd (rd_L3 t104 x18_1) x25_2) - (rd (rd_L3 t101 x18_1) x25_2))) then (wrap64 ((rd (rd_L3 t104 x18_1) x25_2) - (rd (rd_L3 t101 x18_1) x25_2))) else (wrap64 ((rd (rd_L3 t101 x18_1) x25_2) - (rd (rd_L3 t104 x18_1) x25_2)))) = ji17 := hji17; have H' := am_ H; clear H; have p108 : 0 ≤ (x25_2 : Int) := od_; have q108 : x25_2 < ((rd_L3 t101 x18_1).length : Int) := od_; obtain ⟨ad108, e108, hx108_0⟩ := Kd.at_int HR107_0.out x25_2 p108 q108; cases e108; (first | replace hx108_0 := (HB.out.cell (World.block_lt_of_cell? w _ hx108_0)).trans hx108_0 | skip); replace p108 := eq_true p108; replace q108 := eq_true q108; obtain ⟨Ao18, co18, eo18⟩ := Kd.S_slice HO_6.out; subst eo18; have p109 : 0 ≤ (x18_1 : Int) := od_; have q109 : x18_1 < (t104.length : Int) := od_; obtain ⟨ad109, A109_0, c109_0, e109, hx109_0, hl109_0, hi109_0⟩ := at_L3 (Kd.S_reads' HO_6.out).2.2 x18_1 p109 q109; cases e109; obtain ⟨ce109, hce109, hMe109, hcc109⟩ := Kd.S_get HO_6.out [] x18_1 p109 tc142_; obtain ⟨ve109_0, rfl, ge109_0⟩ := hMe109; have hv109_0 := hcc109 0 _ rfl; rw [Nat.add_zero, show ((Kd.slice 3 (Kd.int .i64))).sz = 1 from rfl, Nat.mul_one] at hv109_0; replace hv109_0 := Option.some.inj (hv109_0.symm.trans hx109_0); rw [hv109_0] at ge109_0; have HL109_0 := am_ (show Kd.R (Kd.int .i64) 3 _ _ _ _ (rd_L3 t104 x18_1) from ge109_0); clear hv109_0 ge109_0; clear hcc109 hce109; have HR109_0 := am_ hi109_0; have HC109_0 := am_ hl109_0; clear hi109_0 hl109_0; replace p109 := eq_true p109; replace q109 := eq_true q109; have p110 : 0 ≤ (x25_2 : Int) := od_; have q110 : x25_2 < ((rd_L3 t104 x18_1).length : Int) := od_; obtain ⟨ad110, e110, hx110_0⟩ := Kd.at_int tc93_ x25_2 p110 q110; cases e110; replace p110 := eq_true p110; replace q110 := eq_true q110; have p111 : 0 ≤ (x18_1 : Int) := od_; have q111 : x18_1 < (t104.length : Int) := od_; obtain ⟨ad111, A111_0, c111_0, e111, hx111_0, hl111_0, hi111_0⟩ := at_L3 (Kd.S_reads' HO_6.out).2.2 x18_1 p111 q111; obtain rfl : ad109 = ad111 := (by injection e111); obtain ⟨ce111, hce111, hMe111, hcc111⟩ := Kd.S_get HO_6.out [] x18_1 p111 (by first | exact q111 | exact od_ | (have e_ := (Kd.S_reads' HO_6.out).1; omega)); obtain ⟨ve111_0, rfl, ge111_0⟩ := hMe111; have hv111_0 := hcc111 0 _ rfl; rw [Nat.add_zero, show ((Kd.slice 3 (Kd.int .i64))).sz = 1 from rfl, Nat.mul_one] at hv111_0; replace hv111_0 := Option.some.inj (hv111_0.symm.trans hx111_0); rw [hv111_0] at ge111_0; have HL111_0 := am_ (show Kd.R (Kd.int .i64) 3 _ _ _ _ (rd_L3 t104 x18_1) from ge111_0); clear hv111_0 ge111_0; clear hcc111 hce111; have HR111_0 := am_ hi111_0; have HC111_0 := am_ hl111_0; clear hi111_0 hl111_0; replace p111 := eq_true p111; replace q111 := eq_true q111; have ea_ := Option.some.inj (hx109_0.symm.trans hx111_0)
       injection ea_ with ea_ en_ ec_
       subst ea_; subst ec_; clear en_; have p112 : 0 ≤ (x25_2 : Int) := od_; have q112 : x25_2 < ((rd_L3 t104 x18_1).length : Int) := od_; obtain ⟨ad112, e112, hx112_0⟩ := Kd.at_int tc49_ x25_2 p112 q112; cases e112; replace p112 := eq_true p112; replace q112 := eq_true q112; go_wp2
       repeat (go_quiet (fail); try go_wp2)
       go_roundg k2
       case measure => have := HK1.out; have := HK2.out; omega
       case rel => exact ⟨(wrap64 (x7_2 + (ji17))), (wrap64 (x25_2 + 1)), (by first | rfl | (simp; done) | (simp only [← hji17] <;> (first | rfl | simp)) | (simp [*]; done)), tc6_, H', ⟨tc39_⟩, ⟨tc15_⟩, ⟨tc168_⟩, ⟨tc71_⟩, ⟨tc0_⟩⟩
      ·have H' := am_ H; clear H; go_wp2
       repeat (go_quiet (fail); try go_wp2)
       go_roundg k2
       case measure => have := HK1.out; have := HK2.out; omega
       case rel => exact ⟨(x7_2), (wrap64 (x18_1 + 1)), tc6_, tc6_, H', ⟨tc39_⟩, ⟨tc15_⟩, ⟨tc168_⟩, ⟨tc0_⟩⟩
   ·obtain rfl := Option.some.inj H; go_wp2
    repeat (go_quiet (fail); try go_wp2)
    go_ret
    exact ⟨tc7_, tc0_⟩

/-! ### impl_bit: function 63 -/
def impl_bit.f (a0 : Bool) : Option (Int) := if a0 = true then (some 1) else (some 0)
theorem impl_bit.calls (a0 : Bool) (r : Int) (w : World) (h : impl_bit.f a0 = some r) :
  Calls Tryz.prog 63 #[.bool a0] w fun e w' => e = .returned (.int .i64 r) ∧ Drawn0 w w' := by
 unfold impl_bit.f at h; have H := h; clear h
 by_cases c2 : a0 = true
 ·subst c2; have H1 : (some 1) = some r := tc21_; clear H; have H := H1; clear H1; obtain rfl := Option.some.inj H; go_enter Tryz.func63, Tryz.ntmps63; go_wp2
  go_ret
  exact ⟨tc6_, tc13_⟩
 ·replace c2 := Bool.eq_false_iff.mpr c2; subst c2; have H1 : (some 0) = some r := tc12_; clear H; have H := H1; clear H1; obtain rfl := Option.some.inj H; go_enter Tryz.func63, Tryz.ntmps63; go_wp2
  go_ret
  exact ⟨tc6_, tc13_⟩

/-! ### impl_least_1: function 62 -/
def impl_least_1.f (a0 : Int) (a1 : Int) : Option (Int) := (impl_bit.f (a0 == a1)).bind fun t101 => (some t101)
theorem impl_least_1.calls (a0 : Int) (a1 : Int) (r : Int) (w : World) (h : impl_least_1.f a0 a1 = some r) :
  Calls Tryz.prog 62 #[.int .i64 a0, .int .i64 a1] w fun e w' => e = .returned (.int .i64 r) ∧ Drawn0 w w' := by
 unfold impl_least_1.f at h; have H := h; clear h; replace H := bd_ H; obtain ⟨t101, A3, H⟩ := H; (try dsimp only at H); obtain rfl := Option.some.inj H; go_enter Tryz.func62, Tryz.ntmps62
 go_wp2_with (first | (refine gc_ (some 8) Tryz.func63 #[.bool (a0 == a1)] ?_; (with_reducible refine (impl_bit.calls (a0 == a1) t101 _ A3.out).mono ?_); rintro e w' ⟨rfl, ⟨nd, rfl⟩⟩; refine ⟨_, rfl, ?_⟩))
 go_ret
 exact ⟨tc6_, tc13_⟩

/-! ### impl_least: function 34 -/
def impl_least.f (k : Nat) (a0 : Int) : Option (Tb_) := (impl_table.f k a0 a0 (fun x0_ x1_ => impl_least_1.f x0_ x1_)).bind fun t101 => (some t101)
theorem impl_least.calls (k : Nat) (a0 : Int) (r : Tb_) (w : World) (h : impl_least.f k a0 = some r) :
  Calls Tryz.prog 34 #[.int .i64 a0] w fun e w' => ∃ v0_ : Value, e = .returned (v0_) ∧ Kd.S (Kd.slice 3 (Kd.int .i64)) 44 w' w.heap.size (fun _ => True) v0_ r ∧ Below w.heap.size w w' := by
 have HB := am_ (Below.refl w.heap.size w); unfold impl_least.f at h; have H := h; clear h; replace H := bd_ H; obtain ⟨t101, A2, H⟩ := H; (try dsimp only at H); obtain rfl := Option.some.inj H; go_enter Tryz.func34, Tryz.ntmps34
 go_wp2_with (first | (refine gc_ (some 5) Tryz.func56 #[.int .i64 a0, .int .i64 a0, .func (.func 62) #[] #[]] ?_; (with_reducible refine (impl_table.calls k a0 a0 _ _ (fun x0_ x1_ => impl_least_1.f x0_ x1_) t101 _ ?side1 A2.out).mono ?_); (case side1 => refine ⟨enters_of Tryz.func62 (by kernel_rfl) rfl, fun W_ hW_ x0_ v0_ hK0_ x1_ v1_ hK1_ r_ hr_ => ?_⟩; cases (show v0_ = .int .i64 x0_ from tc121_); cases (show v1_ = .int .i64 x1_ from tc122_); refine (impl_least_1.calls x0_ x1_ r_ W_ hr_).mono ?_; exact fun _ _ h_ => ⟨h_.1, h_.2.below⟩); rintro e w3 ⟨v102, rfl, ho0, hb⟩; refine ⟨_, rfl, ?_⟩; have HO103 := am_ (Kd.S_lower ho0 (below_size tc0_)); replace HB := am_ (below_step tc0_ hb); (try clear hb ho0)))
 go_ret
 exact ⟨_, tc7_, tc22_, tc0_⟩

/-! ### impl_RankOf: function 12 -/
def impl_RankOf.f (k : Nat) (l0 : Tb_) : Option (Int × Bool) := (impl_IsSignMatrix.f k l0).bind fun t101 => (if t101 = true then ((impl_least.f k (l0.length : Int)).bind fun t102 => ((impl_distance.f k l0 t102).bind fun t105 => (some (t105, true)))) else (some (0, false)))
theorem impl_RankOf.calls (k : Nat) (A0 : Option Addr) (c0 : Nat) (l0 : Tb_) (r1 : Int) (r2 : Bool) (w : World) (hr0 : Kd.C (Kd.slice 3 (Kd.int .i64)) w A0 l0.length l0) (hc0 : l0.length ≤ c0) (h : impl_RankOf.f k l0 = some (r1, r2)) :
  Calls Tryz.prog 12 #[.slice A0 l0.length c0] w fun e w' => e = .returned (.tuple #[.int .i64 r1, .bool r2]) ∧ Below w.heap.size w w' := by
 have HR0 := am_ hr0; have HC0 := am_ hc0; clear hr0 hc0; have HB := am_ (Below.refl w.heap.size w); unfold impl_RankOf.f at h; have H := h; clear h; replace H := bd_ H; obtain ⟨t101, A2, H⟩ := H; (try dsimp only at H)
 by_cases c3 : t101 = true
 ·subst c3; have H1 : ((impl_least.f k (l0.length : Int)).bind fun t102 => ((impl_distance.f k l0 t102).bind fun t105 => (some (t105, true)))) = some (r1, r2) := tc21_; clear H; have H := H1; clear H1; replace H := bd_ H; obtain ⟨t102, A4, H⟩ := H; (try dsimp only at H); replace H := bd_ H; obtain ⟨t105, A5, H⟩ := H; (try dsimp only at H); simp only [Option.some.injEq, Prod.mk.injEq] at H; obtain ⟨rfl, rfl⟩ := H; go_enter Tryz.func12, Tryz.ntmps12
  go_wp2_with (first | (refine gc_ (some 5) Tryz.func13 #[.slice A0 l0.length c0] ?_; (with_reducible refine (impl_IsSignMatrix.calls k _ _ l0 true _ ?side1 ?side2 A2.out).mono ?_); (case side1 => exact tc8_); (case side2 => exact HC0.out); rintro e w6 ⟨rfl, hb⟩; refine ⟨_, rfl, ?_⟩; replace HB := am_ (below_step tc0_ hb); (try clear hb)) | (refine gc_ (some 10) Tryz.func34 #[.int .i64 (l0.length : Int)] ?_; (with_reducible refine (impl_least.calls k (l0.length : Int) t102 _ A4.out).mono ?_); rintro e w7 ⟨v103, rfl, ho0, hb⟩; refine ⟨_, rfl, ?_⟩; have HO104 := am_ (Kd.S_lower ho0 (below_size tc0_)); replace HB := am_ (below_step tc0_ hb); (try clear hb ho0); obtain ⟨Ao8, co8, eo8⟩ := Kd.S_slice HO104.out; subst eo8) | (refine gc_ (some 11) Tryz.func33 #[.slice A0 l0.length c0, .slice Ao8 t102.length co8] ?_; (with_reducible refine (impl_distance.calls k _ _ l0 _ _ t102 t105 _ ?side1 ?side2 ?side3 ?side4 A5.out).mono ?_); (case side1 => exact tc9_); (case side2 => exact HC0.out); (case side3 => exact tc101_); (case side4 => exact tc204_); rintro e w9 ⟨rfl, hb⟩; refine ⟨_, rfl, ?_⟩; replace HO104 := am_ (Kd.S_below tc23_ hb); replace HB := am_ (below_step tc0_ hb); (try clear hb)))
  go_ret2
  exact ⟨tc7_, tc0_⟩
 ·replace c3 := Bool.eq_false_iff.mpr c3; subst c3; have H1 : (some (0, false)) = some (r1, r2) := tc12_; clear H; have H := H1; clear H1; simp only [Option.some.injEq, Prod.mk.injEq] at H; obtain ⟨rfl, rfl⟩ := H; go_enter Tryz.func12, Tryz.ntmps12
  go_wp2_with (first | (refine gc_ (some 5) Tryz.func13 #[.slice A0 l0.length c0] ?_; (with_reducible refine (impl_IsSignMatrix.calls k _ _ l0 false _ ?side1 ?side2 A2.out).mono ?_); (case side1 => exact tc8_); (case side2 => exact HC0.out); rintro e w10 ⟨rfl, hb⟩; refine ⟨_, rfl, ?_⟩; replace HB := am_ (below_step tc0_ hb); (try clear hb)))
  go_ret2
  exact ⟨tc7_, tc0_⟩

/-! ### spec_heLeast: function 41 -/
def spec_heLeast.l0 : Nat → Tb_ → Int → Int → Option (Tb_)
 | 0, _, _, _ => none
 | k + 1, x3, x8, x9 => if x9 < x8 then (if 0 ≤ x9 then (if x9 < (x3.length : Int) then (if x9 < ((rd_L3 x3 x9).length : Int) then (spec_heLeast.l0 k (x3.set (x9 : Int).toNat ((rd_L3 x3 x9).set (x9 : Int).toNat 1)) x8 (wrap64 (x9 + 1))) else (none)) else (none)) else (none)) else (some x3)
def spec_heLeast.f (k : Nat) (a0 : Int) : Option (Tb_) := (spec_sgZero.f k a0).bind fun t101 => (spec_heLeast.l0 k t101 (t101.length : Int) 0)
theorem spec_heLeast.calls (k : Nat) (a0 : Int) (r : Tb_) (w : World) (h : spec_heLeast.f k a0 = some r) :
  Calls Tryz.prog 41 #[.int .i64 a0] w fun e w' => ∃ v0_ : Value, e = .returned (v0_) ∧ Kd.S (Kd.slice 3 (Kd.int .i64)) 44 w' w.heap.size (fun _ => True) v0_ r ∧ Below w.heap.size w w' := by
 have HB := am_ (Below.refl w.heap.size w); unfold spec_heLeast.f at h; have H := h; clear h; replace H := bd_ H; obtain ⟨t101, A2, H⟩ := H; (try dsimp only at H); have H' := am_ H; clear H; go_enter Tryz.func41, Tryz.ntmps41
 go_wp2_with (first | (refine gc_ (some 6) Tryz.func58 #[.int .i64 a0] ?_; (with_reducible refine (spec_sgZero.calls k a0 t101 _ A2.out).mono ?_); rintro e w3 ⟨v102, rfl, ho0, hb⟩; refine ⟨_, rfl, ?_⟩; have HO103 := am_ (Kd.S_lower ho0 (below_size tc0_)); replace HB := am_ (below_step tc0_ hb); (try clear hb ho0); obtain ⟨Ao4, co4, eo4⟩ := Kd.S_slice HO103.out; subst eo4))
 go_loopg [9] k (fun kq v9 w' => ∃ (x3_1 : Tb_) (x9_1 : Int), v9 = .int .i64 x9_1 ∧ Aside0 (spec_heLeast.l0 kq x3_1 (t101.length : Int) x9_1 = some r) ∧ Aside0 (kq ≤ k) ∧ Aside0 (Kd.S (Kd.slice 3 (Kd.int .i64)) 44 w' w.heap.size (fun _ => True) (.slice Ao4 t101.length co4) x3_1) ∧ Aside0 (Below w.heap.size w w'))
 case atStart => exact ⟨(t101), (0), tc6_, H', ⟨Nat.le_refl _⟩, ⟨tc22_⟩, ⟨tc0_⟩⟩
 case round =>
  clear H'; (try clear p2); (try clear c4); obtain ⟨x3_1, x9_1, rfl, HA, HK1, HO_3, HB⟩ := hrel; have hl3_1 := (Kd.S_reads' HO_3.out).1; rw [hl3_1] at HO_3; (try simp only [hl3_1])
  cases gk with
  | zero => exact absurd HA.out (by simp [spec_heLeast.l0])
  | succ k1 =>
   have H := HA.out; clear HA; simp only [spec_heLeast.l0] at H
   replace H := sp_ H; obtain ⟨c5b0, H⟩ | ⟨c5b0, H⟩ := H
   ·(try simp only [hl3_1] at c5b0); replace H := ps_ H; obtain ⟨c6b0, H⟩ := H; replace H := ps_ H; obtain ⟨c7b0, H⟩ := H; (try simp only [hl3_1] at c7b0); replace H := ps_ H; obtain ⟨c8b0, H⟩ := H; (try simp only [hl3_1] at c8b0); obtain ⟨y105, hy105⟩ : ∃ y_ : List Int, y_ = ((rd_L3 x3_1 x9_1).set (x9_1 : Int).toNat 1) := ⟨_, rfl⟩; replace H : (spec_heLeast.l0 k1 (x3_1.set (x9_1 : Int).toNat y105) (t101.length : Int) (wrap64 (x9_1 + 1))) = some r := tc53_; have Ny105 := am_ hy105; clear hy105; obtain ⟨y107, hy107⟩ : ∃ y_ : Tb_, y_ = (x3_1.set (x9_1 : Int).toNat y105) := ⟨_, rfl⟩; replace H : (spec_heLeast.l0 k1 y107 (t101.length : Int) (wrap64 (x9_1 + 1))) = some r := tc61_; have Ny107 := am_ hy107; clear hy107; have H' := am_ H; clear H; have p104 : 0 ≤ (x9_1 : Int) := od_; have q104 : x9_1 < (x3_1.length : Int) := od_; obtain ⟨ad104, A104_0, c104_0, e104, hx104_0, hl104_0, hi104_0⟩ := at_L3 (Kd.S_reads' HO_3.out).2.2 x9_1 p104 q104; cases e104; obtain ⟨ce104, hce104, hMe104, hcc104⟩ := Kd.S_get HO_3.out [] x9_1 p104 tc181_; obtain ⟨ve104_0, rfl, ge104_0⟩ := hMe104; have hv104_0 := hcc104 0 _ rfl; rw [Nat.add_zero, show ((Kd.slice 3 (Kd.int .i64))).sz = 1 from rfl, Nat.mul_one] at hv104_0; replace hv104_0 := Option.some.inj (hv104_0.symm.trans hx104_0); rw [hv104_0] at ge104_0; have HL104_0 := am_ (show Kd.R (Kd.int .i64) 3 _ _ _ _ (rd_L3 x3_1 x9_1) from ge104_0); clear hv104_0 ge104_0; have HX104_0 := am_ hx104_0; clear hcc104 hce104; have HR104_0 := am_ hi104_0; have HC104_0 := am_ hl104_0; clear hi104_0 hl104_0; replace p104 := eq_true p104; replace q104 := eq_true q104; have p9 : 0 ≤ (x9_1 : Int) := od_; have q9 : (x9_1 : Int) < (((rd_L3 x3_1 x9_1).length : Int) : Int) := od_; obtain ⟨go9, co9, eo9, gb9, gl9, cl9, HG9⟩ := Kd.R_form HL104_0.out (by omega); (first | cases eo9 | (injection eo9 with ea_ en_ ec_; (first | subst ea_ | (injection ea_ with ea_; subst ea_)); subst ec_; clear en_)); have GB9 := am_ gb9; have GG9 := am_ HG9; clear gb9 gl9 HG9; obtain ⟨hx9_0, hf9_0⟩ := Kd.R_celln 0 HL104_0.out (x9_1 : Int) p9 q9; replace p9 := eq_true p9; replace q9 := eq_true q9; have hq10 : (x9_1 : Int) < (x3_1.length : Int) := (by have h_ : (x9_1 : Int) < ((x3_1.length : Int) : Int) := od_; first | exact h_ | (have e_ := (Kd.S_reads' HO_3.out).1; omega) | simpa only [List.length_set, List.length_set] using h_); obtain ⟨oki10, ce10, hcl10, hM10, hcc10, hok10, hbk10⟩ := Kd.S_borrow HO_3.out [] (x9_1 : Int) (od_) hq10; obtain ⟨ve10_0, rfl, ge10_0⟩ := hM10; have hv10 := hcc10 0 _ rfl; rw [Nat.add_zero, show ((Kd.slice 3 (Kd.int .i64))).sz = 1 from rfl, Nat.mul_one] at hv10; replace hv10 := Option.some.inj (hv10.symm.trans HX104_0.out); subst hv10; clear hcc10 hcl10; replace ge10_0 := (show Kd.R (Kd.int .i64) 3 _ _ _ _ (rd_L3 x3_1 x9_1) from ge10_0); have HP10 := Kd.R_putg ge10_0 (x9_1 : Int) 1
    go_wp2_with (first | ((with_reducible refine gate_store (t := 3) (p := 17) rfl ?_); refine store_event (t := 3) (p := 17) (v := ?vo_w11) (w1 := (wr.setCell ⟨go9, (x9_1 : Int).toNat, none⟩ (.int .i64 1))) ?hg ?ho ?hn ?hr ?_; (case ho => rfl); (case hg => rfl); (case hn => rfl); (case hr => exact tc27_); intro w11 hw; have hg : wr.grownBy w11 (some go9) := (by rw [hw]; exact HP10.2); have hz_ : Kd.R (Kd.int .i64) 3 w11 w.heap.size oki10 (.slice (some ⟨go9, 0, none⟩) (rd_L3 x3_1 x9_1).length c104_0) y105 := (by rw [hw, Ny105.out]; exact HP10.1); have hp_ : Kd.S (Kd.slice 3 (Kd.int .i64)) 44 w11 w.heap.size (fun _ => True) (.slice (some ad104) x3_1.length co4) y107 := (by rw [Ny107.out]; exact hbk10 hg (fun k_ e_ => by injection e_ with e_; subst e_; exact ge10_0.1 _ rfl) (Kd.M_row hz_)); have hm_ := Kd.R_mono hz_ hok10; clear HP10 hbk10; replace HO_3 := am_ (hp_); replace HB := am_ ((by rw [hw]; exact below_set (HB.out) GB9.out : Below w.heap.size w w11)); have HL108 := am_ (hm_); have HC106 := am_ ((Kd.R_reads' hm_).2.1); clear HL104_0; clear hg hw hp_ hz_ hm_ hok10))
    (try simp only [← hl3_1])
    go_roundg k1
    case measure => have := HK1.out; omega
    case rel => exact ⟨(y107), (wrap64 (x9_1 + 1)), tc6_, H', ⟨tc135_⟩, ⟨(by (try simp only [hl3_1]); (with_reducible repeat (first | apply Kd.S_alloc | apply Kd.S_drewN | apply Kd.S_drew)); exact HO_3.out)⟩, ⟨tc0_⟩⟩
   ·(try simp only [hl3_1] at c5b0); obtain rfl := Option.some.inj H; go_wp2
    go_ret
    exact ⟨_, tc7_, tc35_, tc0_⟩

/-! ### spec_DrawCountBetween: function 14 -/
def spec_DrawCountBetween.f (k : Nat) (l0 : List Int) : Option (Tb_ × Tb_) := (spec_l1Cur_pick.f l0 0 0 4).bind fun bt102 => ((spec_l1Cur_one.f l0 bt102.2.1 bt102.2.2 3).bind fun bt105 => (if bt105.1 = true then ((spec_heLeast.f k (wrap64 (1 + bt102.1))).bind fun t108 => ((spec_l1Cur_sure.f k l0 bt105.2.1 bt105.2.2 (wrap64 (1 + bt102.1))).bind fun bt111 => (some (t108, bt111.1)))) else ((spec_l1Cur_pair.f k l0 bt105.2.1 bt105.2.2 4).bind fun bt116 => (some (bt116.1, bt116.2.1)))))
theorem spec_DrawCountBetween.calls (k : Nat) (A0 : Option Addr) (c0 : Nat) (l0 : List Int) (r1 : Tb_) (r2 : Tb_) (w : World) (hr0 : Kd.C (Kd.int .u8) w A0 l0.length l0) (hc0 : l0.length ≤ c0) (h : spec_DrawCountBetween.f k l0 = some (r1, r2)) :
  Calls Tryz.prog 14 #[.slice A0 l0.length c0] w fun e w' => ∃ v0_ v1_ : Value, e = .returned (.tuple #[v0_, v1_]) ∧ Kd.S (Kd.slice 3 (Kd.int .i64)) 44 w' w.heap.size (fun _ => True) v0_ r1 ∧ Kd.S (Kd.slice 3 (Kd.int .i64)) 44 w' w.heap.size (fun _ => True) v1_ r2 ∧ Below w.heap.size w w' := by
 have hu53 := Tryz.underlying53; have HR0 := am_ hr0; have HC0 := am_ hc0; clear hr0 hc0; have HB := am_ (Below.refl w.heap.size w); unfold spec_DrawCountBetween.f at h; have H := h; clear h; replace H := Option.bind_eq_some_iff.mp H; obtain ⟨⟨t102, t103, t104⟩, A20, H⟩ := H; (try dsimp only at H); have A2 := am_ A20; clear A20; replace H := Option.bind_eq_some_iff.mp H; obtain ⟨⟨t105, t106, t107⟩, A30, H⟩ := H; (try dsimp only at H); have A3 := am_ A30; clear A30
 by_cases c4 : t105 = true
 ·subst c4; have H1 : ((spec_heLeast.f k (wrap64 (1 + t102))).bind fun t108 => ((spec_l1Cur_sure.f k l0 t106 t107 (wrap64 (1 + t102))).bind fun bt111 => (some (t108, bt111.1)))) = some (r1, r2) := tc21_; clear H; have H := H1; clear H1; replace H := bd_ H; obtain ⟨t108, A5, H⟩ := H; (try dsimp only at H); replace H := Option.bind_eq_some_iff.mp H; obtain ⟨⟨t111, t114, t115⟩, A60, H⟩ := H; (try dsimp only at H); have A6 := am_ A60; clear A60; simp only [Option.some.injEq, Prod.mk.injEq] at H; obtain ⟨rfl, rfl⟩ := H; go_enter Tryz.func14, Tryz.ntmps14
  go_wp2_with (first | ((with_reducible refine gate_dst (N := 8) rfl ?_); refine box_event ?hg (N := 8) ?hd (cs := #[.slice A0 l0.length c0, .int .i64 0, .int .u64 0]) (t := 53) ?hr ?_; (case hd => rfl); (case hg => rfl); (case hr => exact tc27_); intro gb101 hg w7 hbox hb; have GW101 := am_ ((by rw [hg]; exact (below_size tc0_) : w.heap.size ≤ gb101)); have GE101 := am_ ((by rw [hg]; exact (below_size tc0_) : w.heap.size ≤ gb101)); have HI101 := am_ ((show IsS53 w w7 gb101 l0 0 0 from ⟨A0, c0, hbox, (by rw [hg]; exact (below_size tc0_) : w.heap.size ≤ gb101), HR0.out⟩)); replace HB := am_ (below_step tc0_ hb); clear hb hbox hg) | (refine gc_ (some 10) Tryz.func39 #[.pointer (some ⟨gb101, 0, none⟩), .int .i64 4] ?_; (with_reducible refine (spec_l1Cur_pick.calls gb101 l0 0 0 4 t102 t103 t104 w _ ?side1 ?side2 A2.out).mono ?_); (case side1 => exact tc32_); (case side2 => exact tc18_); rintro e w8 ⟨rfl, hi, hb, hk⟩; refine ⟨_, rfl, ?_⟩; replace HB := am_ (hb); replace HI101 := am_ (hi); (try clear hb hk hi)) | (refine gc_ (some 13) Tryz.func40 #[.pointer (some ⟨gb101, 0, none⟩), .int .i64 3] ?_; (with_reducible refine (spec_l1Cur_one.calls gb101 l0 t103 t104 3 true t106 t107 w _ ?side1 ?side2 A3.out).mono ?_); (case side1 => exact tc32_); (case side2 => exact tc18_); rintro e w9 ⟨rfl, hi, hb, hk⟩; refine ⟨_, rfl, ?_⟩; replace HB := am_ (hb); replace HI101 := am_ (hi); (try clear hb hk hi)) | (refine gc_ (some 15) Tryz.func41 #[.int .i64 (wrap64 (1 + t102))] ?_; (with_reducible refine (spec_heLeast.calls k (wrap64 (1 + t102)) t108 _ A5.out).mono ?_); rintro e w10 ⟨v109, rfl, ho0, hb⟩; refine ⟨_, rfl, ?_⟩; have HO110 := am_ (Kd.S_lower ho0 (below_size tc18_)); replace HB := am_ (below_step tc18_ hb); replace HI101 := am_ (IsS53.below tc32_ hb); (try clear hb ho0)) | (refine gc_ (some 18) Tryz.func42 #[.pointer (some ⟨gb101, 0, none⟩), .int .i64 (wrap64 (1 + t102))] ?_; (with_reducible refine (spec_l1Cur_sure.calls k gb101 l0 t106 t107 (wrap64 (1 + t102)) t111 t114 t115 w _ ?side1 ?side2 A6.out).mono ?_); (case side1 => exact tc32_); (case side2 => exact tc18_); rintro e w11 ⟨v112, rfl, ho0, hi, hb, hk⟩; refine ⟨_, rfl, ?_⟩; have HO113 := am_ (Kd.S_lower (Kd.S_new' ho0 (Kd.S_lt tc74_)) (below_size tc18_)); replace HO110 := am_ (Kd.S_mono (Kd.S_told (Kd.S_oldK (IsS53.apartS (show IsS53 w _ gb101 l0 t106 t107 from tc32_) tc74_ (by decide)) hk) (Kd.S_base ho0)) (fun _ h_ => h_.1)); replace HB := am_ (hb); replace HI101 := am_ (hi); (try clear hb hk hi ho0)))
  go_ret2
  exact ⟨_, _, tc7_, (by (with_reducible repeat (first | apply Kd.S_alloc | apply Kd.S_drewN | apply Kd.S_drew)); exact Kd.S_mono HO110.out (fun _ _ => trivial)), (by (with_reducible repeat (first | apply Kd.S_alloc | apply Kd.S_drewN | apply Kd.S_drew)); exact Kd.S_mono HO113.out (fun _ _ => trivial)), tc18_⟩
 ·replace c4 := Bool.eq_false_iff.mpr c4; subst c4; have H1 : ((spec_l1Cur_pair.f k l0 t106 t107 4).bind fun bt116 => (some (bt116.1, bt116.2.1))) = some (r1, r2) := tc12_; clear H; have H := H1; clear H1; replace H := Option.bind_eq_some_iff.mp H; obtain ⟨⟨t116, t119, t122, t123⟩, A120, H⟩ := H; (try dsimp only at H); have A12 := am_ A120; clear A120; simp only [Option.some.injEq, Prod.mk.injEq] at H; obtain ⟨rfl, rfl⟩ := H; go_enter Tryz.func14, Tryz.ntmps14
  go_wp2_with (first | ((with_reducible refine gate_dst (N := 8) rfl ?_); refine box_event ?hg (N := 8) ?hd (cs := #[.slice A0 l0.length c0, .int .i64 0, .int .u64 0]) (t := 53) ?hr ?_; (case hd => rfl); (case hg => rfl); (case hr => exact tc27_); intro gb101 hg w13 hbox hb; have GW101 := am_ ((by rw [hg]; exact (below_size tc0_) : w.heap.size ≤ gb101)); have GE101 := am_ ((by rw [hg]; exact (below_size tc0_) : w.heap.size ≤ gb101)); have HI101 := am_ ((show IsS53 w w13 gb101 l0 0 0 from ⟨A0, c0, hbox, (by rw [hg]; exact (below_size tc0_) : w.heap.size ≤ gb101), HR0.out⟩)); replace HB := am_ (below_step tc0_ hb); clear hb hbox hg) | (refine gc_ (some 10) Tryz.func39 #[.pointer (some ⟨gb101, 0, none⟩), .int .i64 4] ?_; (with_reducible refine (spec_l1Cur_pick.calls gb101 l0 0 0 4 t102 t103 t104 w _ ?side1 ?side2 A2.out).mono ?_); (case side1 => exact tc32_); (case side2 => exact tc18_); rintro e w14 ⟨rfl, hi, hb, hk⟩; refine ⟨_, rfl, ?_⟩; replace HB := am_ (hb); replace HI101 := am_ (hi); (try clear hb hk hi)) | (refine gc_ (some 13) Tryz.func40 #[.pointer (some ⟨gb101, 0, none⟩), .int .i64 3] ?_; (with_reducible refine (spec_l1Cur_one.calls gb101 l0 t103 t104 3 false t106 t107 w _ ?side1 ?side2 A3.out).mono ?_); (case side1 => exact tc32_); (case side2 => exact tc18_); rintro e w15 ⟨rfl, hi, hb, hk⟩; refine ⟨_, rfl, ?_⟩; replace HB := am_ (hb); replace HI101 := am_ (hi); (try clear hb hk hi)) | (refine gc_ (some 20) Tryz.func43 #[.pointer (some ⟨gb101, 0, none⟩), .int .i64 4] ?_; (with_reducible refine (spec_l1Cur_pair.calls k gb101 l0 t106 t107 4 t116 t119 t122 t123 w _ ?side1 ?side2 A12.out).mono ?_); (case side1 => exact tc32_); (case side2 => exact tc18_); rintro e w16 ⟨v117, v120, rfl, ho0, ho1, hi, hb, hk⟩; refine ⟨_, rfl, ?_⟩; have HO118 := am_ (Kd.S_lower ho0 (below_size tc18_)); have HO121 := am_ (Kd.S_lower ho1 (below_size tc18_)); replace HB := am_ (hb); replace HI101 := am_ (hi); (try clear hb hk hi ho0 ho1)))
  go_ret2
  exact ⟨_, _, tc7_, (by (with_reducible repeat (first | apply Kd.S_alloc | apply Kd.S_drewN | apply Kd.S_drew)); exact HO118.out), (by (with_reducible repeat (first | apply Kd.S_alloc | apply Kd.S_drewN | apply Kd.S_drew)); exact HO121.out), tc18_⟩

/-! ### slices_Clone_int_int: function 94 (by hand) -/
def slices_Clone_int_int.f (l0 : List Int) : Option (List Int) := if l0.length < 17592186044416 then some l0 else none
set_option maxHeartbeats 1000000 in
theorem slices_Clone_int_int.calls (A0 : Option Addr) (c0 : Nat) (l0 : List Int) (r : List Int) (w : World) (hr0 : Kd.C (Kd.int .i64) w A0 l0.length l0) (hc0 : l0.length ≤ c0) (h : slices_Clone_int_int.f l0 = some r) :
    Calls Tryz.prog 94 #[.slice A0 l0.length c0] w fun e w' => ∃ v0_ : Value, e = .returned (v0_) ∧ Kd.R (Kd.int .i64) 3 w' w.heap.size (fun _ => True) v0_ r ∧ Below w.heap.size w w' := by
  have hlt : l0.length < 17592186044416 := by
    unfold slices_Clone_int_int.f at h
    split at h
    · assumption
    · cases h
  unfold slices_Clone_int_int.f at h
  rw [if_pos hlt] at h
  obtain rfl := Option.some.inj h
  have LMc2 := am_ (show ([] : List Int).length + l0.length < 17592186044416 by simpa using hlt)
  clear h hlt
  have HR0 := am_ hr0
  have HC0 := am_ hc0
  clear hr0 hc0
  have HB := am_ (Below.refl w.heap.size w)
  cases A0 with
  | none =>
    have hl : l0 = [] := by
      have h1 := HR0.out.2.2
      cases l0 with
      | nil => rfl
      | cons x xs =>
        obtain ⟨ad, e, _⟩ := h1 (by simp)
        cases e
    subst hl
    have hq := fun W : World => Lib.run_eql_slice_nil (P := Tryz.prog) W 44 3 none ([] : List Int).length c0 0 0 Tryz.underlying44
    simp only [Option.isNone_none, List.length_nil] at hq
    go_enter Tryz.func94, Tryz.ntmps94
    go_wp2
    go_ret
    exact ⟨_, rfl, Kd.R_nil _ _ _ _ _, Below.refl _ _⟩
  | some ad =>
    have hq := fun W : World => Lib.run_eql_slice_nil (P := Tryz.prog) W 44 3 (some ad) l0.length c0 0 0 Tryz.underlying44
    simp only [Option.isNone_some] at hq
    obtain ⟨y101, hy101⟩ : ∃ y_ : List Int, y_ = (([] : List Int)) := ⟨_, rfl⟩
    rw [← hy101] at LMc2
    have Ny101 := am_ hy101
    clear hy101
    obtain ⟨y104, hy104⟩ : ∃ y_ : List Int, y_ = (y101 ++ l0) := ⟨_, rfl⟩
    have Ny104 := am_ hy104
    clear hy104
    go_enter Tryz.func94, Tryz.ntmps94
    go_wp2_with (first | ((with_reducible refine gate_dst (N := 5) rfl ?_); refine Kd.R_lit (Kd.int .i64) _ 3 ?hg (N := 5) ?hd (xs := ([] : List Int)) (inner := []) (ok := fun _ => True) (okp := fun _ => True) ?hr ?hp (fun _ hk => hk) trivial (Below.refl _ _) (Nat.le_refl _) (by simp) ?_; (case hd => rfl); (case hg => rfl); (case hr => exact tc27_); (case hp => exact (Reps.none _ _)); intro v102 w3 ho4 hb hg_ hnew_; clear hg_ hnew_; (first | rw [← Ny101.out] at ho4 | (simp only [Int.reduceToNat] at ho4; rw [← Ny101.out] at ho4)); have HO103 := am_ (Kd.R_lower ho4 (below_size tc0_)); replace HB := am_ (below_step tc0_ hb); clear hb ho4) | ((with_reducible refine gate_builtin (b := .append) (xs := #[.tmp 5, .tmp 6]) rfl ?_); at_builtin; refine Kd.R_append_rows (Kd.int .i64) (w0 := w) w.heap.size rfl (.tmp 5) (.tmp 6) 44 3 (.int .i64 0) 8 rfl Tryz.underlying44 info3 rfl (by decide) (by omega) v102 y101 l0 _ _ _ (fun _ => True) (fun _ => False) rfl rfl ?aO ?aR (fun _ _ h => h) (fun _ h => h.elim) ?aF ?aB ?aS ?aL ?_; (case aR => exact tc9_); (case aB => exact tc10_); (case aF => exact tc151_); (case aO => exact tc149_); (case aS => exact tc11_); (case aL => have := LMc2.out; omega); intro v105 w5 ho hb hg hat; rw [← Ny104.out] at ho; replace HB := am_ (hb); have HO106 := am_ (ho); clear HO103; clear ho hb hg hat))
    go_ret
    have he : y104 = l0 := by rw [Ny104.out, Ny101.out]; rfl
    exact ⟨_, rfl, he ▸ HO106.out, by repeat (first | (with_reducible first | exact HB.out | apply below_alloc | apply pw_below_drewN | apply below_drew1) | exact HB.out)⟩

/-! ### impl_signRows_1: function 102 (by hand) -/
structure impl_signRows_1.St (w0 : World) (n : Int) (B2 B3 B4 T4 : Nat) (w : World) (u : Value) (out : Tb_) : Prop where
  b2 : w.heap[B2]? = some (.cells #[.int .i64 n] 3 (0, 0))
  b3 : w.heap[B3]? = some (.cells #[u] 24 (0, 0))
  b4 : w.heap[B4]? = some (.cells #[.func (.func 102) #[] #[.pointer (some ⟨B2, 0, none⟩), .pointer (some ⟨B3, 0, none⟩), .pointer (some ⟨B4, 0, none⟩)]] T4 (0, 0))
  ho : Kd.R (Kd.slice 3 (Kd.int .i64)) 44 w w0.heap.size (fun _ => True) u out
  hb : Below w0.heap.size w0 w
  ge : w0.heap.size ≤ B3
theorem impl_signRows_1.St.below {w0 : World} {n : Int} {B2 B3 B4 T4 : Nat} {w w1 : World} {u : Value} {out : Tb_} (h : impl_signRows_1.St w0 n B2 B3 B4 T4 w u out) (hb : Below w.heap.size w w1) : impl_signRows_1.St w0 n B2 B3 B4 T4 w1 u out :=
  ⟨blk_below h.b2 hb, blk_below h.b3 hb, blk_below h.b4 hb, Kd.R_below h.ho hb, below_step h.hb hb, h.ge⟩
theorem impl_signRows_1.St.drew {w0 : World} {n : Int} {B2 B3 B4 T4 : Nat} {w : World} {u : Value} {out : Tb_} (h : impl_signRows_1.St w0 n B2 B3 B4 T4 w u out) : impl_signRows_1.St w0 n B2 B3 B4 T4 w.drew u out :=
  h.below (below_drew (Below.refl _ _))
theorem impl_signRows_1.St.push {w0 : World} {n : Int} {B2 B3 B4 T4 : Nat} (hT4 : T4 ≠ 24 ∧ T4 ≠ 44) {w w5 : World} {u v : Value} {out : Tb_} {x : List Int} (h : impl_signRows_1.St w0 n B2 B3 B4 T4 w u out)
    (ho : Kd.R (Kd.slice 3 (Kd.int .i64)) 44 w5 w0.heap.size (fun _ => True) v (out ++ [x])) (hb : Below w0.heap.size w0 w5) (hg : w.grownBy w5 u.ownBlock) :
    impl_signRows_1.St w0 n B2 B3 B4 T4 (w5.setCell ⟨B3, 0, none⟩ v) v (out ++ [x]) ∧ Kept w (w5.setCell ⟨B3, 0, none⟩ v) (fun k => k = B3 ∨ some k = u.ownBlock) := by
  have n32 := blk_ne h.b3 h.b2 (by decide)
  have n34 := blk_ne h.b3 h.b4 (Ne.symm hT4.1)
  have b3 := blk_grown h.b3 hg (Kd.R_ne h.ho h.b3 (by decide))
  exact ⟨⟨blk_far (blk_grown h.b2 hg (Kd.R_ne h.ho h.b2 (by decide))) (Ne.symm n32) v, blk_set b3 0 v, blk_far (blk_grown h.b4 hg (Kd.R_ne h.ho h.b4 (Ne.symm hT4.2))) (Ne.symm n34) v, Kd.R_set ho b3 (by decide) 0 v, below_set hb h.ge, h.ge⟩,
    Kept.setCell (Kept.of_grown hg (Kept.refl _ _) (fun k hk => .inl (.inr hk.symm))) (.inl (.inl rfl)) v⟩
mutual
def impl_signRows_1.l0 : Nat → Int → List Int → Int → Int → Option Tb_
  | 0, _, _, _, _ => none
  | k + 1, n, l, s, x => if x ≤ 1 - s then (if -1 ≤ x then (if l.length < 1000000 then ((impl_signRows_1.f k n (l ++ [x]) (s + x)).bind fun a => (impl_signRows_1.l0 k n l s (x + 1)).bind fun b => some (a ++ b)) else none) else none) else some []
def impl_signRows_1.f : Nat → Int → List Int → Int → Option Tb_
  | 0, _, _, _ => none
  | k + 1, n, l, s => if (l.length : Int) = n then (if s = 1 then some [l] else some []) else (if 0 ≤ s then (if s ≤ 1 then impl_signRows_1.l0 k n l s (-s) else none) else none)
end
theorem impl_signRows_1.calls (k : Nat) : ∀ (A0 : Option Addr) (c0 : Nat) (l0 : List Int) (a1 n : Int) (B2 B3 B4 T4 : Nat) (hT4 : T4 ≠ 24 ∧ T4 ≠ 44) (u : Value) (out r : Tb_) (w0 w : World)
    (hs : impl_signRows_1.St w0 n B2 B3 B4 T4 w u out) (hl : Kd.R (Kd.int .i64) 3 w w0.heap.size (fun _ => True) (.slice A0 l0.length c0) l0) (hn : out.length + r.length < 5864062014805) (h : impl_signRows_1.f k n l0 a1 = some r),
    Calls Tryz.prog 102 (#[.slice A0 l0.length c0, .int .i64 a1] ++ #[.pointer (some ⟨B2, 0, none⟩), .pointer (some ⟨B3, 0, none⟩), .pointer (some ⟨B4, 0, none⟩)]) w fun e w' => e = .returned (.tuple #[]) ∧ ∃ u', impl_signRows_1.St w0 n B2 B3 B4 T4 w' u' (out ++ r) ∧ Kept w w' (fun k => k = B3 ∨ some k = u.ownBlock) ∧ (u'.ownBlock = u.ownBlock ∨ ∃ b, u'.ownBlock = some b ∧ w.heap.size ≤ b) := by
  induction k using Nat.strongRecOn with
  | _ k ih =>
  intro A0 c0 l0 a1 n B2 B3 B4 T4 hT4 u out r w0 w hs hl hn h
  cases k with
  | zero => exact absurd h (by simp [impl_signRows_1.f])
  | succ k =>
  simp only [impl_signRows_1.f] at h
  have HS := am_ hs
  have HL := am_ hl
  have HN := am_ hn
  have HC := am_ (Kd.R_reads' hl).2.1
  have n32 := blk_ne hs.b3 hs.b2 (by decide)
  have n34 := blk_ne hs.b3 hs.b4 (Ne.symm hT4.1)
  have hz0 : l0.length ≤ 9223372036854775807 := (Kd.R_reads' hl).2.2.2.1
  clear hs hl hn
  by_cases c1 : (l0.length : Int) = n
  · rw [if_pos c1] at h
    have c1b : ((l0.length : Int) == n) = true := beq_iff_eq.mpr c1
    clear c1
    by_cases c2 : a1 = 1
    · rw [if_pos c2] at h
      have c2b : (a1 == 1) = true := beq_iff_eq.mpr c2
      clear c2
      obtain rfl := Option.some.inj h
      clear h
      have hc2 : w.cell? ⟨B2, 0, none⟩ = some (.int .i64 n) := (blk_cell HS.out.b2 0).trans rfl
      have hc3 : w.cell? ⟨B3, 0, none⟩ = some u := (blk_cell HS.out.b3 0).trans rfl
      have hf3 := blk_frozen HS.out.b3 0
      go_enter Tryz.func102, Tryz.ntmps102
      go_wp2_with (first | ((with_reducible refine gate_builtin (b := .append) (xs := #[.tmp 14, .tmp 16]) rfl ?_); at_builtin; refine Kd.R_append (Kd.slice 3 (Kd.int .i64)) (w0 := w0) w0.heap.size rfl (.tmp 14) (.tmp 16) 24 44 (.slice none 0 0) 24 rfl Tryz.underlying24 info44 rfl (by decide) (by omega) u out l0 [.slice A0 l0.length c0] (fun _ => True) (fun k => True ∧ some k ≠ u.ownBlock) rfl rfl ⟨_, rfl, Kd.R_apart' HL.out (Kd.R_typed HS.out.ho) (by decide)⟩ (fun _ hk => hk) (fun _ _ => trivial) HS.out.ho HS.out.hb (below_size HS.out.hb) (by have := HN.out; simp at this; omega) ?_; intro v5 w5 ho5 hb5 hg5 hat5; have HO5 := am_ ho5; have HB5 := am_ hb5; have HG5 := am_ hg5; have HA5 := am_ hat5; clear ho5 hb5 hg5 hat5; obtain ⟨A5, k5, e5⟩ := Kd.R_slice HO5.out; subst e5; have hc35 : w5.cell? ⟨B3, 0, none⟩ = some u := (blk_cell (blk_grown HS.out.b3 HG5.out (Kd.R_ne HS.out.ho HS.out.b3 (by decide))) 0).trans rfl; have hf35 := blk_frozen (blk_grown HS.out.b3 HG5.out (Kd.R_ne HS.out.ho HS.out.b3 (by decide))) 0))
      obtain ⟨q1, q2⟩ := impl_signRows_1.St.push hT4 HS.out HO5.out HB5.out HG5.out
      rw [show (out ++ [l0]).length = out.length + 1 by simp] at q1 q2
      first | go_end0 | ((try simp only [Exit.inBlock, Exit.then]); refine bodyPost_ret (results_none rfl _ _ _) rfl ?_)
      exact ⟨rfl, _, q1, q2, by have := HA5.out; rwa [show (out ++ [l0]).length = out.length + 1 by simp] at this⟩
    · rw [if_neg c2] at h
      have c2b : (a1 == 1) = false := beq_eq_false_iff_ne.mpr c2
      clear c2
      obtain rfl := Option.some.inj h
      clear h
      have hc2 : w.cell? ⟨B2, 0, none⟩ = some (.int .i64 n) := (blk_cell HS.out.b2 0).trans rfl
      go_enter Tryz.func102, Tryz.ntmps102
      go_wp2
      first | go_end0 | ((try simp only [Exit.inBlock, Exit.then]); refine bodyPost_ret (results_none rfl _ _ _) rfl ?_)
      exact ⟨rfl, u, by simpa using HS.out, Kept.refl _ _, .inl rfl⟩
  · rw [if_neg c1] at h
    have c1b : ((l0.length : Int) == n) = false := beq_eq_false_iff_ne.mpr c1
    clear c1
    by_cases c3 : 0 ≤ a1
    · rw [if_pos c3] at h
      by_cases c4 : a1 ≤ 1
      · rw [if_pos c4] at h
        have HF := am_ h
        clear h
        have hc2 : w.cell? ⟨B2, 0, none⟩ = some (.int .i64 n) := (blk_cell HS.out.b2 0).trans rfl
        go_enter Tryz.func102, Tryz.ntmps102
        go_wp2
        go_loopg [7] k (fun kq v7 w' => ∃ (x7 : Int) (u' : Value) (acc rest : Tb_), v7 = .int .i64 x7 ∧ Aside0 (r = acc ++ rest) ∧ Aside0 (impl_signRows_1.l0 kq n l0 a1 x7 = some rest) ∧ Aside0 (kq ≤ k) ∧ Aside0 (impl_signRows_1.St w0 n B2 B3 B4 T4 w' u' (out ++ acc)) ∧ Aside0 (Kd.R (Kd.int .i64) 3 w' w0.heap.size (fun _ => True) (.slice A0 l0.length c0) l0) ∧ Aside0 (Kept w w' (fun k => k = B3 ∨ some k = u.ownBlock)) ∧ Aside0 (u'.ownBlock = u.ownBlock ∨ ∃ b, u'.ownBlock = some b ∧ w.heap.size ≤ b))
        case atStart => exact ⟨-a1, u, [], r, rfl, ⟨rfl⟩, HF, ⟨Nat.le_refl _⟩, ⟨by simpa using HS.out⟩, HL, ⟨Kept.refl _ _⟩, ⟨.inl rfl⟩⟩
        case round =>
          clear HF
          obtain ⟨x7, u2, acc, rest, rfl, HE, HF, HK, HS2, HL2, HKp, HA⟩ := hrel
          cases gk with
          | zero => exact absurd HF.out (by simp [impl_signRows_1.l0])
          | succ k1 =>
            have H := HF.out
            clear HF
            simp only [impl_signRows_1.l0] at H
            by_cases c5 : x7 ≤ 1 - a1
            · rw [if_pos c5] at H
              by_cases c6 : -1 ≤ x7
              case neg => rw [if_neg c6] at H; exact absurd H (by simp)
              rw [if_pos c6] at H
              by_cases c7 : l0.length < 1000000
              case neg => rw [if_neg c7] at H; exact absurd H (by simp)
              rw [if_pos c7] at H
              have LM := am_ c7
              obtain ⟨ra, ha, H⟩ := Option.bind_eq_some_iff.mp H
              obtain ⟨rb, hb, H⟩ := Option.bind_eq_some_iff.mp H
              have HR2 := am_ (Option.some.inj H).symm
              have HFa := am_ (show impl_signRows_1.f k1 n (l0 ++ [x7]) (wrap64 (a1 + x7)) = some ra by rw [show wrap64 (a1 + x7) = a1 + x7 by unfold wrap64; omega]; exact ha)
              have HFb := am_ hb
              clear H ha hb c7
              go_wp2_with fail
              have HS3 := am_ HS2.out.drew
              have HL3 := am_ (Kd.R_drew HL2.out)
              have HR := am_ (Kd.R_reads' HL3.out).2.2
              have HKp3 := am_ (HKp.out.drew)
              have HC4 := am_ ((blk_cell HS3.out.b4 0).trans rfl : wr.drew.cell? ⟨B4, 0, none⟩ = some (.func (.func 102) #[] #[.pointer (some ⟨B2, 0, none⟩), .pointer (some ⟨B3, 0, none⟩), .pointer (some ⟨B4, 0, none⟩)]))
              clear HS2 HL2 HKp
              refine start_ (n := 10) (S := fun w' => w'.cell? ⟨B4, 0, none⟩ = some (.func (.func 102) #[] #[.pointer (some ⟨B2, 0, none⟩), .pointer (some ⟨B3, 0, none⟩), .pointer (some ⟨B4, 0, none⟩)])) (ds := []) #[F_, F_, F_, F_, F_, F_, F_, F_, F_, F_] (by kernel_rfl) rfl rfl (HC4.out) (fun hHeld => ?_)
              generalize hW_ : wr.drew = W at HS3 HL3 HR HKp3 HC4 hHeld ⊢
              clear hW_
              refine pure_ (i := 1) (N := some 27) #[F_, T_, F_, F_, F_, F_, F_, F_, F_, F_] rfl rfl ak_ hq_ yi_ nm_ ?_
              refine pure_ (i := 3) (N := some 29) #[F_, T_, F_, T_, F_, F_, F_, F_, F_, F_] rfl rfl ak_ hq_ yi_ nm_ ?_
              refine pure_ (i := 6) (N := some 32) #[F_, T_, F_, T_, F_, F_, T_, F_, F_, F_] rfl rfl ak_ hq_ yi_ nm_ ?_
              refine pure_ (i := 7) (N := some 33) #[F_, T_, F_, T_, F_, F_, T_, T_, F_, F_] rfl rfl ak_ hq_ yi_ nm_ ?_
              refine pure_ (i := 8) (N := some 34) #[F_, T_, F_, T_, F_, F_, T_, T_, T_, F_] rfl rfl ak_ hq_ yi_ nm_ ?_
              refine take_ (i := 0) (N := some 26) #[T_, T_, F_, T_, F_, F_, T_, T_, T_, F_] rfl rfl ak_ hq_ yj1_ hHeld nm_ ?_
              refine join_ (σ := Value × Addr) 2 #[T_, T_, T_, T_, T_, F_, T_, T_, T_, F_] (fun s_ => [(28, s_.1), (30, .slice (some s_.2) 1 1)]) (fun s_ w' => Below W.heap.size W w' ∧ Kd.R (Kd.int .i64) 3 w' W.heap.size (fun _ => True) s_.1 l0 ∧ Kd.C (Kd.int .i64) w' (some s_.2) 1 [x7]) ?_ ?_
              rotate_left
              · intro hCont
                refine two_ (i := 2) (j := 4) (Ni := some 28) (Nj := some 30) #[T_, T_, T_, T_, F_, F_, T_, T_, T_, F_] #[T_, T_, F_, T_, T_, F_, T_, T_, T_, F_] rfl rfl rfl rfl (by kernel_rfl) (by decide) (by decide) (fun K hK => ?_) (fun K hK => ?_)
                · skip
                  refine goes_ Tryz.func94 (by kernel_rfl) rfl #[.slice A0 l0.length c0] (by rfl) rfl rfl tc43_ ?_
                  refine (slices_Clone_int_int.calls A0 c0 l0 l0 _ ?sc1 HC.out (if_pos (by have := LM.out; omega))).mono ?_
                  (case sc1 => exact (Kd.C_below HR.out (Below.refl _ _)))
                  rintro e w2 ⟨v28, rfl, ho, hb⟩
                  refine ⟨_, rfl, ?_⟩
                  have HB2 := am_ (below_step (Below.refl _ _) hb)
                  have HO2 := am_ (Kd.R_lower ho (below_size (Below.refl _ _)))
                  have hb2_ := am_ hb
                  clear ho hb
                  refine hK.out _ _ (cell_of_below HB2.out HC4.out) (fun hHeld => ?_)
                  clear hK K
                  refine norm_ (a' := ?_) ?_ ?_
                  rotate_left
                  · show Act.put _ (some 28) _ = _
                    simp only [Act.put, List.setIfInBounds_toArray, List.set_cons_zero, List.set_cons_succ, i64_w, i32_w]
                    rfl
                  refine one_ (i := 4) (N := some 30) #[T_, T_, T_, T_, T_, F_, T_, T_, T_, F_] rfl rfl (by kernel_rfl) (by decide) (fun K hK => ?_)
                  refine value_ (w1 := ?_) (v := ?_) (by rfl) rfl ?_ ?_
                  rotate_left 2
                  · go_simp
                    constructor
                    · rfl
                    · rfl
                  refine hK.out _ _ (cell_of_below (below_alloc HB2.out _) HC4.out) (fun hHeld => ?_)
                  clear hK K
                  refine norm_ (a' := ?_) ?_ ?_
                  rotate_left
                  · show Act.put _ (some 30) _ = _
                    simp only [Act.put, List.setIfInBounds_toArray, List.set_cons_zero, List.set_cons_succ, i64_w, i32_w]
                    rfl
                  exact norm_ tc133_ (hCont (v28, ⟨w2.heap.size, 0, none⟩) _ ⟨below_alloc HB2.out _, Kd.R_alloc HO2.out _, C_box rfl rfl _⟩)
                · skip
                  refine value_ (w1 := ?_) (v := ?_) (by rfl) rfl ?_ ?_
                  rotate_left 2
                  · go_simp
                    constructor
                    · rfl
                    · rfl
                  refine hK.out _ _ (cell_of_below (below_alloc (Below.refl _ _) _) HC4.out) (fun hHeld => ?_)
                  clear hK K
                  refine norm_ (a' := ?_) ?_ ?_
                  rotate_left
                  · show Act.put _ (some 30) _ = _
                    simp only [Act.put, List.setIfInBounds_toArray, List.set_cons_zero, List.set_cons_succ, i64_w, i32_w]
                    rfl
                  refine one_ (i := 2) (N := some 28) #[T_, T_, T_, T_, T_, F_, T_, T_, T_, F_] rfl rfl (by kernel_rfl) (by decide) (fun K hK => ?_)
                  refine goes_ Tryz.func94 (by kernel_rfl) rfl #[.slice A0 l0.length c0] (by rfl) rfl rfl tc43_ ?_
                  refine (slices_Clone_int_int.calls A0 c0 l0 l0 _ ?sc1 HC.out (if_pos (by have := LM.out; omega))).mono ?_
                  (case sc1 => exact (Kd.C_below HR.out (below_alloc (Below.refl _ _) _)))
                  rintro e w2 ⟨v28, rfl, ho, hb⟩
                  refine ⟨_, rfl, ?_⟩
                  have HB2 := am_ (below_step (below_alloc (Below.refl _ _) _) hb)
                  have HO2 := am_ (Kd.R_lower ho (below_size (below_alloc (Below.refl _ _) _)))
                  have hb2_ := am_ hb
                  clear ho hb
                  refine hK.out _ _ (cell_of_below HB2.out HC4.out) (fun hHeld => ?_)
                  clear hK K
                  refine norm_ (a' := ?_) ?_ ?_
                  rotate_left
                  · show Act.put _ (some 28) _ = _
                    simp only [Act.put, List.setIfInBounds_toArray, List.set_cons_zero, List.set_cons_succ, i64_w, i32_w]
                    rfl
                  exact norm_ tc133_ (hCont (v28, ⟨W.heap.size, 0, none⟩) _ ⟨HB2.out, HO2.out, Kd.C_below (C_box rfl rfl _) hb2_.out⟩)
              rintro ⟨v28, ad30⟩ w4 ⟨hb4_, ho4_, hc4_⟩
              have hHeld : w4.cell? ⟨B4, 0, none⟩ = some (.func (.func 102) #[] #[.pointer (some ⟨B2, 0, none⟩), .pointer (some ⟨B3, 0, none⟩), .pointer (some ⟨B4, 0, none⟩)]) := cell_of_below hb4_ HC4.out
              have HB4 := am_ hb4_
              have HO4 := am_ ho4_
              have HV4 := am_ hc4_
              clear hb4_ ho4_ hc4_
              refine norm_ (a' := ?_) ?_ ?_
              rotate_left
              · simp only [putAll, Act.put, List.setIfInBounds_toArray, List.set_cons_zero, List.set_cons_succ]
                rfl
              refine one_ (i := 5) (N := some 31) #[T_, T_, T_, T_, T_, T_, T_, T_, T_, F_] rfl rfl (by kernel_rfl) (by decide) (fun K hK => ?_)
              refine Kd.R_append_rows_step (Kd.int .i64) (w0 := W) W.heap.size (by rfl) (.tmp 28) (.tmp 30) 44 3 (.int .i64 0) 8 rfl Tryz.underlying44 info3 rfl (by decide) (by omega) v28 l0 [x7] _ _ _ (fun _ => True) (fun _ => False) rfl rfl HO4.out HV4.out (fun _ _ h => h) (fun _ h => h.elim) (fun _ _ => trivial) HB4.out (below_size HB4.out) (by have := LM.out; omega) ?_
              intro v31 w5 ho5 hb5 hg5 hat5
              clear hg5 hat5
              have HB5 := am_ hb5
              have HO5 := am_ ho5
              obtain ⟨A31, c31, e31⟩ := Kd.R_slice HO5.out
              subst e31
              clear ho5 hb5 HB4 HO4 HV4
              refine hK.out _ _ (cell_of_below HB5.out HC4.out) (fun hHeld => ?_)
              clear hK K
              refine norm_ (a' := ?_) ?_ ?_
              rotate_left
              · show Act.put _ (some 31) _ = _
                simp only [Act.put, List.setIfInBounds_toArray, List.set_cons_zero, List.set_cons_succ, i64_w, i32_w]
                rfl
              refine one_ (i := 9) (N := some 35) #[T_, T_, T_, T_, T_, T_, T_, T_, T_, T_] rfl rfl (by kernel_rfl) (by decide) (fun K hK => ?_)
              refine goesF_ (enters_of Tryz.func102 (by kernel_rfl) rfl) #[.slice A31 (l0 ++ [x7]).length c31, .int .i64 (wrap64 (a1 + x7))] (by rfl) rfl rfl tc161_ tc43_ ?_
              refine (ih k1 (by have := HK.out; omega) A31 c31 (l0 ++ [x7]) (wrap64 (a1 + x7)) n B2 B3 B4 T4 hT4 u2 (out ++ acc) ra w0 w5 (HS3.out.below HB5.out) (Kd.R_lower HO5.out (below_size HS3.out.hb)) (by have := HN.out; rw [HE.out, HR2.out] at this; simp only [List.length_append] at this ⊢; omega) HFa.out).mono ?_
              rintro e w6 ⟨rfl, u3, hs6, hk6, hat6⟩
              refine ⟨_, rfl, ?_⟩
              have HS6 := am_ hs6
              have HK6 := am_ hk6
              have HT6 := am_ hat6
              clear hs6 hk6 hat6
              refine hK.out _ _ ((blk_cell HS6.out.b4 0).trans rfl) (fun hHeld => ?_)
              clear hK K
              refine norm_ (a' := ?_) ?_ ?_
              rotate_left
              · show Act.put _ (some 35) _ = _
                simp only [Act.put, List.setIfInBounds_toArray, List.set_cons_zero, List.set_cons_succ, i64_w, i32_w]
                rfl
              refine done_ (by kernel_rfl) ?_
              have HL6 := am_ (Kd.R_mono (Kd.R_kept (Kd.R_apart' (Kd.R_types (Kd.R_below HL3.out HB5.out) (HS3.out.below HB5.out).b3 (by decide)) (Kd.R_typed (HS3.out.below HB5.out).ho) (by decide)) HK6.out (fun k_ hk hS => hS.elim hk.1.2 hk.2)) (fun _ _ => trivial))
              have HKp6 := am_ ((HKp3.out.below HB5.out).then_ HK6.out (fun k_ hS => hS.elim (fun e => .inl (.inl e)) (fun e => HA.out.elim (fun ha => .inl (.inr (e.trans ha))) (fun ⟨b, hb, hle⟩ => .inr (by rw [hb] at e; injection e with e; omega)))))
              have HA6 : Aside0 (u3.ownBlock = u.ownBlock ∨ ∃ b, u3.ownBlock = some b ∧ w.heap.size ≤ b) := ⟨HT6.out.elim (fun h1 => HA.out.elim (fun h2 => .inl (h1.trans h2)) (fun ⟨b, h2, h3⟩ => .inr ⟨b, h1.trans h2, h3⟩)) (fun ⟨b, h2, h3⟩ => .inr ⟨b, h2, Nat.le_trans HKp3.out.1 (Nat.le_trans (below_size HB5.out) h3)⟩)⟩
              go_wp2
              go_roundg k1
              case measure => have := HK.out; omega
              case rel => exact ⟨x7 + 1, u3, acc ++ ra, rb, by go_num, ⟨by rw [HE.out, HR2.out, List.append_assoc]⟩, HFb, ⟨by have := HK.out; omega⟩, ⟨by rw [← List.append_assoc]; exact HS6.out⟩, HL6, HKp6, HA6⟩
            · rw [if_neg c5] at H
              obtain rfl := Option.some.inj H
              clear H
              go_wp2
              first | go_end0 | ((try simp only [Exit.inBlock, Exit.then]); refine bodyPost_ret (results_none rfl _ _ _) rfl ?_)
              exact ⟨rfl, u2, by have := HS2.out; rw [HE.out, List.append_nil]; exact this, HKp.out, HA.out⟩
      · rw [if_neg c4] at h
        exact absurd h (by simp)
    · rw [if_neg c3] at h
      exact absurd h (by simp)

/-! ### impl_signRows: function 91 (by hand) -/
def impl_signRows.f (k : Nat) (a0 : Int) : Option Tb_ := (impl_signRows_1.f k a0 [] 0).bind fun r => if r.length < 1000000 then some r else none
theorem impl_signRows.calls (k : Nat) (a0 : Int) (r : Tb_) (w : World) (h : impl_signRows.f k a0 = some r) :
    Calls Tryz.prog 91 #[.int .i64 a0] w fun e w' => ∃ v0_ : Value, e = .returned v0_ ∧ Kd.R (Kd.slice 3 (Kd.int .i64)) 44 w' w.heap.size (fun _ => True) v0_ r ∧ Below w.heap.size w w' := by
  obtain ⟨r', h1, h2⟩ := Option.bind_eq_some_iff.mp h
  have hr : r'.length < 1000000 := by
    split at h2
    · assumption
    · cases h2
  rw [if_pos hr] at h2
  obtain rfl := Option.some.inj h2
  have HF := am_ h1
  have HL := am_ hr
  clear h h1 h2 hr
  have HB := am_ (Below.refl w.heap.size w)
  go_enter Tryz.func91, Tryz.ntmps91
  go_wp2_with fail
  refine (impl_signRows_1.calls k none 0 [] 0 a0 w.heap.size (w.heap.size + 1 + 1) (w.heap.size + 1 + 1 + 1) 81 (by decide) (.slice (some ⟨w.heap.size + 1, 0, none⟩) 0 0) [] r' w _ ⟨?b2, ?b3, ?b4, ?ho, ?hb, by omega⟩ (Kd.R_nil _ _ _ _ _) (by have := HL.out; simp; omega) HF.out).mono ?_
  case b2 => exact blk_alloc (blk_alloc (blk_alloc (blk_new _ _) _) _) _
  case b3 => exact blk_alloc (blk_new' (by simp)) _
  case b4 => exact blk_new' (by simp)
  case ho => exact R_empty (blk_alloc (blk_alloc (blk_new' (by simp)) _) _) (by omega)
  case hb => exact below_alloc (below_alloc (below_alloc (below_alloc (Below.refl _ _) _) _) _) _
  rintro e w2 ⟨rfl, u2, hs2, _, _⟩
  have HS := am_ hs2
  clear hs2
  obtain ⟨A2, c2, e2⟩ := Kd.R_slice HS.out.ho
  subst e2
  have hc3 : w2.cell? ⟨w.heap.size + 1 + 1, 0, none⟩ = _ := (blk_cell HS.out.b3 0).trans rfl
  go_wp2
  go_ret
  exact ⟨_, rfl, HS.out.ho, HS.out.hb⟩

/-! ### impl_fitsSums: function 93 -/
def impl_fitsSums.l0 : Nat → List Int → Bool → List Int → Int → Int → Option (Bool)
 | 0, _, _, _, _, _ => none
 | k + 1, x0, x2, x10, x11, x12 => if x12 < x11 then (if 0 ≤ x12 then (if x12 < (x10.length : Int) then (if x12 < (x0.length : Int) then ((impl_within.f (wrap64 ((rd x0 x12) + (rd x10 x12))) 0 1).bind fun t103 => (if t103 = true then (if x2 = true then (if (wrap64 ((rd x0 x12) + (rd x10 x12))) = 1 then (impl_fitsSums.l0 k x0 x2 x10 x11 (wrap64 (x12 + 1))) else (some false)) else (impl_fitsSums.l0 k x0 x2 x10 x11 (wrap64 (x12 + 1)))) else (some false))) else (none)) else (none)) else (none)) else (some true)
def impl_fitsSums.f (k : Nat) (l0 : List Int) (l1 : List Int) (a2 : Bool) : Option (Bool) := impl_fitsSums.l0 k l0 a2 l1 (l1.length : Int) 0
theorem impl_fitsSums.calls (k : Nat) (A0 : Option Addr) (c0 : Nat) (l0 : List Int) (A1 : Option Addr) (c1 : Nat) (l1 : List Int) (a2 : Bool) (r : Bool) (w : World) (hr0 : Kd.C (Kd.int .i64) w A0 l0.length l0) (hc0 : l0.length ≤ c0) (hr1 : Kd.C (Kd.int .i64) w A1 l1.length l1) (hc1 : l1.length ≤ c1) (h : impl_fitsSums.f k l0 l1 a2 = some r) :
  Calls Tryz.prog 93 #[.slice A0 l0.length c0, .slice A1 l1.length c1, .bool a2] w fun e w' => e = .returned (.bool r) ∧ Drawn0 w w' := by
 have HR0 := am_ hr0; have HC0 := am_ hc0; clear hr0 hc0; have HR1 := am_ hr1; have HC1 := am_ hc1; clear hr1 hc1; unfold impl_fitsSums.f at h; have H := h; clear h; have H' := am_ H; clear H; go_enter Tryz.func93, Tryz.ntmps93; go_wp2
 go_loopg [12] k (fun kq v12 w' => ∃ (x12_1 : Int), v12 = .int .i64 x12_1 ∧ Aside0 (impl_fitsSums.l0 kq l0 a2 l1 (l1.length : Int) x12_1 = some r) ∧ Aside0 (kq ≤ k) ∧ Drawn0 w w')
 case atStart => exact ⟨(0), tc6_, H', ⟨Nat.le_refl _⟩, tc13_⟩
 case round =>
  clear H'; (try clear c1); (try clear p2); obtain ⟨x12_1, rfl, HA, HK1, ⟨m1, rfl⟩⟩ := hrel
  cases gk with
  | zero => exact absurd HA.out (by simp [impl_fitsSums.l0])
  | succ k1 =>
   have H := HA.out; clear HA; simp only [impl_fitsSums.l0] at H
   replace H := sp_ H; obtain ⟨c4b0, H⟩ | ⟨c4b0, H⟩ := H
   ·replace H := ps_ H; obtain ⟨c5b0, H⟩ := H; replace H := ps_ H; obtain ⟨c6b0, H⟩ := H; replace H := ps_ H; obtain ⟨c7b0, H⟩ := H; replace H := bd_ H; obtain ⟨t103, A8, H⟩ := H; (try dsimp only at H)
    by_cases c9 : t103 = true
    ·subst c9; have H1 : (if a2 = true then (if (wrap64 ((rd l0 x12_1) + (rd l1 x12_1))) = 1 then (impl_fitsSums.l0 k1 l0 a2 l1 (l1.length : Int) (wrap64 (x12_1 + 1))) else (some false)) else (impl_fitsSums.l0 k1 l0 a2 l1 (l1.length : Int) (wrap64 (x12_1 + 1)))) = some r := tc21_; clear H; have H := H1; clear H1
     by_cases c10 : a2 = true
     ·subst c10; have H1 : (if (wrap64 ((rd l0 x12_1) + (rd l1 x12_1))) = 1 then (impl_fitsSums.l0 k1 l0 true l1 (l1.length : Int) (wrap64 (x12_1 + 1))) else (some false)) = some r := tc21_; clear H; have H := H1; clear H1
      replace H := pn_ H; obtain ⟨c11, H⟩ | ⟨c11, H⟩ := H
      ·have c11b0 : ((wrap64 ((rd l0 x12_1) + (rd l1 x12_1))) == 1) = true := beq_iff_eq.mpr c11; have c11b1 : ((wrap64 ((rd l0 x12_1) + (rd l1 x12_1))) != 1) = false := bne_eq_false_iff_eq.mpr c11; clear c11; have H' := am_ H; clear H; have p101 : 0 ≤ (x12_1 : Int) := od_; have q101 : x12_1 < (l1.length : Int) := od_; obtain ⟨ad101, e101, hx101_0⟩ := Kd.at_int HR1.out x12_1 p101 q101; cases e101; replace p101 := eq_true p101; replace q101 := eq_true q101; have p102 : 0 ≤ (x12_1 : Int) := od_; have q102 : x12_1 < (l0.length : Int) := od_; obtain ⟨ad102, e102, hx102_0⟩ := Kd.at_int HR0.out x12_1 p102 q102; cases e102; replace p102 := eq_true p102; replace q102 := eq_true q102
       go_wp2_with (first | (refine gc_ (some 24) Tryz.func64 #[.int .i64 (wrap64 ((rd l0 x12_1) + (rd l1 x12_1))), .int .i64 0, .int .i64 1] ?_; (with_reducible refine (impl_within.calls (wrap64 ((rd l0 x12_1) + (rd l1 x12_1))) 0 1 true _ A8.out).mono ?_); rintro e w' ⟨rfl, ⟨nd, rfl⟩⟩; refine ⟨_, rfl, ?_⟩))
       go_roundg k1
       case measure => have := HK1.out; omega
       case rel => exact ⟨(wrap64 (x12_1 + 1)), tc6_, H', ⟨tc135_⟩, tc13_⟩
      ·have c11b0 : ((wrap64 ((rd l0 x12_1) + (rd l1 x12_1))) == 1) = false := beq_eq_false_iff_ne.mpr c11; have c11b1 : ((wrap64 ((rd l0 x12_1) + (rd l1 x12_1))) != 1) = true := bne_iff_ne.mpr c11; obtain rfl := Option.some.inj H; have p101 : 0 ≤ (x12_1 : Int) := od_; have q101 : x12_1 < (l1.length : Int) := od_; obtain ⟨ad101, e101, hx101_0⟩ := Kd.at_int HR1.out x12_1 p101 q101; cases e101; replace p101 := eq_true p101; replace q101 := eq_true q101; have p102 : 0 ≤ (x12_1 : Int) := od_; have q102 : x12_1 < (l0.length : Int) := od_; obtain ⟨ad102, e102, hx102_0⟩ := Kd.at_int HR0.out x12_1 p102 q102; cases e102; replace p102 := eq_true p102; replace q102 := eq_true q102
       go_wp2_with (first | (refine gc_ (some 24) Tryz.func64 #[.int .i64 (wrap64 ((rd l0 x12_1) + (rd l1 x12_1))), .int .i64 0, .int .i64 1] ?_; (with_reducible refine (impl_within.calls (wrap64 ((rd l0 x12_1) + (rd l1 x12_1))) 0 1 true _ A8.out).mono ?_); rintro e w' ⟨rfl, ⟨nd, rfl⟩⟩; refine ⟨_, rfl, ?_⟩))
       go_ret
       exact ⟨tc6_, tc13_⟩
     ·replace c10 := Bool.eq_false_iff.mpr c10; subst c10; have H1 : (impl_fitsSums.l0 k1 l0 false l1 (l1.length : Int) (wrap64 (x12_1 + 1))) = some r := tc12_; clear H; have H := H1; clear H1; have H' := am_ H; clear H; have p101 : 0 ≤ (x12_1 : Int) := od_; have q101 : x12_1 < (l1.length : Int) := od_; obtain ⟨ad101, e101, hx101_0⟩ := Kd.at_int HR1.out x12_1 p101 q101; cases e101; replace p101 := eq_true p101; replace q101 := eq_true q101; have p102 : 0 ≤ (x12_1 : Int) := od_; have q102 : x12_1 < (l0.length : Int) := od_; obtain ⟨ad102, e102, hx102_0⟩ := Kd.at_int HR0.out x12_1 p102 q102; cases e102; replace p102 := eq_true p102; replace q102 := eq_true q102
      go_wp2_with (first | (refine gc_ (some 24) Tryz.func64 #[.int .i64 (wrap64 ((rd l0 x12_1) + (rd l1 x12_1))), .int .i64 0, .int .i64 1] ?_; (with_reducible refine (impl_within.calls (wrap64 ((rd l0 x12_1) + (rd l1 x12_1))) 0 1 true _ A8.out).mono ?_); rintro e w' ⟨rfl, ⟨nd, rfl⟩⟩; refine ⟨_, rfl, ?_⟩))
      go_roundg k1
      case measure => have := HK1.out; omega
      case rel => exact ⟨(wrap64 (x12_1 + 1)), tc6_, H', ⟨tc135_⟩, tc13_⟩
    ·replace c9 := Bool.eq_false_iff.mpr c9; subst c9; have H1 : (some false) = some r := tc12_; clear H; have H := H1; clear H1; obtain rfl := Option.some.inj H; have p101 : 0 ≤ (x12_1 : Int) := od_; have q101 : x12_1 < (l1.length : Int) := od_; obtain ⟨ad101, e101, hx101_0⟩ := Kd.at_int HR1.out x12_1 p101 q101; cases e101; replace p101 := eq_true p101; replace q101 := eq_true q101; have p102 : 0 ≤ (x12_1 : Int) := od_; have q102 : x12_1 < (l0.length : Int) := od_; obtain ⟨ad102, e102, hx102_0⟩ := Kd.at_int HR0.out x12_1 p102 q102; cases e102; replace p102 := eq_true p102; replace q102 := eq_true q102
     go_wp2_with (first | (refine gc_ (some 24) Tryz.func64 #[.int .i64 (wrap64 ((rd l0 x12_1) + (rd l1 x12_1))), .int .i64 0, .int .i64 1] ?_; (with_reducible refine (impl_within.calls (wrap64 ((rd l0 x12_1) + (rd l1 x12_1))) 0 1 false _ A8.out).mono ?_); rintro e w' ⟨rfl, ⟨nd, rfl⟩⟩; refine ⟨_, rfl, ?_⟩))
     go_ret
     exact ⟨tc6_, tc13_⟩
   ·obtain rfl := Option.some.inj H; go_wp2
    go_ret
    exact ⟨tc6_, tc13_⟩

/-! ### impl_eachSigns_1: function 92 (by hand) -/
structure impl_eachSigns_1.Fr (n : Int) (ge : Nat) (be : Array Value) (Ar : Option Addr) (cr : Nat) (rows : Tb_) (B1 B2 B3 B4 B5 T2 T5 gs : Nat) (S : Nat → Prop) (w : World) (sums : List Int) : Prop where
  b1 : w.heap[B1]? = some (.cells #[.int .i64 n] 3 (0, 0))
  b2 : w.heap[B2]? = some (.cells #[.func (.func ge) #[] be] T2 (0, 0))
  b3 : w.heap[B3]? = some (.cells #[.slice Ar rows.length cr] 24 (0, 0))
  b4 : w.heap[B4]? = some (.cells #[.slice (some ⟨gs, 0, none⟩) sums.length sums.length] 44 (0, 0))
  b5 : w.heap[B5]? = some (.cells #[.func (.func 92) #[] #[.pointer (some ⟨B1, 0, none⟩), .pointer (some ⟨B2, 0, none⟩), .pointer (some ⟨B3, 0, none⟩), .pointer (some ⟨B4, 0, none⟩), .pointer (some ⟨B5, 0, none⟩)]] T5 (0, 0))
  bs : w.heap[gs]? = some (.cells (nums .i64 sums).toArray 3 (0, 0))
  vr : Kd.V (Kd.slice 3 (Kd.int .i64)) 44 w 0 (fun k => ¬ S k ∧ k ≠ gs) (.slice Ar rows.length cr) rows
  s1 : ¬ S B1
  s2 : ¬ S B2
  s3 : ¬ S B3
  s4 : ¬ S B4
  s5 : ¬ S B5
  ss : ¬ S gs
  n1 : B1 ≠ gs
  t2 : T2 ≠ 3
  t5 : T5 ≠ 3
  sz : sums.length ≤ 9223372036854775807
section
variable {n : Int} {ge : Nat} {be : Array Value} {Ar : Option Addr} {cr : Nat} {rows : Tb_} {B1 B2 B3 B4 B5 T2 T5 gs : Nat} {S S' : Nat → Prop} {w w1 : World} {sums : List Int}
theorem impl_eachSigns_1.Fr.below (h : impl_eachSigns_1.Fr n ge be Ar cr rows B1 B2 B3 B4 B5 T2 T5 gs S w sums) (hb : Below w.heap.size w w1) : impl_eachSigns_1.Fr n ge be Ar cr rows B1 B2 B3 B4 B5 T2 T5 gs S w1 sums :=
  { h with b1 := blk_below h.b1 hb, b2 := blk_below h.b2 hb, b3 := blk_below h.b3 hb, b4 := blk_below h.b4 hb, b5 := blk_below h.b5 hb, bs := blk_below h.bs hb, vr := Kd.V_below h.vr hb }
theorem impl_eachSigns_1.Fr.kept (h : impl_eachSigns_1.Fr n ge be Ar cr rows B1 B2 B3 B4 B5 T2 T5 gs S w sums) (hk : Kp w w1 S) (hs : ∀ k, S' k → S k ∨ w.heap.size ≤ k) : impl_eachSigns_1.Fr n ge be Ar cr rows B1 B2 B3 B4 B5 T2 T5 gs S' w1 sums := by
  have no : ∀ k, ¬ S k → k < w.heap.size → ¬ S' k := fun k h1 h2 h3 => (hs k h3).elim h1 (fun h4 => by omega)
  exact ⟨blk_kept h.b1 hk.1 h.s1, blk_kept h.b2 hk.1 h.s2, blk_kept h.b3 hk.1 h.s3, blk_kept h.b4 hk.1 h.s4, blk_kept h.b5 hk.1 h.s5, blk_kept h.bs hk.1 h.ss, V_kept_to h.vr hk hs,
    no _ h.s1 (blk_lt h.b1), no _ h.s2 (blk_lt h.b2), no _ h.s3 (blk_lt h.b3), no _ h.s4 (blk_lt h.b4), no _ h.s5 (blk_lt h.b5), no _ h.ss (blk_lt h.bs), h.n1, h.t2, h.t5, h.sz⟩
theorem impl_eachSigns_1.Fr.store (h : impl_eachSigns_1.Fr n ge be Ar cr rows B1 B2 B3 B4 B5 T2 T5 gs S w sums) (i : Nat) (v : Int) : impl_eachSigns_1.Fr n ge be Ar cr rows B1 B2 B3 B4 B5 T2 T5 gs S (w.setCell ⟨gs, i, none⟩ (.int .i64 v)) (sums.set i v) :=
  { h with b1 := blk_far h.b1 h.n1 _, b2 := blk_far h.b2 (blk_ne h.b2 h.bs h.t2) _, b3 := blk_far h.b3 (blk_ne h.b3 h.bs (by decide)) _, b4 := by rw [List.length_set]; exact blk_far h.b4 (blk_ne h.b4 h.bs (by decide)) _,
           b5 := blk_far h.b5 (blk_ne h.b5 h.bs h.t5) _, bs := by have := blk_set h.bs i (.int .i64 v); rwa [nums_set] at this, vr := Kd.V_far h.vr (fun _ hk => hk.2) _, sz := by rw [List.length_set]; exact h.sz }
end
def impl_eachSigns_1.okRow (sums row : List Int) : Bool := decide (sums.length = row.length) && sums.all (fun s => decide (0 ≤ s) && decide (s ≤ 1)) && row.all (fun s => decide (-1 ≤ s) && decide (s ≤ 1))
mutual
def impl_eachSigns_1.l0 {σ : Type} : Nat → (σ → Tb_ → Option (σ × Bool)) → Int → Tb_ → List Int → Tb_ → σ → Int → Option (σ × Bool)
  | 0, _, _, _, _, _, _, _ => none
  | k + 1, p, n, rows, sums, m, s, i => if i < (rows.length : Int) then (if 0 ≤ i then ((impl_fitsSums.f k sums (rows.getD i.toNat []) ((m.length : Int) == n - 1)).bind fun t =>
      (if t = true then (if impl_eachSigns_1.okRow sums (rows.getD i.toNat []) = true then ((impl_eachSigns_1.f k p n rows (List.zipWith (· + ·) sums (rows.getD i.toNat [])) (m ++ [rows.getD i.toNat []]) s).bind fun q => (if q.2 = true then impl_eachSigns_1.l0 k p n rows sums m q.1 (i + 1) else some (q.1, false))) else none)
      else impl_eachSigns_1.l0 k p n rows sums m s (i + 1))) else none) else some (s, true)
def impl_eachSigns_1.f {σ : Type} : Nat → (σ → Tb_ → Option (σ × Bool)) → Int → Tb_ → List Int → Tb_ → σ → Option (σ × Bool)
  | 0, _, _, _, _, _, _ => none
  | k + 1, p, n, rows, sums, m, s => if (m.length : Int) = n then p s m else (if m.length < 1000 then impl_eachSigns_1.l0 k p n rows sums m s 0 else none)
end
theorem impl_eachSigns_1.zip_len {sums row : List Int} (h : impl_eachSigns_1.okRow sums row = true) : sums.length = row.length ∧ (List.zipWith (· + ·) sums row).length = row.length := by
  simp only [impl_eachSigns_1.okRow, Bool.and_eq_true, decide_eq_true_eq] at h
  exact ⟨h.1.1, by rw [List.length_zipWith, h.1.1, Nat.min_self]⟩
theorem impl_eachSigns_1.ok_at {sums row : List Int} (h : impl_eachSigns_1.okRow sums row = true) (j : Nat) (hj : j < row.length) : 0 ≤ sums.getD j 0 ∧ sums.getD j 0 ≤ 1 ∧ -1 ≤ row.getD j 0 ∧ row.getD j 0 ≤ 1 ∧ (List.zipWith (· + ·) sums row).getD j 0 = sums.getD j 0 + row.getD j 0 := by
  have hl := (impl_eachSigns_1.zip_len h).1
  simp only [impl_eachSigns_1.okRow, Bool.and_eq_true, List.all_eq_true, decide_eq_true_eq] at h
  have h1 := h.1.2 (sums.getD j 0) (by rw [List.getD_eq_getElem?_getD, List.getElem?_eq_getElem (by omega)]; exact List.getElem_mem _)
  have h2 := h.2 (row.getD j 0) (by rw [List.getD_eq_getElem?_getD, List.getElem?_eq_getElem hj]; exact List.getElem_mem _)
  refine ⟨h1.1, h1.2, h2.1, h2.2, ?_⟩
  simp [List.getD_eq_getElem?_getD, List.getElem?_zipWith, List.getElem?_eq_getElem hj, List.getElem?_eq_getElem (show j < sums.length by omega)]
/-- The first j numbers of one row, the others of the other one. -/
def impl_eachSigns_1.mid (a b : List Int) (j : Nat) : List Int := a.take j ++ b.drop j
theorem impl_eachSigns_1.mid_len {a b : List Int} (h : a.length = b.length) (j : Nat) : (impl_eachSigns_1.mid a b j).length = b.length := by
  simp [impl_eachSigns_1.mid]; omega
theorem impl_eachSigns_1.mid_at {a b : List Int} (h : a.length = b.length) (j : Nat) (hj : j < b.length) : (impl_eachSigns_1.mid a b j).getD j 0 = b.getD j 0 := by
  simp only [impl_eachSigns_1.mid, List.getD_eq_getElem?_getD]
  rw [List.getElem?_append_right (by simp; omega)]
  simp only [List.length_take, List.getElem?_drop]
  rw [show j + (j - min j a.length) = j by omega]
theorem impl_eachSigns_1.mid_set {a b : List Int} (h : a.length = b.length) (j : Nat) (hj : j < b.length) : (impl_eachSigns_1.mid a b j).set j (a.getD j 0) = impl_eachSigns_1.mid a b (j + 1) := by
  refine List.ext_getElem (by rw [List.length_set, impl_eachSigns_1.mid_len h, impl_eachSigns_1.mid_len h]) fun i h1 h2 => ?_
  rw [List.length_set, impl_eachSigns_1.mid_len h] at h1
  simp only [impl_eachSigns_1.mid, List.getElem_set, List.getElem_append, List.length_take, List.getElem_take, List.getElem_drop]
  by_cases e : j = i
  · subst e
    rw [if_pos rfl, dif_pos (by omega), List.getD_eq_getElem?_getD, List.getElem?_eq_getElem (by omega)]; rfl
  · rw [if_neg e]
    by_cases e2 : i < j
    · rw [dif_pos (by omega), dif_pos (by omega)]
    · rw [dif_neg (by omega), dif_neg (by omega)]
      congr 1
      omega
theorem impl_eachSigns_1.mid_zero {a b : List Int} : impl_eachSigns_1.mid a b 0 = b := by simp [impl_eachSigns_1.mid]
theorem impl_eachSigns_1.mid_all {a b : List Int} {j : Nat} (h : a.length = b.length) (hj : j = b.length) : impl_eachSigns_1.mid a b j = a := by
  subst hj
  simp only [impl_eachSigns_1.mid]
  rw [← h]
  simp
  omega
theorem impl_eachSigns_1.calls {σ : Type} (p : σ → Tb_ → Option (σ × Bool)) (Inv : σ → World → (Nat → Prop) → Prop) (n : Int) (hn0 : 0 ≤ n) (hn1 : n ≤ 1000) (ge : Nat) (be : Array Value) (hf : FnS (Kd.slice 44 (Kd.slice 3 (Kd.int .i64))) Value.bool Tryz.prog ge be p Inv) (Ar : Option Addr) (cr : Nat) (rows : Tb_) (B1 B2 B3 B4 B5 T2 T5 gs : Nat) (k : Nat) :
    ∀ (sums : List Int) (m : Tb_) (A0 : Option Addr) (c0 : Nat) (s s' : σ) (b : Bool) (S : Nat → Prop) (w : World)
    (hF : impl_eachSigns_1.Fr n ge be Ar cr rows B1 B2 B3 B4 B5 T2 T5 gs S w sums) (hI : Inv s w S) (hm : Kd.V (Kd.slice 3 (Kd.int .i64)) 44 w 0 (fun k => ¬ S k ∧ k ≠ gs) (.slice A0 m.length c0) m) (h : impl_eachSigns_1.f k p n rows sums m s = some (s', b)),
    Calls Tryz.prog 92 (#[.slice A0 m.length c0] ++ #[.pointer (some ⟨B1, 0, none⟩), .pointer (some ⟨B2, 0, none⟩), .pointer (some ⟨B3, 0, none⟩), .pointer (some ⟨B4, 0, none⟩), .pointer (some ⟨B5, 0, none⟩)]) w fun e w' => e = .returned (.bool b) ∧ ∃ S', Inv s' w' S' ∧ Kp w w' S ∧ ∀ k, S' k → S k ∨ w.heap.size ≤ k := by
  have HFS := am_ hf
  have eg := hf.eg
  clear hf
  induction k using Nat.strongRecOn with
  | _ k ih =>
  intro sums m A0 c0 s s' b S w hF hI hm h
  cases k with
  | zero => exact absurd h (by simp [impl_eachSigns_1.f])
  | succ k =>
  simp only [impl_eachSigns_1.f] at h
  have HF := am_ hF
  have HI := am_ hI
  have HM := am_ hm
  have hz0 : m.length ≤ 9223372036854775807 := (Kd.V_reads' hm).2.2.2.1
  have hz1 : m.length ≤ c0 := (Kd.V_reads' hm).2.1
  clear hF hI hm
  have hc1 : w.cell? ⟨B1, 0, none⟩ = some (.int .i64 n) := (blk_cell HF.out.b1 0).trans rfl
  by_cases c1 : (m.length : Int) = n
  · rw [if_pos c1] at h
    have c1b : ((m.length : Int) == n) = true := beq_iff_eq.mpr c1
    clear c1
    have HP := am_ h
    clear h
    have hc2 : w.cell? ⟨B2, 0, none⟩ = some (.func (.func ge) #[] be) := (blk_cell HF.out.b2 0).trans rfl
    go_enter Tryz.func92, Tryz.ntmps92
    go_wp2_with (go_at_fn ge; (refine (HFS.out.cl s w S HI.out m _ (K_slice (Kd.V_reads' HM.out).2.1 (Kd.V_reads' HM.out).2.2) s' b HP.out).mono ?_); rintro e w2 ⟨rfl, q2⟩; have HQ := am_ q2; clear q2)
    go_ret
    exact ⟨rfl, HQ.out⟩
  · rw [if_neg c1] at h
    have c1b : ((m.length : Int) == n) = false := beq_eq_false_iff_ne.mpr c1
    clear c1
    by_cases c2 : m.length < 1000
    · rw [if_pos c2] at h
      have LM := am_ c2
      have HL := am_ h
      clear h c2
      have hc3 : w.cell? ⟨B3, 0, none⟩ = some (.slice Ar rows.length cr) := (blk_cell HF.out.b3 0).trans rfl
      go_enter Tryz.func92, Tryz.ntmps92
      go_wp2
      go_loopg [24] k (fun kq v24 w' => ∃ (i : Int) (s1 : σ) (S1 : Nat → Prop), v24 = .int .i64 i ∧ Aside0 (impl_eachSigns_1.l0 kq p n rows sums m s1 i = some (s', b)) ∧ Aside0 (kq ≤ k) ∧ Aside0 (impl_eachSigns_1.Fr n ge be Ar cr rows B1 B2 B3 B4 B5 T2 T5 gs S1 w' sums) ∧ Aside0 (Inv s1 w' S1) ∧ Aside0 (Kd.V (Kd.slice 3 (Kd.int .i64)) 44 w' 0 (fun k => ¬ S1 k ∧ k ≠ gs) (.slice A0 m.length c0) m) ∧ Aside0 (Kp w w' S) ∧ Aside0 (∀ k, S1 k → S k ∨ w.heap.size ≤ k))
      case atStart => exact ⟨0, s, S, rfl, HL, ⟨Nat.le_refl _⟩, HF, HI, HM, ⟨Kp.refl _ _⟩, ⟨fun _ h => .inl h⟩⟩
      case round =>
        clear HL HF HI HM hc1 hc3
        obtain ⟨wo, rfl⟩ : ∃ wo : World, wo = wr := ⟨_, rfl⟩
        obtain ⟨i, s1, S1, rfl, HL, HK, HF, HI, HVm, HKp, HS⟩ := hrel
        cases gk with
        | zero => exact absurd HL.out (by simp [impl_eachSigns_1.l0])
        | succ k1 =>
          have H := HL.out
          clear HL
          simp only [impl_eachSigns_1.l0] at H
          by_cases c3 : i < (rows.length : Int)
          · rw [if_pos c3] at H
            by_cases c4 : 0 ≤ i
            case neg => rw [if_neg c4] at H; exact absurd H (by simp)
            rw [if_pos c4] at H
            obtain ⟨t, hT, H⟩ := Option.bind_eq_some_iff.mp H
            obtain ⟨ad, Aw, cw, eA, hxw, hVw⟩ := V_row (b' := 0) HF.out.vr i c4 c3
            obtain ⟨row, hrow⟩ : ∃ row : List Int, rows.getD i.toNat [] = row := ⟨_, rfl⟩
            rw [hrow] at hT H hxw hVw
            clear hrow
            subst eA
            have HVw := am_ hVw
            have HT := am_ hT
            have hz4 : rows.length ≤ 9223372036854775807 := (Kd.V_reads' HF.out.vr).2.2.2.1
            have hz3 : row.length ≤ 9223372036854775807 := (Kd.V_reads' hVw).2.2.2.1
            clear hVw hT
            have hb1 : wo.cell? ⟨B1, 0, none⟩ = some (.int .i64 n) := (blk_cell HF.out.b1 0).trans rfl
            have hb4 : wo.cell? ⟨B4, 0, none⟩ = some (.slice (some ⟨gs, 0, none⟩) sums.length sums.length) := (blk_cell HF.out.b4 0).trans rfl
            have hd3 : decide (i < (rows.length : Int)) = true := decide_eq_true c3
            have hd4 : decide (0 ≤ i) = true := decide_eq_true c4
            have HSZ := am_ (show sums.length ≤ 9223372036854775807 from HF.out.sz)
            cases t with
            | false =>
              rw [if_neg (by simp)] at H
              have HL4 := am_ H
              clear H
              go_wp2_with (go_at_call 93; (refine (impl_fitsSums.calls k1 _ _ sums _ _ row ((m.length : Int) == n - 1) false _ (C_nums HF.out.bs HSZ.out) (Nat.le_refl _) (Kd.V_reads' HVw.out).2.2 (Kd.V_reads' HVw.out).2.1 HT.out).mono ?_); rintro e w' ⟨rfl, ⟨nd, rfl⟩⟩)
              go_roundg k1
              case measure => have := HK.out; omega
              case rel => exact ⟨i + 1, s1, S1, by go_num, HL4, ⟨by have := HK.out; omega⟩, ⟨HF.out.below (pw_below_drewN (Below.refl _ _) _)⟩, ⟨HFS.out.st _ _ _ _ HI.out ((pw_below_drewN (Below.refl wo.heap.size wo) _).mono (Nat.zero_le _)) (fun _ _ => rfl)⟩, ⟨Kd.V_drewN HVm.out _⟩, ⟨HKp.out.drewN _⟩, HS⟩
            | true =>
              rw [if_pos rfl] at H
              by_cases c5 : impl_eachSigns_1.okRow sums row = true
              case neg => rw [if_neg c5] at H; exact absurd H (by simp)
              rw [if_pos c5] at H
              obtain ⟨q, hq, H⟩ := Option.bind_eq_some_iff.mp H
              have HO := am_ c5
              obtain ⟨sums2, he2⟩ : ∃ x : List Int, List.zipWith (· + ·) sums row = x := ⟨_, rfl⟩
              rw [he2] at hq
              have HZ := am_ (impl_eachSigns_1.zip_len c5)
              rw [he2] at HZ
              have HE2 := am_ he2
              have HQ := am_ hq
              clear c5 he2 hq
              go_wp2_with (go_at_call 93; (refine (impl_fitsSums.calls k1 _ _ sums _ _ row ((m.length : Int) == n - 1) true _ (C_nums HF.out.bs HSZ.out) (Nat.le_refl _) (Kd.V_reads' HVw.out).2.2 (Kd.V_reads' HVw.out).2.1 HT.out).mono ?_); rintro e w' ⟨rfl, ⟨nd, rfl⟩⟩)
              replace HF := am_ (HF.out.below (pw_below_drewN (Below.refl _ _) nd))
              replace HI := am_ (HFS.out.st _ _ _ (wo.drewN nd) HI.out ((pw_below_drewN (Below.refl wo.heap.size wo) nd).mono (Nat.zero_le _)) (fun _ _ => rfl))
              replace HVm := am_ (Kd.V_drewN HVm.out nd)
              replace HVw := am_ (Kd.V_drewN HVw.out nd)
              replace HKp := am_ (HKp.out.drewN nd)
              clear hb1 hb4 hxw
              generalize wo.drewN nd = wo2 at *
              go_loopg [39] row.length (fun gj v39 w' => ∃ j : Nat, v39 = .int .i64 (j : Int) ∧ Aside0 (j + gj = row.length) ∧ Aside0 (impl_eachSigns_1.Fr n ge be (some ad) cr rows B1 B2 B3 B4 B5 T2 T5 gs S1 w' (impl_eachSigns_1.mid sums2 sums j)) ∧ Aside0 (Kd.V (Kd.slice 3 (Kd.int .i64)) 44 w' 0 (fun k => ¬ S1 k ∧ k ≠ gs) (.slice A0 m.length c0) m) ∧ Aside0 (Kd.V (Kd.int .i64) 3 w' 0 (fun k => ¬ S1 k ∧ k ≠ gs) (.slice Aw row.length cw) row) ∧ Aside0 (Kp wo2 w' (fun k => k = gs)))
              case atStart => exact ⟨0, rfl, ⟨by omega⟩, ⟨by rw [impl_eachSigns_1.mid_zero]; exact HF.out⟩, HVm, HVw, ⟨Kp.refl _ _⟩⟩
              case round =>
                obtain ⟨w39, rfl⟩ : ∃ w_ : World, w_ = wr := ⟨_, rfl⟩
                obtain ⟨j, rfl, HJ, HFj, HVmj, HVwj, HKj⟩ := hrel
                have HLb := am_ (impl_eachSigns_1.mid_len (a := sums2) (b := sums) (HZ.out.2.trans HZ.out.1.symm) j)
                by_cases hj : j < row.length
                · obtain ⟨g1, rfl⟩ : ∃ g1, gk = g1 + 1 := ⟨gk - 1, by have := HJ.out; omega⟩
                  obtain ⟨adw, eAw, hcw⟩ := Kd.at_int (Kd.V_reads' HVwj.out).2.2 (j : Int) (by omega) (by omega)
                  subst eAw
                  obtain ⟨o1, o2, o3, o4, o5⟩ := impl_eachSigns_1.ok_at HO.out j hj
                  have hcs : w39.cell? ⟨gs, j, none⟩ = some (.int .i64 (sums.getD j 0)) := by
                    rw [blk_cell HFj.out.bs j]
                    have := impl_eachSigns_1.mid_at (a := sums2) (b := sums) (HZ.out.2.trans HZ.out.1.symm) j (by have := HZ.out; omega)
                    rw [← this]
                    have hlt : j < (impl_eachSigns_1.mid sums2 sums j).length := by have := HLb.out; have := HZ.out; omega
                    simp [nums, List.getElem?_eq_getElem hlt]
                  have hfs := blk_frozen HFj.out.bs j
                  have hb4 : w39.cell? ⟨B4, 0, none⟩ = some (.slice (some ⟨gs, 0, none⟩) row.length row.length) := by
                    rw [(blk_cell HFj.out.b4 0).trans rfl, HLb.out, HZ.out.1]; rfl
                  rw [show rd row (j : Int) = row.getD j 0 from rfl] at hcw
                  rw [Int.toNat_natCast] at hcw
                  have HST := am_ (impl_eachSigns_1.Fr.store HFj.out j (sums2.getD j 0))
                  have HMS := am_ (impl_eachSigns_1.mid_set (a := sums2) (b := sums) (HZ.out.2.trans HZ.out.1.symm) j (by have := HZ.out; omega))
                  have HVE := am_ (show sums2.getD j 0 = sums.getD j 0 + row.getD j 0 by rw [← HE2.out] at *; omega)
                  have hd1 : decide ((j : Int) < (row.length : Int)) = true := decide_eq_true (by omega)
                  have hd2 : decide (j < row.length) = true := decide_eq_true hj
                  rw [HE2.out] at o5
                  have o6 : -1 ≤ sums2.getD j 0 := by omega
                  have o7 : sums2.getD j 0 ≤ 2 := by omega
                  clear o5
                  generalize sums.getD j 0 = x at *
                  generalize row.getD j 0 = y at *
                  go_wp2
                  go_roundg g1
                  case measure => omega
                  case rel =>
                    refine ⟨j + 1, by go_num, ⟨by have := HJ.out; omega⟩, ⟨?_⟩, ⟨Kd.V_far HVmj.out (fun _ hk => hk.2) _⟩, ⟨Kd.V_far HVwj.out (fun _ hk => hk.2) _⟩, ⟨Kp.setCell HKj.out (.inl rfl) _⟩⟩
                    have := HST.out
                    rw [HMS.out] at this
                    rwa [HVE.out] at this
                · have ej : j = row.length := by have := HJ.out; omega
                  subst ej
                  have hd1 : decide ((row.length : Int) < (row.length : Int)) = false := decide_eq_false (by omega)
                  have hd2 : decide (row.length < row.length) = false := decide_eq_false (by omega)
                  have HFe := am_ HFj.out
                  rw [impl_eachSigns_1.mid_all (HZ.out.2.trans HZ.out.1.symm) (HZ.out.1.symm)] at HFe
                  clear HFj HJ HLb hj
                  have HF3 := am_ (HFe.out.below (below_drew (Below.refl _ _)))
                  have HVm := am_ (Kd.V_drew HVmj.out)
                  have HVw := am_ (Kd.V_drew HVwj.out)
                  have HKp3 := am_ (HKj.out.drew)
                  have HI3 := am_ (HFS.out.st _ _ _ _ HI.out HKp3.out.2 (fun k hk => HKp3.out.at k (HFS.out.bd _ _ _ HI.out k hk) (fun e => HF.out.ss (e ▸ hk))))
                  have HC5 := am_ ((blk_cell HF3.out.b5 0).trans rfl : w39.drew.cell? ⟨B5, 0, none⟩ = some (.func (.func 92) #[] #[.pointer (some ⟨B1, 0, none⟩), .pointer (some ⟨B2, 0, none⟩), .pointer (some ⟨B3, 0, none⟩), .pointer (some ⟨B4, 0, none⟩), .pointer (some ⟨B5, 0, none⟩)]))
                  clear HVmj HVwj HKj HFe
                  go_wp2_with fail
                  refine start_ (n := 12) (S := fun w' => w'.cell? ⟨B5, 0, none⟩ = some (.func (.func 92) #[] #[.pointer (some ⟨B1, 0, none⟩), .pointer (some ⟨B2, 0, none⟩), .pointer (some ⟨B3, 0, none⟩), .pointer (some ⟨B4, 0, none⟩), .pointer (some ⟨B5, 0, none⟩)])) (ds := []) #[F_, F_, F_, F_, F_, F_, F_, F_, F_, F_, F_, F_] (by kernel_rfl) rfl rfl (HC5.out) (fun hHeld => ?_)
                  generalize hW_ : w39.drew = W at HF3 HVm HVw HI3 HKp3 HC5 hHeld ⊢
                  clear hW_
                  refine pure_ (i := 1) (N := some 53) #[F_, T_, F_, F_, F_, F_, F_, F_, F_, F_, F_, F_] rfl rfl ak_ hq_ yi_ nm_ ?_
                  refine pure_ (i := 2) (N := some 54) #[F_, T_, T_, F_, F_, F_, F_, F_, F_, F_, F_, F_] rfl rfl ak_ hq_ yi_ nm_ ?_
                  refine pure_ (i := 3) (N := some 55) #[F_, T_, T_, T_, F_, F_, F_, F_, F_, F_, F_, F_] rfl rfl ak_ hq_ yi_ nm_ ?_
                  refine pure_ (i := 4) (N := some 56) #[F_, T_, T_, T_, T_, F_, F_, F_, F_, F_, F_, F_] rfl rfl ak_ hq_ yi_ nm_ ?_
                  refine pure_ (i := 5) (N := some 57) #[F_, T_, T_, T_, T_, T_, F_, F_, F_, F_, F_, F_] rfl rfl ak_ hq_ yi_ nm_ ?_
                  refine pure_ (i := 6) (N := some 58) #[F_, T_, T_, T_, T_, T_, T_, F_, F_, F_, F_, F_] rfl rfl ak_ hq_ yi_ nm_ ?_
                  refine pure_ (i := 7) (N := some 59) #[F_, T_, T_, T_, T_, T_, T_, T_, F_, F_, F_, F_] rfl rfl ak_ hq_ yi_ nm_ ?_
                  refine take_ (i := 0) (N := some 52) #[T_, T_, T_, T_, T_, T_, T_, T_, F_, F_, F_, F_] rfl rfl ak_ hq_ yj1_ hHeld nm_ ?_
                  refine one_ (i := 8) (N := some 60) #[T_, T_, T_, T_, T_, T_, T_, T_, T_, F_, F_, F_] rfl rfl (by kernel_rfl) (by decide) (fun K hK => ?_)
                  refine value_ (w1 := ?_) (v := ?_) (by rfl) rfl ?_ ?_
                  rotate_left 2
                  · go_simp
                    constructor
                    · rfl
                    · rfl
                  refine hK.out _ _ (cell_of_below (below_alloc (Below.refl _ _) _) HC5.out) (fun hHeld => ?_)
                  clear hK K
                  refine norm_ (a' := ?_) ?_ ?_
                  rotate_left
                  · show Act.put _ (some 60) _ = _
                    simp only [Act.put, List.setIfInBounds_toArray, List.set_cons_zero, List.set_cons_succ, i64_w, i32_w]
                    rfl
                  refine one_ (i := 9) (N := some 61) #[T_, T_, T_, T_, T_, T_, T_, T_, T_, T_, F_, F_] rfl rfl (by kernel_rfl) (by decide) (fun K hK => ?_)
                  refine V_push_step (d := Kd.slice 3 (Kd.int .i64)) (e := 44) (ok := fun k => ¬ S1 k ∧ k ≠ gs) rfl (.tmp 58) (.tmp 60) 24 rfl (.slice none 0 0) 24 Tryz.underlying24 info44 rfl rfl (xs := m) (y := row) (ad := ⟨W.heap.size, 0, none⟩) rfl (Kd.F_alloc (Kd.V_F HVm.out) _) rfl (Kd.FK_below (Kd.FK_slice_mk (Kd.V_reads' HVw.out).2.1 (Kd.V_F HVw.out)) (below_alloc (Below.refl _ _) _)) ((blk_cell (blk_new W _) 0).trans rfl) (by have := LM.out; omega) (by have := LM.out; omega) ?_
                  intro v61 w9 hN9 hb9
                  have HB9 := am_ (below_step (below_alloc (Below.refl _ _) _) hb9)
                  have HN9 := am_ hN9
                  clear hN9 hb9
                  obtain ⟨A61, c61, e61⟩ := Kd.N_slice HN9.out
                  subst e61
                  refine hK.out _ _ (cell_of_below HB9.out HC5.out) (fun hHeld => ?_)
                  clear hK K
                  refine norm_ (a' := ?_) ?_ ?_
                  rotate_left
                  · show Act.put _ (some 61) _ = _
                    simp only [Act.put, List.setIfInBounds_toArray, List.set_cons_zero, List.set_cons_succ, i64_w, i32_w]
                    rfl
                  refine one_ (i := 10) (N := some 62) #[T_, T_, T_, T_, T_, T_, T_, T_, T_, T_, T_, F_] rfl rfl (by kernel_rfl) (by decide) (fun K hK => ?_)
                  refine goesF_ (enters_of Tryz.func92 (by kernel_rfl) rfl) #[.slice A61 (m ++ [row]).length c61] (by rfl) rfl rfl tc161_ tc43_ ?_
                  refine (ih k1 (by have := HK.out; omega) (sums2) (m ++ [row]) A61 c61 s1 q.1 q.2 S1 w9 (HF3.out.below HB9.out) (HFS.out.st _ _ _ _ HI3.out (HB9.out.mono (Nat.zero_le _)) (fun k hk => HB9.out.block k (HFS.out.bd _ _ _ HI3.out k hk))) (Kd.V_mono (Kd.N_V HN9.out) (fun k hk => hk.elim (fun h => h) (fun h => ⟨fun hs => by have := HFS.out.bd _ _ _ HI3.out k hs; simp at h; omega, fun e => by have := blk_lt HF3.out.bs; simp at h; omega⟩))) HQ.out).mono ?_
                  rintro e w10 ⟨rfl, S2, hI10, hK10, hS10⟩
                  refine ⟨_, rfl, ?_⟩
                  have HI10 := am_ hI10
                  have HK10 := am_ hK10
                  have HS10 := am_ hS10
                  clear hI10 hK10 hS10
                  have HF10 := am_ ((HF3.out.below HB9.out).kept HK10.out HS10.out)
                  refine hK.out _ _ ((blk_cell HF10.out.b5 0).trans rfl) (fun hHeld => ?_)
                  clear hK K
                  refine norm_ (a' := ?_) ?_ ?_
                  rotate_left
                  · show Act.put _ (some 62) _ = _
                    simp only [Act.put, List.setIfInBounds_toArray, List.set_cons_zero, List.set_cons_succ, i64_w, i32_w]
                    rfl
                  refine pure_ (i := 11) (N := some 12) #[T_, T_, T_, T_, T_, T_, T_, T_, T_, T_, T_, T_] rfl rfl ak_ hq_ yi_ nm_ ?_
                  refine done_ (by kernel_rfl) ?_
                  have HKr := am_ ((HKp3.out.mono (S' := fun k => S1 k ∨ k = gs) (fun k h => .inr h)).below HB9.out |>.then_ HK10.out (fun k h => .inl (.inl h)))
                  have HW9 := am_ (Nat.le_trans HKp3.out.sz (below_size HB9.out))
                  have HVm3 := am_ (V_kept_to (Kd.V_below HVm.out HB9.out) HK10.out HS10.out)
                  have HVw3 := am_ (V_kept_to (Kd.V_below HVw.out HB9.out) HK10.out HS10.out)
                  clear HVm HVw HKp3 HI3 HC5 HF3 HN9 HB9 HK10
                  go_wp2
                  go_loopg [65] row.length (fun gj v65 w' => ∃ j : Nat, v65 = .int .i64 (j : Int) ∧ Aside0 (j + gj = row.length) ∧ Aside0 (impl_eachSigns_1.Fr n ge be (some ad) cr rows B1 B2 B3 B4 B5 T2 T5 gs S2 w' (impl_eachSigns_1.mid sums sums2 j)) ∧ Aside0 (Kd.V (Kd.slice 3 (Kd.int .i64)) 44 w' 0 (fun k => ¬ S2 k ∧ k ≠ gs) (.slice A0 m.length c0) m) ∧ Aside0 (Kd.V (Kd.int .i64) 3 w' 0 (fun k => ¬ S2 k ∧ k ≠ gs) (.slice Aw row.length cw) row) ∧ Aside0 (Kp w10 w' (fun k => k = gs)))
                  case atStart => exact ⟨0, rfl, ⟨by omega⟩, ⟨by rw [impl_eachSigns_1.mid_zero]; exact HF10.out⟩, HVm3, HVw3, ⟨Kp.refl _ _⟩⟩
                  case round =>
                    obtain ⟨w65, rfl⟩ : ∃ w_ : World, w_ = wr := ⟨_, rfl⟩
                    obtain ⟨j, rfl, HJ, HFj, HVmj, HVwj, HKj⟩ := hrel
                    have HLb := am_ (impl_eachSigns_1.mid_len (a := sums) (b := sums2) (HZ.out.1.trans HZ.out.2.symm) j)
                    by_cases hj : j < row.length
                    · obtain ⟨g1, rfl⟩ : ∃ g1, gk = g1 + 1 := ⟨gk - 1, by have := HJ.out; omega⟩
                      obtain ⟨adw, eAw, hcw⟩ := Kd.at_int (Kd.V_reads' HVwj.out).2.2 (j : Int) (by omega) (by omega)
                      subst eAw
                      obtain ⟨o1, o2, o3, o4, o5⟩ := impl_eachSigns_1.ok_at HO.out j hj
                      have hcs : w65.cell? ⟨gs, j, none⟩ = some (.int .i64 (sums2.getD j 0)) := by
                        rw [blk_cell HFj.out.bs j]
                        have := impl_eachSigns_1.mid_at (a := sums) (b := sums2) (HZ.out.1.trans HZ.out.2.symm) j (by have := HZ.out; omega)
                        rw [← this]
                        have hlt : j < (impl_eachSigns_1.mid sums sums2 j).length := by have := HLb.out; have := HZ.out; omega
                        simp [nums, List.getElem?_eq_getElem hlt]
                      have hfs := blk_frozen HFj.out.bs j
                      have hb4 : w65.cell? ⟨B4, 0, none⟩ = some (.slice (some ⟨gs, 0, none⟩) row.length row.length) := by
                        rw [(blk_cell HFj.out.b4 0).trans rfl, HLb.out, HZ.out.2]; rfl
                      rw [show rd row (j : Int) = row.getD j 0 from rfl] at hcw
                      rw [Int.toNat_natCast] at hcw
                      have HST := am_ (impl_eachSigns_1.Fr.store HFj.out j (sums.getD j 0))
                      have HMS := am_ (impl_eachSigns_1.mid_set (a := sums) (b := sums2) (HZ.out.1.trans HZ.out.2.symm) j (by have := HZ.out; omega))
                      have HVE := am_ (show sums.getD j 0 = sums2.getD j 0 - row.getD j 0 by rw [← HE2.out] at *; omega)
                      have hd1 : decide ((j : Int) < (row.length : Int)) = true := decide_eq_true (by omega)
                      have hd2 : decide (j < row.length) = true := decide_eq_true hj
                      rw [HE2.out] at o5
                      have o6 : -1 ≤ sums2.getD j 0 := by omega
                      have o7 : sums2.getD j 0 ≤ 2 := by omega
                      clear o5
                      generalize sums2.getD j 0 = x at *
                      generalize row.getD j 0 = y at *
                      go_wp2
                      go_roundg g1
                      case measure => omega
                      case rel =>
                        refine ⟨j + 1, by go_num, ⟨by have := HJ.out; omega⟩, ⟨?_⟩, ⟨Kd.V_far HVmj.out (fun _ hk => hk.2) _⟩, ⟨Kd.V_far HVwj.out (fun _ hk => hk.2) _⟩, ⟨Kp.setCell HKj.out (.inl rfl) _⟩⟩
                        have := HST.out
                        rw [HMS.out] at this
                        rwa [HVE.out] at this
                    · have ej : j = row.length := by have := HJ.out; omega
                      subst ej
                      have hd1 : decide ((row.length : Int) < (row.length : Int)) = false := decide_eq_false (by omega)
                      have hd2 : decide (row.length < row.length) = false := decide_eq_false (by omega)
                      have HFe := am_ HFj.out
                      rw [impl_eachSigns_1.mid_all (HZ.out.1.trans HZ.out.2.symm) (HZ.out.2.symm)] at HFe
                      clear HFj HJ HLb hj
                      have HB3 := am_ (Kp.back ((HKr.out.then_ (S2 := fun k => k = gs) HKj.out (fun k h => .inl (.inr h)))) HF.out.bs HFe.out.bs)
                      have HKp4 := am_ (HKp.out.then_ HB3.out HS.out)
                      have HS4 := am_ (show ∀ k, S2 k → S k ∨ w.heap.size ≤ k from fun k h => (HS10.out k h).elim (fun h => HS.out k h) (fun h => .inr (Nat.le_trans HKp.out.sz (Nat.le_trans HW9.out h))))
                      have HI4 := am_ (HFS.out.st _ _ _ _ HI10.out HKj.out.2 (fun k hk => HKj.out.at k (HFS.out.bd _ _ _ HI10.out k hk) (fun e => HF10.out.ss (e ▸ hk))))
                      by_cases cq : q.2 = true
                      · rw [if_pos cq] at H
                        have HL4 := am_ H
                        clear H
                        rw [cq]
                        go_wp2
                        go_roundg k1
                        case measure => have := HK.out; omega
                        case rel => exact ⟨i + 1, q.1, S2, by go_num, HL4, ⟨by have := HK.out; omega⟩, HFe, HI4, HVmj, HKp4, HS4⟩
                      · rw [if_neg cq] at H
                        have e1 := Prod.mk.inj (Option.some.inj H)
                        have cq2 : q.2 = false := by simpa using cq
                        obtain ⟨e1, e2⟩ := e1
                        subst e2
                        clear H cq
                        rw [cq2]
                        go_wp2
                        go_ret
                        exact ⟨rfl, S2, e1 ▸ HI4.out, HKp4.out, HS4.out⟩
          · rw [if_neg c3] at H
            have hd3 : decide (i < (rows.length : Int)) = false := decide_eq_false c3
            have e1 := Prod.mk.inj (Option.some.inj H)
            obtain ⟨e1, e2⟩ := e1
            subst e2
            clear H
            go_wp2
            go_ret
            exact ⟨rfl, S1, e1 ▸ HI.out, HKp.out, HS.out⟩
    · rw [if_neg c2] at h
      exact absurd h (by simp)

/-! ### impl_eachSigns: function 71 (by hand) -/
def impl_eachSigns.f {σ : Type} (k : Nat) (a0 : Int) (p : σ → Tb_ → Option (σ × Bool)) (s : σ) : Option σ :=
  if 0 ≤ a0 then (if a0 ≤ 1000 then ((impl_signRows.f k a0).bind fun rows => (impl_eachSigns_1.f k p a0 rows (List.replicate a0.toNat 0) [] s).bind fun q => some q.1) else none) else none
def impl_eachSigns.T1 : Bool × List (List Nat × List Nat) := (true, [([], []), ([0], [0]), ([], []), ([2, 2], [2]), ([], []), ([], []), ([4, 1, 1, 0, 1, 4, 5], [1, 4]), ([5, 3, 6, 0, 1, 2, 3, 4, 5, 6], [3, 5])])
def impl_eachSigns.B1 : List Nat := [0, 1, 0, 4, 0, 0, 51, 127]
theorem impl_eachSigns.tab1 : rtab .any (opsOf Tryz.f71 1) = impl_eachSigns.T1 := by kernel_rfl
theorem impl_eachSigns.bits1 : waitsOk impl_eachSigns.T1.2 impl_eachSigns.B1 = true := by kernel_rfl
theorem impl_eachSigns.calls {σ : Type} (k : Nat) (a0 : Int) (ge : Nat) (be : Array Value) (p : σ → Tb_ → Option (σ × Bool)) (Inv : σ → World → (Nat → Prop) → Prop) (hf : FnS (Kd.slice 44 (Kd.slice 3 (Kd.int .i64))) Value.bool Tryz.prog ge be p Inv)
    (s s' : σ) (S : Nat → Prop) (w : World) (hI : Inv s w S) (h : impl_eachSigns.f k a0 p s = some s') :
    Calls Tryz.prog 71 #[.int .i64 a0, .func (.func ge) #[] be] w fun e w' => e = .returned (.tuple #[]) ∧ ∃ S', Inv s' w' S' ∧ Kp w w' S ∧ ∀ k, S' k → S k ∨ w.heap.size ≤ k := by
  unfold impl_eachSigns.f at h
  by_cases c1 : 0 ≤ a0
  · rw [if_pos c1] at h
    by_cases c2 : a0 ≤ 1000
    · rw [if_pos c2] at h
      obtain ⟨rows, h1, h⟩ := Option.bind_eq_some_iff.mp h
      obtain ⟨q, h2, h⟩ := Option.bind_eq_some_iff.mp h
      obtain rfl := Option.some.inj h
      have HFS := am_ hf
      have HI := am_ hI
      have HR := am_ h1
      have HQ := am_ h2
      clear hf hI h1 h2 h
      go_enter Tryz.func71, Tryz.ntmps71
      go_wp2
      obtain ⟨B1, hB1⟩ : ∃ B1, B1 = w.heap.size := ⟨_, rfl⟩
      obtain ⟨B2, hB2⟩ : ∃ B2, B2 = B1 + 1 := ⟨_, rfl⟩
      have HA0 := am_ c1
      have HA1 := am_ c2
      have HB1 := am_ (show (((w.alloc (Obj.cells #[Value.int IntKind.i64 a0] 3)).alloc (Obj.cells #[Value.func (Fn.func ge) #[] be] 34)).drew).heap[B1]? = some (.cells #[.int .i64 a0] 3 (0, 0)) from blk_drew (blk_alloc (blk_new' hB1.symm) _))
      have HB2 := am_ (show (((w.alloc (Obj.cells #[Value.int IntKind.i64 a0] 3)).alloc (Obj.cells #[Value.func (Fn.func ge) #[] be] 34)).drew).heap[B2]? = some (.cells #[.func (.func ge) #[] be] 34 (0, 0)) from blk_drew (blk_new' (by simp; omega)))
      have HC1 := am_ ((blk_cell HB1.out 0).trans rfl : (((w.alloc (Obj.cells #[Value.int IntKind.i64 a0] 3)).alloc (Obj.cells #[Value.func (Fn.func ge) #[] be] 34)).drew).cell? ⟨B1, 0, none⟩ = some (.int .i64 a0))
      have HBW := am_ (show Below w.heap.size w (((w.alloc (Obj.cells #[Value.int IntKind.i64 a0] 3)).alloc (Obj.cells #[Value.func (Fn.func ge) #[] be] 34)).drew) from below_drew1 (below_alloc (below_alloc (Below.refl _ _) _) _))
      have HP0 := am_ (show 0 < (((w.alloc (Obj.cells #[Value.int IntKind.i64 a0] 3)).alloc (Obj.cells #[Value.func (Fn.func ge) #[] be] 34)).drew).heap.size from Nat.lt_of_le_of_lt (Nat.zero_le _) (blk_lt HB1.out))
      rw [← hB1]
      rw [← hB2]
      have EB1 := am_ hB1
      have EB2 := am_ hB2
      clear hB1 hB2
      refine start_ (n := 8) (S := fun w' => True) (ds := []) #[F_, F_, F_, F_, F_, F_, F_, F_] (by kernel_rfl) rfl rfl trivial (fun hHeld => ?_)
      refine with_tabW impl_eachSigns.tab1 impl_eachSigns.bits1 (fun HT_ HW_ => ?_)
      generalize hW_ : World.drew _ = W at HB1 HB2 HBW HC1 HP0 ⊢
      clear hW_
      have FB := (show Below W.heap.size W W ∧ 0 < W.heap.size ∧ 0 < W.heap.size from ⟨Below.refl _ _, HP0.out, HP0.out⟩)
      refine inv_at [0, 1, 2, 3, 4, 5, 6, 7] (fun a0_ b a w' => ∃ (v8 : Value) (g10 : Nat) (g4 : Nat) (g5 : Nat) (m3_ : Value) (m4_ : Value) (m5_ : Value), a = putSel a0_ b [(0, 7, .int .i64 a0), (1, 8, v8), (2, 9, .int .i64 a0), (3, 10, m3_), (4, 4, m4_), (5, 5, m5_)] ∧ (Below W.heap.size W w' ∧ g10 < w'.heap.size ∧ g5 < w'.heap.size) ∧ (b 1 = true → Kd.R (Kd.slice 3 (Kd.int .i64)) 44 w' W.heap.size (fun k => k ≠ g10 ∧ k ≠ g5) v8 rows) ∧ (b 3 = true → w'.heap[g10]? = some (.cells (nums .i64 (List.replicate a0.toNat 0)).toArray 3 (0, 0)) ∧ W.heap.size ≤ g10) ∧ (b 4 = true → b 6 = false → w'.heap[g4]? = some (.cells #[.slice none 0 0] 24 (0, 0)) ∧ W.heap.size ≤ g4) ∧ (b 6 = true → w'.heap[g4]? = some (.cells #[v8] 24 (0, 0)) ∧ W.heap.size ≤ g4) ∧ (b 5 = true → b 7 = false → w'.heap[g5]? = some (.cells #[.slice none 0 0] 44 (0, 0)) ∧ W.heap.size ≤ g5) ∧ (b 7 = true → w'.heap[g5]? = some (.cells #[.slice (some ⟨g10, 0, none⟩) a0.toNat a0.toNat] 44 (0, 0)) ∧ W.heap.size ≤ g5) ∧ (b 3 = true → (m3_ : Value) = .slice (some ⟨g10, 0, none⟩) a0.toNat a0.toNat) ∧ (b 4 = true → (m4_ : Value) = .pointer (some ⟨g4, 0, none⟩)) ∧ (b 5 = true → (m5_ : Value) = .pointer (some ⟨g5, 0, none⟩))) HT_.out HW_.out (by kernel_rfl) (by kernel_rfl) ?_ ?_ ?_
      · exact ⟨.bool false, 0, 0, 0, .bool false, .bool false, .bool false, by simp only [putSel, Bool.false_eq_true, if_false], FB, fun h_ => absurd h_ (by decide), fun h_ => absurd h_ (by decide), fun h_ => absurd h_ (by decide), fun h_ => absurd h_ (by decide), fun h_ => absurd h_ (by decide), fun h_ => absurd h_ (by decide), fun h_ => absurd h_ (by decide), fun h_ => absurd h_ (by decide), fun h_ => absurd h_ (by decide)⟩
      · skip
        clear FB
        refine steps_cons ?_ ?_
        · rintro b a w' ⟨v8, g10, g4, g5, m3_, m4_, m5_, ha, Q_FB, Q_FR, Q_FS, Q_F4, Q_G4, Q_F5, Q_G5, Q_X3_, Q_X4_, Q_X5_⟩ hb_ hon hoff
          refine ⟨_, rfl, fun K hK => ?_⟩
          have e2 : a.tmps[2]? = some (.pointer (some ⟨B1, 0, none⟩)) := by rw [ha]; exact (putSel_off rfl).trans rfl
          replace ha := am_ ha
          have FB := am_ Q_FB
          have hc_ : w'.cell? ⟨B1, 0, none⟩ = some (.int .i64 a0) := cell_of_below FB.out.1 HC1.out
          refine value_ (w1 := w') (v := .int .i64 a0) (by rfl) rfl ?_ ?_
          · go_simp
            (try simp only [i64_w])
            try rfl
          refine hK.out _ _ ⟨v8, g10, g4, g5, m3_, m4_, m5_, (by rw [ha.out]; exact putSel_upk 0 hb_ rfl rfl rfl), Q_FB, fun h0_ => absurd ((hoff 1 (by kernel_rfl)).symm.trans h0_) (by decide), Q_FS, Q_F4, fun h0_ => absurd ((hoff 6 (by kernel_rfl)).symm.trans h0_) (by decide), Q_F5, fun h0_ => absurd ((hoff 7 (by kernel_rfl)).symm.trans h0_) (by decide), Q_X3_, Q_X4_, Q_X5_⟩
        refine steps_cons ?_ ?_
        · rintro b a w' ⟨v8, g10, g4, g5, m3_, m4_, m5_, ha, Q_FB, Q_FR, Q_FS, Q_F4, Q_G4, Q_F5, Q_G5, Q_X3_, Q_X4_, Q_X5_⟩ hb_ hon hoff
          refine ⟨_, rfl, fun K hK => ?_⟩
          have e7 : a.tmps[7]? = some (.int .i64 a0) := by rw [ha]; exact putSel_on (e := (0, 7, .int .i64 a0)) 0 rfl rfl (hon 0 (by kernel_rfl)) rfl
          replace ha := am_ ha
          have FB := am_ Q_FB
          refine goes_ Tryz.func91 (by kernel_rfl) rfl #[.int .i64 a0] (by rfl) rfl rfl (by first | (simp only [List.map_toArray, List.map_cons, List.map_nil, Act.eval, Array.getD_eq_getD_getElem?, Option.getD_some, e7]; done) | (simp only [List.map_toArray, List.map_cons, List.map_nil, Act.eval, Array.getD_eq_getD_getElem?, Option.getD_some, e7]; rfl)) ?_
          refine (impl_signRows.calls k a0 rows w' HR.out).mono ?_
          rintro e w3 ⟨v3, rfl, ho, hb⟩
          refine ⟨_, rfl, ?_⟩
          have hsz := below_size hb
          refine hK.out _ _ ⟨v3, g10, g4, g5, m3_, m4_, m5_, (by rw [ha.out]; exact putSel_upk 1 hb_ rfl rfl rfl), ⟨below_step FB.out.1 hb, Nat.lt_of_lt_of_le FB.out.2.1 hsz, Nat.lt_of_lt_of_le FB.out.2.2 hsz⟩, fun _ => Kd.R_lower (Kd.R_mono (Kd.R_bound ho) (fun k hk => ⟨by have := hk.2.1; have := FB.out.2; omega, by have := hk.2.1; have := FB.out.2; omega⟩)) (below_size FB.out.1), fun h0_ => ⟨blk_below (Q_FS h0_).1 hb, (Q_FS h0_).2⟩, fun h0_ h1_ => ⟨blk_below (Q_F4 h0_ h1_).1 hb, (Q_F4 h0_ h1_).2⟩, fun h0_ => absurd ((hoff 6 (by kernel_rfl)).symm.trans h0_) (by decide), fun h0_ h1_ => ⟨blk_below (Q_F5 h0_ h1_).1 hb, (Q_F5 h0_ h1_).2⟩, fun h0_ => absurd ((hoff 7 (by kernel_rfl)).symm.trans h0_) (by decide), Q_X3_, Q_X4_, Q_X5_⟩
        refine steps_cons ?_ ?_
        · rintro b a w' ⟨v8, g10, g4, g5, m3_, m4_, m5_, ha, Q_FB, Q_FR, Q_FS, Q_F4, Q_G4, Q_F5, Q_G5, Q_X3_, Q_X4_, Q_X5_⟩ hb_ hon hoff
          refine ⟨_, rfl, fun K hK => ?_⟩
          have e2 : a.tmps[2]? = some (.pointer (some ⟨B1, 0, none⟩)) := by rw [ha]; exact (putSel_off rfl).trans rfl
          replace ha := am_ ha
          have FB := am_ Q_FB
          have hc_ : w'.cell? ⟨B1, 0, none⟩ = some (.int .i64 a0) := cell_of_below FB.out.1 HC1.out
          refine value_ (w1 := w') (v := .int .i64 a0) (by rfl) rfl ?_ ?_
          · go_simp
            (try simp only [i64_w])
            try rfl
          refine hK.out _ _ ⟨v8, g10, g4, g5, m3_, m4_, m5_, (by rw [ha.out]; exact putSel_upk 2 hb_ rfl rfl rfl), Q_FB, Q_FR, fun h0_ => absurd ((hoff 3 (by kernel_rfl)).symm.trans h0_) (by decide), Q_F4, Q_G4, Q_F5, fun h0_ => absurd ((hoff 7 (by kernel_rfl)).symm.trans h0_) (by decide), fun h0_ => absurd ((hoff 3 (by kernel_rfl)).symm.trans h0_) (by decide), Q_X4_, Q_X5_⟩
        refine steps_cons ?_ ?_
        · rintro b a w' ⟨v8, g10, g4, g5, m3_, m4_, m5_, ha, Q_FB, Q_FR, Q_FS, Q_F4, Q_G4, Q_F5, Q_G5, Q_X3_, Q_X4_, Q_X5_⟩ hb_ hon hoff
          refine ⟨_, rfl, fun K hK => ?_⟩
          have e9 : a.tmps[9]? = some (.int .i64 a0) := by rw [ha]; exact putSel_on (e := (2, 9, .int .i64 a0)) 2 rfl rfl (hon 2 (by kernel_rfl)) rfl
          replace ha := am_ ha
          have FB := am_ Q_FB
          refine value_ (w1 := w'.alloc (.cells (nums .i64 (List.replicate a0.toNat 0)).toArray 3 (0, 0))) (v := .slice (some ⟨w'.heap.size, 0, none⟩) a0.toNat a0.toNat) (by rfl) rfl ?_ ?_
          · exact make_zeros (x := .tmp 9) rfl a0 (eval_of e9) Tryz.underlying44 info3 HA0.out (Int.le_trans HA1.out (by decide)) w'
          refine hK.out _ _ ⟨v8, w'.heap.size, g4, g5, (.slice (some ⟨w'.heap.size, 0, none⟩) a0.toNat a0.toNat), m4_, m5_, (by rw [ha.out]; exact putSel_upk 3 hb_ rfl rfl rfl), ⟨below_alloc FB.out.1 _, by simp, by simp; have := FB.out.2; omega⟩, fun h0_ => Kd.R_mono (Kd.R_bound (Q_FR h0_) |> fun h => Kd.R_alloc h _) (fun k hk => ⟨by have := hk.2.2.1; omega, hk.1.2⟩), fun _ => ⟨blk_new _ _, below_size FB.out.1⟩, fun h0_ h1_ => ⟨blk_alloc (Q_F4 h0_ h1_).1 _, (Q_F4 h0_ h1_).2⟩, fun h0_ => ⟨blk_alloc (Q_G4 h0_).1 _, (Q_G4 h0_).2⟩, fun h0_ h1_ => ⟨blk_alloc (Q_F5 h0_ h1_).1 _, (Q_F5 h0_ h1_).2⟩, fun h0_ => absurd ((hoff 7 (by kernel_rfl)).symm.trans h0_) (by decide), fun _ => rfl, Q_X4_, Q_X5_⟩
        refine steps_cons ?_ ?_
        · rintro b a w' ⟨v8, g10, g4, g5, m3_, m4_, m5_, ha, Q_FB, Q_FR, Q_FS, Q_F4, Q_G4, Q_F5, Q_G5, Q_X3_, Q_X4_, Q_X5_⟩ hb_ hon hoff
          refine ⟨_, rfl, fun K hK => ?_⟩
          replace ha := am_ ha
          have FB := am_ Q_FB
          refine value_ (w1 := ?_) (v := ?_) (by rfl) rfl ?_ ?_
          rotate_left 2
          · go_simp
            constructor
            · rfl
            · rfl
          refine hK.out _ _ ⟨v8, g10, w'.heap.size, g5, m3_, (.pointer (some ⟨w'.heap.size, 0, none⟩)), m5_, (by rw [ha.out]; exact putSel_upk 4 hb_ rfl rfl rfl), ⟨below_alloc FB.out.1 _, by simp; have := FB.out.2; omega, by simp; have := FB.out.2; omega⟩, fun h0_ => Kd.R_alloc (Q_FR h0_) _, fun h0_ => ⟨blk_alloc (Q_FS h0_).1 _, (Q_FS h0_).2⟩, fun _ _ => ⟨blk_new _ _, below_size FB.out.1⟩, fun h0_ => absurd ((hoff 6 (by kernel_rfl)).symm.trans h0_) (by decide), fun h0_ h1_ => ⟨blk_alloc (Q_F5 h0_ h1_).1 _, (Q_F5 h0_ h1_).2⟩, fun h0_ => absurd ((hoff 7 (by kernel_rfl)).symm.trans h0_) (by decide), Q_X3_, fun _ => rfl, Q_X5_⟩
        refine steps_cons ?_ ?_
        · rintro b a w' ⟨v8, g10, g4, g5, m3_, m4_, m5_, ha, Q_FB, Q_FR, Q_FS, Q_F4, Q_G4, Q_F5, Q_G5, Q_X3_, Q_X4_, Q_X5_⟩ hb_ hon hoff
          refine ⟨_, rfl, fun K hK => ?_⟩
          replace ha := am_ ha
          have FB := am_ Q_FB
          refine value_ (w1 := ?_) (v := ?_) (by rfl) rfl ?_ ?_
          rotate_left 2
          · go_simp
            constructor
            · rfl
            · rfl
          refine hK.out _ _ ⟨v8, g10, g4, w'.heap.size, m3_, m4_, (.pointer (some ⟨w'.heap.size, 0, none⟩)), (by rw [ha.out]; exact putSel_upk 5 hb_ rfl rfl rfl), ⟨below_alloc FB.out.1 _, by simp; have := FB.out.2; omega, by simp⟩, fun h0_ => Kd.R_mono (Kd.R_bound (Q_FR h0_) |> fun h => Kd.R_alloc h _) (fun k hk => ⟨hk.1.1, by have := hk.2.2.1; omega⟩), fun h0_ => ⟨blk_alloc (Q_FS h0_).1 _, (Q_FS h0_).2⟩, fun h0_ h1_ => ⟨blk_alloc (Q_F4 h0_ h1_).1 _, (Q_F4 h0_ h1_).2⟩, fun h0_ => absurd ((hoff 6 (by kernel_rfl)).symm.trans h0_) (by decide), fun _ _ => ⟨blk_new _ _, below_size FB.out.1⟩, fun h0_ => absurd ((hoff 7 (by kernel_rfl)).symm.trans h0_) (by decide), Q_X3_, Q_X4_, fun _ => rfl⟩
        refine steps_cons ?_ ?_
        · rintro b a w' ⟨v8, g10, g4, g5, m3_, m4_, m5_, ha, Q_FB, Q_FR, Q_FS, Q_F4, Q_G4, Q_F5, Q_G5, Q_X3_, Q_X4_, Q_X5_⟩ hb_ hon hoff
          refine ⟨_, rfl, fun K hK => ?_⟩
          have e4 : a.tmps[4]? = some (m4_) := by rw [ha]; exact putSel_on (e := (4, 4, m4_)) 4 rfl rfl (hon 4 (by kernel_rfl)) rfl
          rw [Q_X4_ (hon 4 (by kernel_rfl))] at e4
          have e8 : a.tmps[8]? = some (v8) := by rw [ha]; exact putSel_on (e := (1, 8, v8)) 1 rfl rfl (hon 1 (by kernel_rfl)) rfl
          replace ha := am_ ha
          have FB := am_ Q_FB
          have FR := am_ (Q_FR (hon 1 (by kernel_rfl)))
          have F4 := am_ (Q_F4 (hon 4 (by kernel_rfl)) hb_)
          have F5 := am_ (Q_F5 (hon 5 (by kernel_rfl)) (hoff 7 (by kernel_rfl)))
          obtain ⟨A8, c8, q8⟩ := Kd.R_slice FR.out
          subst q8
          have hc_ : w'.cell? ⟨g4, 0, none⟩ = some (.slice none 0 0) := (blk_cell F4.out.1 0).trans rfl
          have hf_ := blk_frozen F4.out.1 0
          refine skip_ (w1 := ?_) (by rfl) rfl ?_ ?_
          rotate_left
          · go_simp
            rfl
          refine hK.out _ _ ⟨(.slice A8 rows.length c8), g10, g4, g5, m3_, m4_, m5_, (by rw [ha.out]; exact putSel_none (v := undef) rfl), ⟨below_set FB.out.1 F4.out.2, by simp [World.setCell]; exact FB.out.2.1, by simp [World.setCell]; exact FB.out.2.2⟩, fun _ => Kd.R_set FR.out F4.out.1 (by decide) 0 _, fun h0_ => ⟨blk_far (Q_FS h0_).1 (blk_ne (Q_FS h0_).1 F4.out.1 (by decide)) _, (Q_FS h0_).2⟩, fun _ h1_ => absurd ((up_self b 6).symm.trans h1_) (by decide), fun _ => ⟨blk_set F4.out.1 0 _, F4.out.2⟩, fun _ _ => ⟨blk_far F5.out.1 (blk_ne F5.out.1 F4.out.1 (by decide)) _, F5.out.2⟩, fun h0_ => absurd ((hoff 7 (by kernel_rfl)).symm.trans h0_) (by decide), Q_X3_, Q_X4_, Q_X5_⟩
        refine steps_cons ?_ ?_
        · rintro b a w' ⟨v8, g10, g4, g5, m3_, m4_, m5_, ha, Q_FB, Q_FR, Q_FS, Q_F4, Q_G4, Q_F5, Q_G5, Q_X3_, Q_X4_, Q_X5_⟩ hb_ hon hoff
          refine ⟨_, rfl, fun K hK => ?_⟩
          have e5 : a.tmps[5]? = some (m5_) := by rw [ha]; exact putSel_on (e := (5, 5, m5_)) 5 rfl rfl (hon 5 (by kernel_rfl)) rfl
          rw [Q_X5_ (hon 5 (by kernel_rfl))] at e5
          have e10 : a.tmps[10]? = some (m3_) := by rw [ha]; exact putSel_on (e := (3, 10, m3_)) 3 rfl rfl (hon 3 (by kernel_rfl)) rfl
          rw [Q_X3_ (hon 3 (by kernel_rfl))] at e10
          replace ha := am_ ha
          have FB := am_ Q_FB
          have FR := am_ (Q_FR (hon 1 (by kernel_rfl)))
          have FS := am_ (Q_FS (hon 3 (by kernel_rfl)))
          have G4 := am_ (Q_G4 (hon 6 (by kernel_rfl)))
          have F5 := am_ (Q_F5 (hon 5 (by kernel_rfl)) hb_)
          have hc_ : w'.cell? ⟨g5, 0, none⟩ = some (.slice none 0 0) := (blk_cell F5.out.1 0).trans rfl
          have hf_ := blk_frozen F5.out.1 0
          refine skip_ (w1 := ?_) (by rfl) rfl ?_ ?_
          rotate_left
          · go_simp
            rfl
          refine hK.out _ _ ⟨v8, g10, g4, g5, m3_, m4_, m5_, (by rw [ha.out]; exact putSel_none (v := undef) rfl), ⟨below_set FB.out.1 F5.out.2, by simp [World.setCell]; exact FB.out.2.1, by simp [World.setCell]; exact FB.out.2.2⟩, fun _ => Kd.R_far (p := ⟨g5, 0, none⟩) FR.out (fun _ hk => hk.2) _, fun _ => ⟨blk_far FS.out.1 (blk_ne FS.out.1 F5.out.1 (by decide)) _, FS.out.2⟩, fun _ h1_ => absurd ((hon 6 (by kernel_rfl)).symm.trans h1_) (by decide), fun _ => ⟨blk_far G4.out.1 (blk_ne G4.out.1 F5.out.1 (by decide)) _, G4.out.2⟩, fun _ h1_ => absurd ((up_self b 7).symm.trans h1_) (by decide), fun _ => ⟨blk_set F5.out.1 0 _, F5.out.2⟩, Q_X3_, Q_X4_, Q_X5_⟩
        exact steps_nil
      · rintro b a w' hall ⟨v8, g10, g4, g5, m3_, m4_, m5_, ha, Q_FB, Q_FR, Q_FS, Q_F4, Q_G4, Q_F5, Q_G5, Q_X3_, Q_X4_, Q_X5_⟩
        clear FB
        have hb0_ := hall 0 (by kernel_rfl)
        have hb1_ := hall 1 (by kernel_rfl)
        have hb2_ := hall 2 (by kernel_rfl)
        have hb3_ := hall 3 (by kernel_rfl)
        have hb4_ := hall 4 (by kernel_rfl)
        have hb5_ := hall 5 (by kernel_rfl)
        have hb6_ := hall 6 (by kernel_rfl)
        have hb7_ := hall 7 (by kernel_rfl)
        subst ha
        obtain rfl := Q_X3_ hb3_
        obtain rfl := Q_X4_ hb4_
        obtain rfl := Q_X5_ hb5_
        simp only [putSel, hb0_, hb1_, hb2_, hb3_, hb4_, hb5_, hb6_, hb7_, if_true, Act.put, List.setIfInBounds_toArray, List.set_cons_zero, List.set_cons_succ]
        have FB := am_ Q_FB
        clear Q_FB
        have FR := am_ (Q_FR hb1_)
        clear Q_FR
        have FS := am_ (Q_FS hb3_)
        clear Q_FS
        clear Q_F4
        have G4 := am_ (Q_G4 hb6_)
        clear Q_G4
        clear Q_F5
        have G5 := am_ (Q_G5 hb7_)
        clear Q_G5
        clear hall hb0_ hb1_ hb2_ hb3_ hb4_ hb5_ hb6_ hb7_
        have n45 := blk_ne G4.out.1 G5.out.1 (by decide)
        have HSZ := below_size FB.out.1
        have hn1 := blk_lt HB1.out
        have hn2 := blk_lt HB2.out
        have HW1 := am_ (blk_below HB1.out FB.out.1)
        have HW2 := am_ (blk_below HB2.out FB.out.1)
        obtain ⟨A8, c8, q8⟩ := Kd.R_slice FR.out
        subst q8
        go_wp2_with fail
        have HWW := am_ (below_size HBW.out)
        have HBL := am_ (below_alloc (below_step HBW.out FB.out.1) (Obj.cells #[.func (.func 92) #[] #[.pointer (some ⟨B1, 0, none⟩), .pointer (some ⟨B2, 0, none⟩), .pointer (some ⟨g4, 0, none⟩), .pointer (some ⟨g5, 0, none⟩), .pointer (some ⟨w'.heap.size, 0, none⟩)]] 34))
        have HNS := am_ (fun (k : Nat) (hk : S k) => (HFS.out.bd _ _ _ HI.out k hk : k < w.heap.size))
        have hno : ∀ k, w.heap.size ≤ k → ¬ S k := fun k h1 h2 => by have := HNS.out k h2; omega
        refine (impl_eachSigns_1.calls p Inv a0 HA0.out HA1.out ge be HFS.out A8 c8 rows B1 B2 g4 g5 w'.heap.size 34 34 g10 k (List.replicate a0.toNat 0) [] none 0 s q.1 q.2 S _ ⟨?b1, ?b2, ?b3, ?b4, ?b5, ?bs, ?vr, ?s1, ?s2, ?s3, ?s4, ?s5, ?ss, ?n1, by decide, by decide, ?sz⟩ ?hI (Kd.V_nil _ _ _ _ _) HQ.out).mono ?_
        case b1 => exact blk_alloc HW1.out _
        case b2 => exact blk_alloc HW2.out _
        case b3 => exact blk_alloc G4.out.1 _
        case b4 => rw [List.length_replicate]; exact blk_alloc G5.out.1 _
        case b5 => exact blk_new _ _
        case bs => exact blk_alloc FS.out.1 _
        case vr => exact Kd.R_V (Kd.R_alloc (Kd.R_mono (Kd.R_bound FR.out) (fun k hk => ⟨hno k (Nat.le_trans HWW.out hk.2.1), hk.1.1⟩)) _)
        case s1 => exact hno _ (by have := EB1.out; omega)
        case s2 => exact hno _ (by have := EB1.out; have := EB2.out; omega)
        case s3 => exact hno _ (Nat.le_trans HWW.out G4.out.2)
        case s4 => exact hno _ (Nat.le_trans HWW.out G5.out.2)
        case s5 => exact hno _ (Nat.le_trans HWW.out HSZ)
        case ss => exact hno _ (Nat.le_trans HWW.out FS.out.2)
        case n1 => have := FS.out.2; omega
        case sz => rw [List.length_replicate]; have := HA0.out; have := HA1.out; omega
        case hI => exact HFS.out.st _ _ _ _ HI.out (HBL.out.mono (Nat.zero_le _)) (fun k hk => HBL.out.block k (HNS.out k hk))
        rintro e w3 ⟨rfl, S', h1, h2, h3⟩
        have H1 := am_ h1
        have H2 := am_ h2
        have H3 := am_ h3
        clear h1 h2 h3
        go_wp2
        first | go_end0 | ((try simp only [Exit.inBlock, Exit.then]); refine bodyPost_ret (results_none rfl _ _ _) rfl ?_)
        exact ⟨rfl, S', H1.out, (Kp.of_below HBL.out S).then_ H2.out (fun k h => .inl h), fun k h => (H3.out k h).elim .inl (fun h => .inr (Nat.le_trans (below_size HBL.out) h))⟩
    · rw [if_neg c2] at h
      exact absurd h (by simp)
  · rw [if_neg c1] at h
    exact absurd h (by simp)

/-! ### impl_copyTable: function 73 -/
def impl_copyTable.l0 : Nat → Tb_ → Tb_ → Int → Int → Option (Tb_)
 | 0, _, _, _, _ => none
 | k + 1, x3, x7, x8, x9 => if x9 < x8 then (if 0 ≤ x9 then (if x9 < (x7.length : Int) then ((slices_Clone_int_int.f (rd_L3 x7 x9)).bind fun t105 => (if x3.length < 5864062014805 then (impl_copyTable.l0 k (x3 ++ [t105]) x7 x8 (wrap64 (x9 + 1))) else (none))) else (none)) else (none)) else (some x3)
def impl_copyTable.f (k : Nat) (l0 : Tb_) : Option (Tb_) := impl_copyTable.l0 k (([] : Tb_)) l0 (l0.length : Int) 0
theorem impl_copyTable.calls (k : Nat) (A0 : Option Addr) (c0 : Nat) (l0 : Tb_) (r : Tb_) (w : World) (hr0 : Kd.C (Kd.slice 3 (Kd.int .i64)) w A0 l0.length l0) (hc0 : l0.length ≤ c0) (h : impl_copyTable.f k l0 = some r) :
  Calls Tryz.prog 73 #[.slice A0 l0.length c0] w fun e w' => ∃ v0_ : Value, e = .returned (v0_) ∧ Kd.S (Kd.slice 3 (Kd.int .i64)) 44 w' w.heap.size (fun _ => True) v0_ r ∧ Below w.heap.size w w' := by
 have HR0 := am_ hr0; have HC0 := am_ hc0; clear hr0 hc0; have HB := am_ (Below.refl w.heap.size w); unfold impl_copyTable.f at h; have H := h; clear h; obtain ⟨y101, hy101⟩ : ∃ y_ : Tb_, y_ = (([] : Tb_)) := ⟨_, rfl⟩; replace H : (impl_copyTable.l0 k y101 l0 (l0.length : Int) 0) = some r := tc24_; have Ny101 := am_ hy101; clear hy101; have H' := am_ H; clear H; go_enter Tryz.func73, Tryz.ntmps73
 go_wp2_with (first | ((with_reducible refine gate_dst (N := 6) rfl ?_); refine Kd.S_lit (Kd.slice 3 (Kd.int .i64)) _ 44 ?hg (N := 6) ?hd (xs := ([] : Tb_)) (inner := []) (ok := fun _ => True) (okp := fun _ => True) ?hr ?hp (fun _ hk => hk) trivial (Below.refl _ _) (Nat.le_refl _) (by simp) ?_; (case hd => rfl); (case hg => rfl); (case hr => exact tc27_); (case hp => exact (Reps.none _ _)); intro v102 w2 ho3 hb hg_ hnew_; clear hg_ hnew_; (first | rw [← Ny101.out] at ho3 | (simp only [Int.reduceToNat] at ho3; rw [← Ny101.out] at ho3)); have HO103 := am_ (Kd.S_lower ho3 (below_size tc0_)); replace HB := am_ (below_step tc0_ hb); clear hb ho3))
 go_loopg [3, 9] k (fun kq v3 v9 w' => ∃ (x3_1 : Tb_) (x9_1 : Int), v9 = .int .i64 x9_1 ∧ Aside0 (impl_copyTable.l0 kq x3_1 l0 (l0.length : Int) x9_1 = some r) ∧ Aside0 (kq ≤ k) ∧ Aside0 (Kd.S (Kd.slice 3 (Kd.int .i64)) 44 w' w.heap.size (fun _ => True) v3 x3_1) ∧ Aside0 (Below w.heap.size w w'))
 case atStart => exact ⟨(y101), (0), tc6_, H', ⟨Nat.le_refl _⟩, ⟨tc22_⟩, ⟨tc0_⟩⟩
 case round =>
  clear H'; (try clear p2); obtain ⟨x3_1, x9_1, rfl, HA, HK1, HO_3, HB⟩ := hrel
  cases gk with
  | zero => exact absurd HA.out (by simp [impl_copyTable.l0])
  | succ k1 =>
   have H := HA.out; clear HA; simp only [impl_copyTable.l0] at H
   replace H := sp_ H; obtain ⟨c4b0, H⟩ | ⟨c4b0, H⟩ := H
   ·replace H := ps_ H; obtain ⟨c5b0, H⟩ := H; replace H := ps_ H; obtain ⟨c6b0, H⟩ := H; replace H := bd_ H; obtain ⟨t105, A7, H⟩ := H; (try dsimp only at H); replace H := pp_ H; obtain ⟨c8, H⟩ := H; have LMc8 := am_ c8; clear c8; obtain ⟨y108, hy108⟩ : ∃ y_ : Tb_, y_ = (x3_1 ++ [t105]) := ⟨_, rfl⟩; replace H : (impl_copyTable.l0 k1 y108 l0 (l0.length : Int) (wrap64 (x9_1 + 1))) = some r := tc62_; have Ny108 := am_ hy108; clear hy108; have H' := am_ H; clear H; have p104 : 0 ≤ (x9_1 : Int) := od_; have q104 : x9_1 < (l0.length : Int) := od_; obtain ⟨ad104, A104_0, c104_0, e104, hx104_0, hl104_0, hi104_0⟩ := at_L3 HR0.out x9_1 p104 q104; cases e104; replace hx104_0 := (HB.out.cell (World.block_lt_of_cell? w _ hx104_0)).trans hx104_0; have HR104_0 := am_ hi104_0; have HC104_0 := am_ hl104_0; clear hi104_0 hl104_0; replace p104 := eq_true p104; replace q104 := eq_true q104
    go_wp2_with (first | (refine gc_ (some 15) Tryz.func94 #[.slice A104_0 (rd_L3 l0 x9_1).length c104_0] ?_; (with_reducible refine (slices_Clone_int_int.calls _ _ (rd_L3 l0 x9_1) t105 _ ?side1 ?side2 A7.out).mono ?_); (case side1 => repeat (first | exact (Kd.C_below HR104_0.out HB.out) | (with_reducible refine Kd.C_alloc ?_ _) | (with_reducible refine Kd.C_drewN ?_ _) | (with_reducible refine Kd.C_drew ?_))); (case side2 => exact HC104_0.out); rintro e w9 ⟨v106, rfl, ho0, hb⟩; refine ⟨_, rfl, ?_⟩; replace HO_3 := am_ (Kd.S_elder' tc35_ (Kd.R_base ho0) hb); have HO107 := am_ (Kd.R_lower ho0 (below_size tc0_)); replace HB := am_ (below_step tc0_ hb); (try clear hb ho0); obtain ⟨Ao11, co11, eo11⟩ := Kd.R_slice HO107.out; subst eo11) | ((with_reducible refine gate_builtin (b := .append) (xs := #[.tmp 13, .tmp 16]) rfl ?_); at_builtin; refine Kd.S_append (Kd.slice 3 (Kd.int .i64)) (w0 := w) w.heap.size rfl (.tmp 13) (.tmp 16) 24 44 (.slice none 0 0) 24 rfl Tryz.underlying24 info44 rfl (by decide) (by omega) u3 x3_1 t105 [.slice Ao11 t105.length co11] (fun _ => True) (fun k_ => some k_ = (.slice Ao11 t105.length co11 : Value).ownBlock) rfl rfl ?aP (fun k_ hk_ => ((Kd.R_mono (ok' := fun k_ => ((fun _ => True)) k_ ∧ some k_ ≠ (u3 : Value).ownBlock) (Kd.R_apart' (HO107.out) (Kd.S_typed HO_3.out) (by decide)) (fun k_ hk => ⟨trivial, hk.2⟩))).1 k_ hk_.symm) ?aF ?aO ?aB ?aS ?aL ?_; (case aP => exact Kd.M_row (Kd.R_mono (Kd.R_tight rfl (Kd.R_mono (ok' := fun k_ => ((fun _ => True)) k_ ∧ some k_ ≠ (u3 : Value).ownBlock) (Kd.R_apart' (HO107.out) (Kd.S_typed HO_3.out) (by decide)) (fun k_ hk => ⟨trivial, hk.2⟩))) (fun _ h_ => h_))); (case aB => exact tc10_); (case aF => exact tc151_); (case aO => exact tc175_); (case aS => exact tc11_); (case aL => have := LMc8.out; omega); intro v109 w10 ho hb hg hat; rw [← Ny108.out] at ho; replace HB := am_ (hb); have HO110 := am_ (ho); clear HO_3 HO107; clear ho hb hg hat))
    go_roundg k1
    case measure => have := HK1.out; omega
    case rel => exact ⟨(y108), (wrap64 (x9_1 + 1)), tc6_, H', ⟨tc135_⟩, ⟨tc74_⟩, ⟨tc0_⟩⟩
   ·obtain rfl := Option.some.inj H; go_wp2
    go_ret
    exact ⟨_, tc7_, tc35_, tc0_⟩

/-! ### impl_allSigns_1: function 72 (by hand) -/
def impl_allSigns_1.step (k : Nat) (p : Tb_ → Option Bool) (out : List Tb_) (m : Tb_) : Option (List Tb_ × Bool) :=
  (p m).bind fun b => if b = true then ((impl_copyTable.f k m).bind fun m' => if out.length < 1000000 then some (out ++ [m'], true) else none) else some (out, true)
theorem impl_allSigns_1.calls (k : Nat) (A0 : Option Addr) (c0 : Nat) (l0 : Tb_) (B1 B2 T1 : Nat) (hT1 : T1 ≠ 56 ∧ T1 ≠ 24) (g : Nat) (b : Array Value) (p : Tb_ → Option Bool) (u : Value) (out out' : List Tb_) (r : Bool) (base : Nat) (okS : Nat → Prop) (w : World) (hbase : base ≤ w.heap.size)
    (hr0 : Kd.C (Kd.slice 3 (Kd.int .i64)) w A0 l0.length l0) (hc0 : l0.length ≤ c0) (hb1 : w.heap[B1]? = some (.cells #[.func (.func g) #[] b] T1 (0, 0))) (hb2 : w.heap[B2]? = some (.cells #[u] 56 (0, 0)))
    (ho : Kd.S (sliceS 44 (Kd.slice 3 (Kd.int .i64))) 24 w base okS u out) (hf : Fn1 (Kd.slice 44 (Kd.slice 3 (Kd.int .i64))) Value.bool Tryz.prog g b p w) (h : impl_allSigns_1.step k p out l0 = some (out', r)) :
    Calls Tryz.prog 72 #[.slice A0 l0.length c0, .pointer (some ⟨B1, 0, none⟩), .pointer (some ⟨B2, 0, none⟩)] w fun e w' => e = .returned (.bool r) ∧ ∃ u', w'.heap[B1]? = some (.cells #[.func (.func g) #[] b] T1 (0, 0)) ∧ w'.heap[B2]? = some (.cells #[u'] 56 (0, 0)) ∧ Kd.S (sliceS 44 (Kd.slice 3 (Kd.int .i64))) 24 w' base (fun k_ => okS k_ ∨ w.heap.size ≤ k_) u' out' ∧ Kp w w' (fun k_ => k_ = B2 ∨ okS k_) := by
  obtain ⟨acc, hacc, h⟩ := Option.bind_eq_some_iff.mp h
  have HR := am_ hr0
  have HC := am_ hc0
  have H1 := am_ hb1
  have H2 := am_ hb2
  have HO := am_ ho
  have HF := am_ hf.cl
  have eg := hf.eg
  have HA := am_ hacc
  have HBS := am_ hbase
  have n12 := blk_ne hb1 hb2 hT1.1
  have HS := am_ (show ∀ k_, u.ownBlock = some k_ → okS k_ from (Kd.S_R ho).1)
  clear hr0 hc0 hb1 hb2 ho hf hacc hbase
  have hcB1 : w.cell? ⟨B1, 0, none⟩ = some (.func (.func g) #[] b) := (blk_cell H1.out 0).trans rfl
  cases acc with
  | false =>
    rw [if_neg (by simp)] at h
    obtain ⟨rfl, rfl⟩ := Prod.mk.inj (Option.some.inj h)
    clear h
    go_enter Tryz.func72, Tryz.ntmps72
    go_wp2_with fail
    refine (HF.out w (Below.refl _ _) l0 _ (K_slice HC.out HR.out) false HA.out).mono ?_
    rintro e w6 ⟨rfl, hb⟩
    have HB := am_ hb
    clear hb
    go_wp2
    go_ret
    exact ⟨rfl, u, blk_below H1.out HB.out, blk_below H2.out HB.out, Kd.S_mono (Kd.S_below HO.out HB.out) (fun _ hk => .inl hk), Kp.of_below HB.out _⟩
  | true =>
    rw [if_pos rfl] at h
    obtain ⟨m', hm', h⟩ := Option.bind_eq_some_iff.mp h
    by_cases c1 : out.length < 1000000
    case neg => rw [if_neg c1] at h; cases h
    rw [if_pos c1] at h
    obtain ⟨rfl, rfl⟩ := Prod.mk.inj (Option.some.inj h)
    have HM := am_ hm'
    have HL := am_ c1
    clear h hm' c1
    go_enter Tryz.func72, Tryz.ntmps72
    go_wp2_with fail
    refine (HF.out w (Below.refl _ _) l0 _ (K_slice HC.out HR.out) true HA.out).mono ?_
    rintro e w6 ⟨rfl, hb⟩
    have HB := am_ (below_step hb (below_drew (Below.refl _ _)))
    clear hb
    go_wp2_with fail
    refine start_ (n := 6) (S := fun w' => w'.cell? ⟨B2, 0, none⟩ = some u) (ds := [5]) #[F_, F_, F_, F_, F_, F_] (by kernel_rfl) rfl rfl (cell_of_below HB.out ((blk_cell H2.out 0).trans rfl)) (fun hHeld => ?_)
    generalize hW_ : w6.drew = W at HB hHeld ⊢
    clear hW_
    have hcB2 : w.cell? ⟨B2, 0, none⟩ = some u := (blk_cell H2.out 0).trans rfl
    refine pure_ (i := 1) (N := some 9) #[F_, T_, F_, F_, F_, F_] rfl rfl ak_ hq_ yi_ nm_ ?_
    refine take_ (i := 0) (N := some 8) #[T_, T_, F_, F_, F_, F_] rfl rfl ak_ hq_ yj1_ hHeld nm_ ?_
    refine one_ (i := 2) (N := some 10) #[T_, T_, T_, F_, F_, F_] rfl rfl (by kernel_rfl) (by decide) (fun K hK => ?_)
    refine goes_ Tryz.func73 (by kernel_rfl) rfl #[.slice A0 l0.length c0] (by rfl) rfl rfl tc43_ ?_
    refine (impl_copyTable.calls k A0 c0 l0 m' W (Kd.C_below HR.out HB.out) HC.out HM.out).mono ?_
    rintro e w7 ⟨v10, rfl, ho7, hb7⟩
    refine ⟨_, rfl, ?_⟩
    have HB7 := am_ (below_step HB.out hb7)
    have HM7 := am_ (Kd.S_lower (Kd.S_mono (Kd.S_bound ho7) (fun k_ hk => hk.2.1)) (Nat.le_trans HBS.out (below_size HB.out)))
    have HO7 := am_ (Kd.S_below (Kd.S_mono (Kd.S_bound HO.out) (fun k_ hk => And.intro hk.1 hk.2.2.1)) HB7.out)
    have HZ := am_ (below_size HB.out)
    clear ho7 hb7
    obtain ⟨A10, c10, e10⟩ := Kd.S_slice HM7.out
    subst e10
    refine hK.out _ _ (cell_of_below HB7.out hcB2) (fun hHeld => ?_)
    clear hK K
    refine norm_ (a' := ?_) ?_ ?_
    rotate_left
    · show Act.put _ (some 10) _ = _
      simp only [Act.put, List.setIfInBounds_toArray, List.set_cons_zero, List.set_cons_succ, i64_w, i32_w]
      rfl
    refine one_ (i := 3) (N := some 11) #[T_, T_, T_, T_, F_, F_] rfl rfl (by kernel_rfl) (by decide) (fun K hK => ?_)
    refine value_ (w1 := ?_) (v := ?_) (by rfl) rfl ?_ ?_
    rotate_left 2
    · go_simp
      constructor
      · rfl
      · rfl
    refine hK.out _ _ (cell_of_below (below_alloc HB7.out _) hcB2) (fun hHeld => ?_)
    clear hK K
    refine norm_ (a' := ?_) ?_ ?_
    rotate_left
    · show Act.put _ (some 11) _ = _
      simp only [Act.put, List.setIfInBounds_toArray, List.set_cons_zero, List.set_cons_succ, i64_w, i32_w]
      rfl
    refine one_ (i := 4) (N := some 12) #[T_, T_, T_, T_, T_, F_] rfl rfl (by kernel_rfl) (by decide) (fun K hK => ?_)
    refine Kd.S_append_step (sliceS 44 (Kd.slice 3 (Kd.int .i64))) (w0 := w7) base (by rfl) (.tmp 8) (.tmp 11) 56 24 (.slice none 0 0) 24 rfl Tryz.underlying56 info24 rfl (by decide) (by omega) u out m' [.slice A10 m'.length c10] (fun k_ => okS k_ ∨ w.heap.size ≤ k_) (fun k_ => W.heap.size ≤ k_) rfl rfl ⟨_, rfl, HM7.out⟩ (fun k_ hk => ⟨.inr (Nat.le_trans HZ.out hk), fun e => by have := Kd.S_lt HO.out k_ e.symm; have := HZ.out; omega⟩) (fun k_ hk => .inr (Nat.le_trans (below_size HB7.out) hk)) (Kd.S_mono HO7.out (fun k_ hk => ⟨.inl hk.1, fun h9 => by have := hk.2; have := HZ.out; omega⟩)) (Below.refl _ _) (Nat.le_trans HBS.out (below_size HB7.out)) (by have := HL.out; omega) ?_
    intro v12 w9 ho9 hb9 hg9 hat9
    have HO9 := am_ ho9
    obtain ⟨A12, c12, e12⟩ := Kd.S_slice HO9.out
    subst e12
    have HB19 := am_ (blk_grown (blk_below H1.out HB7.out) hg9 (Kd.S_ne HO.out H1.out (Ne.symm hT1.2)))
    have HB29 := am_ (blk_grown (blk_below H2.out HB7.out) hg9 (Kd.S_ne HO.out H2.out (by decide)))
    have HK9 := am_ ((Kp.of_below HB7.out (fun k_ => k_ = B2 ∨ okS k_)).then_ (S2 := fun k_ => k_ = B2 ∨ okS k_) ⟨Kept.of_grown hg9 (Kept.refl _ _) (fun k_ hk => .inl (.inr (HS.out k_ hk))), hb9.mono (Nat.zero_le _)⟩ (fun _ hk => .inl hk))
    clear ho9 hb9 hg9 hat9
    refine hK.out _ _ ((blk_cell HB29.out 0).trans rfl) (fun hHeld => ?_)
    clear hK K
    refine norm_ (a' := ?_) ?_ ?_
    rotate_left
    · show Act.put _ (some 12) _ = _
      simp only [Act.put, List.setIfInBounds_toArray, List.set_cons_zero, List.set_cons_succ, i64_w, i32_w]
      rfl
    refine last_ (i := 5) (N := none) #[T_, T_, T_, T_, T_, T_] rfl rfl (by kernel_rfl) (by decide) (fun K hK => ?_)
    have hs9 : w9.cell? ⟨B2, 0, none⟩ = some u := (blk_cell HB29.out 0).trans rfl
    have hf9 := blk_frozen HB29.out 0
    refine skip_ (w1 := ?_) (by rfl) rfl ?_ ?_
    rotate_left
    · go_simp
      rfl
    refine hK.out _ _ ?_
    clear hK K
    refine done_ (by kernel_rfl) ?_
    go_wp2
    go_ret
    have ho9 := HO9.out
    rw [show (out ++ [m']).length = out.length + 1 by simp] at ho9
    exact ⟨rfl, _, blk_far HB19.out n12 _, blk_set HB29.out 0 _, Kd.S_set ho9 HB29.out (by decide) 0 _, HK9.out.setCell (.inl (.inl rfl)) _⟩

/-! ### impl_allSigns: function 44 (by hand) -/
def impl_allSigns.f (k : Nat) (a0 : Int) (a1 : Tb_ → Option Bool) : Option (List Tb_) := impl_eachSigns.f k a0 (impl_allSigns_1.step k a1) []
def impl_allSigns.Inv (w : World) (B1 B2 g : Nat) (b : Array Value) (out : List Tb_) (W : World) (S : Nat → Prop) : Prop :=
  ∃ (u : Value) (okS : Nat → Prop), Below w.heap.size w W ∧ W.heap[B1]? = some (.cells #[.func (.func g) #[] b] 34 (0, 0)) ∧ W.heap[B2]? = some (.cells #[u] 56 (0, 0)) ∧ Kd.S (sliceS 44 (Kd.slice 3 (Kd.int .i64))) 24 W w.heap.size okS u out ∧ (∀ k, okS k → w.heap.size ≤ k ∧ k < W.heap.size) ∧ S = fun k => k < w.heap.size ∨ k = B1 ∨ k = B2 ∨ okS k
theorem impl_allSigns.fns (k : Nat) {w : World} {B1 B2 g : Nat} {b : Array Value} {p : Tb_ → Option Bool} (h2 : w.heap.size ≤ B2) (hf : Fn1 (Kd.slice 44 (Kd.slice 3 (Kd.int .i64))) Value.bool Tryz.prog g b p w) :
    FnS (Kd.slice 44 (Kd.slice 3 (Kd.int .i64))) Value.bool Tryz.prog 72 #[.pointer (some ⟨B1, 0, none⟩), .pointer (some ⟨B2, 0, none⟩)] (impl_allSigns_1.step k p) (impl_allSigns.Inv w B1 B2 g b) where
  eg := enters_of Tryz.func72 (by kernel_rfl) rfl
  bd := by
    rintro s W S ⟨u, okS, hb, b1, b2, ho, hk, rfl⟩ k hk1
    rcases hk1 with hk1 | rfl | rfl | hk1
    · exact Nat.lt_of_lt_of_le hk1 hb.size
    · exact blk_lt b1
    · exact blk_lt b2
    · exact (hk k hk1).2
  st := by
    rintro s W S W' ⟨u, okS, hb, b1, b2, ho, hk, rfl⟩ h0 hs
    exact ⟨u, okS, ⟨h0.os.trans hb.os, h0.tape.trans hb.tape, h0.output.trans hb.output, Nat.le_trans hb.size h0.size, fun k hk => (hs k (.inl hk)).trans (hb.block k hk)⟩, (hs _ (.inr (.inl rfl))).trans b1, (hs _ (.inr (.inr (.inl rfl)))).trans b2, Kd.S_move ho (fun k hk => hs k (.inr (.inr (.inr hk)))), fun k h => ⟨(hk k h).1, Nat.lt_of_lt_of_le (hk k h).2 h0.size⟩, rfl⟩
  cl := by
    rintro s W S ⟨u, okS, hb, b1, b2, ho, hk, rfl⟩ x v hv s' r hp
    obtain ⟨A0, c0, e0, hc0, hr0⟩ := hv
    obtain rfl : v = .slice A0 x.length c0 := by simpa using e0
    refine (impl_allSigns_1.calls k A0 c0 x B1 B2 _ (by decide) g b p u s s' r w.heap.size okS W hb.size hr0 hc0 b1 b2 ho (hf.later hb) hp).mono ?_
    rintro e W' ⟨rfl, u', q1, q2, q3, q4⟩
    refine ⟨rfl, fun k => k < w.heap.size ∨ k = B1 ∨ k = B2 ∨ ((okS k ∨ W.heap.size ≤ k) ∧ w.heap.size ≤ k ∧ k < W'.heap.size), ⟨u', _, ?_, q1, q2, Kd.S_mono (Kd.S_bound q3) (fun k h => ⟨h.1, h.2.1, h.2.2.1⟩), fun k h => h.2, rfl⟩, q4.mono (fun k h => h.elim (fun h => .inr (.inr (.inl h))) (fun h => .inr (.inr (.inr h)))), fun k h => ?_⟩
    · exact hb.trans (q4.to_below hb.size (fun k h => h.elim (fun h => h ▸ h2) (fun h => (hk k h).1)))
    · rcases h with h | h | h | ⟨h | h, _⟩
      · exact .inl (.inl h)
      · exact .inl (.inr (.inl h))
      · exact .inl (.inr (.inr (.inl h)))
      · exact .inl (.inr (.inr (.inr h)))
      · exact .inr h
theorem impl_allSigns.calls (k : Nat) (a0 : Int) (g1 : Nat) (b1 : Array Value) (a1 : Tb_ → Option Bool) (r : List Tb_) (w : World) (hf1 : Fn1 (Kd.slice 44 (Kd.slice 3 (Kd.int .i64))) Value.bool Tryz.prog g1 b1 a1 w) (h : impl_allSigns.f k a0 a1 = some r) :
    Calls Tryz.prog 44 #[.int .i64 a0, .func (.func g1) #[] b1] w fun e w' => ∃ v0_ : Value, e = .returned v0_ ∧ Kd.S (sliceS 44 (Kd.slice 3 (Kd.int .i64))) 24 w' w.heap.size (fun _ => True) v0_ r ∧ Below w.heap.size w w' := by
  have HF := am_ (impl_allSigns.fns k (w := w) (B1 := w.heap.size) (B2 := w.heap.size + 1 + 1) (by omega) hf1)
  have HO := am_ h
  clear h hf1
  go_enter Tryz.func44, Tryz.ntmps44
  go_wp2_with fail
  refine (impl_eachSigns.calls k a0 _ _ _ _ HF.out [] r _ _ ⟨.slice (some ⟨w.heap.size + 1, 0, none⟩) 0 0, fun k => k = w.heap.size + 1, below_alloc (below_alloc (below_alloc (Below.refl _ _) _) _) _, blk_alloc (blk_alloc (blk_new _ _) _) _, blk_new' (by simp), ⟨fun _ => 0, R_empty (blk_alloc (blk_new' (by simp)) _) (by omega) rfl⟩, fun k hk => ⟨by omega, by simp; omega⟩, rfl⟩ HO.out).mono ?_
  rintro e w3 ⟨rfl, S', ⟨u, okS, h1, h2, h3, h4, h5, h6⟩, _, _⟩
  have H1 := am_ h1
  have H4 := am_ h4
  obtain ⟨A3, c3, e3⟩ := Kd.S_slice h4
  subst e3
  have hc1 : w3.cell? ⟨w.heap.size + 1 + 1, 0, none⟩ = some (.slice A3 r.length c3) := (blk_cell h3 0).trans rfl
  clear h1 h2 h3 h4 h5 h6
  go_wp2
  go_ret
  exact ⟨_, rfl, Kd.S_mono H4.out (fun _ _ => trivial), H1.out⟩

end Go.Proofs.YtgpmlfggfhkifaaGreat.X
