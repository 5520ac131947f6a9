-- Written by a program of this session (wip/xprint.py) that drives the kit's print; the contracts of what it does not take are this session's own.
import Derived.Test.YtkbehdgneojdbaaCFnSymmetricCountedx0
import Derived.Test.YtkbehdgneojdbaaCFnSymmetricCountedx1
namespace Go.Proofs.Ytkbehdgneojdbaa.X
open Go.RowKit Go.Proofs.YtkbehdgneojdbaaW.PrintWords Go.Proofs.YtkbehdgneojdbaaW.PrintLast Go.Proofs.YtkbehdgneojdbaaW.PrintMore
attribute [local go_sem] max2_int min2_int max_two min_two max_three min_three max_four min_four   -- for this text's walks alone
set_option linter.unusedVariables false
set_option linter.unusedSimpArgs false

/-! ### impl_turned_1: function 201 -/
def impl_turned_1.f (a0 : Int) (a1 : Int) (l2_0 : List (List Int)) (a3_0 : Int) : Option (Int) := if 0 ≤ (wrap64 ((wrap64 (a3_0 - 1)) - a1)) then (if (wrap64 ((wrap64 (a3_0 - 1)) - a1)) < (l2_0.length : Int) then (if 0 ≤ a0 then (if a0 < ((rd_L3 l2_0 (wrap64 ((wrap64 (a3_0 - 1)) - a1))).length : Int) then (some (rd (rd_L3 l2_0 (wrap64 ((wrap64 (a3_0 - 1)) - a1))) a0)) else (none)) else (none)) else (none)) else (none)
set_option maxHeartbeats 8000000 in
set_option maxRecDepth 100000 in
theorem impl_turned_1.calls (a0 : Int) (a1 : Int) (B2 : Nat) (A2_0 : Option Addr) (c2_0 : Nat) (l2_0 : List (List Int)) (B3 : Nat) (a3_0 : Int) (r : Int) (w : World) (hb2 : w.heap[B2]? = some (.cells #[.slice A2_0 l2_0.length c2_0] 24 (0, 0))) (hr2_0 : Kd.C (Kd.slice 3 (Kd.int .i64)) w A2_0 l2_0.length l2_0) (hc2_0 : l2_0.length ≤ c2_0) (hb3 : w.heap[B3]? = some (.cells #[.int .i64 a3_0] 3 (0, 0))) (h : impl_turned_1.f a0 a1 l2_0 a3_0 = some r) :
  Calls Try.prog 201 #[.int .i64 a0, .int .i64 a1, .pointer (some ⟨B2, 0, none⟩), .pointer (some ⟨B3, 0, none⟩)] w fun e w' => e = .returned (.int .i64 r) ∧ Drawn0 w w' := by
 have HR2_0 := am_ hr2_0
 have HC2_0 := am_ hc2_0
 clear hr2_0 hc2_0
 have BK62 := am_ hb2
 clear hb2
 have BK63 := am_ hb3
 clear hb3
 have H : (if 0 ≤ (wrap64 ((wrap64 (a3_0 - 1)) - a1)) then (if (wrap64 ((wrap64 (a3_0 - 1)) - a1)) < (l2_0.length : Int) then (if 0 ≤ a0 then (if a0 < ((rd_L3 l2_0 (wrap64 ((wrap64 (a3_0 - 1)) - a1))).length : Int) then (some (rd (rd_L3 l2_0 (wrap64 ((wrap64 (a3_0 - 1)) - a1))) a0)) else (none)) else (none)) else (none)) else (none)) = some r := h
 clear h
 obtain ⟨ji5, hji5⟩ : ∃ j_ : Int, (wrap64 ((wrap64 (a3_0 - 1)) - a1)) = j_ := ⟨_, rfl⟩
 replace H : (if 0 ≤ (ji5) then (if (ji5) < (l2_0.length : Int) then (if 0 ≤ a0 then (if a0 < ((rd_L3 l2_0 (ji5)).length : Int) then (some (rd (rd_L3 l2_0 (ji5)) a0)) else (none)) else (none)) else (none)) else (none)) = some r := by first | (rw [hji5] at H; exact H) | (simp only [hji5] at H ⊢; exact H)
 have hji5w : (IntKind.i64.wrap ((wrap64 (a3_0 - 1)) - a1)) = ji5 := (i64_w _).trans hji5
 by_cases c6 : 0 ≤ (ji5)
 ·rw [if_pos c6] at H
  have c6b0 : decide (0 ≤ (ji5)) = true := decide_eq_true c6
  clear c6
  by_cases c7 : (ji5) < (l2_0.length : Int)
  ·rw [if_pos c7] at H
   have c7b0 : decide ((ji5) < (l2_0.length : Int)) = true := decide_eq_true c7
   clear c7
   by_cases c8 : 0 ≤ a0
   ·rw [if_pos c8] at H
    have c8b0 : decide (0 ≤ a0) = true := decide_eq_true c8
    clear c8
    by_cases c9 : a0 < ((rd_L3 l2_0 (ji5)).length : Int)
    ·rw [if_pos c9] at H
     have c9b0 : decide (a0 < ((rd_L3 l2_0 (ji5)).length : Int)) = true := decide_eq_true c9
     clear c9
     obtain rfl := Option.some.inj H
     have hcz10_0 : w.cell? ⟨B2, 0, none⟩ = some (.slice A2_0 l2_0.length c2_0) := (blk_cell BK62.out 0).trans rfl
     have hfz10_0 := blk_frozen BK62.out 0
     have hcz11_0 : w.cell? ⟨B3, 0, none⟩ = some (.int .i64 a3_0) := (blk_cell BK63.out 0).trans rfl
     have hfz11_0 := blk_frozen BK63.out 0
     have p101 : 0 ≤ ((ji5) : Int) := of_decide_eq_true tc3_
     have q101 : (ji5) < (l2_0.length : Int) := of_decide_eq_true tc3_
     obtain ⟨ad101, A101_0, c101_0, e101, hx101_0, hl101_0, hi101_0⟩ := at_L3 HR2_0.out (ji5) p101 q101
     cases e101
     have HR101_0 := am_ hi101_0
     have HC101_0 := am_ hl101_0
     clear hi101_0 hl101_0
     replace p101 := eq_true p101
     replace q101 := eq_true q101
     have p102 : 0 ≤ (a0 : Int) := of_decide_eq_true tc3_
     have q102 : a0 < ((rd_L3 l2_0 (ji5)).length : Int) := of_decide_eq_true tc3_
     obtain ⟨ad102, e102, hx102_0⟩ := Kd.at_int HR101_0.out a0 p102 q102
     cases e102
     replace p102 := eq_true p102
     replace q102 := eq_true q102
     go_enter Try.func201, Try.ntmps201
     go_wp2
     go_ret
     exact ⟨by first | rfl | (simp; done) | (simp only [← hji5] <;> (first | rfl | simp)) | (simp [*]; done), by repeat (first | exact Drawn0.refl _ | apply Drawn0.step)⟩
    ·rw [if_neg c9] at H
     exact absurd H (by simp)
   ·rw [if_neg c8] at H
    exact absurd H (by simp)
  ·rw [if_neg c7] at H
   exact absurd H (by simp)
 ·rw [if_neg c6] at H
  exact absurd H (by simp)

/-! ### impl_turned: function 181 -/
def impl_turned.f (k : Nat) (l0 : List (List Int)) : Option ((List (List Int))) := (impl_table.f k (l0.length : Int) (l0.length : Int) (fun x0_ x1_ => impl_turned_1.f x0_ x1_ l0 (l0.length : Int))).bind fun t103 => (some t103)
set_option maxHeartbeats 8000000 in
set_option maxRecDepth 100000 in
theorem impl_turned.calls (k : Nat) (A0 : Option Addr) (c0 : Nat) (l0 : List (List Int)) (r : List (List Int)) (w : World) (hr0 : Kd.C (Kd.slice 3 (Kd.int .i64)) w A0 l0.length l0) (hc0 : l0.length ≤ c0) (h : impl_turned.f k l0 = some r) :
  Calls Try.prog 181 #[.slice A0 l0.length c0] w fun e w' => ∃ v0_ : Value, e = .returned (v0_) ∧ Kd.S (Kd.slice 3 (Kd.int .i64)) 35 w' w.heap.size (fun _ => True) v0_ r ∧ Below w.heap.size w w' := by
 have HR0 := am_ hr0
 have HC0 := am_ hc0
 clear hr0 hc0
 have HB := am_ (Below.refl w.heap.size w)
 have H : ((impl_table.f k (l0.length : Int) (l0.length : Int) (fun x0_ x1_ => impl_turned_1.f x0_ x1_ l0 (l0.length : Int))).bind fun t103 => (some t103)) = some r := h
 clear h
 replace H := Option.bind_eq_some_iff.mp H
 obtain ⟨t103, A20, H⟩ := H
 replace H : (some t103) = some r := H
 have A2 := am_ A20
 clear A20
 obtain rfl := Option.some.inj H
 go_enter Try.func181, Try.ntmps181
 go_wp2_with (first | ((with_reducible refine gate_dst (N := 1) rfl ?_); refine box_event ?hg (N := 1) ?hd (cs := #[.slice A0 l0.length c0]) (t := 24) ?hr ?_; (case hd => rfl); (case hg => rfl); (case hr => exact tc19_); intro gb101 hg w3 hbox hb; have n0_ := am_ (below_step tc0_ hb); have n1_ := am_ (hbox); have n2_ := am_ ((by rw [hg]; exact (below_size tc0_) : w.heap.size ≤ gb101)); have n3_ := am_ ((by rw [hg]; exact (below_size tc0_) : w.heap.size ≤ gb101)); clear HB; have HB := n0_; have BK101 := n1_; have GW101 := n2_; have GE101 := n3_; clear n0_ n1_ n2_ n3_; clear hb hbox hg; have hcz4_0 : w3.cell? ⟨gb101, 0, none⟩ = some (.slice A0 l0.length c0) := (blk_cell BK101.out 0).trans rfl; have hfz4_0 := blk_frozen BK101.out 0) | ((with_reducible refine gate_dst (N := 3) rfl ?_); refine box_event ?hg (N := 3) ?hd (cs := #[.int .i64 0]) (t := 3) ?hr ?_; (case hd => rfl); (case hg => rfl); (case hr => exact tc19_); intro gb102 hg w5 hbox hb; have n0_ := am_ (blk_below (g := gb101) (o := .cells #[.slice A0 l0.length c0] 24 (0, 0)) tc2_ hb); have n1_ := am_ (below_step tc6_ hb); have n2_ := am_ (hbox); have n3_ := am_ ((by rw [hg]; exact (below_size tc6_) : w.heap.size ≤ gb102)); have n4_ := am_ ((by rw [hg]; exact (below_size tc6_) : w.heap.size ≤ gb102)); have n5_ := am_ ((by rw [hg]; exact Nat.ne_of_lt (blk_lt (g := gb101) (o := .cells #[.slice A0 l0.length c0] 24 (0, 0)) tc2_) : gb101 ≠ gb102)); have n6_ := am_ ((by rw [hg]; exact Nat.ne_of_gt (blk_lt (g := gb101) (o := .cells #[.slice A0 l0.length c0] 24 (0, 0)) tc2_) : gb102 ≠ gb101)); clear BK101 HB; have BK101 := n0_; have HB := n1_; have BK102 := n2_; have GW102 := n3_; have GE102 := n4_; have NB101_102 := n5_; have NB102_101 := n6_; clear n0_ n1_ n2_ n3_ n4_ n5_ n6_; clear hb hbox hg; have hnb6 := NB102_101.out; have hnc6 := NB101_102.out; have hcz7_0 : w5.cell? ⟨gb102, 0, none⟩ = some (.int .i64 0) := (blk_cell BK102.out 0).trans rfl; have hfz7_0 := blk_frozen BK102.out 0) | ((with_reducible refine gate_callee (f := 72) rfl ?_); refine goesL_ (some 9) rfl rfl Try.func72 (by kernel_rfl) rfl #[.int .i64 (l0.length : Int), .int .i64 (l0.length : Int), .func (.func 201) #[] #[.pointer (some ⟨gb101, 0, none⟩), .pointer (some ⟨gb102, 0, none⟩)]] rfl tc1_ ?_; (with_reducible refine (impl_table.calls k (l0.length : Int) (l0.length : Int) _ _ (fun x0_ x1_ => impl_turned_1.f x0_ x1_ l0 (l0.length : Int)) t103 _ ?side1 A2.out).mono ?_); (case side1 => refine ⟨enters_of Try.func201 (by kernel_rfl) rfl, fun W_ hW_ x0_ v0_ hK0_ x1_ v1_ hK1_ r_ hr_ => ?_⟩; cases (show v0_ = .int .i64 x0_ from (by simpa [Kd.int, Kd.bool, Kd.string, Kd.scalar] using hK0_)); cases (show v1_ = .int .i64 x1_ from (by simpa [Kd.int, Kd.bool, Kd.string, Kd.scalar] using hK1_)); refine (impl_turned_1.calls x0_ x1_ _ A0 c0 l0 _ (l0.length : Int) r_ W_ ?cb1 ?cb2 ?cb3 ?cb4 hr_).mono ?_; (case cb1 => exact blk_below tc40_ hW_); (case cb2 => refine Kd.C_below ?_ hW_; exact Kd.C_below HR0.out tc26_); (case cb3 => exact HC0.out); (case cb4 => exact blk_below tc30_ hW_); exact fun _ _ h_ => ⟨h_.1, h_.2.below⟩); rintro e w8 ⟨v104, rfl, ho0, hb⟩; refine ⟨_, rfl, ?_⟩; have n0_ := am_ (Kd.S_lower (Kd.S_newB ho0 (g := gb102) (o := .cells #[.int .i64 (l0.length : Int)] 3 (0, 0)) tc30_) (below_size tc26_)); have n1_ := am_ (blk_below (g := gb101) (o := .cells #[.slice A0 l0.length c0] 24 (0, 0)) tc40_ hb); have n2_ := am_ (blk_below (g := gb102) (o := .cells #[.int .i64 (l0.length : Int)] 3 (0, 0)) tc30_ hb); have n3_ := am_ (below_step tc26_ hb); clear BK101 BK102 HB; have HO105 := n0_; have BK101 := n1_; have BK102 := n2_; have HB := n3_; clear n0_ n1_ n2_ n3_; (try clear hb ho0)))
 go_ret
 exact ⟨_, by first | rfl | (simp [errW_none, errW_some] <;> rfl) | (simp [*, errW_none, errW_some] <;> rfl), by (with_reducible repeat (first | apply Kd.S_alloc | apply Kd.S_drewN | apply Kd.S_drew)); exact Kd.S_mono HO105.out (fun _ hk => trivial), by repeat (first | (with_reducible first | exact HB.out | apply below_alloc | apply pw_below_drewN | apply below_drew1 | refine below_set ?_ GE101.out | refine below_set ?_ GE102.out) | exact HB.out)⟩

/-! ### impl_eight: function 128 -/
mutual
def impl_eight.l0 : Nat → List (List Int) → List (List (List Int)) → Int → Option ((List (List (List Int))))
 | 0, _, _, _ => none
 | k + 1, x0, x3, x6 => if x6 < 4 then (if x3.length < 5864062014805 then ((impl_turned.f k x0).bind fun t107 => (impl_eight.l0 k t107 (x3 ++ [x0]) (wrap64 (x6 + 1)))) else (none)) else (impl_eight.l1 k x3 0)
def impl_eight.l1 : Nat → List (List (List Int)) → Int → Option ((List (List (List Int))))
 | 0, _, _ => none
 | k + 1, x3, x15 => if x15 < 4 then (if 0 ≤ x15 then (if x15 < (x3.length : Int) then ((impl_mirrored.f k (rd_L4 x3 x15)).bind fun t111 => (if x3.length < 5864062014805 then (impl_eight.l1 k (x3 ++ [t111]) (wrap64 (x15 + 1))) else (none))) else (none)) else (none)) else (some x3)
end
def impl_eight.f (k : Nat) (l0 : List (List Int)) : Option ((List (List (List Int)))) := impl_eight.l0 k l0 (([] : List (List (List Int)))) 0
set_option maxHeartbeats 8000000 in
set_option maxRecDepth 100000 in
theorem impl_eight.calls (k : Nat) (P0_ : Nat → Prop) (A0 : Option Addr) (c0 : Nat) (l0 : List (List Int)) (r : List (List (List Int))) (w : World) (hs0 : Kd.V (Kd.slice 3 (Kd.int .i64)) 35 w w.heap.size (fun k_ => P0_ k_) (.slice A0 l0.length c0) l0) (h : impl_eight.f k l0 = some r) :
  Calls Try.prog 128 #[.slice A0 l0.length c0] w fun e w' => ∃ v0_ : Value, e = .returned (v0_) ∧ Kd.N (Kd.slice 35 (Kd.slice 3 (Kd.int .i64))) 24 w' w.heap.size (fun k_ => (P0_ k_ ∨ w.heap.size ≤ k_)) v0_ r ∧ Below w.heap.size w w' := by
 have HO0 := am_ (show Kd.V (Kd.slice 3 (Kd.int .i64)) 35 w w.heap.size (fun k_ => (P0_ k_ ∨ w.heap.size ≤ k_)) (.slice A0 l0.length c0) l0 from Kd.V_mono hs0 (fun k_ hk => .inl hk))
 have HB := am_ (Below.refl w.heap.size w)
 have H : (impl_eight.l0 k l0 (([] : List (List (List Int)))) 0) = some r := h
 clear h
 obtain ⟨y101, hy101⟩ : ∃ y_ : List (List (List Int)), y_ = (([] : List (List (List Int)))) := ⟨_, rfl⟩
 replace H : (impl_eight.l0 k l0 y101 0) = some r := by first | (rw [hy101]; with_reducible exact H) | (have H2_ := (Option.bind_some _ _).symm.trans H; rw [hy101]; with_reducible exact H2_) | (have H2_ := (Option.bind_some _ _).symm.trans H; with_reducible exact H2_) | with_reducible exact H | (rw [hy101]; exact H) | exact H
 have Ny101 := am_ hy101
 clear hy101
 have H' := am_ H
 clear H
 go_enter Try.func128, Try.ntmps128
 go_wp2_with (first | ((with_reducible refine gate_dst (N := 5) rfl ?_); refine Kd.N_lit (Kd.slice 35 (Kd.slice 3 (Kd.int .i64))) _ 24 ?hg (N' := 5) ?hd (xs := ([] : List (List (List Int)))) (inner := []) (ok := (fun k_ => (P0_ k_ ∨ w.heap.size ≤ k_))) (okp := (fun k_ => (P0_ k_ ∨ w.heap.size ≤ k_))) ?hr ?hp (fun _ hk => hk) ((show ∀ k_, w.heap.size ≤ k_ → (fun k_ => (P0_ k_ ∨ w.heap.size ≤ k_)) k_ from fun k_ hk => (.inr (Nat.le_trans (below_size tc0_) hk))) _ (Nat.le_refl _)) (Below.refl _ _) (Nat.le_refl _) (by simp) ?_; (case hd => rfl); (case hg => rfl); (case hr => exact tc19_); (case hp => exact (Reps.none _ _)); intro v102 w2 ho3 hb hg_ hnew_; clear hg_ hnew_; (first | rw [← Ny101.out] at ho3 | (simp only [Int.reduceToNat] at ho3; rw [← Ny101.out] at ho3)); have n0_ := am_ (Kd.V_elder' (by (with_reducible repeat (first | apply Kd.V_alloc | apply Kd.V_drewN | apply Kd.V_drew)); exact HO0.out) (Kd.N_base ho3) hb); have n1_ := am_ (Kd.N_lower ho3 (below_size tc0_)); have n2_ := am_ (below_step tc0_ hb); clear HO0 HB; have HO0 := n0_; have HO103 := n1_; have HB := n2_; clear n0_ n1_ n2_; clear hb ho3))
 go_loopg [0, 3, 6] k (fun kq v0 v3 v6 w' => ∃ (x0_1 : List (List Int)) (x3_1 : List (List (List Int))) (x6_1 : Int), v6 = .int .i64 x6_1 ∧ Aside0 (impl_eight.l0 kq x0_1 x3_1 x6_1 = some r) ∧ Aside0 (kq ≤ k) ∧ Aside0 (Kd.V (Kd.slice 3 (Kd.int .i64)) 35 w' w.heap.size (fun k_ => (P0_ k_ ∨ w.heap.size ≤ k_) ∧ some k_ ≠ (v3 : Value).ownBlock) v0 x0_1) ∧ Aside0 (Kd.N (Kd.slice 35 (Kd.slice 3 (Kd.int .i64))) 24 w' w.heap.size (fun k_ => (P0_ k_ ∨ w.heap.size ≤ k_)) v3 x3_1) ∧ Aside0 (Below w.heap.size w w'))
 case atStart => exact ⟨(l0), (y101), (0), tc7_, H', ⟨Nat.le_refl _⟩, ⟨by (with_reducible repeat (first | apply Kd.V_alloc | apply Kd.V_drewN | apply Kd.V_drew)); exact HO0.out⟩, ⟨by (with_reducible repeat (first | apply Kd.N_alloc | apply Kd.N_drewN | apply Kd.N_drew)); exact HO103.out⟩, ⟨by repeat (first | (with_reducible first | exact HB.out | apply below_alloc | apply pw_below_drewN | apply below_drew1) | exact HB.out)⟩⟩
 case round =>
  clear H'
  try clear c1
  try clear p2
  obtain ⟨x0_1, x3_1, x6_1, rfl, HA, HK1, HO_0, HO_3, HB⟩ := hrel
  cases gk with
  | zero => exact absurd HA.out (by simp [impl_eight.l0])
  | succ k1 =>
   have H := HA.out
   clear HA
   simp only [impl_eight.l0] at H
   by_cases c4 : x6_1 < 4
   ·rw [if_pos c4] at H
    have c4b0 : decide (x6_1 < 4) = true := decide_eq_true c4
    clear c4
    by_cases c5 : x3_1.length < 5864062014805
    ·rw [if_pos c5] at H
     have LMc5 := am_ c5
     clear c5
     obtain ⟨y104, hy104⟩ : ∃ y_ : List (List (List Int)), y_ = (x3_1 ++ [x0_1]) := ⟨_, rfl⟩
     replace H : ((impl_turned.f k1 x0_1).bind fun t107 => (impl_eight.l0 k1 t107 y104 (wrap64 (x6_1 + 1)))) = some r := by first | (rw [hy104]; with_reducible exact H) | (have H2_ := (Option.bind_some _ _).symm.trans H; rw [hy104]; with_reducible exact H2_) | (have H2_ := (Option.bind_some _ _).symm.trans H; with_reducible exact H2_) | with_reducible exact H | (rw [hy104]; exact H) | exact H
     have Ny104 := am_ hy104
     clear hy104
     replace H := Option.bind_eq_some_iff.mp H
     obtain ⟨t107, A60, H⟩ := H
     replace H : (impl_eight.l0 k1 t107 y104 (wrap64 (x6_1 + 1))) = some r := H
     have A6 := am_ A60
     clear A60
     have H' := am_ H
     clear H
     obtain ⟨Ao8, co8, eo8⟩ := Kd.V_slice HO_0.out
     subst eo8
     go_wp2_with (first | ((with_reducible refine gate_builtin (b := .append) (xs := #[.tmp 8, .tmp 10]) rfl ?_); at_builtin; refine Kd.N_append (Kd.slice 35 (Kd.slice 3 (Kd.int .i64))) (w0 := w) w.heap.size rfl (.tmp 8) (.tmp 10) 50 24 (.slice none 0 0) 24 rfl Try.underlying50 info24 rfl (by decide) (by omega) u3 x3_1 x0_1 [.slice Ao8 x0_1.length co8] (fun k_ => (P0_ k_ ∨ w.heap.size ≤ k_)) (fun k_ => ((fun k_ => (P0_ k_ ∨ w.heap.size ≤ k_))) k_ ∧ some k_ ≠ (u3 : Value).ownBlock) rfl rfl ?aP (fun _ hk => hk) ?aF ?aO ?aB ?aS ?aL ?_; (case aP => exact (Kd.FK_slice_mk (Kd.V_reads' (Kd.V_mono (ok' := (fun k_ => ((fun k_ => (P0_ k_ ∨ w.heap.size ≤ k_))) k_ ∧ some k_ ≠ (u3 : Value).ownBlock)) (HO_0.out) (fun k_ hk => ⟨hk.1, hk.2⟩))).2.1 (Kd.V_F (Kd.V_mono (ok' := (fun k_ => ((fun k_ => (P0_ k_ ∨ w.heap.size ≤ k_))) k_ ∧ some k_ ≠ (u3 : Value).ownBlock)) (HO_0.out) (fun k_ hk => ⟨hk.1, hk.2⟩))))); (case aB => exact tc13_); (case aF => exact tc41_); (case aO => exact tc46_); (case aS => exact tc16_); (case aL => have := LMc5.out; omega); intro v105 w7 ho hb hg hat; rw [← Ny104.out] at ho; have n0_ := am_ (Kd.V_afterv (ok := (fun k_ => (P0_ k_ ∨ w.heap.size ≤ k_))) (by (with_reducible repeat (first | apply Kd.V_alloc | apply Kd.V_drewN | apply Kd.V_drew)); exact HO_0.out) hg hat); have n1_ := am_ (hb); have n2_ := am_ (ho); clear HO_0 HB HO_3; have HO_0 := n0_; have HB := n1_; have HO106 := n2_; clear n0_ n1_ n2_; clear ho hb hg hat) | ((with_reducible refine gate_callee (f := 181) rfl ?_); refine goesL_ (some 13) rfl rfl Try.func181 (by kernel_rfl) rfl #[.slice Ao8 x0_1.length co8] rfl tc1_ ?_; (with_reducible refine (impl_turned.calls k1 _ _ x0_1 t107 _ ?side1 ?side2 A6.out).mono ?_); (case side1 => repeat (first | exact (Kd.V_reads' HO_0.out).2.2 | (with_reducible refine Kd.C_alloc ?_ _) | (with_reducible refine Kd.C_drewN ?_ _) | (with_reducible refine Kd.C_drew ?_))); (case side2 => exact (Kd.V_reads' HO_0.out).2.1); rintro e w9 ⟨v108, rfl, ho0, hb⟩; refine ⟨_, rfl, ?_⟩; have n0_ := am_ (Kd.V_elder' (by (with_reducible repeat (first | apply Kd.V_alloc | apply Kd.V_drewN | apply Kd.V_drew)); exact HO_0.out) (Kd.S_base ho0) hb); have n1_ := am_ (Kd.N_elder' (by (with_reducible repeat (first | apply Kd.N_alloc | apply Kd.N_drewN | apply Kd.N_drew)); exact HO106.out) (Kd.S_base ho0) hb); have n2_ := am_ (Kd.N_lower (Kd.N_mono (ok' := fun k_ => (P0_ k_ ∨ w.heap.size ≤ k_) ∧ some k_ ≠ (v105 : Value).ownBlock) (Kd.S_N (Kd.S_bound ho0)) (fun k_ hk_ => ⟨(.inr (Nat.le_trans (below_size tc0_) hk_.2.1)), (Kd.fresh' (Kd.N_lt (by (with_reducible repeat (first | apply Kd.N_alloc | apply Kd.N_drewN | apply Kd.N_drew)); exact HO106.out)) k_ hk_.2.1)⟩)) (below_size tc0_)); have n3_ := am_ (below_step tc0_ hb); clear HO_0 HO106 HB; have HO_0 := n0_; have HO106 := n1_; have HO109 := n2_; have HB := n3_; clear n0_ n1_ n2_ n3_; (try clear hb ho0)))
     go_roundg k1
     case measure => have := HK1.out; omega
     case rel => exact ⟨(t107), (y104), (wrap64 (x6_1 + 1)), tc7_, H', ⟨by have := HK1.out; omega⟩, ⟨Kd.N_V (by (with_reducible repeat (first | apply Kd.N_alloc | apply Kd.N_drewN | apply Kd.N_drew)); exact HO109.out)⟩, ⟨by (with_reducible repeat (first | apply Kd.N_alloc | apply Kd.N_drewN | apply Kd.N_drew)); exact Kd.N_mono HO106.out (fun _ hk => hk.1)⟩, ⟨by repeat (first | (with_reducible first | exact HB.out | apply below_alloc | apply pw_below_drewN | apply below_drew1) | exact HB.out)⟩⟩
    ·rw [if_neg c5] at H
     exact absurd H (by simp)
   ·rw [if_neg c4] at H
    have c4b0 : decide (x6_1 < 4) = false := decide_eq_false c4
    clear c4
    have H' := am_ H
    clear H
    go_wp2
    go_loopg [3, 15] k1 (fun kq v3 v15 w' => ∃ (x3_2 : List (List (List Int))) (x15_2 : Int), v15 = .int .i64 x15_2 ∧ Aside0 (impl_eight.l1 kq x3_2 x15_2 = some r) ∧ Aside0 (kq ≤ k1) ∧ Aside0 (Kd.N (Kd.slice 35 (Kd.slice 3 (Kd.int .i64))) 24 w' w.heap.size (fun k_ => (P0_ k_ ∨ w.heap.size ≤ k_)) v3 x3_2) ∧ Aside0 (Below w.heap.size w w'))
    case atStart => exact ⟨(x3_1), (0), tc7_, H', ⟨Nat.le_refl _⟩, ⟨by (with_reducible repeat (first | apply Kd.N_alloc | apply Kd.N_drewN | apply Kd.N_drew)); exact HO_3.out⟩, ⟨by repeat (first | (with_reducible first | exact HB.out | apply below_alloc | apply pw_below_drewN | apply below_drew1) | exact HB.out)⟩⟩
    case round =>
     clear H'
     try clear c1
     try clear p2
     try clear c4
     try clear c4b0
     try clear c5
     try clear p6
     try clear p2
     obtain ⟨x3_2, x15_2, rfl, HA, HK2, HO_3, HB⟩ := hrel
     cases gk with
     | zero => exact absurd HA.out (by simp [impl_eight.l1])
     | succ k2 =>
      have H := HA.out
      clear HA
      simp only [impl_eight.l1] at H
      by_cases c10 : x15_2 < 4
      ·rw [if_pos c10] at H
       have c10b0 : decide (x15_2 < 4) = true := decide_eq_true c10
       clear c10
       by_cases c11 : 0 ≤ x15_2
       ·rw [if_pos c11] at H
        have c11b0 : decide (0 ≤ x15_2) = true := decide_eq_true c11
        clear c11
        by_cases c12 : x15_2 < (x3_2.length : Int)
        ·rw [if_pos c12] at H
         have c12b0 : decide (x15_2 < (x3_2.length : Int)) = true := decide_eq_true c12
         clear c12
         replace H := Option.bind_eq_some_iff.mp H
         obtain ⟨t111, A130, H⟩ := H
         replace H : (if x3_2.length < 5864062014805 then (impl_eight.l1 k2 (x3_2 ++ [t111]) (wrap64 (x15_2 + 1))) else (none)) = some r := H
         have A13 := am_ A130
         clear A130
         by_cases c14 : x3_2.length < 5864062014805
         ·rw [if_pos c14] at H
          have LMc14 := am_ c14
          clear c14
          obtain ⟨y114, hy114⟩ : ∃ y_ : List (List (List Int)), y_ = (x3_2 ++ [t111]) := ⟨_, rfl⟩
          replace H : (impl_eight.l1 k2 y114 (wrap64 (x15_2 + 1))) = some r := by first | (rw [hy114]; with_reducible exact H) | (have H2_ := (Option.bind_some _ _).symm.trans H; rw [hy114]; with_reducible exact H2_) | (have H2_ := (Option.bind_some _ _).symm.trans H; with_reducible exact H2_) | with_reducible exact H | (rw [hy114]; exact H) | exact H
          have Ny114 := am_ hy114
          clear hy114
          have H' := am_ H
          clear H
          obtain ⟨Ao15, co15, eo15⟩ := Kd.N_slice HO_3.out
          subst eo15
          have p110 : 0 ≤ (x15_2 : Int) := of_decide_eq_true tc3_
          have q110 : x15_2 < (x3_2.length : Int) := of_decide_eq_true tc3_
          obtain ⟨ad110, A110_0, c110_0, e110, hx110_0, hl110_0, hi110_0⟩ := at_L4 (Kd.N_reads' HO_3.out).2.2 x15_2 p110 q110
          cases e110
          obtain ⟨ce110, hce110, hMe110, hcc110⟩ := Kd.N_get HO_3.out [] x15_2 p110 (by first | exact q110 | exact of_decide_eq_true tc3_ | (have e_ := (Kd.N_reads' HO_3.out).1; omega))
          obtain ⟨ua110_0, uc110_0, rfl, ul110_0, ge110_0⟩ := Kd.FK_slice_open hMe110
          have hv110_0 := hcc110 0 _ rfl
          rw [Nat.add_zero, show ((Kd.slice 35 (Kd.slice 3 (Kd.int .i64)))).sz = 1 from rfl, Nat.mul_one] at hv110_0
          replace hv110_0 := Option.some.inj (hv110_0.symm.trans hx110_0)
          injection hv110_0 with hva_ hvn_ hvc_
          rw [hva_] at ge110_0
          rw [hvc_] at ul110_0
          have HL110_0 := am_ (show Kd.V (Kd.slice 3 (Kd.int .i64)) 35 _ w.heap.size _ _ (rd_L4 x3_2 x15_2) from Kd.V_mk ul110_0 ge110_0)
          clear hva_ hvn_ hvc_ ge110_0 ul110_0
          clear hcc110 hce110
          have HR110_0 := am_ hi110_0
          have HC110_0 := am_ hl110_0
          clear hi110_0 hl110_0
          replace p110 := eq_true p110
          replace q110 := eq_true q110
          go_wp2_with (first | ((with_reducible refine gate_callee (f := 104) rfl ?_); refine goesL_ (some 23) rfl rfl Try.func104 (by kernel_rfl) rfl #[.slice A110_0 (rd_L4 x3_2 x15_2).length c110_0] rfl tc1_ ?_; (with_reducible refine (impl_mirrored.calls k2 _ _ (rd_L4 x3_2 x15_2) t111 _ ?side1 ?side2 A13.out).mono ?_); (case side1 => repeat (first | exact tc48_ | (with_reducible refine Kd.C_alloc ?_ _) | (with_reducible refine Kd.C_drewN ?_ _) | (with_reducible refine Kd.C_drew ?_))); (case side2 => exact HC110_0.out); rintro e w16 ⟨v112, rfl, ho0, hb⟩; refine ⟨_, rfl, ?_⟩; have n0_ := am_ (Kd.N_elder' tc46_ (Kd.S_base ho0) hb); have n1_ := am_ (Kd.V_elder' (by (with_reducible repeat (first | apply Kd.V_alloc | apply Kd.V_drewN | apply Kd.V_drew)); exact HL110_0.out) (Kd.S_base ho0) hb); have n2_ := am_ (Kd.N_lower (Kd.N_mono (ok' := fun k_ => (P0_ k_ ∨ w.heap.size ≤ k_) ∧ some k_ ≠ (.slice (some ad110) x3_2.length co15 : Value).ownBlock) (Kd.S_N (Kd.S_bound ho0)) (fun k_ hk_ => ⟨(.inr (Nat.le_trans (below_size tc0_) hk_.2.1)), (Kd.fresh' (Kd.N_lt tc46_) k_ hk_.2.1)⟩)) (below_size tc0_)); have n3_ := am_ (Kd.C_below tc48_ hb); have n4_ := am_ (below_step tc0_ hb); clear HO_3 HL110_0; clear HR110_0 HB; have HO_3 := n0_; have HL110_0 := n1_; have HO113 := n2_; have HR110_0 := n3_; have HB := n4_; clear n0_ n1_ n2_ n3_ n4_; (try clear hb ho0); obtain ⟨Ao18, co18, eo18⟩ := Kd.N_slice HO113.out; subst eo18) | ((with_reducible refine gate_builtin (b := .append) (xs := #[.tmp 18, .tmp 24]) rfl ?_); at_builtin; refine Kd.N_append (Kd.slice 35 (Kd.slice 3 (Kd.int .i64))) (w0 := w) w.heap.size rfl (.tmp 18) (.tmp 24) 50 24 (.slice none 0 0) 24 rfl Try.underlying50 info24 rfl (by decide) (by omega) (.slice (some ad110) x3_2.length co15) x3_2 t111 [.slice Ao18 t111.length co18] (fun k_ => (P0_ k_ ∨ w.heap.size ≤ k_)) (fun k_ => ((fun k_ => (P0_ k_ ∨ w.heap.size ≤ k_))) k_ ∧ some k_ ≠ (.slice (some ad110) x3_2.length co15 : Value).ownBlock) rfl rfl ?aP (fun _ hk => hk) ?aF ?aO ?aB ?aS ?aL ?_; (case aP => exact (Kd.FK_slice_mk (Kd.N_reads' (Kd.N_mono (ok' := (fun k_ => ((fun k_ => (P0_ k_ ∨ w.heap.size ≤ k_))) k_ ∧ some k_ ≠ (.slice (some ad110) x3_2.length co15 : Value).ownBlock)) (HO113.out) (fun k_ hk => ⟨hk.1, hk.2⟩))).2.1 (Kd.N_F (Kd.N_mono (ok' := (fun k_ => ((fun k_ => (P0_ k_ ∨ w.heap.size ≤ k_))) k_ ∧ some k_ ≠ (.slice (some ad110) x3_2.length co15 : Value).ownBlock)) (HO113.out) (fun k_ hk => ⟨hk.1, hk.2⟩))))); (case aB => exact tc13_); (case aF => exact tc41_); (case aO => exact (by (with_reducible repeat (first | apply Kd.N_alloc | apply Kd.N_drewN | apply Kd.N_drew)); exact Kd.N_mono HO_3.out (fun _ hk => hk.1))); (case aS => exact tc16_); (case aL => have := LMc14.out; omega); intro v115 w17 ho hb hg hat; rw [← Ny114.out] at ho; have n0_ := am_ (Kd.V_afterv (ok := (fun k_ => (P0_ k_ ∨ w.heap.size ≤ k_) ∧ some k_ ≠ (.slice Ao18 t111.length co18 : Value).ownBlock)) (by (with_reducible repeat (first | apply Kd.V_alloc | apply Kd.V_drewN | apply Kd.V_drew)); exact Kd.V_mono HL110_0.out (fun _ hk => ⟨⟨hk.1.1, hk.2⟩, hk.1.2⟩)) hg hat); have n1_ := am_ (hb); have n2_ := am_ (ho); clear HL110_0 HB; clear HO_3 HO113; have HL110_0 := n0_; have HB := n1_; have HO116 := n2_; clear n0_ n1_ n2_; clear ho hb hg hat))
          go_roundg k2
          case measure => have := HK1.out; have := HK2.out; omega
          case rel => exact ⟨(y114), (wrap64 (x15_2 + 1)), tc7_, H', ⟨by have := HK1.out; have := HK2.out; omega⟩, ⟨by (with_reducible repeat (first | apply Kd.N_alloc | apply Kd.N_drewN | apply Kd.N_drew)); exact HO116.out⟩, ⟨by repeat (first | (with_reducible first | exact HB.out | apply below_alloc | apply pw_below_drewN | apply below_drew1) | exact HB.out)⟩⟩
         ·rw [if_neg c14] at H
          exact absurd H (by simp)
        ·rw [if_neg c12] at H
         exact absurd H (by simp)
       ·rw [if_neg c11] at H
        exact absurd H (by simp)
      ·rw [if_neg c10] at H
       have c10b0 : decide (x15_2 < 4) = false := decide_eq_false c10
       clear c10
       obtain rfl := Option.some.inj H
       go_wp2
       go_ret
       exact ⟨_, by first | rfl | (simp [errW_none, errW_some] <;> rfl) | (simp [*, errW_none, errW_some] <;> rfl), by (with_reducible repeat (first | apply Kd.N_alloc | apply Kd.N_drewN | apply Kd.N_drew)); exact HO_3.out, by repeat (first | (with_reducible first | exact HB.out | apply below_alloc | apply pw_below_drewN | apply below_drew1) | exact HB.out)⟩

/-! ### slices_CompareFunc_int_int_int_int: function 145 -/
def slices_CompareFunc_int_int_int_int.l0 : Nat → List (List Int) → List (List Int) → ((List Int) → (List Int) → Option Int) → List (List Int) → Int → Int → Option (Int)
 | 0, _, _, _, _, _, _ => none
 | k + 1, x0, x1, x2, x11, x12, x13 => if x13 < x12 then (if 0 ≤ x13 then (if x13 < (x11.length : Int) then (if x13 ≥ (x1.length : Int) then (some 1) else (if x13 < (x1.length : Int) then ((x2 (rd_L3 x11 x13) (rd_L3 x1 x13)).bind fun t103 => (if t103 = 0 then (slices_CompareFunc_int_int_int_int.l0 k x0 x1 x2 x11 x12 (wrap64 (x13 + 1))) else (some t103))) else (none))) else (none)) else (none)) else (if (x0.length : Int) < (x1.length : Int) then (some (-1)) else (some 0))
def slices_CompareFunc_int_int_int_int.f (k : Nat) (l0 : List (List Int)) (l1 : List (List Int)) (a2 : ((List Int) → (List Int) → Option Int)) : Option (Int) := slices_CompareFunc_int_int_int_int.l0 k l0 l1 a2 l0 (l0.length : Int) 0
set_option maxHeartbeats 8000000 in
set_option maxRecDepth 100000 in
theorem slices_CompareFunc_int_int_int_int.calls (k : Nat) (A0 : Option Addr) (c0 : Nat) (l0 : List (List Int)) (A1 : Option Addr) (c1 : Nat) (l1 : List (List Int)) (g2 : Nat) (b2 : Array Value) (a2 : ((List Int) → (List Int) → Option Int)) (r : Int) (w : World) (hr0 : Kd.C (Kd.slice 3 (Kd.int .i64)) w A0 l0.length l0) (hc0 : l0.length ≤ c0) (hr1 : Kd.C (Kd.slice 3 (Kd.int .i64)) w A1 l1.length l1) (hc1 : l1.length ≤ c1) (hf2 : Fn2 (Kd.slice 3 (Kd.int .i64)) (Kd.slice 3 (Kd.int .i64)) (Value.int .i64) Try.prog g2 b2 a2 w) (h : slices_CompareFunc_int_int_int_int.f k l0 l1 a2 = some r) :
  Calls Try.prog 145 #[.slice A0 l0.length c0, .slice A1 l1.length c1, .func (.func g2) #[] b2] w fun e w' => e = .returned (.int .i64 r) ∧ Below w.heap.size w w' := by
 have HR0 := am_ hr0
 have HC0 := am_ hc0
 clear hr0 hc0
 have HR1 := am_ hr1
 have HC1 := am_ hc1
 clear hr1 hc1
 have HF2 := am_ hf2.cl
 have eg2 := hf2.eg
 clear hf2
 have HB := am_ (Below.refl w.heap.size w)
 have H : (slices_CompareFunc_int_int_int_int.l0 k l0 l1 a2 l0 (l0.length : Int) 0) = some r := h
 clear h
 have H' := am_ H
 clear H
 go_enter Try.func145, Try.ntmps145
 go_wp2
 go_loopg [13] k (fun kq v13 w' => ∃ (x13_1 : Int), v13 = .int .i64 x13_1 ∧ Aside0 (slices_CompareFunc_int_int_int_int.l0 kq l0 l1 a2 l0 (l0.length : Int) x13_1 = some r) ∧ Aside0 (kq ≤ k) ∧ Aside0 (Below w.heap.size w w'))
 case atStart => exact ⟨(0), tc7_, H', ⟨Nat.le_refl _⟩, ⟨by repeat (first | (with_reducible first | exact HB.out | apply below_alloc | apply pw_below_drewN | apply below_drew1) | exact HB.out)⟩⟩
 case round =>
  clear H'
  try clear c1
  try clear p2
  obtain ⟨x13_1, rfl, HA, HK1, HB⟩ := hrel
  cases gk with
  | zero => exact absurd HA.out (by simp [slices_CompareFunc_int_int_int_int.l0])
  | succ k1 =>
   have H := HA.out
   clear HA
   simp only [slices_CompareFunc_int_int_int_int.l0] at H
   by_cases c4 : x13_1 < (l0.length : Int)
   ·rw [if_pos c4] at H
    have c4b0 : decide (x13_1 < (l0.length : Int)) = true := decide_eq_true c4
    clear c4
    by_cases c5 : 0 ≤ x13_1
    ·rw [if_pos c5] at H
     have c5b0 : decide (0 ≤ x13_1) = true := decide_eq_true c5
     clear c5
     by_cases c6 : x13_1 < (l0.length : Int)
     ·rw [if_pos c6] at H
      have c6b0 : decide (x13_1 < (l0.length : Int)) = true := decide_eq_true c6
      clear c6
      by_cases c7 : x13_1 ≥ (l1.length : Int)
      ·rw [if_pos c7] at H
       have c7b0 : decide ((l1.length : Int) ≤ x13_1) = true := decide_eq_true c7
       clear c7
       obtain rfl := Option.some.inj H
       have p101 : 0 ≤ (x13_1 : Int) := of_decide_eq_true tc3_
       have q101 : x13_1 < (l0.length : Int) := of_decide_eq_true tc3_
       obtain ⟨ad101, A101_0, c101_0, e101, hx101_0, hl101_0, hi101_0⟩ := at_L3 HR0.out x13_1 p101 q101
       cases e101
       replace hx101_0 := (HB.out.cell (World.block_lt_of_cell? w _ hx101_0)).trans hx101_0
       have HR101_0 := am_ hi101_0
       have HC101_0 := am_ hl101_0
       clear hi101_0 hl101_0
       replace p101 := eq_true p101
       replace q101 := eq_true q101
       go_wp2
       go_ret
       exact ⟨by first | rfl | (simp [errW_none, errW_some] <;> rfl) | (simp [*, errW_none, errW_some] <;> rfl), by repeat (first | (with_reducible first | exact HB.out | apply below_alloc | apply pw_below_drewN | apply below_drew1) | exact HB.out)⟩
      ·rw [if_neg c7] at H
       have c7b0 : decide ((l1.length : Int) ≤ x13_1) = false := decide_eq_false c7
       clear c7
       by_cases c8 : x13_1 < (l1.length : Int)
       ·rw [if_pos c8] at H
        have c8b0 : decide (x13_1 < (l1.length : Int)) = true := decide_eq_true c8
        clear c8
        replace H := Option.bind_eq_some_iff.mp H
        obtain ⟨t103, A90, H⟩ := H
        replace H : (if t103 = 0 then (slices_CompareFunc_int_int_int_int.l0 k1 l0 l1 a2 l0 (l0.length : Int) (wrap64 (x13_1 + 1))) else (some t103)) = some r := H
        have A9 := am_ A90
        clear A90
        by_cases c10 : t103 = 0
        ·rw [if_pos c10] at H
         have c10b0 : (t103 == 0) = true := beq_iff_eq.mpr c10
         have c10b1 : (t103 != 0) = false := bne_eq_false_iff_eq.mpr c10
         clear c10
         have H' := am_ H
         clear H
         have p101 : 0 ≤ (x13_1 : Int) := of_decide_eq_true tc3_
         have q101 : x13_1 < (l0.length : Int) := of_decide_eq_true tc3_
         obtain ⟨ad101, A101_0, c101_0, e101, hx101_0, hl101_0, hi101_0⟩ := at_L3 HR0.out x13_1 p101 q101
         cases e101
         replace hx101_0 := (HB.out.cell (World.block_lt_of_cell? w _ hx101_0)).trans hx101_0
         have HR101_0 := am_ hi101_0
         have HC101_0 := am_ hl101_0
         clear hi101_0 hl101_0
         replace p101 := eq_true p101
         replace q101 := eq_true q101
         have p102 : 0 ≤ (x13_1 : Int) := of_decide_eq_true tc3_
         have q102 : x13_1 < (l1.length : Int) := of_decide_eq_true tc3_
         obtain ⟨ad102, A102_0, c102_0, e102, hx102_0, hl102_0, hi102_0⟩ := at_L3 HR1.out x13_1 p102 q102
         cases e102
         replace hx102_0 := (HB.out.cell (World.block_lt_of_cell? w _ hx102_0)).trans hx102_0
         have HR102_0 := am_ hi102_0
         have HC102_0 := am_ hl102_0
         clear hi102_0 hl102_0
         replace p102 := eq_true p102
         replace q102 := eq_true q102
         go_wp2_with (first | (go_at_fn g2; (refine (HF2.out _ ?side1 (rd_L3 l0 x13_1) _ (K_slice ?side2 ?side3) (rd_L3 l1 x13_1) _ (K_slice ?side4 ?side5) t103 A9.out).mono ?_); (case side1 => exact tc13_); (case side2 => exact HC101_0.out); (case side3 => exact tc44_); (case side4 => exact HC102_0.out); (case side5 => repeat (first | exact (Kd.C_below HR102_0.out HB.out) | (with_reducible refine Kd.C_alloc ?_ _) | (with_reducible refine Kd.C_drewN ?_ _) | (with_reducible refine Kd.C_drew ?_))); rintro e w11 ⟨rfl, hb⟩; have n0_ := am_ (below_step tc0_ hb); clear HB; have HB := n0_; clear n0_; (try clear hb)))
         go_roundg k1
         case measure => have := HK1.out; omega
         case rel => exact ⟨(wrap64 (x13_1 + 1)), tc7_, H', ⟨by have := HK1.out; omega⟩, ⟨by repeat (first | (with_reducible first | exact HB.out | apply below_alloc | apply pw_below_drewN | apply below_drew1) | exact HB.out)⟩⟩
        ·rw [if_neg c10] at H
         have c10b0 : (t103 == 0) = false := beq_eq_false_iff_ne.mpr c10
         have c10b1 : (t103 != 0) = true := bne_iff_ne.mpr c10
         obtain rfl := Option.some.inj H
         have p101 : 0 ≤ (x13_1 : Int) := of_decide_eq_true tc3_
         have q101 : x13_1 < (l0.length : Int) := of_decide_eq_true tc3_
         obtain ⟨ad101, A101_0, c101_0, e101, hx101_0, hl101_0, hi101_0⟩ := at_L3 HR0.out x13_1 p101 q101
         cases e101
         replace hx101_0 := (HB.out.cell (World.block_lt_of_cell? w _ hx101_0)).trans hx101_0
         have HR101_0 := am_ hi101_0
         have HC101_0 := am_ hl101_0
         clear hi101_0 hl101_0
         replace p101 := eq_true p101
         replace q101 := eq_true q101
         have p102 : 0 ≤ (x13_1 : Int) := of_decide_eq_true tc3_
         have q102 : x13_1 < (l1.length : Int) := of_decide_eq_true tc3_
         obtain ⟨ad102, A102_0, c102_0, e102, hx102_0, hl102_0, hi102_0⟩ := at_L3 HR1.out x13_1 p102 q102
         cases e102
         replace hx102_0 := (HB.out.cell (World.block_lt_of_cell? w _ hx102_0)).trans hx102_0
         have HR102_0 := am_ hi102_0
         have HC102_0 := am_ hl102_0
         clear hi102_0 hl102_0
         replace p102 := eq_true p102
         replace q102 := eq_true q102
         go_wp2_with (first | (go_at_fn g2; (refine (HF2.out _ ?side1 (rd_L3 l0 x13_1) _ (K_slice ?side2 ?side3) (rd_L3 l1 x13_1) _ (K_slice ?side4 ?side5) t103 A9.out).mono ?_); (case side1 => exact tc13_); (case side2 => exact HC101_0.out); (case side3 => exact tc44_); (case side4 => exact HC102_0.out); (case side5 => repeat (first | exact (Kd.C_below HR102_0.out HB.out) | (with_reducible refine Kd.C_alloc ?_ _) | (with_reducible refine Kd.C_drewN ?_ _) | (with_reducible refine Kd.C_drew ?_))); rintro e w12 ⟨rfl, hb⟩; have n0_ := am_ (below_step tc0_ hb); clear HB; have HB := n0_; clear n0_; (try clear hb)))
         go_ret
         exact ⟨by first | rfl | (simp [errW_none, errW_some] <;> rfl) | (simp [*, errW_none, errW_some] <;> rfl), by repeat (first | (with_reducible first | exact HB.out | apply below_alloc | apply pw_below_drewN | apply below_drew1) | exact HB.out)⟩
       ·rw [if_neg c8] at H
        exact absurd H (by simp)
     ·rw [if_neg c6] at H
      exact absurd H (by simp)
    ·rw [if_neg c5] at H
     exact absurd H (by simp)
   ·rw [if_neg c4] at H
    have c4b0 : decide (x13_1 < (l0.length : Int)) = false := decide_eq_false c4
    clear c4
    by_cases c13 : (l0.length : Int) < (l1.length : Int)
    ·rw [if_pos c13] at H
     have c13b0 : decide ((l0.length : Int) < (l1.length : Int)) = true := decide_eq_true c13
     have c13b1 : decide (l0.length < l1.length) = true := decide_eq_true (Int.ofNat_lt.mp c13)
     clear c13
     obtain rfl := Option.some.inj H
     go_wp2
     go_ret
     exact ⟨by first | rfl | (simp [errW_none, errW_some] <;> rfl) | (simp [*, errW_none, errW_some] <;> rfl), by repeat (first | (with_reducible first | exact HB.out | apply below_alloc | apply pw_below_drewN | apply below_drew1) | exact HB.out)⟩
    ·rw [if_neg c13] at H
     have c13b0 : decide ((l0.length : Int) < (l1.length : Int)) = false := decide_eq_false c13
     have c13b1 : decide (l0.length < l1.length) = false := decide_eq_false (fun h => c13 (Int.ofNat_lt.mpr h))
     clear c13
     obtain rfl := Option.some.inj H
     go_wp2
     go_ret
     exact ⟨by first | rfl | (simp [errW_none, errW_some] <;> rfl) | (simp [*, errW_none, errW_some] <;> rfl), by repeat (first | (with_reducible first | exact HB.out | apply below_alloc | apply pw_below_drewN | apply below_drew1) | exact HB.out)⟩

/-! ### cmp_isNaN_int: function 206 -/
def cmp_isNaN_int.f (a0 : Int) : Option (Bool) := some (a0 != a0)
set_option maxHeartbeats 8000000 in
set_option maxRecDepth 100000 in
theorem cmp_isNaN_int.calls (a0 : Int) (r : Bool) (w : World) (h : cmp_isNaN_int.f a0 = some r) :
  Calls Try.prog 206 #[.int .i64 a0] w fun e w' => e = .returned (.bool r) ∧ Drawn0 w w' := by
 have H : (some (a0 != a0)) = some r := h
 clear h
 obtain rfl := Option.some.inj H
 go_enter Try.func206, Try.ntmps206
 go_wp2
 go_ret
 exact ⟨by first | rfl | (simp; done) | (simp [*]; done), by repeat (first | exact Drawn0.refl _ | apply Drawn0.step)⟩

/-! ### cmp_Compare_int: function 188 -/
def cmp_Compare_int.f (a0 : Int) (a1 : Int) : Option (Int) := (cmp_isNaN_int.f a0).bind fun t101 => ((cmp_isNaN_int.f a1).bind fun t102 => (if t101 = true then (if t102 = true then (some 0) else (some (-1))) else (if t102 = true then (some 1) else (if a0 < a1 then (some (-1)) else (if a0 > a1 then (some 1) else (some 0))))))
set_option maxHeartbeats 8000000 in
set_option maxRecDepth 100000 in
theorem cmp_Compare_int.calls (a0 : Int) (a1 : Int) (r : Int) (w : World) (h : cmp_Compare_int.f a0 a1 = some r) :
  Calls Try.prog 188 #[.int .i64 a0, .int .i64 a1] w fun e w' => e = .returned (.int .i64 r) ∧ Drawn0 w w' := by
 have H : ((cmp_isNaN_int.f a0).bind fun t101 => ((cmp_isNaN_int.f a1).bind fun t102 => (if t101 = true then (if t102 = true then (some 0) else (some (-1))) else (if t102 = true then (some 1) else (if a0 < a1 then (some (-1)) else (if a0 > a1 then (some 1) else (some 0))))))) = some r := h
 clear h
 replace H := Option.bind_eq_some_iff.mp H
 obtain ⟨t101, A30, H⟩ := H
 replace H : ((cmp_isNaN_int.f a1).bind fun t102 => (if t101 = true then (if t102 = true then (some 0) else (some (-1))) else (if t102 = true then (some 1) else (if a0 < a1 then (some (-1)) else (if a0 > a1 then (some 1) else (some 0)))))) = some r := H
 have A3 := am_ A30
 clear A30
 replace H := Option.bind_eq_some_iff.mp H
 obtain ⟨t102, A40, H⟩ := H
 replace H : (if t101 = true then (if t102 = true then (some 0) else (some (-1))) else (if t102 = true then (some 1) else (if a0 < a1 then (some (-1)) else (if a0 > a1 then (some 1) else (some 0))))) = some r := H
 have A4 := am_ A40
 clear A40
 by_cases c5 : t101 = true
 ·subst c5
  have H1 : (if t102 = true then (some 0) else (some (-1))) = some r := by rw [if_pos rfl] at H; exact H
  clear H
  have H := H1
  clear H1
  by_cases c6 : t102 = true
  ·subst c6
   have H1 : (some 0) = some r := by rw [if_pos rfl] at H; exact H
   clear H
   have H := H1
   clear H1
   obtain rfl := Option.some.inj H
   go_enter Try.func188, Try.ntmps188
   go_wp2_with (first | ((with_reducible refine gate_callee (f := 206) rfl ?_); refine goesL_ (some 8) rfl rfl Try.func206 (by kernel_rfl) rfl #[.int .i64 a0] rfl tc1_ ?_; (with_reducible refine (cmp_isNaN_int.calls a0 true _ A3.out).mono ?_); rintro e w' ⟨rfl, ⟨nd, rfl⟩⟩; refine ⟨_, rfl, ?_⟩) | ((with_reducible refine gate_callee (f := 206) rfl ?_); refine goesL_ (some 10) rfl rfl Try.func206 (by kernel_rfl) rfl #[.int .i64 a1] rfl tc1_ ?_; (with_reducible refine (cmp_isNaN_int.calls a1 true _ A4.out).mono ?_); rintro e w' ⟨rfl, ⟨nd, rfl⟩⟩; refine ⟨_, rfl, ?_⟩))
   go_ret
   exact ⟨by first | rfl | (simp; done) | (simp [*]; done), by repeat (first | exact Drawn0.refl _ | apply Drawn0.step)⟩
  ·replace c6 := Bool.eq_false_iff.mpr c6
   subst c6
   have H1 : (some (-1)) = some r := by rw [if_neg (show ¬ (false = true) by decide)] at H; exact H
   clear H
   have H := H1
   clear H1
   obtain rfl := Option.some.inj H
   go_enter Try.func188, Try.ntmps188
   go_wp2_with (first | ((with_reducible refine gate_callee (f := 206) rfl ?_); refine goesL_ (some 8) rfl rfl Try.func206 (by kernel_rfl) rfl #[.int .i64 a0] rfl tc1_ ?_; (with_reducible refine (cmp_isNaN_int.calls a0 true _ A3.out).mono ?_); rintro e w' ⟨rfl, ⟨nd, rfl⟩⟩; refine ⟨_, rfl, ?_⟩) | ((with_reducible refine gate_callee (f := 206) rfl ?_); refine goesL_ (some 10) rfl rfl Try.func206 (by kernel_rfl) rfl #[.int .i64 a1] rfl tc1_ ?_; (with_reducible refine (cmp_isNaN_int.calls a1 false _ A4.out).mono ?_); rintro e w' ⟨rfl, ⟨nd, rfl⟩⟩; refine ⟨_, rfl, ?_⟩))
   go_ret
   exact ⟨by first | rfl | (simp; done) | (simp [*]; done), by repeat (first | exact Drawn0.refl _ | apply Drawn0.step)⟩
 ·replace c5 := Bool.eq_false_iff.mpr c5
  subst c5
  have H1 : (if t102 = true then (some 1) else (if a0 < a1 then (some (-1)) else (if a0 > a1 then (some 1) else (some 0)))) = some r := by rw [if_neg (show ¬ (false = true) by decide)] at H; exact H
  clear H
  have H := H1
  clear H1
  by_cases c7 : t102 = true
  ·subst c7
   have H1 : (some 1) = some r := by rw [if_pos rfl] at H; exact H
   clear H
   have H := H1
   clear H1
   obtain rfl := Option.some.inj H
   go_enter Try.func188, Try.ntmps188
   go_wp2_with (first | ((with_reducible refine gate_callee (f := 206) rfl ?_); refine goesL_ (some 8) rfl rfl Try.func206 (by kernel_rfl) rfl #[.int .i64 a0] rfl tc1_ ?_; (with_reducible refine (cmp_isNaN_int.calls a0 false _ A3.out).mono ?_); rintro e w' ⟨rfl, ⟨nd, rfl⟩⟩; refine ⟨_, rfl, ?_⟩) | ((with_reducible refine gate_callee (f := 206) rfl ?_); refine goesL_ (some 10) rfl rfl Try.func206 (by kernel_rfl) rfl #[.int .i64 a1] rfl tc1_ ?_; (with_reducible refine (cmp_isNaN_int.calls a1 true _ A4.out).mono ?_); rintro e w' ⟨rfl, ⟨nd, rfl⟩⟩; refine ⟨_, rfl, ?_⟩))
   go_ret
   exact ⟨by first | rfl | (simp; done) | (simp [*]; done), by repeat (first | exact Drawn0.refl _ | apply Drawn0.step)⟩
  ·replace c7 := Bool.eq_false_iff.mpr c7
   subst c7
   have H1 : (if a0 < a1 then (some (-1)) else (if a0 > a1 then (some 1) else (some 0))) = some r := by rw [if_neg (show ¬ (false = true) by decide)] at H; exact H
   clear H
   have H := H1
   clear H1
   by_cases c8 : a0 < a1
   ·rw [if_pos c8] at H
    have c8b0 : decide (a0 < a1) = true := decide_eq_true c8
    clear c8
    obtain rfl := Option.some.inj H
    go_enter Try.func188, Try.ntmps188
    go_wp2_with (first | ((with_reducible refine gate_callee (f := 206) rfl ?_); refine goesL_ (some 8) rfl rfl Try.func206 (by kernel_rfl) rfl #[.int .i64 a0] rfl tc1_ ?_; (with_reducible refine (cmp_isNaN_int.calls a0 false _ A3.out).mono ?_); rintro e w' ⟨rfl, ⟨nd, rfl⟩⟩; refine ⟨_, rfl, ?_⟩) | ((with_reducible refine gate_callee (f := 206) rfl ?_); refine goesL_ (some 10) rfl rfl Try.func206 (by kernel_rfl) rfl #[.int .i64 a1] rfl tc1_ ?_; (with_reducible refine (cmp_isNaN_int.calls a1 false _ A4.out).mono ?_); rintro e w' ⟨rfl, ⟨nd, rfl⟩⟩; refine ⟨_, rfl, ?_⟩))
    go_ret
    exact ⟨by first | rfl | (simp; done) | (simp [*]; done), by repeat (first | exact Drawn0.refl _ | apply Drawn0.step)⟩
   ·rw [if_neg c8] at H
    have c8b0 : decide (a0 < a1) = false := decide_eq_false c8
    clear c8
    by_cases c9 : a0 > a1
    ·rw [if_pos c9] at H
     have c9b0 : decide (a1 < a0) = true := decide_eq_true c9
     clear c9
     obtain rfl := Option.some.inj H
     go_enter Try.func188, Try.ntmps188
     go_wp2_with (first | ((with_reducible refine gate_callee (f := 206) rfl ?_); refine goesL_ (some 8) rfl rfl Try.func206 (by kernel_rfl) rfl #[.int .i64 a0] rfl tc1_ ?_; (with_reducible refine (cmp_isNaN_int.calls a0 false _ A3.out).mono ?_); rintro e w' ⟨rfl, ⟨nd, rfl⟩⟩; refine ⟨_, rfl, ?_⟩) | ((with_reducible refine gate_callee (f := 206) rfl ?_); refine goesL_ (some 10) rfl rfl Try.func206 (by kernel_rfl) rfl #[.int .i64 a1] rfl tc1_ ?_; (with_reducible refine (cmp_isNaN_int.calls a1 false _ A4.out).mono ?_); rintro e w' ⟨rfl, ⟨nd, rfl⟩⟩; refine ⟨_, rfl, ?_⟩))
     go_ret
     exact ⟨by first | rfl | (simp; done) | (simp [*]; done), by repeat (first | exact Drawn0.refl _ | apply Drawn0.step)⟩
    ·rw [if_neg c9] at H
     have c9b0 : decide (a1 < a0) = false := decide_eq_false c9
     clear c9
     obtain rfl := Option.some.inj H
     go_enter Try.func188, Try.ntmps188
     go_wp2_with (first | ((with_reducible refine gate_callee (f := 206) rfl ?_); refine goesL_ (some 8) rfl rfl Try.func206 (by kernel_rfl) rfl #[.int .i64 a0] rfl tc1_ ?_; (with_reducible refine (cmp_isNaN_int.calls a0 false _ A3.out).mono ?_); rintro e w' ⟨rfl, ⟨nd, rfl⟩⟩; refine ⟨_, rfl, ?_⟩) | ((with_reducible refine gate_callee (f := 206) rfl ?_); refine goesL_ (some 10) rfl rfl Try.func206 (by kernel_rfl) rfl #[.int .i64 a1] rfl tc1_ ?_; (with_reducible refine (cmp_isNaN_int.calls a1 false _ A4.out).mono ?_); rintro e w' ⟨rfl, ⟨nd, rfl⟩⟩; refine ⟨_, rfl, ?_⟩))
     go_ret
     exact ⟨by first | rfl | (simp; done) | (simp [*]; done), by repeat (first | exact Drawn0.refl _ | apply Drawn0.step)⟩

/-! ### slices_Compare_int_int: function 147 -/
def slices_Compare_int_int.l0 : Nat → List Int → List Int → List Int → Int → Int → Option (Int)
 | 0, _, _, _, _, _ => none
 | k + 1, x0, x1, x9, x10, x11 => if x11 < x10 then (if 0 ≤ x11 then (if x11 < (x9.length : Int) then (if x11 ≥ (x1.length : Int) then (some 1) else (if x11 < (x1.length : Int) then ((cmp_Compare_int.f (rd x9 x11) (rd x1 x11)).bind fun t103 => (if t103 = 0 then (slices_Compare_int_int.l0 k x0 x1 x9 x10 (wrap64 (x11 + 1))) else (some t103))) else (none))) else (none)) else (none)) else (if (x0.length : Int) < (x1.length : Int) then (some (-1)) else (some 0))
def slices_Compare_int_int.f (k : Nat) (l0 : List Int) (l1 : List Int) : Option (Int) := slices_Compare_int_int.l0 k l0 l1 l0 (l0.length : Int) 0
set_option maxHeartbeats 8000000 in
set_option maxRecDepth 100000 in
theorem slices_Compare_int_int.calls (k : Nat) (A0 : Option Addr) (c0 : Nat) (l0 : List Int) (A1 : Option Addr) (c1 : Nat) (l1 : List Int) (r : Int) (w : World) (hr0 : Kd.C (Kd.int .i64) w A0 l0.length l0) (hc0 : l0.length ≤ c0) (hr1 : Kd.C (Kd.int .i64) w A1 l1.length l1) (hc1 : l1.length ≤ c1) (h : slices_Compare_int_int.f k l0 l1 = some r) :
  Calls Try.prog 147 #[.slice A0 l0.length c0, .slice A1 l1.length c1] w fun e w' => e = .returned (.int .i64 r) ∧ Drawn0 w w' := by
 have HR0 := am_ hr0
 have HC0 := am_ hc0
 clear hr0 hc0
 have HR1 := am_ hr1
 have HC1 := am_ hc1
 clear hr1 hc1
 have H : (slices_Compare_int_int.l0 k l0 l1 l0 (l0.length : Int) 0) = some r := h
 clear h
 have H' := am_ H
 clear H
 go_enter Try.func147, Try.ntmps147
 go_wp2
 go_loopg [11] k (fun kq v11 w' => ∃ (x11_1 : Int), v11 = .int .i64 x11_1 ∧ Aside0 (slices_Compare_int_int.l0 kq l0 l1 l0 (l0.length : Int) x11_1 = some r) ∧ Aside0 (kq ≤ k) ∧ Drawn0 w w')
 case atStart => exact ⟨(0), tc7_, H', ⟨Nat.le_refl _⟩, by repeat (first | exact Drawn0.refl _ | apply Drawn0.step)⟩
 case round =>
  clear H'
  try clear c1
  try clear p2
  obtain ⟨x11_1, rfl, HA, HK1, ⟨m1, rfl⟩⟩ := hrel
  cases gk with
  | zero => exact absurd HA.out (by simp [slices_Compare_int_int.l0])
  | succ k1 =>
   have H := HA.out
   clear HA
   simp only [slices_Compare_int_int.l0] at H
   by_cases c3 : x11_1 < (l0.length : Int)
   ·rw [if_pos c3] at H
    have c3b0 : decide (x11_1 < (l0.length : Int)) = true := decide_eq_true c3
    clear c3
    by_cases c4 : 0 ≤ x11_1
    ·rw [if_pos c4] at H
     have c4b0 : decide (0 ≤ x11_1) = true := decide_eq_true c4
     clear c4
     by_cases c5 : x11_1 < (l0.length : Int)
     ·rw [if_pos c5] at H
      have c5b0 : decide (x11_1 < (l0.length : Int)) = true := decide_eq_true c5
      clear c5
      by_cases c6 : x11_1 ≥ (l1.length : Int)
      ·rw [if_pos c6] at H
       have c6b0 : decide ((l1.length : Int) ≤ x11_1) = true := decide_eq_true c6
       clear c6
       obtain rfl := Option.some.inj H
       have p101 : 0 ≤ (x11_1 : Int) := of_decide_eq_true tc3_
       have q101 : x11_1 < (l0.length : Int) := of_decide_eq_true tc3_
       obtain ⟨ad101, e101, hx101_0⟩ := Kd.at_int HR0.out x11_1 p101 q101
       cases e101
       replace p101 := eq_true p101
       replace q101 := eq_true q101
       go_wp2
       go_ret
       exact ⟨by first | rfl | (simp; done) | (simp [*]; done), by repeat (first | exact Drawn0.refl _ | apply Drawn0.step)⟩
      ·rw [if_neg c6] at H
       have c6b0 : decide ((l1.length : Int) ≤ x11_1) = false := decide_eq_false c6
       clear c6
       by_cases c7 : x11_1 < (l1.length : Int)
       ·rw [if_pos c7] at H
        have c7b0 : decide (x11_1 < (l1.length : Int)) = true := decide_eq_true c7
        clear c7
        replace H := Option.bind_eq_some_iff.mp H
        obtain ⟨t103, A80, H⟩ := H
        replace H : (if t103 = 0 then (slices_Compare_int_int.l0 k1 l0 l1 l0 (l0.length : Int) (wrap64 (x11_1 + 1))) else (some t103)) = some r := H
        have A8 := am_ A80
        clear A80
        by_cases c9 : t103 = 0
        ·rw [if_pos c9] at H
         have c9b0 : (t103 == 0) = true := beq_iff_eq.mpr c9
         have c9b1 : (t103 != 0) = false := bne_eq_false_iff_eq.mpr c9
         clear c9
         have H' := am_ H
         clear H
         have p101 : 0 ≤ (x11_1 : Int) := of_decide_eq_true tc3_
         have q101 : x11_1 < (l0.length : Int) := of_decide_eq_true tc3_
         obtain ⟨ad101, e101, hx101_0⟩ := Kd.at_int HR0.out x11_1 p101 q101
         cases e101
         replace p101 := eq_true p101
         replace q101 := eq_true q101
         have p102 : 0 ≤ (x11_1 : Int) := of_decide_eq_true tc3_
         have q102 : x11_1 < (l1.length : Int) := of_decide_eq_true tc3_
         obtain ⟨ad102, e102, hx102_0⟩ := Kd.at_int HR1.out x11_1 p102 q102
         cases e102
         replace p102 := eq_true p102
         replace q102 := eq_true q102
         go_wp2_with (first | ((with_reducible refine gate_callee (f := 188) rfl ?_); refine goesL_ (some 26) rfl rfl Try.func188 (by kernel_rfl) rfl #[.int .i64 (rd l0 x11_1), .int .i64 (rd l1 x11_1)] rfl tc1_ ?_; (with_reducible refine (cmp_Compare_int.calls (rd l0 x11_1) (rd l1 x11_1) t103 _ A8.out).mono ?_); rintro e w' ⟨rfl, ⟨nd, rfl⟩⟩; refine ⟨_, rfl, ?_⟩))
         go_roundg k1
         case measure => have := HK1.out; omega
         case rel => exact ⟨(wrap64 (x11_1 + 1)), tc7_, H', ⟨by have := HK1.out; omega⟩, by repeat (first | exact Drawn0.refl _ | apply Drawn0.step)⟩
        ·rw [if_neg c9] at H
         have c9b0 : (t103 == 0) = false := beq_eq_false_iff_ne.mpr c9
         have c9b1 : (t103 != 0) = true := bne_iff_ne.mpr c9
         obtain rfl := Option.some.inj H
         have p101 : 0 ≤ (x11_1 : Int) := of_decide_eq_true tc3_
         have q101 : x11_1 < (l0.length : Int) := of_decide_eq_true tc3_
         obtain ⟨ad101, e101, hx101_0⟩ := Kd.at_int HR0.out x11_1 p101 q101
         cases e101
         replace p101 := eq_true p101
         replace q101 := eq_true q101
         have p102 : 0 ≤ (x11_1 : Int) := of_decide_eq_true tc3_
         have q102 : x11_1 < (l1.length : Int) := of_decide_eq_true tc3_
         obtain ⟨ad102, e102, hx102_0⟩ := Kd.at_int HR1.out x11_1 p102 q102
         cases e102
         replace p102 := eq_true p102
         replace q102 := eq_true q102
         go_wp2_with (first | ((with_reducible refine gate_callee (f := 188) rfl ?_); refine goesL_ (some 26) rfl rfl Try.func188 (by kernel_rfl) rfl #[.int .i64 (rd l0 x11_1), .int .i64 (rd l1 x11_1)] rfl tc1_ ?_; (with_reducible refine (cmp_Compare_int.calls (rd l0 x11_1) (rd l1 x11_1) t103 _ A8.out).mono ?_); rintro e w' ⟨rfl, ⟨nd, rfl⟩⟩; refine ⟨_, rfl, ?_⟩))
         go_ret
         exact ⟨by first | rfl | (simp; done) | (simp [*]; done), by repeat (first | exact Drawn0.refl _ | apply Drawn0.step)⟩
       ·rw [if_neg c7] at H
        exact absurd H (by simp)
     ·rw [if_neg c5] at H
      exact absurd H (by simp)
    ·rw [if_neg c4] at H
     exact absurd H (by simp)
   ·rw [if_neg c3] at H
    have c3b0 : decide (x11_1 < (l0.length : Int)) = false := decide_eq_false c3
    clear c3
    by_cases c10 : (l0.length : Int) < (l1.length : Int)
    ·rw [if_pos c10] at H
     have c10b0 : decide ((l0.length : Int) < (l1.length : Int)) = true := decide_eq_true c10
     have c10b1 : decide (l0.length < l1.length) = true := decide_eq_true (Int.ofNat_lt.mp c10)
     clear c10
     obtain rfl := Option.some.inj H
     go_wp2
     go_ret
     exact ⟨by first | rfl | (simp; done) | (simp [*]; done), by repeat (first | exact Drawn0.refl _ | apply Drawn0.step)⟩
    ·rw [if_neg c10] at H
     have c10b0 : decide ((l0.length : Int) < (l1.length : Int)) = false := decide_eq_false c10
     have c10b1 : decide (l0.length < l1.length) = false := decide_eq_false (fun h => c10 (Int.ofNat_lt.mpr h))
     clear c10
     obtain rfl := Option.some.inj H
     go_wp2
     go_ret
     exact ⟨by first | rfl | (simp; done) | (simp [*]; done), by repeat (first | exact Drawn0.refl _ | apply Drawn0.step)⟩

/-! ### impl_compareTables_1: function 146 -/
def impl_compareTables_1.f (k : Nat) (l0 : List Int) (l1 : List Int) : Option (Int) := (slices_Compare_int_int.f k l0 l1).bind fun t101 => (some t101)
set_option maxHeartbeats 8000000 in
set_option maxRecDepth 100000 in
theorem impl_compareTables_1.calls (k : Nat) (A0 : Option Addr) (c0 : Nat) (l0 : List Int) (A1 : Option Addr) (c1 : Nat) (l1 : List Int) (r : Int) (w : World) (hr0 : Kd.C (Kd.int .i64) w A0 l0.length l0) (hc0 : l0.length ≤ c0) (hr1 : Kd.C (Kd.int .i64) w A1 l1.length l1) (hc1 : l1.length ≤ c1) (h : impl_compareTables_1.f k l0 l1 = some r) :
  Calls Try.prog 146 #[.slice A0 l0.length c0, .slice A1 l1.length c1] w fun e w' => e = .returned (.int .i64 r) ∧ Drawn0 w w' := by
 have HR0 := am_ hr0
 have HC0 := am_ hc0
 clear hr0 hc0
 have HR1 := am_ hr1
 have HC1 := am_ hc1
 clear hr1 hc1
 have H : ((slices_Compare_int_int.f k l0 l1).bind fun t101 => (some t101)) = some r := h
 clear h
 replace H := Option.bind_eq_some_iff.mp H
 obtain ⟨t101, A30, H⟩ := H
 replace H : (some t101) = some r := H
 have A3 := am_ A30
 clear A30
 obtain rfl := Option.some.inj H
 go_enter Try.func146, Try.ntmps146
 go_wp2_with (first | ((with_reducible refine gate_callee (f := 147) rfl ?_); refine goesL_ (some 7) rfl rfl Try.func147 (by kernel_rfl) rfl #[.slice A0 l0.length c0, .slice A1 l1.length c1] rfl tc1_ ?_; (with_reducible refine (slices_Compare_int_int.calls k _ _ l0 _ _ l1 t101 _ ?side1 ?side2 ?side3 ?side4 A3.out).mono ?_); (case side1 => exact tc23_); (case side2 => exact HC0.out); (case side3 => exact tc53_); (case side4 => exact HC1.out); rintro e w' ⟨rfl, ⟨nd, rfl⟩⟩; refine ⟨_, rfl, ?_⟩))
 go_ret
 exact ⟨by first | rfl | (simp; done) | (simp [*]; done), by repeat (first | exact Drawn0.refl _ | apply Drawn0.step)⟩

/-! ### impl_compareTables: function 74 -/
def impl_compareTables.f (k : Nat) (l0 : List (List Int)) (l1 : List (List Int)) : Option (Int) := (slices_CompareFunc_int_int_int_int.f k l0 l1 (fun x0_ x1_ => impl_compareTables_1.f k x0_ x1_)).bind fun t101 => (some t101)
set_option maxHeartbeats 8000000 in
set_option maxRecDepth 100000 in
theorem impl_compareTables.calls (k : Nat) (A0 : Option Addr) (c0 : Nat) (l0 : List (List Int)) (A1 : Option Addr) (c1 : Nat) (l1 : List (List Int)) (r : Int) (w : World) (hr0 : Kd.C (Kd.slice 3 (Kd.int .i64)) w A0 l0.length l0) (hc0 : l0.length ≤ c0) (hr1 : Kd.C (Kd.slice 3 (Kd.int .i64)) w A1 l1.length l1) (hc1 : l1.length ≤ c1) (h : impl_compareTables.f k l0 l1 = some r) :
  Calls Try.prog 74 #[.slice A0 l0.length c0, .slice A1 l1.length c1] w fun e w' => e = .returned (.int .i64 r) ∧ Below w.heap.size w w' := by
 have HR0 := am_ hr0
 have HC0 := am_ hc0
 clear hr0 hc0
 have HR1 := am_ hr1
 have HC1 := am_ hc1
 clear hr1 hc1
 have HB := am_ (Below.refl w.heap.size w)
 have H : ((slices_CompareFunc_int_int_int_int.f k l0 l1 (fun x0_ x1_ => impl_compareTables_1.f k x0_ x1_)).bind fun t101 => (some t101)) = some r := h
 clear h
 replace H := Option.bind_eq_some_iff.mp H
 obtain ⟨t101, A30, H⟩ := H
 replace H : (some t101) = some r := H
 have A3 := am_ A30
 clear A30
 obtain rfl := Option.some.inj H
 go_enter Try.func74, Try.ntmps74
 go_wp2_with (first | ((with_reducible refine gate_callee (f := 145) rfl ?_); refine goesL_ (some 7) rfl rfl Try.func145 (by kernel_rfl) rfl #[.slice A0 l0.length c0, .slice A1 l1.length c1, .func (.func 146) #[] #[]] rfl tc1_ ?_; (with_reducible refine (slices_CompareFunc_int_int_int_int.calls k _ _ l0 _ _ l1 _ _ (fun x0_ x1_ => impl_compareTables_1.f k x0_ x1_) t101 _ ?side1 ?side2 ?side3 ?side4 ?side5 A3.out).mono ?_); (case side1 => exact tc23_); (case side2 => exact HC0.out); (case side3 => exact tc53_); (case side4 => exact HC1.out); (case side5 => refine ⟨enters_of Try.func146 (by kernel_rfl) rfl, fun W_ hW_ x0_ v0_ hK0_ x1_ v1_ hK1_ r_ hr_ => ?_⟩; obtain ⟨A0_, c0_, e0_, hl0_, hC0_⟩ := hK0_; cases e0_; obtain ⟨A1_, c1_, e1_, hl1_, hC1_⟩ := hK1_; cases e1_; refine (impl_compareTables_1.calls k A0_ c0_ x0_ A1_ c1_ x1_ r_ W_ hC0_ hl0_ hC1_ hl1_ hr_).mono ?_; exact fun _ _ h_ => ⟨h_.1, h_.2.below⟩); rintro e w4 ⟨rfl, hb⟩; refine ⟨_, rfl, ?_⟩; have n0_ := am_ (below_step tc0_ hb); clear HB; have HB := n0_; clear n0_; (try clear hb)))
 go_ret
 exact ⟨by first | rfl | (simp [errW_none, errW_some] <;> rfl) | (simp [*, errW_none, errW_some] <;> rfl), by repeat (first | (with_reducible first | exact HB.out | apply below_alloc | apply pw_below_drewN | apply below_drew1) | exact HB.out)⟩

/-! ### impl_hasKind_1: function 174 -/
def impl_hasKind_1.f (k : Nat) (l0 : List (List Int)) (l1_0 : List (List Int)) : Option (Bool) := (impl_compareTables.f k l0 l1_0).bind fun t101 => (some (t101 == 0))
set_option maxHeartbeats 8000000 in
set_option maxRecDepth 100000 in
theorem impl_hasKind_1.calls (k : Nat) (A0 : Option Addr) (c0 : Nat) (l0 : List (List Int)) (B1 : Nat) (A1_0 : Option Addr) (c1_0 : Nat) (l1_0 : List (List Int)) (r : Bool) (w : World) (hr0 : Kd.C (Kd.slice 3 (Kd.int .i64)) w A0 l0.length l0) (hc0 : l0.length ≤ c0) (hb1 : w.heap[B1]? = some (.cells #[.slice A1_0 l1_0.length c1_0] 24 (0, 0))) (hr1_0 : Kd.C (Kd.slice 3 (Kd.int .i64)) w A1_0 l1_0.length l1_0) (hc1_0 : l1_0.length ≤ c1_0) (h : impl_hasKind_1.f k l0 l1_0 = some r) :
  Calls Try.prog 174 #[.slice A0 l0.length c0, .pointer (some ⟨B1, 0, none⟩)] w fun e w' => e = .returned (.bool r) ∧ Below w.heap.size w w' := by
 have HR0 := am_ hr0
 have HC0 := am_ hc0
 clear hr0 hc0
 have HR1_0 := am_ hr1_0
 have HC1_0 := am_ hc1_0
 clear hr1_0 hc1_0
 have BK61 := am_ hb1
 clear hb1
 have HB := am_ (Below.refl w.heap.size w)
 have H : ((impl_compareTables.f k l0 l1_0).bind fun t101 => (some (t101 == 0))) = some r := h
 clear h
 replace H := Option.bind_eq_some_iff.mp H
 obtain ⟨t101, A30, H⟩ := H
 replace H : (some (t101 == 0)) = some r := H
 have A3 := am_ A30
 clear A30
 obtain rfl := Option.some.inj H
 have hcz4_0 : w.cell? ⟨B1, 0, none⟩ = some (.slice A1_0 l1_0.length c1_0) := (blk_cell BK61.out 0).trans rfl
 have hfz4_0 := blk_frozen BK61.out 0
 go_enter Try.func174, Try.ntmps174
 go_wp2_with (first | ((with_reducible refine gate_callee (f := 74) rfl ?_); refine goesL_ (some 6) rfl rfl Try.func74 (by kernel_rfl) rfl #[.slice A0 l0.length c0, .slice A1_0 l1_0.length c1_0] rfl tc1_ ?_; (with_reducible refine (impl_compareTables.calls k _ _ l0 _ _ l1_0 t101 _ ?side1 ?side2 ?side3 ?side4 A3.out).mono ?_); (case side1 => exact tc23_); (case side2 => exact HC0.out); (case side3 => repeat (first | exact HR1_0.out | (with_reducible refine Kd.C_alloc ?_ _) | (with_reducible refine Kd.C_drewN ?_ _) | (with_reducible refine Kd.C_drew ?_))); (case side4 => exact HC1_0.out); rintro e w5 ⟨rfl, hb⟩; refine ⟨_, rfl, ?_⟩; have n0_ := am_ (blk_below (g := B1) (o := .cells #[.slice A1_0 l1_0.length c1_0] 24 (0, 0)) tc64_ hb); have n1_ := am_ (below_step tc61_ hb); clear BK61 HB; have BK61 := n0_; have HB := n1_; clear n0_ n1_; (try clear hb)))
 go_ret
 exact ⟨by first | rfl | (simp [errW_none, errW_some] <;> rfl) | (simp [*, errW_none, errW_some] <;> rfl), by repeat (first | (with_reducible first | exact HB.out | apply below_alloc | apply pw_below_drewN | apply below_drew1 | refine below_set ?_ GE61.out) | exact HB.out)⟩

/-! ### impl_transposed_1: function 200 -/
def impl_transposed_1.f (a0 : Int) (a1 : Int) (l2_0 : List (List Int)) : Option (Int) := if 0 ≤ a1 then (if a1 < (l2_0.length : Int) then (if 0 ≤ a0 then (if a0 < ((rd_L3 l2_0 a1).length : Int) then (some (rd (rd_L3 l2_0 a1) a0)) else (none)) else (none)) else (none)) else (none)
set_option maxHeartbeats 8000000 in
set_option maxRecDepth 100000 in
theorem impl_transposed_1.calls (a0 : Int) (a1 : Int) (B2 : Nat) (A2_0 : Option Addr) (c2_0 : Nat) (l2_0 : List (List Int)) (r : Int) (w : World) (hb2 : w.heap[B2]? = some (.cells #[.slice A2_0 l2_0.length c2_0] 24 (0, 0))) (hr2_0 : Kd.C (Kd.slice 3 (Kd.int .i64)) w A2_0 l2_0.length l2_0) (hc2_0 : l2_0.length ≤ c2_0) (h : impl_transposed_1.f a0 a1 l2_0 = some r) :
  Calls Try.prog 200 #[.int .i64 a0, .int .i64 a1, .pointer (some ⟨B2, 0, none⟩)] w fun e w' => e = .returned (.int .i64 r) ∧ Drawn0 w w' := by
 have HR2_0 := am_ hr2_0
 have HC2_0 := am_ hc2_0
 clear hr2_0 hc2_0
 have BK62 := am_ hb2
 clear hb2
 have H : (if 0 ≤ a1 then (if a1 < (l2_0.length : Int) then (if 0 ≤ a0 then (if a0 < ((rd_L3 l2_0 a1).length : Int) then (some (rd (rd_L3 l2_0 a1) a0)) else (none)) else (none)) else (none)) else (none)) = some r := h
 clear h
 by_cases c4 : 0 ≤ a1
 ·rw [if_pos c4] at H
  have c4b0 : decide (0 ≤ a1) = true := decide_eq_true c4
  clear c4
  by_cases c5 : a1 < (l2_0.length : Int)
  ·rw [if_pos c5] at H
   have c5b0 : decide (a1 < (l2_0.length : Int)) = true := decide_eq_true c5
   clear c5
   by_cases c6 : 0 ≤ a0
   ·rw [if_pos c6] at H
    have c6b0 : decide (0 ≤ a0) = true := decide_eq_true c6
    clear c6
    by_cases c7 : a0 < ((rd_L3 l2_0 a1).length : Int)
    ·rw [if_pos c7] at H
     have c7b0 : decide (a0 < ((rd_L3 l2_0 a1).length : Int)) = true := decide_eq_true c7
     clear c7
     obtain rfl := Option.some.inj H
     have hcz8_0 : w.cell? ⟨B2, 0, none⟩ = some (.slice A2_0 l2_0.length c2_0) := (blk_cell BK62.out 0).trans rfl
     have hfz8_0 := blk_frozen BK62.out 0
     have p101 : 0 ≤ (a1 : Int) := of_decide_eq_true tc3_
     have q101 : a1 < (l2_0.length : Int) := of_decide_eq_true tc3_
     obtain ⟨ad101, A101_0, c101_0, e101, hx101_0, hl101_0, hi101_0⟩ := at_L3 HR2_0.out a1 p101 q101
     cases e101
     have HR101_0 := am_ hi101_0
     have HC101_0 := am_ hl101_0
     clear hi101_0 hl101_0
     replace p101 := eq_true p101
     replace q101 := eq_true q101
     have p102 : 0 ≤ (a0 : Int) := of_decide_eq_true tc3_
     have q102 : a0 < ((rd_L3 l2_0 a1).length : Int) := of_decide_eq_true tc3_
     obtain ⟨ad102, e102, hx102_0⟩ := Kd.at_int HR101_0.out a0 p102 q102
     cases e102
     replace p102 := eq_true p102
     replace q102 := eq_true q102
     go_enter Try.func200, Try.ntmps200
     go_wp2
     go_ret
     exact ⟨by first | rfl | (simp; done) | (simp [*]; done), by repeat (first | exact Drawn0.refl _ | apply Drawn0.step)⟩
    ·rw [if_neg c7] at H
     exact absurd H (by simp)
   ·rw [if_neg c6] at H
    exact absurd H (by simp)
  ·rw [if_neg c5] at H
   exact absurd H (by simp)
 ·rw [if_neg c4] at H
  exact absurd H (by simp)

/-! ### impl_transposed: function 175 -/
def impl_transposed.f (k : Nat) (l0 : List (List Int)) : Option ((List (List Int))) := (impl_table.f k (l0.length : Int) (l0.length : Int) (fun x0_ x1_ => impl_transposed_1.f x0_ x1_ l0)).bind fun t102 => (some t102)
set_option maxHeartbeats 8000000 in
set_option maxRecDepth 100000 in
theorem impl_transposed.calls (k : Nat) (A0 : Option Addr) (c0 : Nat) (l0 : List (List Int)) (r : List (List Int)) (w : World) (hr0 : Kd.C (Kd.slice 3 (Kd.int .i64)) w A0 l0.length l0) (hc0 : l0.length ≤ c0) (h : impl_transposed.f k l0 = some r) :
  Calls Try.prog 175 #[.slice A0 l0.length c0] w fun e w' => ∃ v0_ : Value, e = .returned (v0_) ∧ Kd.S (Kd.slice 3 (Kd.int .i64)) 35 w' w.heap.size (fun _ => True) v0_ r ∧ Below w.heap.size w w' := by
 have HR0 := am_ hr0
 have HC0 := am_ hc0
 clear hr0 hc0
 have HB := am_ (Below.refl w.heap.size w)
 have H : ((impl_table.f k (l0.length : Int) (l0.length : Int) (fun x0_ x1_ => impl_transposed_1.f x0_ x1_ l0)).bind fun t102 => (some t102)) = some r := h
 clear h
 replace H := Option.bind_eq_some_iff.mp H
 obtain ⟨t102, A20, H⟩ := H
 replace H : (some t102) = some r := H
 have A2 := am_ A20
 clear A20
 obtain rfl := Option.some.inj H
 go_enter Try.func175, Try.ntmps175
 go_wp2_with (first | ((with_reducible refine gate_dst (N := 1) rfl ?_); refine box_event ?hg (N := 1) ?hd (cs := #[.slice A0 l0.length c0]) (t := 24) ?hr ?_; (case hd => rfl); (case hg => rfl); (case hr => exact tc19_); intro gb101 hg w3 hbox hb; have n0_ := am_ (below_step tc0_ hb); have n1_ := am_ (hbox); have n2_ := am_ ((by rw [hg]; exact (below_size tc0_) : w.heap.size ≤ gb101)); have n3_ := am_ ((by rw [hg]; exact (below_size tc0_) : w.heap.size ≤ gb101)); clear HB; have HB := n0_; have BK101 := n1_; have GW101 := n2_; have GE101 := n3_; clear n0_ n1_ n2_ n3_; clear hb hbox hg; have hcz4_0 : w3.cell? ⟨gb101, 0, none⟩ = some (.slice A0 l0.length c0) := (blk_cell BK101.out 0).trans rfl; have hfz4_0 := blk_frozen BK101.out 0) | ((with_reducible refine gate_callee (f := 72) rfl ?_); refine goesL_ (some 8) rfl rfl Try.func72 (by kernel_rfl) rfl #[.int .i64 (l0.length : Int), .int .i64 (l0.length : Int), .func (.func 200) #[] #[.pointer (some ⟨gb101, 0, none⟩)]] rfl tc1_ ?_; (with_reducible refine (impl_table.calls k (l0.length : Int) (l0.length : Int) _ _ (fun x0_ x1_ => impl_transposed_1.f x0_ x1_ l0) t102 _ ?side1 A2.out).mono ?_); (case side1 => refine ⟨enters_of Try.func200 (by kernel_rfl) rfl, fun W_ hW_ x0_ v0_ hK0_ x1_ v1_ hK1_ r_ hr_ => ?_⟩; cases (show v0_ = .int .i64 x0_ from (by simpa [Kd.int, Kd.bool, Kd.string, Kd.scalar] using hK0_)); cases (show v1_ = .int .i64 x1_ from (by simpa [Kd.int, Kd.bool, Kd.string, Kd.scalar] using hK1_)); refine (impl_transposed_1.calls x0_ x1_ _ A0 c0 l0 r_ W_ ?cb1 ?cb2 ?cb3 hr_).mono ?_; (case cb1 => exact tc62_); (case cb2 => refine Kd.C_below ?_ hW_; repeat (first | exact (Kd.C_below HR0.out HB.out) | (with_reducible refine Kd.C_alloc ?_ _) | (with_reducible refine Kd.C_drewN ?_ _) | (with_reducible refine Kd.C_drew ?_))); (case cb3 => exact HC0.out); exact fun _ _ h_ => ⟨h_.1, h_.2.below⟩); rintro e w5 ⟨v103, rfl, ho0, hb⟩; refine ⟨_, rfl, ?_⟩; have n0_ := am_ (Kd.S_lower ho0 (below_size tc6_)); have n1_ := am_ (blk_below (g := gb101) (o := .cells #[.slice A0 l0.length c0] 24 (0, 0)) tc2_ hb); have n2_ := am_ (below_step tc6_ hb); clear BK101 HB; have HO104 := n0_; have BK101 := n1_; have HB := n2_; clear n0_ n1_ n2_; (try clear hb ho0)))
 go_ret
 exact ⟨_, by first | rfl | (simp [errW_none, errW_some] <;> rfl) | (simp [*, errW_none, errW_some] <;> rfl), by (with_reducible repeat (first | apply Kd.S_alloc | apply Kd.S_drewN | apply Kd.S_drew)); exact HO104.out, by repeat (first | (with_reducible first | exact HB.out | apply below_alloc | apply pw_below_drewN | apply below_drew1 | refine below_set ?_ GE101.out) | exact HB.out)⟩

/-! ### impl_hasKind: function 111 -/
def impl_hasKind.f (k : Nat) (l0 : List (List Int)) (a1 : Int) : Option (Bool) := (impl_eight.f k l0).bind fun t102 => (if a1 = 0 then (if 2 < (t102.length : Int) then ((impl_hasKind_1.f k (rd_L4 t102 2) l0).bind fun t106 => (some t106)) else (none)) else (if a1 = 1 then (if 1 < (t102.length : Int) then ((impl_hasKind_1.f k (rd_L4 t102 1) l0).bind fun t108 => (some t108)) else (none)) else (if a1 = 2 then (if 4 < (t102.length : Int) then ((impl_hasKind_1.f k (rd_L4 t102 4) l0).bind fun t110 => (some t110)) else (none)) else (if a1 = 3 then ((impl_transposed.f k l0).bind fun t111 => ((impl_hasKind_1.f k t111 l0).bind fun t114 => (some t114))) else (if 4 < (t102.length : Int) then ((impl_hasKind_1.f k (rd_L4 t102 4) l0).bind fun t116 => (if t116 = true then (if 6 < (t102.length : Int) then ((impl_hasKind_1.f k (rd_L4 t102 6) l0).bind fun t118 => (some t118)) else (none)) else (some false))) else (none))))))
set_option maxHeartbeats 8000000 in
set_option maxRecDepth 100000 in
theorem impl_hasKind.calls (k : Nat) (A0 : Option Addr) (c0 : Nat) (l0 : List (List Int)) (a1 : Int) (r : Bool) (w : World) (hr0 : Kd.C (Kd.slice 3 (Kd.int .i64)) w A0 l0.length l0) (hc0 : l0.length ≤ c0) (h : impl_hasKind.f k l0 a1 = some r) :
  Calls Try.prog 111 #[.slice A0 l0.length c0, .int .i64 a1] w fun e w' => e = .returned (.bool r) ∧ Below w.heap.size w w' := by
 have HR0 := am_ hr0
 have HC0 := am_ hc0
 clear hr0 hc0
 have HB := am_ (Below.refl w.heap.size w)
 have H : ((impl_eight.f k l0).bind fun t102 => (if a1 = 0 then (if 2 < (t102.length : Int) then ((impl_hasKind_1.f k (rd_L4 t102 2) l0).bind fun t106 => (some t106)) else (none)) else (if a1 = 1 then (if 1 < (t102.length : Int) then ((impl_hasKind_1.f k (rd_L4 t102 1) l0).bind fun t108 => (some t108)) else (none)) else (if a1 = 2 then (if 4 < (t102.length : Int) then ((impl_hasKind_1.f k (rd_L4 t102 4) l0).bind fun t110 => (some t110)) else (none)) else (if a1 = 3 then ((impl_transposed.f k l0).bind fun t111 => ((impl_hasKind_1.f k t111 l0).bind fun t114 => (some t114))) else (if 4 < (t102.length : Int) then ((impl_hasKind_1.f k (rd_L4 t102 4) l0).bind fun t116 => (if t116 = true then (if 6 < (t102.length : Int) then ((impl_hasKind_1.f k (rd_L4 t102 6) l0).bind fun t118 => (some t118)) else (none)) else (some false))) else (none))))))) = some r := h
 clear h
 replace H := Option.bind_eq_some_iff.mp H
 obtain ⟨t102, A30, H⟩ := H
 replace H : (if a1 = 0 then (if 2 < (t102.length : Int) then ((impl_hasKind_1.f k (rd_L4 t102 2) l0).bind fun t106 => (some t106)) else (none)) else (if a1 = 1 then (if 1 < (t102.length : Int) then ((impl_hasKind_1.f k (rd_L4 t102 1) l0).bind fun t108 => (some t108)) else (none)) else (if a1 = 2 then (if 4 < (t102.length : Int) then ((impl_hasKind_1.f k (rd_L4 t102 4) l0).bind fun t110 => (some t110)) else (none)) else (if a1 = 3 then ((impl_transposed.f k l0).bind fun t111 => ((impl_hasKind_1.f k t111 l0).bind fun t114 => (some t114))) else (if 4 < (t102.length : Int) then ((impl_hasKind_1.f k (rd_L4 t102 4) l0).bind fun t116 => (if t116 = true then (if 6 < (t102.length : Int) then ((impl_hasKind_1.f k (rd_L4 t102 6) l0).bind fun t118 => (some t118)) else (none)) else (some false))) else (none)))))) = some r := H
 have A3 := am_ A30
 clear A30
 by_cases c4 : a1 = 0
 ·rw [if_pos c4] at H
  have c4b0 : (a1 == 0) = true := beq_iff_eq.mpr c4
  have c4b1 : (a1 != 0) = false := bne_eq_false_iff_eq.mpr c4
  clear c4
  by_cases c5 : 2 < (t102.length : Int)
  ·rw [if_pos c5] at H
   have c5b0 : decide (2 < (t102.length : Int)) = true := decide_eq_true c5
   have c5b1 : decide (2 < t102.length) = true := decide_eq_true (by omega)
   clear c5
   replace H := Option.bind_eq_some_iff.mp H
   obtain ⟨t106, A60, H⟩ := H
   replace H : (some t106) = some r := H
   have A6 := am_ A60
   clear A60
   obtain rfl := Option.some.inj H
   go_enter Try.func111, Try.ntmps111
   go_wp2_with (first | ((with_reducible refine gate_dst (N := 2) rfl ?_); refine box_event ?hg (N := 2) ?hd (cs := #[.slice A0 l0.length c0]) (t := 24) ?hr ?_; (case hd => rfl); (case hg => rfl); (case hr => exact tc19_); intro gb101 hg w7 hbox hb; have n0_ := am_ (below_step tc0_ hb); have n1_ := am_ (hbox); have n2_ := am_ ((by rw [hg]; exact (below_size tc0_) : w.heap.size ≤ gb101)); have n3_ := am_ ((by rw [hg]; exact (below_size tc0_) : w.heap.size ≤ gb101)); clear HB; have HB := n0_; have BK101 := n1_; have GW101 := n2_; have GE101 := n3_; clear n0_ n1_ n2_ n3_; clear hb hbox hg; have hcz8_0 : w7.cell? ⟨gb101, 0, none⟩ = some (.slice A0 l0.length c0) := (blk_cell BK101.out 0).trans rfl; have hfz8_0 := blk_frozen BK101.out 0) | ((with_reducible refine gate_callee (f := 128) rfl ?_); refine goesL_ (some 9) rfl rfl Try.func128 (by kernel_rfl) rfl #[.slice A0 l0.length c0] rfl tc1_ ?_; (with_reducible refine (impl_eight.calls k (fun k_ => k_ < w.heap.size) _ _ l0 t102 _ ?side1 A3.out).mono ?_); (case side1 => exact tc32_); rintro e w9 ⟨v103, rfl, ho0, hb⟩; refine ⟨_, rfl, ?_⟩; have n0_ := am_ (Kd.N_lower (Kd.N_mono (ok' := fun k_ => k_ ≠ gb101) ho0 (fun k_ hk_ => Or.elim hk_ (fun hs_ => fun e_ => Nat.not_le.2 hs_ (by rw [e_]; exact GW101.out)) (fun hn_ => (Kd.freshB (g := gb101) (o := .cells #[.slice A0 l0.length c0] 24 (0, 0)) tc2_ k_ hn_)))) (below_size tc6_)); have n1_ := am_ (blk_below (g := gb101) (o := .cells #[.slice A0 l0.length c0] 24 (0, 0)) tc2_ hb); have n2_ := am_ (below_step tc6_ hb); clear BK101 HB; have HO104 := n0_; have BK101 := n1_; have HB := n2_; clear n0_ n1_ n2_; (try clear hb ho0); obtain ⟨Ao10, co10, eo10⟩ := Kd.N_slice HO104.out; subst eo10; have p105 : 0 ≤ (2 : Int) := (by omega); have q105 : 2 < (t102.length : Int) := of_decide_eq_true tc3_; obtain ⟨ad105, A105_0, c105_0, e105, hx105_0, hl105_0, hi105_0⟩ := at_L4 (Kd.N_reads' HO104.out).2.2 2 p105 q105; cases e105; obtain ⟨ce105, hce105, hMe105, hcc105⟩ := Kd.N_get HO104.out [] 2 p105 (by first | exact q105 | exact of_decide_eq_true tc3_ | (have e_ := (Kd.N_reads' HO104.out).1; omega)); obtain ⟨ua105_0, uc105_0, rfl, ul105_0, ge105_0⟩ := Kd.FK_slice_open hMe105; have hv105_0 := hcc105 0 _ rfl; rw [Nat.add_zero, show ((Kd.slice 35 (Kd.slice 3 (Kd.int .i64)))).sz = 1 from rfl, Nat.mul_one] at hv105_0; replace hv105_0 := Option.some.inj (hv105_0.symm.trans hx105_0); injection hv105_0 with hva_ hvn_ hvc_; rw [hva_] at ge105_0; rw [hvc_] at ul105_0; have HL105_0 := am_ (show Kd.V (Kd.slice 3 (Kd.int .i64)) 35 _ w.heap.size _ _ (rd_L4 t102 2) from Kd.V_mk ul105_0 ge105_0); clear hva_ hvn_ hvc_ ge105_0 ul105_0; clear hcc105 hce105; (try simp only [show (2 : Int).toNat = 2 from rfl, Nat.reduceMul, Nat.reduceEqDiff, Go.Addr.add, ↓reduceIte] at hx105_0); have qi105 : (2 < t102.length) = True := eq_true (by omega); (try rw [show ((2 : Int)).toNat = 2 from rfl] at hx105_0); have HR105_0 := am_ hi105_0; have HC105_0 := am_ hl105_0; clear hi105_0 hl105_0; replace p105 := eq_true p105; replace q105 := eq_true q105) | (go_at_call 174; (with_reducible refine (impl_hasKind_1.calls k _ _ (rd_L4 t102 2) _ A0 c0 l0 t106 _ ?side1 ?side2 ?side3 ?side4 ?side5 A6.out).mono ?_); (case side1 => repeat (first | exact tc49_ | (with_reducible refine Kd.C_alloc ?_ _) | (with_reducible refine Kd.C_drewN ?_ _) | (with_reducible refine Kd.C_drew ?_))); (case side2 => exact HC105_0.out); (case side3 => exact tc43_); (case side4 => exact tc12_); (case side5 => exact HC0.out); rintro e w11 ⟨rfl, hb⟩; have n0_ := am_ (Kd.N_below tc42_ hb); have n1_ := am_ (Kd.V_below (by (with_reducible repeat (first | apply Kd.V_alloc | apply Kd.V_drewN | apply Kd.V_drew)); exact HL105_0.out) hb); have n2_ := am_ (blk_below (g := gb101) (o := .cells #[.slice A0 l0.length c0] 24 (0, 0)) tc2_ hb); have n3_ := am_ (Kd.C_below tc49_ hb); have n4_ := am_ (below_step tc6_ hb); clear HO104 HL105_0; clear BK101 HR105_0 HB; have HO104 := n0_; have HL105_0 := n1_; have BK101 := n2_; have HR105_0 := n3_; have HB := n4_; clear n0_ n1_ n2_ n3_ n4_; (try clear hb hb2 hk hi)))
   go_ret
   exact ⟨by first | rfl | (simp [errW_none, errW_some] <;> rfl) | (simp [*, errW_none, errW_some] <;> rfl), by repeat (first | (with_reducible first | exact HB.out | apply below_alloc | apply pw_below_drewN | apply below_drew1 | refine below_set ?_ GE101.out) | exact HB.out)⟩
  ·rw [if_neg c5] at H
   exact absurd H (by simp)
 ·rw [if_neg c4] at H
  have c4b0 : (a1 == 0) = false := beq_eq_false_iff_ne.mpr c4
  have c4b1 : (a1 != 0) = true := bne_iff_ne.mpr c4
  by_cases c12 : a1 = 1
  ·rw [if_pos c12] at H
   have c12b0 : (a1 == 1) = true := beq_iff_eq.mpr c12
   have c12b1 : (a1 != 1) = false := bne_eq_false_iff_eq.mpr c12
   clear c12
   by_cases c13 : 1 < (t102.length : Int)
   ·rw [if_pos c13] at H
    have c13b0 : decide (1 < (t102.length : Int)) = true := decide_eq_true c13
    have c13b1 : decide (1 < t102.length) = true := decide_eq_true (by omega)
    clear c13
    replace H := Option.bind_eq_some_iff.mp H
    obtain ⟨t108, A140, H⟩ := H
    replace H : (some t108) = some r := H
    have A14 := am_ A140
    clear A140
    obtain rfl := Option.some.inj H
    go_enter Try.func111, Try.ntmps111
    go_wp2_with (first | ((with_reducible refine gate_dst (N := 2) rfl ?_); refine box_event ?hg (N := 2) ?hd (cs := #[.slice A0 l0.length c0]) (t := 24) ?hr ?_; (case hd => rfl); (case hg => rfl); (case hr => exact tc19_); intro gb101 hg w15 hbox hb; have n0_ := am_ (below_step tc0_ hb); have n1_ := am_ (hbox); have n2_ := am_ ((by rw [hg]; exact (below_size tc0_) : w.heap.size ≤ gb101)); have n3_ := am_ ((by rw [hg]; exact (below_size tc0_) : w.heap.size ≤ gb101)); clear HB; have HB := n0_; have BK101 := n1_; have GW101 := n2_; have GE101 := n3_; clear n0_ n1_ n2_ n3_; clear hb hbox hg; have hcz16_0 : w15.cell? ⟨gb101, 0, none⟩ = some (.slice A0 l0.length c0) := (blk_cell BK101.out 0).trans rfl; have hfz16_0 := blk_frozen BK101.out 0) | ((with_reducible refine gate_callee (f := 128) rfl ?_); refine goesL_ (some 9) rfl rfl Try.func128 (by kernel_rfl) rfl #[.slice A0 l0.length c0] rfl tc1_ ?_; (with_reducible refine (impl_eight.calls k (fun k_ => k_ < w.heap.size) _ _ l0 t102 _ ?side1 A3.out).mono ?_); (case side1 => exact tc32_); rintro e w17 ⟨v103, rfl, ho0, hb⟩; refine ⟨_, rfl, ?_⟩; have n0_ := am_ (Kd.N_lower (Kd.N_mono (ok' := fun k_ => k_ ≠ gb101) ho0 (fun k_ hk_ => Or.elim hk_ (fun hs_ => fun e_ => Nat.not_le.2 hs_ (by rw [e_]; exact GW101.out)) (fun hn_ => (Kd.freshB (g := gb101) (o := .cells #[.slice A0 l0.length c0] 24 (0, 0)) tc2_ k_ hn_)))) (below_size tc6_)); have n1_ := am_ (blk_below (g := gb101) (o := .cells #[.slice A0 l0.length c0] 24 (0, 0)) tc2_ hb); have n2_ := am_ (below_step tc6_ hb); clear BK101 HB; have HO104 := n0_; have BK101 := n1_; have HB := n2_; clear n0_ n1_ n2_; (try clear hb ho0); obtain ⟨Ao18, co18, eo18⟩ := Kd.N_slice HO104.out; subst eo18; have p107 : 0 ≤ (1 : Int) := (by omega); have q107 : 1 < (t102.length : Int) := of_decide_eq_true tc3_; obtain ⟨ad107, A107_0, c107_0, e107, hx107_0, hl107_0, hi107_0⟩ := at_L4 (Kd.N_reads' HO104.out).2.2 1 p107 q107; cases e107; obtain ⟨ce107, hce107, hMe107, hcc107⟩ := Kd.N_get HO104.out [] 1 p107 (by first | exact q107 | exact of_decide_eq_true tc3_ | (have e_ := (Kd.N_reads' HO104.out).1; omega)); obtain ⟨ua107_0, uc107_0, rfl, ul107_0, ge107_0⟩ := Kd.FK_slice_open hMe107; have hv107_0 := hcc107 0 _ rfl; rw [Nat.add_zero, show ((Kd.slice 35 (Kd.slice 3 (Kd.int .i64)))).sz = 1 from rfl, Nat.mul_one] at hv107_0; replace hv107_0 := Option.some.inj (hv107_0.symm.trans hx107_0); injection hv107_0 with hva_ hvn_ hvc_; rw [hva_] at ge107_0; rw [hvc_] at ul107_0; have HL107_0 := am_ (show Kd.V (Kd.slice 3 (Kd.int .i64)) 35 _ w.heap.size _ _ (rd_L4 t102 1) from Kd.V_mk ul107_0 ge107_0); clear hva_ hvn_ hvc_ ge107_0 ul107_0; clear hcc107 hce107; (try simp only [show (1 : Int).toNat = 1 from rfl, Nat.reduceMul, Nat.reduceEqDiff, Go.Addr.add, ↓reduceIte] at hx107_0); have qi107 : (1 < t102.length) = True := eq_true (by omega); (try rw [show ((1 : Int)).toNat = 1 from rfl] at hx107_0); have HR107_0 := am_ hi107_0; have HC107_0 := am_ hl107_0; clear hi107_0 hl107_0; replace p107 := eq_true p107; replace q107 := eq_true q107) | (go_at_call 174; (with_reducible refine (impl_hasKind_1.calls k _ _ (rd_L4 t102 1) _ A0 c0 l0 t108 _ ?side1 ?side2 ?side3 ?side4 ?side5 A14.out).mono ?_); (case side1 => repeat (first | exact (by repeat (first | (with_reducible exact HR107_0.out) | (with_reducible refine Kd.C_alloc ?_ _) | (with_reducible refine Kd.C_drewN ?_ _) | (with_reducible refine Kd.C_drew ?_) | exact HR107_0.out)) | (with_reducible refine Kd.C_alloc ?_ _) | (with_reducible refine Kd.C_drewN ?_ _) | (with_reducible refine Kd.C_drew ?_))); (case side2 => exact HC107_0.out); (case side3 => exact tc43_); (case side4 => exact tc12_); (case side5 => exact HC0.out); rintro e w19 ⟨rfl, hb⟩; have n0_ := am_ (Kd.N_below tc42_ hb); have n1_ := am_ (Kd.V_below (by (with_reducible repeat (first | apply Kd.V_alloc | apply Kd.V_drewN | apply Kd.V_drew)); exact HL107_0.out) hb); have n2_ := am_ (blk_below (g := gb101) (o := .cells #[.slice A0 l0.length c0] 24 (0, 0)) tc2_ hb); have n3_ := am_ (Kd.C_below (by repeat (first | (with_reducible exact HR107_0.out) | (with_reducible refine Kd.C_alloc ?_ _) | (with_reducible refine Kd.C_drewN ?_ _) | (with_reducible refine Kd.C_drew ?_) | exact HR107_0.out)) hb); have n4_ := am_ (below_step tc6_ hb); clear HO104 HL107_0; clear BK101 HR107_0 HB; have HO104 := n0_; have HL107_0 := n1_; have BK101 := n2_; have HR107_0 := n3_; have HB := n4_; clear n0_ n1_ n2_ n3_ n4_; (try clear hb hb2 hk hi)))
    go_ret
    exact ⟨by first | rfl | (simp [errW_none, errW_some] <;> rfl) | (simp [*, errW_none, errW_some] <;> rfl), by repeat (first | (with_reducible first | exact HB.out | apply below_alloc | apply pw_below_drewN | apply below_drew1 | refine below_set ?_ GE101.out) | exact HB.out)⟩
   ·rw [if_neg c13] at H
    exact absurd H (by simp)
  ·rw [if_neg c12] at H
   have c12b0 : (a1 == 1) = false := beq_eq_false_iff_ne.mpr c12
   have c12b1 : (a1 != 1) = true := bne_iff_ne.mpr c12
   by_cases c20 : a1 = 2
   ·rw [if_pos c20] at H
    have c20b0 : (a1 == 2) = true := beq_iff_eq.mpr c20
    have c20b1 : (a1 != 2) = false := bne_eq_false_iff_eq.mpr c20
    clear c20
    by_cases c21 : 4 < (t102.length : Int)
    ·rw [if_pos c21] at H
     have c21b0 : decide (4 < (t102.length : Int)) = true := decide_eq_true c21
     have c21b1 : decide (4 < t102.length) = true := decide_eq_true (by omega)
     clear c21
     replace H := Option.bind_eq_some_iff.mp H
     obtain ⟨t110, A220, H⟩ := H
     replace H : (some t110) = some r := H
     have A22 := am_ A220
     clear A220
     obtain rfl := Option.some.inj H
     go_enter Try.func111, Try.ntmps111
     go_wp2_with (first | ((with_reducible refine gate_dst (N := 2) rfl ?_); refine box_event ?hg (N := 2) ?hd (cs := #[.slice A0 l0.length c0]) (t := 24) ?hr ?_; (case hd => rfl); (case hg => rfl); (case hr => exact tc19_); intro gb101 hg w23 hbox hb; have n0_ := am_ (below_step tc0_ hb); have n1_ := am_ (hbox); have n2_ := am_ ((by rw [hg]; exact (below_size tc0_) : w.heap.size ≤ gb101)); have n3_ := am_ ((by rw [hg]; exact (below_size tc0_) : w.heap.size ≤ gb101)); clear HB; have HB := n0_; have BK101 := n1_; have GW101 := n2_; have GE101 := n3_; clear n0_ n1_ n2_ n3_; clear hb hbox hg; have hcz24_0 : w23.cell? ⟨gb101, 0, none⟩ = some (.slice A0 l0.length c0) := (blk_cell BK101.out 0).trans rfl; have hfz24_0 := blk_frozen BK101.out 0) | ((with_reducible refine gate_callee (f := 128) rfl ?_); refine goesL_ (some 9) rfl rfl Try.func128 (by kernel_rfl) rfl #[.slice A0 l0.length c0] rfl tc1_ ?_; (with_reducible refine (impl_eight.calls k (fun k_ => k_ < w.heap.size) _ _ l0 t102 _ ?side1 A3.out).mono ?_); (case side1 => exact tc32_); rintro e w25 ⟨v103, rfl, ho0, hb⟩; refine ⟨_, rfl, ?_⟩; have n0_ := am_ (Kd.N_lower (Kd.N_mono (ok' := fun k_ => k_ ≠ gb101) ho0 (fun k_ hk_ => Or.elim hk_ (fun hs_ => fun e_ => Nat.not_le.2 hs_ (by rw [e_]; exact GW101.out)) (fun hn_ => (Kd.freshB (g := gb101) (o := .cells #[.slice A0 l0.length c0] 24 (0, 0)) tc2_ k_ hn_)))) (below_size tc6_)); have n1_ := am_ (blk_below (g := gb101) (o := .cells #[.slice A0 l0.length c0] 24 (0, 0)) tc2_ hb); have n2_ := am_ (below_step tc6_ hb); clear BK101 HB; have HO104 := n0_; have BK101 := n1_; have HB := n2_; clear n0_ n1_ n2_; (try clear hb ho0); obtain ⟨Ao26, co26, eo26⟩ := Kd.N_slice HO104.out; subst eo26; have p109 : 0 ≤ (4 : Int) := (by omega); have q109 : 4 < (t102.length : Int) := of_decide_eq_true tc3_; obtain ⟨ad109, A109_0, c109_0, e109, hx109_0, hl109_0, hi109_0⟩ := at_L4 (Kd.N_reads' HO104.out).2.2 4 p109 q109; cases e109; obtain ⟨ce109, hce109, hMe109, hcc109⟩ := Kd.N_get HO104.out [] 4 p109 (by first | exact q109 | exact of_decide_eq_true tc3_ | (have e_ := (Kd.N_reads' HO104.out).1; omega)); obtain ⟨ua109_0, uc109_0, rfl, ul109_0, ge109_0⟩ := Kd.FK_slice_open hMe109; have hv109_0 := hcc109 0 _ rfl; rw [Nat.add_zero, show ((Kd.slice 35 (Kd.slice 3 (Kd.int .i64)))).sz = 1 from rfl, Nat.mul_one] at hv109_0; replace hv109_0 := Option.some.inj (hv109_0.symm.trans hx109_0); injection hv109_0 with hva_ hvn_ hvc_; rw [hva_] at ge109_0; rw [hvc_] at ul109_0; have HL109_0 := am_ (show Kd.V (Kd.slice 3 (Kd.int .i64)) 35 _ w.heap.size _ _ (rd_L4 t102 4) from Kd.V_mk ul109_0 ge109_0); clear hva_ hvn_ hvc_ ge109_0 ul109_0; clear hcc109 hce109; (try simp only [show (4 : Int).toNat = 4 from rfl, Nat.reduceMul, Nat.reduceEqDiff, Go.Addr.add, ↓reduceIte] at hx109_0); have qi109 : (4 < t102.length) = True := eq_true (by omega); (try rw [show ((4 : Int)).toNat = 4 from rfl] at hx109_0); have HR109_0 := am_ hi109_0; have HC109_0 := am_ hl109_0; clear hi109_0 hl109_0; replace p109 := eq_true p109; replace q109 := eq_true q109) | (go_at_call 174; (with_reducible refine (impl_hasKind_1.calls k _ _ (rd_L4 t102 4) _ A0 c0 l0 t110 _ ?side1 ?side2 ?side3 ?side4 ?side5 A22.out).mono ?_); (case side1 => repeat (first | exact tc55_ | (with_reducible refine Kd.C_alloc ?_ _) | (with_reducible refine Kd.C_drewN ?_ _) | (with_reducible refine Kd.C_drew ?_))); (case side2 => exact HC109_0.out); (case side3 => exact tc43_); (case side4 => exact tc12_); (case side5 => exact HC0.out); rintro e w27 ⟨rfl, hb⟩; have n0_ := am_ (Kd.N_below tc42_ hb); have n1_ := am_ (Kd.V_below (by (with_reducible repeat (first | apply Kd.V_alloc | apply Kd.V_drewN | apply Kd.V_drew)); exact HL109_0.out) hb); have n2_ := am_ (blk_below (g := gb101) (o := .cells #[.slice A0 l0.length c0] 24 (0, 0)) tc2_ hb); have n3_ := am_ (Kd.C_below tc55_ hb); have n4_ := am_ (below_step tc6_ hb); clear HO104 HL109_0; clear BK101 HR109_0 HB; have HO104 := n0_; have HL109_0 := n1_; have BK101 := n2_; have HR109_0 := n3_; have HB := n4_; clear n0_ n1_ n2_ n3_ n4_; (try clear hb hb2 hk hi)))
     go_ret
     exact ⟨by first | rfl | (simp [errW_none, errW_some] <;> rfl) | (simp [*, errW_none, errW_some] <;> rfl), by repeat (first | (with_reducible first | exact HB.out | apply below_alloc | apply pw_below_drewN | apply below_drew1 | refine below_set ?_ GE101.out) | exact HB.out)⟩
    ·rw [if_neg c21] at H
     exact absurd H (by simp)
   ·rw [if_neg c20] at H
    have c20b0 : (a1 == 2) = false := beq_eq_false_iff_ne.mpr c20
    have c20b1 : (a1 != 2) = true := bne_iff_ne.mpr c20
    by_cases c28 : a1 = 3
    ·rw [if_pos c28] at H
     have c28b0 : (a1 == 3) = true := beq_iff_eq.mpr c28
     have c28b1 : (a1 != 3) = false := bne_eq_false_iff_eq.mpr c28
     clear c28
     replace H := Option.bind_eq_some_iff.mp H
     obtain ⟨t111, A290, H⟩ := H
     replace H : ((impl_hasKind_1.f k t111 l0).bind fun t114 => (some t114)) = some r := H
     have A29 := am_ A290
     clear A290
     replace H := Option.bind_eq_some_iff.mp H
     obtain ⟨t114, A300, H⟩ := H
     replace H : (some t114) = some r := H
     have A30 := am_ A300
     clear A300
     obtain rfl := Option.some.inj H
     go_enter Try.func111, Try.ntmps111
     go_wp2_with (first | ((with_reducible refine gate_dst (N := 2) rfl ?_); refine box_event ?hg (N := 2) ?hd (cs := #[.slice A0 l0.length c0]) (t := 24) ?hr ?_; (case hd => rfl); (case hg => rfl); (case hr => exact tc19_); intro gb101 hg w31 hbox hb; have n0_ := am_ (below_step tc0_ hb); have n1_ := am_ (hbox); have n2_ := am_ ((by rw [hg]; exact (below_size tc0_) : w.heap.size ≤ gb101)); have n3_ := am_ ((by rw [hg]; exact (below_size tc0_) : w.heap.size ≤ gb101)); clear HB; have HB := n0_; have BK101 := n1_; have GW101 := n2_; have GE101 := n3_; clear n0_ n1_ n2_ n3_; clear hb hbox hg; have hcz32_0 : w31.cell? ⟨gb101, 0, none⟩ = some (.slice A0 l0.length c0) := (blk_cell BK101.out 0).trans rfl; have hfz32_0 := blk_frozen BK101.out 0) | ((with_reducible refine gate_callee (f := 128) rfl ?_); refine goesL_ (some 9) rfl rfl Try.func128 (by kernel_rfl) rfl #[.slice A0 l0.length c0] rfl tc1_ ?_; (with_reducible refine (impl_eight.calls k (fun k_ => k_ < w.heap.size) _ _ l0 t102 _ ?side1 A3.out).mono ?_); (case side1 => exact tc32_); rintro e w33 ⟨v103, rfl, ho0, hb⟩; refine ⟨_, rfl, ?_⟩; have n0_ := am_ (Kd.N_lower (Kd.N_mono (ok' := fun k_ => k_ ≠ gb101) ho0 (fun k_ hk_ => Or.elim hk_ (fun hs_ => fun e_ => Nat.not_le.2 hs_ (by rw [e_]; exact GW101.out)) (fun hn_ => (Kd.freshB (g := gb101) (o := .cells #[.slice A0 l0.length c0] 24 (0, 0)) tc2_ k_ hn_)))) (below_size tc6_)); have n1_ := am_ (blk_below (g := gb101) (o := .cells #[.slice A0 l0.length c0] 24 (0, 0)) tc2_ hb); have n2_ := am_ (below_step tc6_ hb); clear BK101 HB; have HO104 := n0_; have BK101 := n1_; have HB := n2_; clear n0_ n1_ n2_; (try clear hb ho0); have hcz34_0 : w33.cell? ⟨gb101, 0, none⟩ = some (.slice A0 l0.length c0) := (blk_cell BK101.out 0).trans rfl; have hfz34_0 := blk_frozen BK101.out 0) | ((with_reducible refine gate_callee (f := 175) rfl ?_); refine goesL_ (some 36) rfl rfl Try.func175 (by kernel_rfl) rfl #[.slice A0 l0.length c0] rfl tc1_ ?_; (with_reducible refine (impl_transposed.calls k _ _ l0 t111 _ ?side1 ?side2 A29.out).mono ?_); (case side1 => exact tc12_); (case side2 => exact HC0.out); rintro e w35 ⟨v112, rfl, ho0, hb⟩; refine ⟨_, rfl, ?_⟩; have n0_ := am_ (Kd.N_elder' tc42_ (Kd.S_base ho0) hb); have n1_ := am_ (Kd.N_lower (Kd.N_mono (ok' := fun k_ => some k_ ≠ (v103 : Value).ownBlock ∧ k_ ≠ gb101) (Kd.S_N (Kd.S_bound ho0)) (fun k_ hk_ => ⟨(Kd.fresh' (Kd.N_lt tc42_) k_ hk_.2.1), (Kd.freshB (g := gb101) (o := .cells #[.slice A0 l0.length c0] 24 (0, 0)) tc2_ k_ hk_.2.1)⟩)) (below_size tc6_)); have n2_ := am_ (blk_below (g := gb101) (o := .cells #[.slice A0 l0.length c0] 24 (0, 0)) tc2_ hb); have n3_ := am_ (below_step tc6_ hb); clear HO104 BK101 HB; have HO104 := n0_; have HO113 := n1_; have BK101 := n2_; have HB := n3_; clear n0_ n1_ n2_ n3_; (try clear hb ho0); obtain ⟨Ao36, co36, eo36⟩ := Kd.N_slice HO113.out; subst eo36) | (go_at_call 174; (with_reducible refine (impl_hasKind_1.calls k _ _ t111 _ A0 c0 l0 t114 _ ?side1 ?side2 ?side3 ?side4 ?side5 A30.out).mono ?_); (case side1 => repeat (first | exact (Kd.N_reads' HO113.out).2.2 | (with_reducible refine Kd.C_alloc ?_ _) | (with_reducible refine Kd.C_drewN ?_ _) | (with_reducible refine Kd.C_drew ?_))); (case side2 => exact (Kd.N_reads' HO113.out).2.1); (case side3 => exact tc43_); (case side4 => exact tc12_); (case side5 => exact HC0.out); rintro e w37 ⟨rfl, hb⟩; have n0_ := am_ (Kd.N_below tc42_ hb); have n1_ := am_ (Kd.N_below (by (with_reducible repeat (first | apply Kd.N_alloc | apply Kd.N_drewN | apply Kd.N_drew)); exact HO113.out) hb); have n2_ := am_ (blk_below (g := gb101) (o := .cells #[.slice A0 l0.length c0] 24 (0, 0)) tc2_ hb); have n3_ := am_ (below_step tc6_ hb); clear HO104 HO113; clear BK101 HB; have HO104 := n0_; have HO113 := n1_; have BK101 := n2_; have HB := n3_; clear n0_ n1_ n2_ n3_; (try clear hb hb2 hk hi)))
     go_ret
     exact ⟨by first | rfl | (simp [errW_none, errW_some] <;> rfl) | (simp [*, errW_none, errW_some] <;> rfl), by repeat (first | (with_reducible first | exact HB.out | apply below_alloc | apply pw_below_drewN | apply below_drew1 | refine below_set ?_ GE101.out) | exact HB.out)⟩
    ·rw [if_neg c28] at H
     have c28b0 : (a1 == 3) = false := beq_eq_false_iff_ne.mpr c28
     have c28b1 : (a1 != 3) = true := bne_iff_ne.mpr c28
     by_cases c38 : 4 < (t102.length : Int)
     ·rw [if_pos c38] at H
      have c38b0 : decide (4 < (t102.length : Int)) = true := decide_eq_true c38
      have c38b1 : decide (4 < t102.length) = true := decide_eq_true (by omega)
      clear c38
      replace H := Option.bind_eq_some_iff.mp H
      obtain ⟨t116, A390, H⟩ := H
      replace H : (if t116 = true then (if 6 < (t102.length : Int) then ((impl_hasKind_1.f k (rd_L4 t102 6) l0).bind fun t118 => (some t118)) else (none)) else (some false)) = some r := H
      have A39 := am_ A390
      clear A390
      by_cases c40 : t116 = true
      ·subst c40
       have H1 : (if 6 < (t102.length : Int) then ((impl_hasKind_1.f k (rd_L4 t102 6) l0).bind fun t118 => (some t118)) else (none)) = some r := by rw [if_pos rfl] at H; exact H
       clear H
       have H := H1
       clear H1
       by_cases c41 : 6 < (t102.length : Int)
       ·rw [if_pos c41] at H
        have c41b0 : decide (6 < (t102.length : Int)) = true := decide_eq_true c41
        have c41b1 : decide (6 < t102.length) = true := decide_eq_true (by omega)
        clear c41
        replace H := Option.bind_eq_some_iff.mp H
        obtain ⟨t118, A420, H⟩ := H
        replace H : (some t118) = some r := H
        have A42 := am_ A420
        clear A420
        obtain rfl := Option.some.inj H
        go_enter Try.func111, Try.ntmps111
        go_wp2_with (first | ((with_reducible refine gate_dst (N := 2) rfl ?_); refine box_event ?hg (N := 2) ?hd (cs := #[.slice A0 l0.length c0]) (t := 24) ?hr ?_; (case hd => rfl); (case hg => rfl); (case hr => exact tc19_); intro gb101 hg w43 hbox hb; have n0_ := am_ (below_step tc0_ hb); have n1_ := am_ (hbox); have n2_ := am_ ((by rw [hg]; exact (below_size tc0_) : w.heap.size ≤ gb101)); have n3_ := am_ ((by rw [hg]; exact (below_size tc0_) : w.heap.size ≤ gb101)); clear HB; have HB := n0_; have BK101 := n1_; have GW101 := n2_; have GE101 := n3_; clear n0_ n1_ n2_ n3_; clear hb hbox hg; have hcz44_0 : w43.cell? ⟨gb101, 0, none⟩ = some (.slice A0 l0.length c0) := (blk_cell BK101.out 0).trans rfl; have hfz44_0 := blk_frozen BK101.out 0) | ((with_reducible refine gate_callee (f := 128) rfl ?_); refine goesL_ (some 9) rfl rfl Try.func128 (by kernel_rfl) rfl #[.slice A0 l0.length c0] rfl tc1_ ?_; (with_reducible refine (impl_eight.calls k (fun k_ => k_ < w.heap.size) _ _ l0 t102 _ ?side1 A3.out).mono ?_); (case side1 => exact tc32_); rintro e w45 ⟨v103, rfl, ho0, hb⟩; refine ⟨_, rfl, ?_⟩; have n0_ := am_ (Kd.N_lower (Kd.N_mono (ok' := fun k_ => k_ ≠ gb101) ho0 (fun k_ hk_ => Or.elim hk_ (fun hs_ => fun e_ => Nat.not_le.2 hs_ (by rw [e_]; exact GW101.out)) (fun hn_ => (Kd.freshB (g := gb101) (o := .cells #[.slice A0 l0.length c0] 24 (0, 0)) tc2_ k_ hn_)))) (below_size tc6_)); have n1_ := am_ (blk_below (g := gb101) (o := .cells #[.slice A0 l0.length c0] 24 (0, 0)) tc2_ hb); have n2_ := am_ (below_step tc6_ hb); clear BK101 HB; have HO104 := n0_; have BK101 := n1_; have HB := n2_; clear n0_ n1_ n2_; (try clear hb ho0); obtain ⟨Ao46, co46, eo46⟩ := Kd.N_slice HO104.out; subst eo46; have p115 : 0 ≤ (4 : Int) := (by omega); have q115 : 4 < (t102.length : Int) := of_decide_eq_true tc3_; obtain ⟨ad115, A115_0, c115_0, e115, hx115_0, hl115_0, hi115_0⟩ := at_L4 (Kd.N_reads' HO104.out).2.2 4 p115 q115; cases e115; obtain ⟨ce115, hce115, hMe115, hcc115⟩ := Kd.N_get HO104.out [] 4 p115 (by first | exact q115 | exact of_decide_eq_true tc3_ | (have e_ := (Kd.N_reads' HO104.out).1; omega)); obtain ⟨ua115_0, uc115_0, rfl, ul115_0, ge115_0⟩ := Kd.FK_slice_open hMe115; have hv115_0 := hcc115 0 _ rfl; rw [Nat.add_zero, show ((Kd.slice 35 (Kd.slice 3 (Kd.int .i64)))).sz = 1 from rfl, Nat.mul_one] at hv115_0; replace hv115_0 := Option.some.inj (hv115_0.symm.trans hx115_0); injection hv115_0 with hva_ hvn_ hvc_; rw [hva_] at ge115_0; rw [hvc_] at ul115_0; have HL115_0 := am_ (show Kd.V (Kd.slice 3 (Kd.int .i64)) 35 _ w.heap.size _ _ (rd_L4 t102 4) from Kd.V_mk ul115_0 ge115_0); clear hva_ hvn_ hvc_ ge115_0 ul115_0; clear hcc115 hce115; (try simp only [show (4 : Int).toNat = 4 from rfl, Nat.reduceMul, Nat.reduceEqDiff, Go.Addr.add, ↓reduceIte] at hx115_0); have qi115 : (4 < t102.length) = True := eq_true (by omega); (try rw [show ((4 : Int)).toNat = 4 from rfl] at hx115_0); have HR115_0 := am_ hi115_0; have HC115_0 := am_ hl115_0; clear hi115_0 hl115_0; replace p115 := eq_true p115; replace q115 := eq_true q115) | (go_at_call 174; (with_reducible refine (impl_hasKind_1.calls k _ _ (rd_L4 t102 4) _ A0 c0 l0 true _ ?side1 ?side2 ?side3 ?side4 ?side5 A39.out).mono ?_); (case side1 => exact tc34_); (case side2 => exact HC115_0.out); (case side3 => exact tc43_); (case side4 => exact tc12_); (case side5 => exact HC0.out); rintro e w47 ⟨rfl, hb⟩; have n0_ := am_ (Kd.N_below tc42_ hb); have n1_ := am_ (Kd.V_below tc65_ hb); have n2_ := am_ (blk_below (g := gb101) (o := .cells #[.slice A0 l0.length c0] 24 (0, 0)) tc2_ hb); have n3_ := am_ (Kd.C_below tc35_ hb); have n4_ := am_ (below_step tc6_ hb); clear HO104 HL115_0; clear BK101 HR115_0 HB; have HO104 := n0_; have HL115_0 := n1_; have BK101 := n2_; have HR115_0 := n3_; have HB := n4_; clear n0_ n1_ n2_ n3_ n4_; (try clear hb hb2 hk hi); have p117 : 0 ≤ (6 : Int) := (by omega); have q117 : 6 < (t102.length : Int) := of_decide_eq_true tc3_; obtain ⟨ad117, A117_0, c117_0, e117, hx117_0, hl117_0, hi117_0⟩ := at_L4 (Kd.N_reads' HO104.out).2.2 6 p117 q117; obtain rfl : ad115 = ad117 := (by injection e117); obtain ⟨ce117, hce117, hMe117, hcc117⟩ := Kd.N_get HO104.out [] 6 p117 (by first | exact q117 | exact of_decide_eq_true tc3_ | (have e_ := (Kd.N_reads' HO104.out).1; omega)); obtain ⟨ua117_0, uc117_0, rfl, ul117_0, ge117_0⟩ := Kd.FK_slice_open hMe117; have hv117_0 := hcc117 0 _ rfl; rw [Nat.add_zero, show ((Kd.slice 35 (Kd.slice 3 (Kd.int .i64)))).sz = 1 from rfl, Nat.mul_one] at hv117_0; replace hv117_0 := Option.some.inj (hv117_0.symm.trans hx117_0); injection hv117_0 with hva_ hvn_ hvc_; rw [hva_] at ge117_0; rw [hvc_] at ul117_0; have HL117_0 := am_ (show Kd.V (Kd.slice 3 (Kd.int .i64)) 35 _ w.heap.size _ _ (rd_L4 t102 6) from Kd.V_mk ul117_0 ge117_0); clear hva_ hvn_ hvc_ ge117_0 ul117_0; clear hcc117 hce117; (try simp only [show (6 : Int).toNat = 6 from rfl, Nat.reduceMul, Nat.reduceEqDiff, Go.Addr.add, ↓reduceIte] at hx117_0); have qi117 : (6 < t102.length) = True := eq_true (by omega); (try rw [show ((6 : Int)).toNat = 6 from rfl] at hx117_0); have HR117_0 := am_ hi117_0; have HC117_0 := am_ hl117_0; clear hi117_0 hl117_0; replace p117 := eq_true p117; replace q117 := eq_true q117) | (go_at_call 174; (with_reducible refine (impl_hasKind_1.calls k _ _ (rd_L4 t102 6) _ A0 c0 l0 t118 _ ?side1 ?side2 ?side3 ?side4 ?side5 A42.out).mono ?_); (case side1 => repeat (first | exact tc56_ | (with_reducible refine Kd.C_alloc ?_ _) | (with_reducible refine Kd.C_drewN ?_ _) | (with_reducible refine Kd.C_drew ?_))); (case side2 => exact HC117_0.out); (case side3 => exact tc43_); (case side4 => exact tc12_); (case side5 => exact HC0.out); rintro e w48 ⟨rfl, hb⟩; have n0_ := am_ (Kd.N_below tc42_ hb); have n1_ := am_ (Kd.V_below tc65_ hb); have n2_ := am_ (Kd.V_below (by (with_reducible repeat (first | apply Kd.V_alloc | apply Kd.V_drewN | apply Kd.V_drew)); exact HL117_0.out) hb); have n3_ := am_ (blk_below (g := gb101) (o := .cells #[.slice A0 l0.length c0] 24 (0, 0)) tc2_ hb); have n4_ := am_ (Kd.C_below tc35_ hb); have n5_ := am_ (Kd.C_below tc56_ hb); have n6_ := am_ (below_step tc6_ hb); clear HO104 HL115_0; clear HL117_0 BK101; clear HR115_0 HR117_0 HB; have HO104 := n0_; have HL115_0 := n1_; have HL117_0 := n2_; have BK101 := n3_; have HR115_0 := n4_; have HR117_0 := n5_; have HB := n6_; clear n0_ n1_ n2_ n3_ n4_ n5_ n6_; (try clear hb hb2 hk hi)))
        go_ret
        exact ⟨by first | rfl | (simp [errW_none, errW_some] <;> rfl) | (simp [*, errW_none, errW_some] <;> rfl), by repeat (first | (with_reducible first | exact HB.out | apply below_alloc | apply pw_below_drewN | apply below_drew1 | refine below_set ?_ GE101.out) | exact HB.out)⟩
       ·rw [if_neg c41] at H
        exact absurd H (by simp)
      ·replace c40 := Bool.eq_false_iff.mpr c40
       subst c40
       have H1 : (some false) = some r := by rw [if_neg (show ¬ (false = true) by decide)] at H; exact H
       clear H
       have H := H1
       clear H1
       obtain rfl := Option.some.inj H
       go_enter Try.func111, Try.ntmps111
       go_wp2_with (first | ((with_reducible refine gate_dst (N := 2) rfl ?_); refine box_event ?hg (N := 2) ?hd (cs := #[.slice A0 l0.length c0]) (t := 24) ?hr ?_; (case hd => rfl); (case hg => rfl); (case hr => exact tc19_); intro gb101 hg w49 hbox hb; have n0_ := am_ (below_step tc0_ hb); have n1_ := am_ (hbox); have n2_ := am_ ((by rw [hg]; exact (below_size tc0_) : w.heap.size ≤ gb101)); have n3_ := am_ ((by rw [hg]; exact (below_size tc0_) : w.heap.size ≤ gb101)); clear HB; have HB := n0_; have BK101 := n1_; have GW101 := n2_; have GE101 := n3_; clear n0_ n1_ n2_ n3_; clear hb hbox hg; have hcz50_0 : w49.cell? ⟨gb101, 0, none⟩ = some (.slice A0 l0.length c0) := (blk_cell BK101.out 0).trans rfl; have hfz50_0 := blk_frozen BK101.out 0) | ((with_reducible refine gate_callee (f := 128) rfl ?_); refine goesL_ (some 9) rfl rfl Try.func128 (by kernel_rfl) rfl #[.slice A0 l0.length c0] rfl tc1_ ?_; (with_reducible refine (impl_eight.calls k (fun k_ => k_ < w.heap.size) _ _ l0 t102 _ ?side1 A3.out).mono ?_); (case side1 => exact tc32_); rintro e w51 ⟨v103, rfl, ho0, hb⟩; refine ⟨_, rfl, ?_⟩; have n0_ := am_ (Kd.N_lower (Kd.N_mono (ok' := fun k_ => k_ ≠ gb101) ho0 (fun k_ hk_ => Or.elim hk_ (fun hs_ => fun e_ => Nat.not_le.2 hs_ (by rw [e_]; exact GW101.out)) (fun hn_ => (Kd.freshB (g := gb101) (o := .cells #[.slice A0 l0.length c0] 24 (0, 0)) tc2_ k_ hn_)))) (below_size tc6_)); have n1_ := am_ (blk_below (g := gb101) (o := .cells #[.slice A0 l0.length c0] 24 (0, 0)) tc2_ hb); have n2_ := am_ (below_step tc6_ hb); clear BK101 HB; have HO104 := n0_; have BK101 := n1_; have HB := n2_; clear n0_ n1_ n2_; (try clear hb ho0); obtain ⟨Ao52, co52, eo52⟩ := Kd.N_slice HO104.out; subst eo52; have p115 : 0 ≤ (4 : Int) := (by omega); have q115 : 4 < (t102.length : Int) := of_decide_eq_true tc3_; obtain ⟨ad115, A115_0, c115_0, e115, hx115_0, hl115_0, hi115_0⟩ := at_L4 (Kd.N_reads' HO104.out).2.2 4 p115 q115; cases e115; obtain ⟨ce115, hce115, hMe115, hcc115⟩ := Kd.N_get HO104.out [] 4 p115 (by first | exact q115 | exact of_decide_eq_true tc3_ | (have e_ := (Kd.N_reads' HO104.out).1; omega)); obtain ⟨ua115_0, uc115_0, rfl, ul115_0, ge115_0⟩ := Kd.FK_slice_open hMe115; have hv115_0 := hcc115 0 _ rfl; rw [Nat.add_zero, show ((Kd.slice 35 (Kd.slice 3 (Kd.int .i64)))).sz = 1 from rfl, Nat.mul_one] at hv115_0; replace hv115_0 := Option.some.inj (hv115_0.symm.trans hx115_0); injection hv115_0 with hva_ hvn_ hvc_; rw [hva_] at ge115_0; rw [hvc_] at ul115_0; have HL115_0 := am_ (show Kd.V (Kd.slice 3 (Kd.int .i64)) 35 _ w.heap.size _ _ (rd_L4 t102 4) from Kd.V_mk ul115_0 ge115_0); clear hva_ hvn_ hvc_ ge115_0 ul115_0; clear hcc115 hce115; (try simp only [show (4 : Int).toNat = 4 from rfl, Nat.reduceMul, Nat.reduceEqDiff, Go.Addr.add, ↓reduceIte] at hx115_0); have qi115 : (4 < t102.length) = True := eq_true (by omega); (try rw [show ((4 : Int)).toNat = 4 from rfl] at hx115_0); have HR115_0 := am_ hi115_0; have HC115_0 := am_ hl115_0; clear hi115_0 hl115_0; replace p115 := eq_true p115; replace q115 := eq_true q115) | (go_at_call 174; (with_reducible refine (impl_hasKind_1.calls k _ _ (rd_L4 t102 4) _ A0 c0 l0 false _ ?side1 ?side2 ?side3 ?side4 ?side5 A39.out).mono ?_); (case side1 => exact tc34_); (case side2 => exact HC115_0.out); (case side3 => exact tc43_); (case side4 => exact tc12_); (case side5 => exact HC0.out); rintro e w53 ⟨rfl, hb⟩; have n0_ := am_ (Kd.N_below tc42_ hb); have n1_ := am_ (Kd.V_below tc65_ hb); have n2_ := am_ (blk_below (g := gb101) (o := .cells #[.slice A0 l0.length c0] 24 (0, 0)) tc2_ hb); have n3_ := am_ (Kd.C_below tc35_ hb); have n4_ := am_ (below_step tc6_ hb); clear HO104 HL115_0; clear BK101 HR115_0 HB; have HO104 := n0_; have HL115_0 := n1_; have BK101 := n2_; have HR115_0 := n3_; have HB := n4_; clear n0_ n1_ n2_ n3_ n4_; (try clear hb hb2 hk hi)))
       go_ret
       exact ⟨by first | rfl | (simp [errW_none, errW_some] <;> rfl) | (simp [*, errW_none, errW_some] <;> rfl), by repeat (first | (with_reducible first | exact HB.out | apply below_alloc | apply pw_below_drewN | apply below_drew1 | refine below_set ?_ GE101.out) | exact HB.out)⟩
     ·rw [if_neg c38] at H
      exact absurd H (by simp)

/-! ### impl_ListSymmetric_1: function 110 -/
def impl_ListSymmetric_1.f (k : Nat) (l0 : List (List Int)) (a1_0 : Int) : Option (Bool) := (impl_hasKind.f k l0 a1_0).bind fun t101 => (some t101)
set_option maxHeartbeats 8000000 in
set_option maxRecDepth 100000 in
theorem impl_ListSymmetric_1.calls (k : Nat) (A0 : Option Addr) (c0 : Nat) (l0 : List (List Int)) (B1 : Nat) (a1_0 : Int) (r : Bool) (w : World) (hr0 : Kd.C (Kd.slice 3 (Kd.int .i64)) w A0 l0.length l0) (hc0 : l0.length ≤ c0) (hb1 : w.heap[B1]? = some (.cells #[.int .i64 a1_0] 3 (0, 0))) (h : impl_ListSymmetric_1.f k l0 a1_0 = some r) :
  Calls Try.prog 110 #[.slice A0 l0.length c0, .pointer (some ⟨B1, 0, none⟩)] w fun e w' => e = .returned (.bool r) ∧ Below w.heap.size w w' := by
 have HR0 := am_ hr0
 have HC0 := am_ hc0
 clear hr0 hc0
 have BK61 := am_ hb1
 clear hb1
 have HB := am_ (Below.refl w.heap.size w)
 have H : ((impl_hasKind.f k l0 a1_0).bind fun t101 => (some t101)) = some r := h
 clear h
 replace H := Option.bind_eq_some_iff.mp H
 obtain ⟨t101, A30, H⟩ := H
 replace H : (some t101) = some r := H
 have A3 := am_ A30
 clear A30
 obtain rfl := Option.some.inj H
 have hcz4_0 : w.cell? ⟨B1, 0, none⟩ = some (.int .i64 a1_0) := (blk_cell BK61.out 0).trans rfl
 have hfz4_0 := blk_frozen BK61.out 0
 go_enter Try.func110, Try.ntmps110
 go_wp2_with (first | ((with_reducible refine gate_callee (f := 111) rfl ?_); refine goesL_ (some 6) rfl rfl Try.func111 (by kernel_rfl) rfl #[.slice A0 l0.length c0, .int .i64 a1_0] rfl tc1_ ?_; (with_reducible refine (impl_hasKind.calls k _ _ l0 a1_0 t101 _ ?side1 ?side2 A3.out).mono ?_); (case side1 => exact tc23_); (case side2 => exact HC0.out); rintro e w5 ⟨rfl, hb⟩; refine ⟨_, rfl, ?_⟩; have n0_ := am_ (blk_below (g := B1) (o := .cells #[.int .i64 a1_0] 3 (0, 0)) tc64_ hb); have n1_ := am_ (below_step tc61_ hb); clear BK61 HB; have BK61 := n0_; have HB := n1_; clear n0_ n1_; (try clear hb)))
 go_ret
 exact ⟨by first | rfl | (simp [errW_none, errW_some] <;> rfl) | (simp [*, errW_none, errW_some] <;> rfl), by repeat (first | (with_reducible first | exact HB.out | apply below_alloc | apply pw_below_drewN | apply below_drew1 | refine below_set ?_ GE61.out) | exact HB.out)⟩

/-! ### impl_ListSymmetric: function 46 (by hand) -/
def impl_ListSymmetric.f (k : Nat) (a0 a1 : Int) : Option (List (List (List Int)) × Bool) := (impl_within.f a0 1 5).bind fun t => if t = true then ((impl_isKind.f a1).bind fun t2 => if t2 = true then ((impl_allSigns.f k a0 (fun m => impl_ListSymmetric_1.f k m a1)).bind fun r => some (r, true)) else some ([], false)) else some ([], false)
set_option maxHeartbeats 4000000 in
set_option maxRecDepth 100000 in
theorem impl_ListSymmetric.calls0 (k : Nat) (a0 a1 : Int) (r1 : List (List (List Int))) (r2 : Bool) (w : World) (h : impl_ListSymmetric.f k a0 a1 = some (r1, r2)) :
    Calls Try.prog 46 #[.int .i64 a0, .int .i64 a1] w fun e w' => ∃ v0_ : Value, e = .returned (.tuple #[v0_, .bool r2]) ∧ Kd.S (sliceS 35 (Kd.slice 3 (Kd.int .i64))) 24 w' w.heap.size (fun _ => True) v0_ r1 ∧ Below w.heap.size w w' := by
  obtain ⟨t, ht, h⟩ := Option.bind_eq_some_iff.mp h
  have HT := am_ ht
  clear ht
  have HBX := am_ (below_alloc (Below.refl w.heap.size w) (.cells #[.int .i64 a1] 3 (0, 0)))
  have hcx : (w.alloc (.cells #[.int .i64 a1] 3 (0, 0))).cell? ⟨w.heap.size, 0, none⟩ = some (.int .i64 a1) := (blk_cell (blk_new _ _) 0).trans rfl
  cases t with
  | false =>
    rw [if_neg (by simp)] at h
    obtain ⟨rfl, rfl⟩ := Prod.mk.inj (Option.some.inj h)
    clear h
    go_enter Try.func46, Try.ntmps46
    go_wp2_with (first | (go_at_call 107; (refine (impl_within.calls a0 1 5 false _ HT.out).mono ?_); rintro e w' ⟨rfl, ⟨nd, rfl⟩⟩))
    go_ret2
    exact ⟨_, rfl, Kd.S_nil _ _ _ _ _, pw_below_drewN HBX.out nd⟩
  | true =>
    rw [if_pos rfl] at h
    obtain ⟨t2, ht2, h⟩ := Option.bind_eq_some_iff.mp h
    have HT2 := am_ ht2
    clear ht2
    cases t2 with
    | false =>
      rw [if_neg (by simp)] at h
      obtain ⟨rfl, rfl⟩ := Prod.mk.inj (Option.some.inj h)
      clear h
      go_enter Try.func46, Try.ntmps46
      go_wp2_with (first | (go_at_call 107; (refine (impl_within.calls a0 1 5 true _ HT.out).mono ?_); rintro e w' ⟨rfl, ⟨nd, rfl⟩⟩) | (go_at_call 108; (refine (impl_isKind.calls a1 false _ HT2.out).mono ?_); rintro e w' ⟨rfl, ⟨nd2, rfl⟩⟩))
      go_ret2
      exact ⟨_, rfl, Kd.S_nil _ _ _ _ _, pw_below_drewN HBX.out _⟩
    | true =>
      rw [if_pos rfl] at h
      obtain ⟨r, hr, h⟩ := Option.bind_eq_some_iff.mp h
      have HR := am_ hr
      obtain ⟨rfl, rfl⟩ := Prod.mk.inj (Option.some.inj h)
      clear hr h
      go_enter Try.func46, Try.ntmps46
      go_wp2_with (first | (go_at_call 107; (refine (impl_within.calls a0 1 5 true _ HT.out).mono ?_); rintro e w' ⟨rfl, ⟨nd, rfl⟩⟩) | (go_at_call 108; (refine (impl_isKind.calls a1 true _ HT2.out).mono ?_); rintro e w' ⟨rfl, ⟨nd2, rfl⟩⟩) | (go_at_call 109; (refine (impl_allSigns.calls k a0 110 #[.pointer (some ⟨w.heap.size, 0, none⟩)] (fun m => impl_ListSymmetric_1.f k m a1) r _ ?fn HR.out).mono ?_); (case fn => exact ⟨enters_of Try.func110 (by kernel_rfl) rfl, fun W_ hW_ x0_ v0_ hK0_ r_ hr_ => by (obtain ⟨A0_, c0_, e0_, hl0_, hC0_⟩ := hK0_; cases e0_; exact impl_ListSymmetric_1.calls k A0_ c0_ x0_ w.heap.size a1 r_ W_ hC0_ hl0_ (blk_below (blk_drewN (blk_new _ _) _) hW_) hr_)⟩); rintro e w5 ⟨v5, rfl, ho5, hb5⟩; have HO5 := am_ ho5; have HB5 := am_ hb5; clear ho5 hb5))
      go_ret2
      exact ⟨_, rfl, Kd.S_lower HO5.out (below_size (pw_below_drewN HBX.out _)), below_step (pw_below_drewN HBX.out _) HB5.out⟩
theorem S_slices {α : Type} {e e' : Nat} {d : Kd α} {w : World} {base : Nat} {ok : Nat → Prop} {v : Value} {xs : List (List α)} (h : Kd.S (sliceS e d) e' w base ok v xs) : Kd.S (Kd.slice e d) e' w base ok v xs := by
  obtain ⟨f, h0, h1⟩ := h
  exact ⟨f, h0, h1.imp_ (fun _ _ hp => by obtain ⟨u, q, hs⟩ := hp; exact ⟨u, q, Kd.S_R hs⟩)⟩
theorem impl_ListSymmetric.calls (k : Nat) (a0 a1 : Int) (r1 : List (List (List Int))) (r2 : Bool) (w : World) (h : impl_ListSymmetric.f k a0 a1 = some (r1, r2)) :
    Calls Try.prog 46 #[.int .i64 a0, .int .i64 a1] w fun e w' => ∃ v0_ : Value, e = .returned (.tuple #[v0_, .bool r2]) ∧ Kd.R (Kd.slice 35 (Kd.slice 3 (Kd.int .i64))) 24 w' w.heap.size (fun _ => True) v0_ r1 ∧ Below w.heap.size w w' :=
  (impl_ListSymmetric.calls0 k a0 a1 r1 r2 w h).mono fun _ _ ⟨v, q, hs, hb⟩ => ⟨v, q, Kd.S_R (S_slices hs), hb⟩

/-! ### spec_l1In: function 112 -/
def spec_l1In.f (a0 : Int) (a1 : Int) (a2 : Int) : Option (Bool) := if a0 ≥ a1 then (some (decide (a0 ≤ a2))) else (some false)
set_option maxHeartbeats 8000000 in
set_option maxRecDepth 100000 in
theorem spec_l1In.calls (a0 : Int) (a1 : Int) (a2 : Int) (r : Bool) (w : World) (h : spec_l1In.f a0 a1 a2 = some r) :
  Calls Try.prog 112 #[.int .i64 a0, .int .i64 a1, .int .i64 a2] w fun e w' => e = .returned (.bool r) ∧ Drawn0 w w' := by
 have H : (if a0 ≥ a1 then (some (decide (a0 ≤ a2))) else (some false)) = some r := h
 clear h
 by_cases c4 : a0 ≥ a1
 ·rw [if_pos c4] at H
  have c4b0 : decide (a1 ≤ a0) = true := decide_eq_true c4
  clear c4
  obtain rfl := Option.some.inj H
  go_enter Try.func112, Try.ntmps112
  go_wp2
  go_ret
  exact ⟨by first | rfl | (simp; done) | (simp [*]; done), by repeat (first | exact Drawn0.refl _ | apply Drawn0.step)⟩
 ·rw [if_neg c4] at H
  have c4b0 : decide (a1 ≤ a0) = false := decide_eq_false c4
  clear c4
  obtain rfl := Option.some.inj H
  go_enter Try.func112, Try.ntmps112
  go_wp2
  go_ret
  exact ⟨by first | rfl | (simp; done) | (simp [*]; done), by repeat (first | exact Drawn0.refl _ | apply Drawn0.step)⟩

/-! ### spec_smKind: function 113 -/
def spec_smKind.f (a0 : Int) : Option (Bool) := (spec_l1In.f a0 0 4).bind fun t101 => (some t101)
set_option maxHeartbeats 8000000 in
set_option maxRecDepth 100000 in
theorem spec_smKind.calls (a0 : Int) (r : Bool) (w : World) (h : spec_smKind.f a0 = some r) :
  Calls Try.prog 113 #[.int .i64 a0] w fun e w' => e = .returned (.bool r) ∧ Drawn0 w w' := by
 have H : ((spec_l1In.f a0 0 4).bind fun t101 => (some t101)) = some r := h
 clear h
 replace H := Option.bind_eq_some_iff.mp H
 obtain ⟨t101, A20, H⟩ := H
 replace H : (some t101) = some r := H
 have A2 := am_ A20
 clear A20
 obtain rfl := Option.some.inj H
 go_enter Try.func113, Try.ntmps113
 go_wp2_with (first | ((with_reducible refine gate_callee (f := 112) rfl ?_); refine goesL_ (some 4) rfl rfl Try.func112 (by kernel_rfl) rfl #[.int .i64 a0, .int .i64 0, .int .i64 4] rfl tc1_ ?_; (with_reducible refine (spec_l1In.calls a0 0 4 t101 _ A2.out).mono ?_); rintro e w' ⟨rfl, ⟨nd, rfl⟩⟩; refine ⟨_, rfl, ?_⟩))
 go_ret
 exact ⟨by first | rfl | (simp; done) | (simp [*]; done), by repeat (first | exact Drawn0.refl _ | apply Drawn0.step)⟩

/-! ### spec_l1All: function 163 -/
def spec_l1All.l0 : Nat → Int → Int → List Int → Int → Int → Option (Bool)
 | 0, _, _, _, _, _ => none
 | k + 1, x1, x2, x9, x10, x11 => if x11 < x10 then (if 0 ≤ x11 then (if x11 < (x9.length : Int) then ((spec_l1In.f (rd x9 x11) x1 x2).bind fun t102 => (if t102 = true then (spec_l1All.l0 k x1 x2 x9 x10 (wrap64 (x11 + 1))) else (some false))) else (none)) else (none)) else (some true)
def spec_l1All.f (k : Nat) (l0 : List Int) (a1 : Int) (a2 : Int) : Option (Bool) := spec_l1All.l0 k a1 a2 l0 (l0.length : Int) 0
set_option maxHeartbeats 8000000 in
set_option maxRecDepth 100000 in
theorem spec_l1All.calls (k : Nat) (A0 : Option Addr) (c0 : Nat) (l0 : List Int) (a1 : Int) (a2 : Int) (r : Bool) (w : World) (hr0 : Kd.C (Kd.int .i64) w A0 l0.length l0) (hc0 : l0.length ≤ c0) (h : spec_l1All.f k l0 a1 a2 = some r) :
  Calls Try.prog 163 #[.slice A0 l0.length c0, .int .i64 a1, .int .i64 a2] w fun e w' => e = .returned (.bool r) ∧ Drawn0 w w' := by
 have HR0 := am_ hr0
 have HC0 := am_ hc0
 clear hr0 hc0
 have H : (spec_l1All.l0 k a1 a2 l0 (l0.length : Int) 0) = some r := h
 clear h
 have H' := am_ H
 clear H
 go_enter Try.func163, Try.ntmps163
 go_wp2
 go_loopg [11] k (fun kq v11 w' => ∃ (x11_1 : Int), v11 = .int .i64 x11_1 ∧ Aside0 (spec_l1All.l0 kq a1 a2 l0 (l0.length : Int) x11_1 = some r) ∧ Aside0 (kq ≤ k) ∧ Drawn0 w w')
 case atStart => exact ⟨(0), tc7_, H', ⟨Nat.le_refl _⟩, by repeat (first | exact Drawn0.refl _ | apply Drawn0.step)⟩
 case round =>
  clear H'
  try clear c1
  try clear p2
  obtain ⟨x11_1, rfl, HA, HK1, ⟨m1, rfl⟩⟩ := hrel
  cases gk with
  | zero => exact absurd HA.out (by simp [spec_l1All.l0])
  | succ k1 =>
   have H := HA.out
   clear HA
   simp only [spec_l1All.l0] at H
   by_cases c4 : x11_1 < (l0.length : Int)
   ·rw [if_pos c4] at H
    have c4b0 : decide (x11_1 < (l0.length : Int)) = true := decide_eq_true c4
    clear c4
    by_cases c5 : 0 ≤ x11_1
    ·rw [if_pos c5] at H
     have c5b0 : decide (0 ≤ x11_1) = true := decide_eq_true c5
     clear c5
     by_cases c6 : x11_1 < (l0.length : Int)
     ·rw [if_pos c6] at H
      have c6b0 : decide (x11_1 < (l0.length : Int)) = true := decide_eq_true c6
      clear c6
      replace H := Option.bind_eq_some_iff.mp H
      obtain ⟨t102, A70, H⟩ := H
      replace H : (if t102 = true then (spec_l1All.l0 k1 a1 a2 l0 (l0.length : Int) (wrap64 (x11_1 + 1))) else (some false)) = some r := H
      have A7 := am_ A70
      clear A70
      by_cases c8 : t102 = true
      ·subst c8
       have H1 : (spec_l1All.l0 k1 a1 a2 l0 (l0.length : Int) (wrap64 (x11_1 + 1))) = some r := by rw [if_pos rfl] at H; exact H
       clear H
       have H := H1
       clear H1
       have H' := am_ H
       clear H
       have p101 : 0 ≤ (x11_1 : Int) := of_decide_eq_true tc3_
       have q101 : x11_1 < (l0.length : Int) := of_decide_eq_true tc3_
       obtain ⟨ad101, e101, hx101_0⟩ := Kd.at_int HR0.out x11_1 p101 q101
       cases e101
       replace p101 := eq_true p101
       replace q101 := eq_true q101
       go_wp2_with (first | ((with_reducible refine gate_callee (f := 112) rfl ?_); refine goesL_ (some 18) rfl rfl Try.func112 (by kernel_rfl) rfl #[.int .i64 (rd l0 x11_1), .int .i64 a1, .int .i64 a2] rfl tc1_ ?_; (with_reducible refine (spec_l1In.calls (rd l0 x11_1) a1 a2 true _ A7.out).mono ?_); rintro e w' ⟨rfl, ⟨nd, rfl⟩⟩; refine ⟨_, rfl, ?_⟩))
       go_roundg k1
       case measure => have := HK1.out; omega
       case rel => exact ⟨(wrap64 (x11_1 + 1)), tc7_, H', ⟨by have := HK1.out; omega⟩, by repeat (first | exact Drawn0.refl _ | apply Drawn0.step)⟩
      ·replace c8 := Bool.eq_false_iff.mpr c8
       subst c8
       have H1 : (some false) = some r := by rw [if_neg (show ¬ (false = true) by decide)] at H; exact H
       clear H
       have H := H1
       clear H1
       obtain rfl := Option.some.inj H
       have p101 : 0 ≤ (x11_1 : Int) := of_decide_eq_true tc3_
       have q101 : x11_1 < (l0.length : Int) := of_decide_eq_true tc3_
       obtain ⟨ad101, e101, hx101_0⟩ := Kd.at_int HR0.out x11_1 p101 q101
       cases e101
       replace p101 := eq_true p101
       replace q101 := eq_true q101
       go_wp2_with (first | ((with_reducible refine gate_callee (f := 112) rfl ?_); refine goesL_ (some 18) rfl rfl Try.func112 (by kernel_rfl) rfl #[.int .i64 (rd l0 x11_1), .int .i64 a1, .int .i64 a2] rfl tc1_ ?_; (with_reducible refine (spec_l1In.calls (rd l0 x11_1) a1 a2 false _ A7.out).mono ?_); rintro e w' ⟨rfl, ⟨nd, rfl⟩⟩; refine ⟨_, rfl, ?_⟩))
       go_ret
       exact ⟨by first | rfl | (simp; done) | (simp [*]; done), by repeat (first | exact Drawn0.refl _ | apply Drawn0.step)⟩
     ·rw [if_neg c6] at H
      exact absurd H (by simp)
    ·rw [if_neg c5] at H
     exact absurd H (by simp)
   ·rw [if_neg c4] at H
    have c4b0 : decide (x11_1 < (l0.length : Int)) = false := decide_eq_false c4
    clear c4
    obtain rfl := Option.some.inj H
    go_wp2
    go_ret
    exact ⟨by first | rfl | (simp; done) | (simp [*]; done), by repeat (first | exact Drawn0.refl _ | apply Drawn0.step)⟩

/-! ### spec_l1Own: function 177 -/
def spec_l1Own.f (l0 : List Int) : Option (List Int) := (some (([] : List Int) : List Int)).bind fun y101 => (if y101.length + l0.length < 17592186044416 then (some (y101 ++ l0)) else (none))
set_option maxHeartbeats 8000000 in
set_option maxRecDepth 100000 in
theorem spec_l1Own.calls (A0 : Option Addr) (c0 : Nat) (l0 : List Int) (r : List Int) (w : World) (hr0 : Kd.C (Kd.int .i64) w A0 l0.length l0) (hc0 : l0.length ≤ c0) (h : spec_l1Own.f l0 = some r) :
  Calls Try.prog 177 #[.slice A0 l0.length c0] w fun e w' => ∃ v0_ : Value, e = .returned (v0_) ∧ Kd.R (Kd.int .i64) 3 w' w.heap.size (fun _ => True) v0_ r ∧ Below w.heap.size w w' := by
 have HR0 := am_ hr0
 have HC0 := am_ hc0
 clear hr0 hc0
 have HB := am_ (Below.refl w.heap.size w)
 have H : ((some (([] : List Int) : List Int)).bind fun y101 => (if y101.length + l0.length < 17592186044416 then (some (y101 ++ l0)) else (none))) = some r := h
 clear h
 obtain ⟨y101, hy101⟩ : ∃ y_ : List Int, y_ = (([] : List Int)) := ⟨_, rfl⟩
 replace H : (if y101.length + l0.length < 17592186044416 then (some (y101 ++ l0)) else (none)) = some r := by first | (rw [hy101]; with_reducible exact H) | (have H2_ := (Option.bind_some _ _).symm.trans H; rw [hy101]; with_reducible exact H2_) | (have H2_ := (Option.bind_some _ _).symm.trans H; with_reducible exact H2_) | with_reducible exact H | (rw [hy101]; exact H) | exact H
 have Ny101 := am_ hy101
 clear hy101
 by_cases c2 : y101.length + l0.length < 17592186044416
 ·rw [if_pos c2] at H
  have LMc2 := am_ c2
  clear c2
  obtain ⟨y104, hy104⟩ : ∃ y_ : List Int, y_ = (y101 ++ l0) := ⟨_, rfl⟩
  replace H : (some y104) = some r := by first | (rw [hy104]; with_reducible exact H) | (have H2_ := (Option.bind_some _ _).symm.trans H; rw [hy104]; with_reducible exact H2_) | (have H2_ := (Option.bind_some _ _).symm.trans H; with_reducible exact H2_) | with_reducible exact H | (rw [hy104]; exact H) | exact H
  have Ny104 := am_ hy104
  clear hy104
  obtain rfl := Option.some.inj H
  go_enter Try.func177, Try.ntmps177
  go_wp2_with (first | ((with_reducible refine gate_dst (N := 3) rfl ?_); refine Kd.R_lit (Kd.int .i64) _ 3 ?hg (N := 3) ?hd (xs := ([] : List Int)) (inner := []) (ok := fun _ => True) (okp := fun _ => True) ?hr ?hp (fun _ hk => hk) trivial (Below.refl _ _) (Nat.le_refl _) (by simp) ?_; (case hd => rfl); (case hg => rfl); (case hr => exact tc19_); (case hp => exact (Reps.none _ _)); intro v102 w3 ho4 hb hg_ hnew_; clear hg_ hnew_; (first | rw [← Ny101.out] at ho4 | (simp only [Int.reduceToNat] at ho4; rw [← Ny101.out] at ho4)); have n0_ := am_ (Kd.R_lower ho4 (below_size tc0_)); have n1_ := am_ (below_step tc0_ hb); clear HB; have HO103 := n0_; have HB := n1_; clear n0_ n1_; clear hb ho4) | ((with_reducible refine gate_builtin (b := .append) (xs := #[.tmp 3, .tmp 4]) rfl ?_); at_builtin; refine Kd.R_append_rows (Kd.int .i64) (w0 := w) w.heap.size rfl (.tmp 3) (.tmp 4) 35 3 (.int .i64 0) 8 rfl Try.underlying35 info3 rfl (by decide) (by omega) v102 y101 l0 _ _ _ (fun _ => True) (fun _ => False) rfl rfl ?aO ?aR (fun _ _ h => h) (fun _ h => h.elim) ?aF ?aB ?aS ?aL ?_; (case aR => exact tc12_); (case aB => exact tc13_); (case aF => exact tc70_); (case aO => exact (by (with_reducible repeat (first | apply Kd.R_alloc | apply Kd.R_drewN | apply Kd.R_drew)); exact HO103.out)); (case aS => exact tc16_); (case aL => have := LMc2.out; omega); intro v105 w5 ho hb hg hat; rw [← Ny104.out] at ho; have n0_ := am_ (hb); have n1_ := am_ (ho); clear HB HO103; have HB := n0_; have HO106 := n1_; clear n0_ n1_; clear ho hb hg hat))
  go_ret
  exact ⟨_, by first | rfl | (simp [errW_none, errW_some] <;> rfl) | (simp [*, errW_none, errW_some] <;> rfl), by (with_reducible repeat (first | apply Kd.R_alloc | apply Kd.R_drewN | apply Kd.R_drew)); exact HO106.out, by repeat (first | (with_reducible first | exact HB.out | apply below_alloc | apply pw_below_drewN | apply below_drew1) | exact HB.out)⟩
 ·rw [if_neg c2] at H
  exact absurd H (by simp)

/-! ### spec_weRows: function 202 -/
mutual
def spec_weRows.l0 : Nat → List Int → List Int → Int → List (List Int) → Int → Option ((List (List Int)))
 | 0, _, _, _, _, _ => none
 | k + 1, x0, x1, x2, x7, x8 => if x8 ≤ 1 then ((spec_l1In.f (wrap64 (x2 + x8)) 0 1).bind fun t104 => (if t104 = true then (if 0 ≤ (x1.length : Int) then (if (x1.length : Int) < (x0.length : Int) then ((spec_l1In.f (wrap64 ((rd x0 (x1.length : Int)) + x8)) 0 1).bind fun t106 => (spec_weRows.j1 k x0 x1 x2 x7 x8 t106)) else (none)) else (none)) else (spec_weRows.j1 k x0 x1 x2 x7 x8 false))) else (some x7)
def spec_weRows.j1 : Nat → List Int → List Int → Int → List (List Int) → Int → Bool → Option ((List (List Int)))
 | 0, _, _, _, _, _, _ => none
 | k + 1, x0, x1, x2, x7, x8, x35 => if x35 = true then ((spec_l1Own.f x1).bind fun t107 => (if t107.length < 17592186044416 then ((spec_weRows.f k x0 (t107 ++ [x8]) (wrap64 (x2 + x8))).bind fun t113 => (if x7.length + t113.length < 5864062014805 then (spec_weRows.l0 k x0 x1 x2 (x7 ++ t113) (wrap64 (x8 + 1))) else (none))) else (none))) else (spec_weRows.l0 k x0 x1 x2 x7 (wrap64 (x8 + 1)))
def spec_weRows.f : Nat → List Int → List Int → Int → Option ((List (List Int)))
 | 0, _, _, _ => none
 | k + 1, l0, l1, a2 => if (l1.length : Int) = (l0.length : Int) then (if a2 = 1 then (some (([l1] : List (List Int)))) else (some ([] : List (List Int)))) else (spec_weRows.l0 k l0 l1 a2 ([] : List (List Int)) (-1))
end
set_option maxHeartbeats 8000000 in
set_option maxRecDepth 100000 in
theorem spec_weRows.calls (k : Nat) : ∀ (A0 : Option Addr) (c0 : Nat) (l0 : List Int) (P1_ : Nat → Prop) (A1 : Option Addr) (c1 : Nat) (l1 : List Int) (a2 : Int) (r : List (List Int)) (w : World) (hr0 : Kd.C (Kd.int .i64) w A0 l0.length l0) (hc0 : l0.length ≤ c0) (hs1 : Kd.V (Kd.int .i64) 3 w w.heap.size (fun k_ => P1_ k_) (.slice A1 l1.length c1) l1) (h : spec_weRows.f k l0 l1 a2 = some r),
  Calls Try.prog 202 #[.slice A0 l0.length c0, .slice A1 l1.length c1, .int .i64 a2] w fun e w' => ∃ v0_ : Value, e = .returned (v0_) ∧ Kd.N (Kd.slice 3 (Kd.int .i64)) 35 w' w.heap.size (fun k_ => (P1_ k_ ∨ w.heap.size ≤ k_)) v0_ r ∧ Below w.heap.size w w' := by
 induction k using Nat.strongRecOn with
 | _ k ih =>
 intro A0 c0 l0 P1_ A1 c1 l1 a2 r w hr0 hc0 hs1 h
 cases k with
 | zero => exact absurd h (by simp [spec_weRows.f])
 | succ k =>
 simp only [spec_weRows.f] at h
 have HR0 := am_ hr0
 have HC0 := am_ hc0
 clear hr0 hc0
 have HO1 := am_ (show Kd.V (Kd.int .i64) 3 w w.heap.size (fun k_ => (P1_ k_ ∨ w.heap.size ≤ k_)) (.slice A1 l1.length c1) l1 from Kd.V_mono hs1 (fun k_ hk => .inl hk))
 have HB := am_ (Below.refl w.heap.size w)
 have H : (if (l1.length : Int) = (l0.length : Int) then (if a2 = 1 then (some (([l1] : List (List Int)))) else (some ([] : List (List Int)))) else (spec_weRows.l0 k l0 l1 a2 ([] : List (List Int)) (-1))) = some r := h
 clear h
 by_cases c4 : (l1.length : Int) = (l0.length : Int)
 ·rw [if_pos c4] at H
  have c4b0 : ((l1.length : Int) == (l0.length : Int)) = true := beq_iff_eq.mpr c4
  have c4b1 : ((l1.length : Int) != (l0.length : Int)) = false := bne_eq_false_iff_eq.mpr c4
  have c4b2 : (l1.length == l0.length) = true := by first | simpa using c4 | (simp at c4 ⊢; omega)
  clear c4
  by_cases c5 : a2 = 1
  ·rw [if_pos c5] at H
   have c5b0 : (a2 == 1) = true := beq_iff_eq.mpr c5
   have c5b1 : (a2 != 1) = false := bne_eq_false_iff_eq.mpr c5
   clear c5
   obtain ⟨y101, hy101⟩ : ∃ y_ : List (List Int), y_ = (([l1] : List (List Int))) := ⟨_, rfl⟩
   replace H : (some y101) = some r := by first | (rw [hy101]; with_reducible exact H) | (have H2_ := (Option.bind_some _ _).symm.trans H; rw [hy101]; with_reducible exact H2_) | (have H2_ := (Option.bind_some _ _).symm.trans H; with_reducible exact H2_) | with_reducible exact H | (rw [hy101]; exact H) | exact H
   have Ny101 := am_ hy101
   clear hy101
   obtain rfl := Option.some.inj H
   go_enter Try.func202, Try.ntmps202
   go_wp2_with (first | ((with_reducible refine gate_dst (N := 17) rfl ?_); (try (refine gate_guard (by rfl) ?_; dsimp only)); refine Kd.N_lit (Kd.slice 3 (Kd.int .i64)) _ 35 ?hg (N' := 17) ?hd (xs := ([l1] : List (List Int))) (inner := [.slice A1 l1.length c1]) (ok := (fun k_ => (P1_ k_ ∨ w.heap.size ≤ k_))) (okp := (fun k_ => (P1_ k_ ∨ w.heap.size ≤ k_))) ?hr ?hp (fun _ hk => hk) ((show ∀ k_, w.heap.size ≤ k_ → (fun k_ => (P1_ k_ ∨ w.heap.size ≤ k_)) k_ from fun k_ hk => (.inr (Nat.le_trans (below_size tc0_) hk))) _ (Nat.le_refl _)) (Below.refl _ _) (Nat.le_refl _) (by simp) ?_; (case hd => rfl); (case hg => rfl); (case hr => exact tc19_); (case hp => exact (Reps.one (show Kd.FK (Kd.slice 3 (Kd.int .i64)) _ _ l1 [.slice A1 l1.length c1] from (Kd.FK_slice_mk (Kd.V_reads' (Kd.V_mono (ok' := (fun k_ => (P1_ k_ ∨ w.heap.size ≤ k_))) (HO1.out) (fun k_ hk => hk))).2.1 (Kd.V_F (Kd.V_mono (ok' := (fun k_ => (P1_ k_ ∨ w.heap.size ≤ k_))) (HO1.out) (fun k_ hk => hk))))) (Reps.none _ _))); intro v102 w6 ho7 hb hg_ hnew_; clear hg_ hnew_; (first | rw [← Ny101.out] at ho7 | (simp only [Int.reduceToNat] at ho7; rw [← Ny101.out] at ho7)); have n0_ := am_ (Kd.V_elder' (by (with_reducible repeat (first | apply Kd.V_alloc | apply Kd.V_drewN | apply Kd.V_drew)); exact HO1.out) (Kd.N_base ho7) hb); have n1_ := am_ (Kd.N_lower ho7 (below_size tc0_)); have n2_ := am_ (below_step tc0_ hb); clear HO1 HB; have HO1 := n0_; have HO103 := n1_; have HB := n2_; clear n0_ n1_ n2_; clear hb ho7))
   go_ret
   exact ⟨_, by first | rfl | (simp [errW_none, errW_some] <;> rfl) | (simp [*, errW_none, errW_some] <;> rfl), by (with_reducible repeat (first | apply Kd.N_alloc | apply Kd.N_drewN | apply Kd.N_drew)); exact HO103.out, by repeat (first | (with_reducible first | exact HB.out | apply below_alloc | apply pw_below_drewN | apply below_drew1) | exact HB.out)⟩
  ·rw [if_neg c5] at H
   have c5b0 : (a2 == 1) = false := beq_eq_false_iff_ne.mpr c5
   have c5b1 : (a2 != 1) = true := bne_iff_ne.mpr c5
   obtain rfl := Option.some.inj H
   go_enter Try.func202, Try.ntmps202
   go_wp2
   go_ret
   exact ⟨_, by first | rfl | (simp [errW_none, errW_some] <;> rfl) | (simp [*, errW_none, errW_some] <;> rfl), by first | exact Kd.S_nil _ _ _ _ _ | exact Kd.N_nil _ _ _ _ _ | exact Kd.V_nil _ _ _ _ _ | exact Kd.Q_nil _ _ _ _ _ | exact Kd.R_nil _ _ _ _ _, by repeat (first | (with_reducible first | exact HB.out | apply below_alloc | apply pw_below_drewN | apply below_drew1) | exact HB.out)⟩
 ·rw [if_neg c4] at H
  have c4b0 : ((l1.length : Int) == (l0.length : Int)) = false := beq_eq_false_iff_ne.mpr c4
  have c4b1 : ((l1.length : Int) != (l0.length : Int)) = true := bne_iff_ne.mpr c4
  have c4b2 : (l1.length == l0.length) = false := by first | simpa using c4 | (simp at c4 ⊢; omega)
  have H' := am_ H
  clear H
  go_enter Try.func202, Try.ntmps202
  go_wp2
  go_loopg [7, 8] k (fun kq v7 v8 w' => ∃ (x7_1 : List (List Int)) (x8_1 : Int), v8 = .int .i64 x8_1 ∧ Aside0 (spec_weRows.l0 kq l0 l1 a2 x7_1 x8_1 = some r) ∧ Aside0 (kq ≤ k) ∧ Aside0 (Kd.V (Kd.int .i64) 3 w' w.heap.size (fun k_ => (P1_ k_ ∨ w.heap.size ≤ k_) ∧ some k_ ≠ (v7 : Value).ownBlock) (.slice A1 l1.length c1) l1) ∧ Aside0 (Kd.N (Kd.slice 3 (Kd.int .i64)) 35 w' w.heap.size (fun k_ => (P1_ k_ ∨ w.heap.size ≤ k_)) v7 x7_1) ∧ Aside0 (Below w.heap.size w w'))
  case atStart => exact ⟨(([] : List (List Int))), ((-1)), tc7_, H', ⟨Nat.le_refl _⟩, ⟨by (with_reducible repeat (first | apply Kd.V_alloc | apply Kd.V_drewN | apply Kd.V_drew)); exact Kd.V_mono HO1.out (fun _ hk => ⟨hk, (by simp [Value.ownBlock])⟩)⟩, ⟨by first | exact Kd.S_nil _ _ _ _ _ | exact Kd.N_nil _ _ _ _ _ | exact Kd.V_nil _ _ _ _ _ | exact Kd.Q_nil _ _ _ _ _ | exact Kd.R_nil _ _ _ _ _⟩, ⟨by repeat (first | (with_reducible first | exact HB.out | apply below_alloc | apply pw_below_drewN | apply below_drew1) | exact HB.out)⟩⟩
  case round =>
   clear H'
   try clear c1
   try clear c2
   try clear p2
   try clear c4
   try clear c4b0
   try clear c4b1
   try clear c4b2
   try clear c5
   try clear c5b0
   try clear c5b1
   obtain ⟨x7_1, x8_1, rfl, HA, HK1, HO_1, HO_7, HB⟩ := hrel
   cases gk with
   | zero => exact absurd HA.out (by simp [spec_weRows.l0])
   | succ k1 =>
    have H := HA.out
    clear HA
    simp only [spec_weRows.l0] at H
    by_cases c8 : x8_1 ≤ 1
    ·rw [if_pos c8] at H
     have c8b0 : decide (x8_1 ≤ 1) = true := decide_eq_true c8
     clear c8
     have HC9 := am_ H
     clear H
     go_upto_region 9 with (fail)
     go_cut [35] (fun v35 wc => ∃ (kq : Nat) (x35_8 : Bool), v35 = .bool x35_8 ∧ Aside0 (spec_weRows.j1 kq l0 l1 a2 x7_1 x8_1 x35_8 = some r) ∧ Aside0 (kq ≤ k1) ∧ Aside0 (Kd.V (Kd.int .i64) 3 wc w.heap.size (fun k_ => (P1_ k_ ∨ w.heap.size ≤ k_) ∧ some k_ ≠ (u7 : Value).ownBlock) (.slice A1 l1.length c1) l1) ∧ Aside0 (Kd.N (Kd.slice 3 (Kd.int .i64)) 35 wc w.heap.size (fun k_ => (P1_ k_ ∨ w.heap.size ≤ k_)) u7 x7_1) ∧ Aside0 (Below w.heap.size w wc))
     case first =>
      have H := HC9.out
      clear HC9
      replace H := Option.bind_eq_some_iff.mp H
      obtain ⟨t104, A100, H⟩ := H
      replace H : (if t104 = true then (if 0 ≤ (l1.length : Int) then (if (l1.length : Int) < (l0.length : Int) then ((spec_l1In.f (wrap64 ((rd l0 (l1.length : Int)) + x8_1)) 0 1).bind fun t106 => (spec_weRows.j1 k1 l0 l1 a2 x7_1 x8_1 t106)) else (none)) else (none)) else (spec_weRows.j1 k1 l0 l1 a2 x7_1 x8_1 false)) = some r := H
      have A10 := am_ A100
      clear A100
      by_cases c11 : t104 = true
      ·subst c11
       have H1 : (if 0 ≤ (l1.length : Int) then (if (l1.length : Int) < (l0.length : Int) then ((spec_l1In.f (wrap64 ((rd l0 (l1.length : Int)) + x8_1)) 0 1).bind fun t106 => (spec_weRows.j1 k1 l0 l1 a2 x7_1 x8_1 t106)) else (none)) else (none)) = some r := by rw [if_pos rfl] at H; exact H
       clear H
       have H := H1
       clear H1
       by_cases c12 : 0 ≤ (l1.length : Int)
       ·rw [if_pos c12] at H
        have c12b0 : decide (0 ≤ (l1.length : Int)) = true := decide_eq_true c12
        have c12b1 : decide (0 ≤ l1.length) = true := decide_eq_true (by omega)
        clear c12
        (first | rw [c12b0] | (simp only [i64_w, i32_w]; rw [c12b0]) | skip)
        by_cases c13 : (l1.length : Int) < (l0.length : Int)
        ·rw [if_pos c13] at H
         have c13b0 : decide ((l1.length : Int) < (l0.length : Int)) = true := decide_eq_true c13
         have c13b1 : decide (l1.length < l0.length) = true := decide_eq_true (Int.ofNat_lt.mp c13)
         clear c13
         replace H := Option.bind_eq_some_iff.mp H
         obtain ⟨t106, A140, H⟩ := H
         replace H : (spec_weRows.j1 k1 l0 l1 a2 x7_1 x8_1 t106) = some r := H
         have A14 := am_ A140
         clear A140
         have H' := am_ H
         clear H
         go_wp2_with (first | ((with_reducible refine gate_callee (f := 112) rfl ?_); refine goesL_ (some 25) rfl rfl Try.func112 (by kernel_rfl) rfl #[.int .i64 (wrap64 (a2 + x8_1)), .int .i64 0, .int .i64 1] rfl tc1_ ?_; (with_reducible refine (spec_l1In.calls (wrap64 (a2 + x8_1)) 0 1 true _ A10.out).mono ?_); rintro e w' ⟨rfl, ⟨nd, rfl⟩⟩; refine ⟨_, rfl, ?_⟩; have p105 : 0 ≤ ((l1.length : Int) : Int) := of_decide_eq_true tc3_; have q105 : (l1.length : Int) < (l0.length : Int) := of_decide_eq_true tc3_; obtain ⟨ad105, e105, hx105_0⟩ := Kd.at_int HR0.out (l1.length : Int) p105 q105; cases e105; replace hx105_0 := (HB.out.cell (World.block_lt_of_cell? w _ hx105_0)).trans hx105_0; (try simp only [Go.IntWalk.toNatUp] at hx105_0); replace p105 := eq_true p105; replace q105 := eq_true q105) | (go_at_call 112; (with_reducible refine (spec_l1In.calls (wrap64 ((rd l0 (l1.length : Int)) + x8_1)) 0 1 t106 _ A14.out).mono ?_); rintro e w' ⟨rfl, ⟨nd, rfl⟩⟩))
         go_meet
         case rel => exact ⟨_, (t106), tc7_, H', ⟨by have := HK1.out; first | omega | exact Nat.le_refl _⟩, ⟨by (with_reducible repeat (first | apply Kd.V_alloc | apply Kd.V_drewN | apply Kd.V_drew)); exact HO_1.out⟩, ⟨by (with_reducible repeat (first | apply Kd.N_alloc | apply Kd.N_drewN | apply Kd.N_drew)); exact HO_7.out⟩, ⟨by repeat (first | (with_reducible first | exact HB.out | apply below_alloc | apply pw_below_drewN | apply below_drew1) | exact HB.out)⟩⟩
        ·rw [if_neg c13] at H
         exact absurd H (by simp)
       ·rw [if_neg c12] at H
        exact absurd H (by simp)
      ·replace c11 := Bool.eq_false_iff.mpr c11
       subst c11
       have H1 : (spec_weRows.j1 k1 l0 l1 a2 x7_1 x8_1 false) = some r := by rw [if_neg (show ¬ (false = true) by decide)] at H; exact H
       clear H
       have H := H1
       clear H1
       have H' := am_ H
       clear H
       go_wp2_with (first | ((with_reducible refine gate_callee (f := 112) rfl ?_); refine goesL_ (some 25) rfl rfl Try.func112 (by kernel_rfl) rfl #[.int .i64 (wrap64 (a2 + x8_1)), .int .i64 0, .int .i64 1] rfl tc1_ ?_; (with_reducible refine (spec_l1In.calls (wrap64 (a2 + x8_1)) 0 1 false _ A10.out).mono ?_); rintro e w' ⟨rfl, ⟨nd, rfl⟩⟩; refine ⟨_, rfl, ?_⟩))
       go_meet
       case rel => exact ⟨_, (false), tc7_, H', ⟨by have := HK1.out; first | omega | exact Nat.le_refl _⟩, ⟨by (with_reducible repeat (first | apply Kd.V_alloc | apply Kd.V_drewN | apply Kd.V_drew)); exact HO_1.out⟩, ⟨by (with_reducible repeat (first | apply Kd.N_alloc | apply Kd.N_drewN | apply Kd.N_drew)); exact HO_7.out⟩, ⟨by repeat (first | (with_reducible first | exact HB.out | apply below_alloc | apply pw_below_drewN | apply below_drew1) | exact HB.out)⟩⟩
     case rest =>
      clear HC9
      try clear c1
      try clear p1
      try clear q1
      try clear hx1
      try clear c2
      try clear p2
      try clear c4
      try clear c4b0
      try clear c4b1
      try clear c4b2
      try clear c5
      try clear c5b0
      try clear c5b1
      try clear p6
      try clear c8
      try clear c8b0
      try clear p10
      try clear q10
      try clear hx10
      try clear c11
      try clear c12
      try clear c12b0
      try clear c12b1
      try clear c13
      try clear c13b0
      try clear c13b1
      try clear hx105_0
      try clear p105
      try clear p2
      try clear q105
      obtain ⟨kq, x35_8, rfl, HA, HJ8, HO_1, HO_7, HB⟩ := hcut
      cases kq with
      | zero => exact absurd HA.out (by simp [spec_weRows.j1])
      | succ kj8 =>
       have H := HA.out
       clear HA
       simp only [spec_weRows.j1] at H
       by_cases c15 : x35_8 = true
       ·subst c15
        have H1 : ((spec_l1Own.f l1).bind fun t107 => (if t107.length < 17592186044416 then ((spec_weRows.f kj8 l0 (t107 ++ [x8_1]) (wrap64 (a2 + x8_1))).bind fun t113 => (if x7_1.length + t113.length < 5864062014805 then (spec_weRows.l0 kj8 l0 l1 a2 (x7_1 ++ t113) (wrap64 (x8_1 + 1))) else (none))) else (none))) = some r := by rw [if_pos rfl] at H; exact H
        clear H
        have H := H1
        clear H1
        replace H := Option.bind_eq_some_iff.mp H
        obtain ⟨t107, A160, H⟩ := H
        replace H : (if t107.length < 17592186044416 then ((spec_weRows.f kj8 l0 (t107 ++ [x8_1]) (wrap64 (a2 + x8_1))).bind fun t113 => (if x7_1.length + t113.length < 5864062014805 then (spec_weRows.l0 kj8 l0 l1 a2 (x7_1 ++ t113) (wrap64 (x8_1 + 1))) else (none))) else (none)) = some r := H
        have A16 := am_ A160
        clear A160
        by_cases c17 : t107.length < 17592186044416
        ·rw [if_pos c17] at H
         have LMc17 := am_ c17
         clear c17
         obtain ⟨y110, hy110⟩ : ∃ y_ : List Int, y_ = (t107 ++ [x8_1]) := ⟨_, rfl⟩
         replace H : ((spec_weRows.f kj8 l0 y110 (wrap64 (a2 + x8_1))).bind fun t113 => (if x7_1.length + t113.length < 5864062014805 then (spec_weRows.l0 kj8 l0 l1 a2 (x7_1 ++ t113) (wrap64 (x8_1 + 1))) else (none))) = some r := by first | (rw [hy110]; with_reducible exact H) | (have H2_ := (Option.bind_some _ _).symm.trans H; rw [hy110]; with_reducible exact H2_) | (have H2_ := (Option.bind_some _ _).symm.trans H; with_reducible exact H2_) | with_reducible exact H | (rw [hy110]; exact H) | exact H
         have Ny110 := am_ hy110
         clear hy110
         replace H := Option.bind_eq_some_iff.mp H
         obtain ⟨t113, A180, H⟩ := H
         replace H : (if x7_1.length + t113.length < 5864062014805 then (spec_weRows.l0 kj8 l0 l1 a2 (x7_1 ++ t113) (wrap64 (x8_1 + 1))) else (none)) = some r := H
         have A18 := am_ A180
         clear A180
         by_cases c19 : x7_1.length + t113.length < 5864062014805
         ·rw [if_pos c19] at H
          have LMc19 := am_ c19
          clear c19
          obtain ⟨y116, hy116⟩ : ∃ y_ : List (List Int), y_ = (x7_1 ++ t113) := ⟨_, rfl⟩
          replace H : (spec_weRows.l0 kj8 l0 l1 a2 y116 (wrap64 (x8_1 + 1))) = some r := by first | (rw [hy116]; with_reducible exact H) | (have H2_ := (Option.bind_some _ _).symm.trans H; rw [hy116]; with_reducible exact H2_) | (have H2_ := (Option.bind_some _ _).symm.trans H; with_reducible exact H2_) | with_reducible exact H | (rw [hy116]; exact H) | exact H
          have Ny116 := am_ hy116
          clear hy116
          have H' := am_ H
          clear H
          go_wp2_with (first | ((with_reducible refine gate_callee (f := 177) rfl ?_); refine goesL_ (some 39) rfl rfl Try.func177 (by kernel_rfl) rfl #[.slice A1 l1.length c1] rfl tc1_ ?_; (with_reducible refine (spec_l1Own.calls _ _ l1 t107 _ ?side1 ?side2 A16.out).mono ?_); (case side1 => repeat (first | exact (Kd.V_reads' HO_1.out).2.2 | (with_reducible refine Kd.C_alloc ?_ _) | (with_reducible refine Kd.C_drewN ?_ _) | (with_reducible refine Kd.C_drew ?_))); (case side2 => exact (Kd.V_reads' HO_1.out).2.1); rintro e w20 ⟨v108, rfl, ho0, hb⟩; refine ⟨_, rfl, ?_⟩; have n0_ := am_ (Kd.V_elder' tc68_ (Kd.R_base ho0) hb); have n1_ := am_ (Kd.N_elder' tc47_ (Kd.R_base ho0) hb); have n2_ := am_ (Kd.R_lower (Kd.R_newM (M := fun k_ => (w.heap.size ≤ k_)) ho0 (below_size tc0_) (fun k_ h_ => h_)) (below_size tc0_)); have n3_ := am_ (below_step tc0_ hb); clear HO_1 HO_7 HB; have HO_1 := n0_; have HO_7 := n1_; have HO109 := n2_; have HB := n3_; clear n0_ n1_ n2_ n3_; (try clear hb ho0)) | ((with_reducible refine gate_builtin (b := .append) (xs := #[.tmp 39, .tmp 41]) rfl ?_); (try (refine gate_guard (by rfl) ?_; dsimp only)); at_builtin; refine Kd.R_append (Kd.int .i64) (w0 := w) w.heap.size rfl (.tmp 39) (.tmp 41) 35 3 (.int .i64 0) 8 rfl Try.underlying35 info3 rfl (by decide) (by omega) v108 t107 x8_1 [.int .i64 x8_1] (fun k_ => (w.heap.size ≤ k_)) (fun _ => False) rfl rfl ?aP (fun _ hk => hk.elim) ?aF ?aO ?aB ?aS ?aL ?_; (case aP => exact rfl); (case aB => exact tc13_); (case aF => exact (fun k_ hk => (Nat.le_trans (below_size tc0_) hk))); (case aO => exact (by (with_reducible repeat (first | apply Kd.R_alloc | apply Kd.R_drewN | apply Kd.R_drew)); exact Kd.R_mono HO109.out (fun _ hk => hk.1))); (case aS => exact tc16_); (case aL => have := LMc17.out; omega); intro v111 w21 ho hb hg hat; rw [← Ny110.out] at ho; have n0_ := am_ (Kd.V_afterv (ok := (fun k_ => (P1_ k_ ∨ w.heap.size ≤ k_) ∧ some k_ ≠ (u7 : Value).ownBlock)) tc68_ hg hat); have n1_ := am_ (Kd.N_afterv (ok := (fun k_ => (P1_ k_ ∨ w.heap.size ≤ k_))) tc47_ hg hat); have n2_ := am_ (hb); have n3_ := am_ (ho); clear HO_1 HO_7; clear HB HO109; have HO_1 := n0_; have HO_7 := n1_; have HB := n2_; have HO112 := n3_; clear n0_ n1_ n2_ n3_; clear ho hb hg hat; obtain ⟨Ao22, co22, eo22⟩ := Kd.R_slice HO112.out; subst eo22) | ((with_reducible refine gate_callee (f := 202) rfl ?_); refine goesL_ (some 46) rfl rfl Try.func202 (by kernel_rfl) rfl #[.slice A0 l0.length c0, .slice Ao22 y110.length co22, .int .i64 (wrap64 (a2 + x8_1))] rfl tc1_ ?_; (with_reducible refine (ih kj8 (by have := HK1.out; have := HJ8.out; omega) _ _ l0 (fun k_ => some k_ = (.slice Ao22 y110.length co22 : Value).ownBlock) _ _ y110 (wrap64 (a2 + x8_1)) t113 _ ?side1 ?side2 ?side3 A18.out).mono ?_); (case side1 => exact tc12_); (case side2 => exact HC0.out); (case side3 => exact Kd.R_V (Kd.R_tight rfl (Kd.R_apart' (HO112.out) (Kd.N_typed HO_7.out) (by decide)))); rintro e w23 ⟨v114, rfl, ho0, hb⟩; refine ⟨_, rfl, ?_⟩; have n0_ := am_ (Kd.V_elder' tc68_ (Kd.N_base ho0) hb); have n1_ := am_ (Kd.N_elder' tc47_ (Kd.N_base ho0) hb); have n2_ := am_ (Kd.R_below (by (with_reducible repeat (first | apply Kd.R_alloc | apply Kd.R_drewN | apply Kd.R_drew)); exact HO112.out) hb); have n3_ := am_ (Kd.N_lower (Kd.N_mono (ok' := fun k_ => (P1_ k_ ∨ w.heap.size ≤ k_) ∧ some k_ ≠ (u7 : Value).ownBlock) ho0 (fun k_ hk_ => ⟨Or.elim hk_ (fun hs_ => (.inr (((Kd.R_apart' (HO112.out) (Kd.N_typed HO_7.out) (by decide)).1 k_ hs_.symm).1))) (fun hn_ => (.inr (Nat.le_trans (below_size tc0_) hn_))), Or.elim hk_ (fun hs_ => ((Kd.R_apart' (HO112.out) (Kd.N_typed HO_7.out) (by decide)).1 k_ hs_.symm).2) (fun hn_ => (Kd.fresh' (Kd.N_lt tc47_) k_ hn_))⟩)) (below_size tc0_)); have n4_ := am_ (below_step tc0_ hb); clear HO_1 HO_7; clear HO112 HB; have HO_1 := n0_; have HO_7 := n1_; have HO112 := n2_; have HO115 := n3_; have HB := n4_; clear n0_ n1_ n2_ n3_ n4_; (try clear hb ho0); obtain ⟨Ao25, co25, eo25⟩ := Kd.N_slice HO115.out; subst eo25) | ((with_reducible refine gate_builtin (b := .append) (xs := #[.tmp 36, .tmp 46]) rfl ?_); (try (refine gate_guard (by rfl) ?_; dsimp only)); at_builtin; refine Kd.N_append_rows (Kd.slice 3 (Kd.int .i64)) (w0 := w) w.heap.size rfl (.tmp 36) (.tmp 46) 24 35 (.slice none 0 0) 24 rfl Try.underlying24 info35 rfl (by decide) (by omega) u7 x7_1 t113 _ _ _ (fun k_ => (P1_ k_ ∨ w.heap.size ≤ k_)) (fun k_ => ((fun k_ => (P1_ k_ ∨ w.heap.size ≤ k_))) k_ ∧ some k_ ≠ (u7 : Value).ownBlock) rfl rfl ?aO ?aR (fun _ hk => hk) ?aF ?aB ?aS ?aL ?_; (case aR => exact (by skip; exact Kd.N_F (Kd.N_mono (ok' := (fun k_ => ((fun k_ => (P1_ k_ ∨ w.heap.size ≤ k_))) k_ ∧ some k_ ≠ (u7 : Value).ownBlock)) (HO115.out) (fun k_ hk => ⟨hk.1, hk.2⟩)))); (case aB => exact tc13_); (case aF => exact tc41_); (case aO => exact (by (with_reducible repeat (first | apply Kd.N_alloc | apply Kd.N_drewN | apply Kd.N_drew)); exact Kd.N_mono HO_7.out (fun _ hk => hk.1.1))); (case aS => exact tc16_); (case aL => have := LMc19.out; omega); intro v117 w24 ho hb hg hat; rw [← Ny116.out] at ho; have n0_ := am_ (Kd.V_afterv (ok := (fun k_ => (P1_ k_ ∨ w.heap.size ≤ k_) ∧ some k_ ≠ (.slice Ao22 y110.length co22 : Value).ownBlock ∧ some k_ ≠ (.slice Ao25 t113.length co25 : Value).ownBlock)) (by (with_reducible repeat (first | apply Kd.V_alloc | apply Kd.V_drewN | apply Kd.V_drew)); exact Kd.V_mono HO_1.out (fun _ hk => ⟨⟨hk.1.1.1, ⟨hk.1.2, hk.2⟩⟩, hk.1.1.2⟩)) hg hat); have n1_ := am_ (Kd.R_over' (by (with_reducible repeat (first | apply Kd.R_alloc | apply Kd.R_drewN | apply Kd.R_drew)); exact HO112.out) (Kd.N_typed tc47_) (by decide) hg); have n2_ := am_ (Kd.N_afterv (ok := (fun k_ => (P1_ k_ ∨ w.heap.size ≤ k_))) (by (with_reducible repeat (first | apply Kd.N_alloc | apply Kd.N_drewN | apply Kd.N_drew)); exact HO115.out) hg hat); have n3_ := am_ (hb); have n4_ := am_ (ho); clear HO_1 HO112; clear HO115 HB HO_7; have HO_1 := n0_; have HO112 := n1_; have HO115 := n2_; have HB := n3_; have HO118 := n4_; clear n0_ n1_ n2_ n3_ n4_; clear ho hb hg hat))
          go_roundg kj8
          case measure => have := HK1.out; have := HJ8.out; omega
          case rel => exact ⟨(y116), (wrap64 (x8_1 + 1)), tc7_, H', ⟨by have := HK1.out; have := HJ8.out; omega⟩, ⟨by (with_reducible repeat (first | apply Kd.V_alloc | apply Kd.V_drewN | apply Kd.V_drew)); exact Kd.V_mono HO_1.out (fun _ hk => ⟨hk.1.1, hk.2⟩)⟩, ⟨by (with_reducible repeat (first | apply Kd.N_alloc | apply Kd.N_drewN | apply Kd.N_drew)); exact HO118.out⟩, ⟨by repeat (first | (with_reducible first | exact HB.out | apply below_alloc | apply pw_below_drewN | apply below_drew1) | exact HB.out)⟩⟩
         ·rw [if_neg c19] at H
          exact absurd H (by simp)
        ·rw [if_neg c17] at H
         exact absurd H (by simp)
       ·replace c15 := Bool.eq_false_iff.mpr c15
        subst c15
        have H1 : (spec_weRows.l0 kj8 l0 l1 a2 x7_1 (wrap64 (x8_1 + 1))) = some r := by rw [if_neg (show ¬ (false = true) by decide)] at H; exact H
        clear H
        have H := H1
        clear H1
        have H' := am_ H
        clear H
        go_wp2
        go_roundg kj8
        case measure => have := HK1.out; have := HJ8.out; omega
        case rel => exact ⟨(x7_1), (wrap64 (x8_1 + 1)), tc7_, H', ⟨by have := HK1.out; have := HJ8.out; omega⟩, ⟨by (with_reducible repeat (first | apply Kd.V_alloc | apply Kd.V_drewN | apply Kd.V_drew)); exact HO_1.out⟩, ⟨by (with_reducible repeat (first | apply Kd.N_alloc | apply Kd.N_drewN | apply Kd.N_drew)); exact HO_7.out⟩, ⟨by repeat (first | (with_reducible first | exact HB.out | apply below_alloc | apply pw_below_drewN | apply below_drew1) | exact HB.out)⟩⟩
    ·rw [if_neg c8] at H
     have c8b0 : decide (x8_1 ≤ 1) = false := decide_eq_false c8
     clear c8
     obtain rfl := Option.some.inj H
     go_wp2
     go_ret
     exact ⟨_, by first | rfl | (simp [errW_none, errW_some] <;> rfl) | (simp [*, errW_none, errW_some] <;> rfl), by (with_reducible repeat (first | apply Kd.N_alloc | apply Kd.N_drewN | apply Kd.N_drew)); exact HO_7.out, by repeat (first | (with_reducible first | exact HB.out | apply below_alloc | apply pw_below_drewN | apply below_drew1) | exact HB.out)⟩

/-! ### spec_weGoOn: function 182 (by hand) -/
mutual
def spec_weGoOn.l0 : Nat → List (List Int) → List Int → List (List Int) → List (List (List Int)) → Int → Option (List (List (List Int)))
  | 0, _, _, _, _, _ => none
  | k + 1, l0, l1, rs, out, i => if i < (rs.length : Int) then (if 0 ≤ i then ((spec_l1Own.f l1).bind fun nx => (if rowOk nx (rs.getD i.toNat []) = true then (if l0.length < 1000000 then
      ((spec_weGoOn.f k (l0 ++ [rs.getD i.toNat []]) (List.zipWith (· + ·) nx (rs.getD i.toNat []))).bind fun a => (if out.length + a.length < 5864062014805 then spec_weGoOn.l0 k l0 l1 rs (out ++ a) (i + 1) else none)) else none) else none)) else none) else some out
def spec_weGoOn.f : Nat → List (List Int) → List Int → Option (List (List (List Int)))
  | 0, _, _ => none
  | k + 1, l0, l1 => if (l0.length : Int) = (l1.length : Int) then ((spec_l1All.f k l1 1 1).bind fun t => if t = true then some [l0] else some []) else ((spec_weRows.f k l1 [] 0).bind fun rs => spec_weGoOn.l0 k l0 l1 rs [] 0)
end
set_option maxHeartbeats 4000000 in
set_option maxRecDepth 100000 in
theorem spec_weGoOn.calls (k : Nat) : ∀ (A0 : Option Addr) (c0 : Nat) (l0 : List (List Int)) (P0_ : Nat → Prop) (A1 : Option Addr) (c1 : Nat) (l1 : List Int) (r : List (List (List Int))) (w : World)
    (hs0 : Kd.V (Kd.slice 3 (Kd.int .i64)) 35 w w.heap.size (fun k_ => P0_ k_) (.slice A0 l0.length c0) l0) (hr1 : Kd.C (Kd.int .i64) w A1 l1.length l1) (hc1 : l1.length ≤ c1) (h : spec_weGoOn.f k l0 l1 = some r),
    Calls Try.prog 182 #[.slice A0 l0.length c0, .slice A1 l1.length c1] w fun e w' => ∃ v0_ : Value, e = .returned v0_ ∧ Kd.N (Kd.slice 35 (Kd.slice 3 (Kd.int .i64))) 24 w' w.heap.size (fun k_ => (P0_ k_ ∨ w.heap.size ≤ k_)) v0_ r ∧ Below w.heap.size w w' := by
  induction k using Nat.strongRecOn with
  | _ k ih =>
  intro A0 c0 l0 P0_ A1 c1 l1 r w hs0 hr1 hc1 h
  cases k with
  | zero => exact absurd h (by simp [spec_weGoOn.f])
  | succ k =>
  simp only [spec_weGoOn.f] at h
  have hz0 : l0.length ≤ 9223372036854775807 := (Kd.V_reads' hs0).2.2.2.1
  have hz1 : l1.length ≤ 9223372036854775807 := hr1.2.1
  have HV := am_ (Kd.V_bound hs0)
  have HR := am_ hr1
  have HC := am_ hc1
  clear hs0 hr1 hc1
  by_cases c1 : (l0.length : Int) = (l1.length : Int)
  · rw [if_pos c1] at h
    have c1b : ((l0.length : Int) == (l1.length : Int)) = true := beq_iff_eq.mpr c1
    have c1c : (l0.length == l1.length) = true := by have := c1; simp only [beq_iff_eq]; omega
    clear c1
    obtain ⟨t, ht, h⟩ := Option.bind_eq_some_iff.mp h
    have HT := am_ ht
    clear ht
    cases t with
    | true =>
      rw [if_pos rfl] at h
      obtain rfl := Option.some.inj h
      clear h
      go_enter Try.func182, Try.ntmps182
      go_wp2_with (first | (go_at_call 163; (refine (spec_l1All.calls k _ _ l1 1 1 true _ HR.out HC.out HT.out).mono ?_); rintro e w' ⟨rfl, ⟨nd, rfl⟩⟩) | ((with_reducible refine gate_dst (N := 20) rfl ?_); refine Kd.N_lit (Kd.slice 35 (Kd.slice 3 (Kd.int .i64))) _ 24 ?hg (N' := 20) ?hd (xs := ([l0] : List (List (List Int)))) (inner := [.slice A0 l0.length c0]) (ok := (fun k_ => (P0_ k_ ∨ w.heap.size ≤ k_))) (okp := (fun k_ => P0_ k_ ∧ k_ < w.heap.size)) ?hr ?hp (fun _ hk => .inl hk.1) (.inr (Nat.le_refl _)) (Below.refl _ _) (Nat.le_refl _) (by simp) ?_; (case hd => rfl); (case hg => rfl); (case hr => exact tc19_); (case hp => exact (Reps.one (show Kd.FK (Kd.slice 35 (Kd.slice 3 (Kd.int .i64))) _ _ l0 [.slice A0 l0.length c0] from (Kd.FK_slice_mk (Kd.V_reads' HV.out).2.1 (Kd.V_F (Kd.V_drewN HV.out nd)))) (Reps.none _ _))); intro v102 w6 ho7 hb hg_ hnew_; have HO := am_ ho7; have HB := am_ hb; clear hg_ hnew_ ho7 hb))
      go_ret
      exact ⟨_, rfl, Kd.N_lower HO.out (Nat.le_refl _), below_step (pw_below_drewN (Below.refl _ _) _) HB.out⟩
    | false =>
      rw [if_neg (by simp)] at h
      obtain rfl := Option.some.inj h
      clear h
      go_enter Try.func182, Try.ntmps182
      go_wp2_with (go_at_call 163; (refine (spec_l1All.calls k _ _ l1 1 1 false _ HR.out HC.out HT.out).mono ?_); rintro e w' ⟨rfl, ⟨nd, rfl⟩⟩)
      go_ret
      exact ⟨_, rfl, Kd.N_nil _ _ _ _ _, pw_below_drewN (Below.refl _ _) _⟩
  · rw [if_neg c1] at h
    have c1b : ((l0.length : Int) == (l1.length : Int)) = false := beq_eq_false_iff_ne.mpr c1
    have c1c : (l0.length == l1.length) = false := by have := c1; simp only [beq_eq_false_iff_ne]; omega
    clear c1
    obtain ⟨rs, hrs, h⟩ := Option.bind_eq_some_iff.mp h
    have HRS := am_ hrs
    have HL := am_ h
    clear hrs h
    go_enter Try.func182, Try.ntmps182
    go_wp2_with (go_at_call 202; (refine (spec_weRows.calls k _ _ l1 (fun _ => False) none 0 [] 0 rs _ HR.out HC.out (Kd.V_nil _ _ _ _ _) HRS.out).mono ?_); rintro e w1 ⟨v22, rfl, ho, hb⟩; have HO := am_ (Kd.N_V (base' := 0) (Kd.N_mono (ok' := fun k_ => w.heap.size ≤ k_) ho (fun k hk => hk.elim (fun h => h.elim) (fun h => h)))); have HB := am_ hb; clear ho hb; obtain ⟨A22, c22, e22⟩ := Kd.V_slice HO.out; subst e22)
    clear HRS
    go_loopg [5, 24] k (fun kq v5 v24 w' => ∃ (out : List (List (List Int))) (i : Int), v24 = .int .i64 i ∧ Aside0 (spec_weGoOn.l0 kq l0 l1 rs out i = some r) ∧ Aside0 (kq ≤ k) ∧ Aside0 (Kd.V (Kd.slice 3 (Kd.int .i64)) 35 w' 0 (fun k_ => w.heap.size ≤ k_ ∧ some k_ ≠ (v5 : Value).ownBlock) (.slice A22 rs.length c22) rs) ∧ Aside0 (Kd.N (Kd.slice 35 (Kd.slice 3 (Kd.int .i64))) 24 w' w.heap.size (fun k_ => (P0_ k_ ∨ w.heap.size ≤ k_)) v5 out) ∧ Aside0 (Below w.heap.size w w'))
    case atStart => exact ⟨[], 0, rfl, HL, ⟨Nat.le_refl _⟩, ⟨Kd.V_apart_nil HO.out⟩, ⟨Kd.N_nil _ _ _ _ _⟩, HB⟩
    case round =>
      clear HL HO HB
      obtain ⟨wo, rfl⟩ : ∃ w_ : World, w_ = wr := ⟨_, rfl⟩
      obtain ⟨out, i, rfl, HL, HK, HO, HN, HB⟩ := hrel
      cases gk with
      | zero => exact absurd HL.out (by simp [spec_weGoOn.l0])
      | succ k1 =>
        have H := HL.out
        clear HL
        simp only [spec_weGoOn.l0] at H
        have hz4 : rs.length ≤ 9223372036854775807 := (Kd.V_reads' HO.out).2.2.2.1
        by_cases c3 : i < (rs.length : Int)
        · rw [if_pos c3] at H
          by_cases c4 : 0 ≤ i
          · rw [if_pos c4] at H
            obtain ⟨nx, hnx, H⟩ := Option.bind_eq_some_iff.mp H
            obtain ⟨ad, Aw, cw, eA, hxw, hVw⟩ := V_row (b' := 0) HO.out i c4 c3
            obtain ⟨row, hrow⟩ : ∃ row : List Int, rs.getD i.toNat [] = row := ⟨_, rfl⟩
            rw [hrow] at H hxw hVw
            clear hrow
            subst eA
            have HVw := am_ (Kd.V_bound hVw)
            have hz3 : row.length ≤ 9223372036854775807 := (Kd.V_reads' hVw).2.2.2.1
            have HNX := am_ hnx
            clear hVw hnx
            have hd3 : decide (i < (rs.length : Int)) = true := decide_eq_true c3
            have hd4 : decide (0 ≤ i) = true := decide_eq_true c4
            by_cases c5 : rowOk nx row = true
            · rw [if_pos c5] at H
              by_cases c6 : l0.length < 1000000
              · rw [if_pos c6] at H
                obtain ⟨a, ha, H⟩ := Option.bind_eq_some_iff.mp H
                by_cases c7 : out.length + a.length < 5864062014805
                · rw [if_pos c7] at H
                  have HL4 := am_ H
                  obtain ⟨nx2, he2⟩ : ∃ x : List Int, List.zipWith (· + ·) nx row = x := ⟨_, rfl⟩
                  rw [he2] at ha
                  obtain ⟨l2, hl2⟩ : ∃ x : List (List Int), l0 ++ [row] = x := ⟨_, rfl⟩
                  rw [hl2] at ha
                  have HL2 := am_ hl2
                  clear hl2
                  have HZ := am_ (rowOk_len c5)
                  rw [he2] at HZ
                  have HE2 := am_ he2
                  have HA := am_ ha
                  have H5 := am_ c5
                  have H6 := am_ c6
                  have H7 := am_ c7
                  clear he2 ha c5 c6 c7 H
                  go_wp2_with (go_at_call 177; (refine (spec_l1Own.calls _ _ l1 nx _ (Kd.C_below HR.out HB.out) HC.out HNX.out).mono ?_); rintro e w2 ⟨v8, rfl, ho, hb⟩; have HX := am_ ho; have HB2 := am_ hb; clear ho hb)
                  go_loopg [32] row.length (fun gj v32 w' => ∃ j : Nat, v32 = .int .i64 (j : Int) ∧ Aside0 (j + gj = row.length) ∧ Aside0 (Kd.R (Kd.int .i64) 3 w' wo.heap.size (fun _ => True) v8 (rowMid nx2 nx j)) ∧ Aside0 (Below wo.heap.size wo w'))
                  case atStart => exact ⟨0, rfl, ⟨by omega⟩, ⟨by rw [rowMid_zero]; exact HX.out⟩, HB2⟩
                  case round =>
                    clear HX HB2
                    obtain ⟨w3, rfl⟩ : ∃ w_ : World, w_ = wr := ⟨_, rfl⟩
                    obtain ⟨j, rfl, HJ, HX, HB3⟩ := hrel
                    have HLb := am_ (rowMid_len (a := nx2) (b := nx) (HZ.out.2.trans HZ.out.1.symm) j)
                    by_cases hj : j < row.length
                    · obtain ⟨g1, rfl⟩ : ∃ g1, gk = g1 + 1 := ⟨gk - 1, by have := HJ.out; omega⟩
                      obtain ⟨adw, eAw, hcw⟩ := Kd.at_int (Kd.V_reads' (Kd.V_below HVw.out HB3.out)).2.2 (j : Int) (by omega) (by omega)
                      subst eAw
                      obtain ⟨o1, o2, o3, o4, o5⟩ := rowOk_at H5.out j hj
                      obtain ⟨g, cap, e8, hg1, hg2, _⟩ := Kd.R_form HX.out (by have := HLb.out; have := HZ.out; omega)
                      rw [HLb.out, HZ.out.1] at e8
                      subst e8
                      have HG := am_ hg1
                      clear hg1 hg2
                      obtain ⟨q1, hfs⟩ := Kd.R_celln (enc := Value.int .i64) (d := (0 : Int)) HX.out (j : Int) (by omega) (by omega)
                      have hcs : w3.cell? ⟨g, j, none⟩ = some (.int .i64 (nx.getD j 0)) := by
                        have e_ := rowMid_at (a := nx2) (b := nx) (HZ.out.2.trans HZ.out.1.symm) j (by have := HZ.out; omega)
                        rw [← e_]
                        simpa [rdOf] using q1
                      clear q1
                      rw [show rd row (j : Int) = row.getD j 0 from rfl] at hcw
                      rw [Int.toNat_natCast] at hcw hfs
                      have HST := am_ (Kd.R_putn (enc := Value.int .i64) (h1 := fun _ => rfl) HX.out (j : Int) (nx2.getD j 0))
                      have HMS := am_ (rowMid_set (a := nx2) (b := nx) (HZ.out.2.trans HZ.out.1.symm) j (by have := HZ.out; omega))
                      have HVE := am_ (show nx2.getD j 0 = nx.getD j 0 + row.getD j 0 by rw [← HE2.out] at *; omega)
                      have hd1 : decide ((j : Int) < (row.length : Int)) = true := decide_eq_true (by omega)
                      have hd2 : decide (j < row.length) = true := decide_eq_true hj
                      clear o5
                      generalize nx.getD j 0 = x at *
                      generalize row.getD j 0 = y at *
                      go_wp2
                      go_roundg g1
                      case measure => omega
                      case rel =>
                        refine ⟨j + 1, by go_num, ⟨by have := HJ.out; omega⟩, ⟨?_⟩, ⟨below_set HB3.out HG.out⟩⟩
                        have := HST.out
                        rw [Int.toNat_natCast, HMS.out] at this
                        rwa [HVE.out] at this
                    · have ej : j = row.length := by have := HJ.out; omega
                      subst ej
                      have hd1 : decide ((row.length : Int) < (row.length : Int)) = false := decide_eq_false (by omega)
                      have hd2 : decide (row.length < row.length) = false := decide_eq_false (by omega)
                      have HX2 := am_ HX.out
                      rw [rowMid_all (HZ.out.2.trans HZ.out.1.symm) HZ.out.1.symm] at HX2
                      clear HX HJ HLb hj
                      have HBW := am_ (below_step HB.out HB3.out)
                      have HSZ := am_ (And.intro (below_size HB.out) (below_size HB3.out))
                      obtain ⟨A8, c8, e8⟩ := Kd.R_slice HX2.out
                      subst e8
                      go_wp2_with (first
                        | ((with_reducible refine gate_builtin (b := .append) (xs := #[.tmp 46, .tmp 47]) rfl ?_); at_builtin; refine Kd.N_append_rows (Kd.slice 3 (Kd.int .i64)) (w0 := w3) w3.heap.size rfl (.tmp 46) (.tmp 47) 24 35 (.slice none 0 0) 24 rfl Try.underlying24 info35 rfl (by decide) (by omega) (.slice (some ⟨w3.heap.size, 0, none⟩) 0 0) [] l0 A0 l0.length c0 (fun k_ => (P0_ k_ ∨ w.heap.size ≤ k_) ∧ some k_ ≠ (u5 : Value).ownBlock) (fun k_ => P0_ k_ ∧ k_ < w.heap.size) rfl rfl (Kd.R_N (R_empty (blk_new _ _) (Nat.le_refl _) ⟨.inr (by have := HSZ.out; omega), fun e => by have := Kd.N_lt HN.out _ e.symm; have := HSZ.out; omega⟩)) (Kd.V_F (Kd.V_alloc (Kd.V_below HV.out HBW.out) _)) (fun k_ hk => ⟨⟨.inl hk.1, fun e => by have := Kd.N_base HN.out _ e.symm; omega⟩, fun e => by (have e2 : k_ = w3.heap.size := by simpa [Value.ownBlock] using e); have := HSZ.out; omega⟩) (fun k_ hk => ⟨.inr (by have := HSZ.out; simp at hk; omega), fun e => by have := Kd.N_lt HN.out _ e.symm; have := HSZ.out; simp at hk; omega⟩) (below_alloc (Below.refl _ _) _) (by simp) (by have := H6.out; simp; omega) ?_; intro v48 w4 ho4 hb4 hg4 hat4; have HN48 := am_ ho4; have HB4 := am_ hb4; clear ho4 hb4 hg4 hat4)
                        | ((with_reducible refine gate_builtin (b := .append) (xs := #[.tmp 48, .tmp 50]) rfl ?_); at_builtin; refine Kd.N_append (Kd.slice 3 (Kd.int .i64)) (w0 := w3) w3.heap.size rfl (.tmp 48) (.tmp 50) 24 35 (.slice none 0 0) 24 rfl Try.underlying24 info35 rfl (by decide) (by omega) v48 ([] ++ l0) row [.slice Aw row.length cw] (fun k_ => (P0_ k_ ∨ w.heap.size ≤ k_) ∧ some k_ ≠ (u5 : Value).ownBlock) (fun k_ => (w.heap.size ≤ k_ ∧ some k_ ≠ (u5 : Value).ownBlock) ∧ k_ < wo.heap.size) rfl rfl (Kd.FK_slice_mk (Kd.V_reads' HVw.out).2.1 (Kd.V_F (Kd.V_below HVw.out (below_step HB3.out HB4.out)))) (fun k_ hk => ⟨⟨.inr hk.1.1, hk.1.2⟩, fun e => by have := Kd.N_base HN48.out _ e.symm; have := HSZ.out; omega⟩) (fun k_ hk => ⟨.inr (by have := HSZ.out; have := below_size HB4.out; omega), fun e => by have := Kd.N_lt HN.out _ e.symm; have := HSZ.out; have := below_size HB4.out; omega⟩) HN48.out HB4.out (below_size HB4.out) (by have := H6.out; simp; omega) ?_; intro v51 w5 ho5 hb5 hg5 hat5; rw [List.nil_append, HL2.out] at ho5; have HN51 := am_ ho5; have HB5 := am_ hb5; clear ho5 hb5 hg5 hat5; obtain ⟨A51, c51, e51⟩ := Kd.N_slice HN51.out; subst e51)
                        | (go_at_call 182; (with_reducible refine (ih k1 (by have := HK.out; omega) A51 c51 l2 (fun k_ => (P0_ k_ ∨ w.heap.size ≤ k_) ∧ some k_ ≠ (u5 : Value).ownBlock) A8 c8 nx2 a w5 (Kd.N_V HN51.out) (Kd.R_reads' (Kd.R_below HX2.out HB5.out)).2.2 (Kd.R_reads' HX2.out).2.1 HA.out).mono ?_); rintro e w6 ⟨v53, rfl, ho6, hb6⟩; have HN53 := am_ ho6; have HB6 := am_ hb6; clear ho6 hb6; obtain ⟨A53, c53, e53⟩ := Kd.N_slice HN53.out; subst e53)
                        | ((with_reducible refine gate_builtin (b := .append) (xs := #[.tmp 45, .tmp 53]) rfl ?_); at_builtin; refine Kd.N_append_rows (Kd.slice 35 (Kd.slice 3 (Kd.int .i64))) (w0 := w) w.heap.size rfl (.tmp 45) (.tmp 53) 50 24 (.slice none 0 0) 24 rfl Try.underlying50 info24 rfl (by decide) (by omega) u5 out a A53 a.length c53 (fun k_ => P0_ k_ ∨ w.heap.size ≤ k_) (fun k_ => ((P0_ k_ ∨ w.heap.size ≤ k_) ∧ some k_ ≠ (u5 : Value).ownBlock) ∨ w5.heap.size ≤ k_) rfl rfl (Kd.N_below HN.out (below_step HB3.out (below_step HB5.out HB6.out))) (Kd.N_F HN53.out) (fun k_ hk => hk.elim (fun h => h) (fun h => ⟨.inr (by have := HSZ.out; have := below_size HB5.out; omega), fun e => by have := Kd.N_lt HN.out _ e.symm; have := HSZ.out; have := below_size HB5.out; omega⟩)) (fun k_ hk => .inr (by have := HSZ.out; have := below_size HB5.out; have := below_size HB6.out; omega)) (below_step HBW.out (below_step HB5.out HB6.out)) (by have := HSZ.out; have := below_size HB5.out; have := below_size HB6.out; omega) (by have := H7.out; omega) ?_; intro v54 w7 ho7 hb7 hg7 hat7; have HN7 := am_ ho7; have HB7 := am_ hb7; have HO7 := am_ (Kd.V_afterv (ok := fun k_ => w.heap.size ≤ k_) (Kd.V_below HO.out (below_step HB3.out (below_step HB5.out HB6.out))) hg7 hat7); clear ho7 hb7 hg7 hat7))
                      go_roundg k1
                      case measure => have := HK.out; omega
                      case rel => exact ⟨out ++ a, i + 1, by go_num, HL4, ⟨by have := HK.out; omega⟩, HO7, HN7, HB7⟩
                · rw [if_neg c7] at H
                  exact absurd H (by simp)
              · rw [if_neg c6] at H
                exact absurd H (by simp)
            · rw [if_neg c5] at H
              exact absurd H (by simp)
          · rw [if_neg c4] at H
            exact absurd H (by simp)
        · rw [if_neg c3] at H
          have hd3 : decide (i < (rs.length : Int)) = false := decide_eq_false c3
          obtain rfl := Option.some.inj H
          clear H
          go_wp2
          go_ret
          exact ⟨_, rfl, HN.out, HB.out⟩

/-! ### spec_weAll: function 129 (by hand) -/
def spec_weAll.f (k : Nat) (a0 : Int) : Option (List (List (List Int))) := if 0 ≤ a0 then (if a0 ≤ 1000 then spec_weGoOn.f k [] (List.replicate a0.toNat 0) else none) else none
set_option maxHeartbeats 4000000 in
set_option maxRecDepth 100000 in
theorem spec_weAll.calls (k : Nat) (a0 : Int) (r : List (List (List Int))) (w : World) (h : spec_weAll.f k a0 = some r) :
    Calls Try.prog 129 #[.int .i64 a0] w fun e w' => ∃ v0_ : Value, e = .returned v0_ ∧ Kd.N (Kd.slice 35 (Kd.slice 3 (Kd.int .i64))) 24 w' w.heap.size (fun k_ => (w.heap.size ≤ k_)) v0_ r ∧ Below w.heap.size w w' := by
  unfold spec_weAll.f at h
  by_cases c1 : 0 ≤ a0
  · rw [if_pos c1] at h
    by_cases c2 : a0 ≤ 1000
    · rw [if_pos c2] at h
      obtain ⟨z, hz⟩ : ∃ x : List Int, List.replicate a0.toNat 0 = x := ⟨_, rfl⟩
      rw [hz] at h
      have HO := am_ h
      have EZ := am_ hz
      clear h hz
      go_enter Try.func129, Try.ntmps129
      go_wp2_with (first
        | ((with_reducible refine gate_dst (N := 4) rfl ?_); refine Kd.R_make (Kd.int .i64) (w0 := w) w.heap.size 3 rfl (N := 4) rfl 35 (.tmp 3) (.tmp 3) rfl a0 rfl rfl Try.underlying35 (.int .i64 0) 8 info3 rfl (by decide) (by decide) 0 (ok := fun _ => True) (okp := fun _ => True) rfl (fun _ h => h) trivial c1 (by omega) (Below.refl _ _) (Nat.le_refl _) ?_; intro v4 w1 ho hb hg hat; rw [EZ.out] at ho; have HR := am_ ho; have HB := am_ hb; clear ho hb hg hat; obtain ⟨A4, c4, e4⟩ := Kd.R_slice HR.out; subst e4)
        | (go_at_call 182; (refine (spec_weGoOn.calls k none 0 [] (fun _ => False) A4 c4 z r w1 (Kd.V_nil _ _ _ _ _) (Kd.R_reads' HR.out).2.2 (Kd.R_reads' HR.out).2.1 HO.out).mono ?_); rintro e w2 ⟨v5, rfl, ho, hb⟩; have HN := am_ ho; have HB2 := am_ hb; clear ho hb))
      go_ret
      exact ⟨_, rfl, Kd.N_lower (Kd.N_mono HN.out (fun k hk => hk.elim (fun h => h.elim) (fun h => Nat.le_trans (below_size HB.out) h))) (below_size HB.out), below_step HB.out HB2.out⟩
    · rw [if_neg c2] at h
      exact absurd h (by simp)
  · rw [if_neg c1] at h
    exact absurd h (by simp)

/-! ### spec_sgTurn: function 141 -/
mutual
def spec_sgTurn.l0 : Nat → List (List Int) → List (List Int) → Int → Int → Option ((List (List Int)))
 | 0, _, _, _, _ => none
 | k + 1, x0, x3, x9, x10 => if x10 < x9 then (spec_sgTurn.l1 k x0 x3 x10 ([] : List Int) x9 x10 x0 (x0.length : Int) 0) else (some x3)
def spec_sgTurn.l1 : Nat → List (List Int) → List (List Int) → Int → List Int → Int → Int → List (List Int) → Int → Int → Option ((List (List Int)))
 | 0, _, _, _, _, _, _, _, _, _ => none
 | k + 1, x0, x3, x4, x5, x9, x10, x13, x14, x15 => if x15 < x14 then (if 0 ≤ x15 then (if x15 < (x13.length : Int) then (if 0 ≤ x4 then (if x4 < ((rd_L3 x13 x15).length : Int) then (if x5.length < 17592186044416 then (spec_sgTurn.l1 k x0 x3 x4 (x5 ++ [rd (rd_L3 x13 x15) x4]) x9 x10 x13 x14 (wrap64 (x15 + 1))) else (none)) else (none)) else (none)) else (none)) else (none)) else (if x3.length < 5864062014805 then (spec_sgTurn.l0 k x0 (x3 ++ [x5]) x9 (wrap64 (x10 + 1))) else (none))
end
def spec_sgTurn.f (k : Nat) (l0 : List (List Int)) : Option ((List (List Int))) := spec_sgTurn.l0 k l0 ([] : List (List Int)) (l0.length : Int) 0
set_option maxHeartbeats 8000000 in
set_option maxRecDepth 100000 in
theorem spec_sgTurn.calls (k : Nat) (A0 : Option Addr) (c0 : Nat) (l0 : List (List Int)) (r : List (List Int)) (w : World) (hr0 : Kd.C (Kd.slice 3 (Kd.int .i64)) w A0 l0.length l0) (hc0 : l0.length ≤ c0) (h : spec_sgTurn.f k l0 = some r) :
  Calls Try.prog 141 #[.slice A0 l0.length c0] w fun e w' => ∃ v0_ : Value, e = .returned (v0_) ∧ Kd.S (Kd.slice 3 (Kd.int .i64)) 35 w' w.heap.size (fun _ => True) v0_ r ∧ Below w.heap.size w w' := by
 have HR0 := am_ hr0
 have HC0 := am_ hc0
 clear hr0 hc0
 have HB := am_ (Below.refl w.heap.size w)
 have H : (spec_sgTurn.l0 k l0 ([] : List (List Int)) (l0.length : Int) 0) = some r := h
 clear h
 have H' := am_ H
 clear H
 go_enter Try.func141, Try.ntmps141
 go_wp2
 go_loopg [3, 10] k (fun kq v3 v10 w' => ∃ (x3_1 : List (List Int)) (x10_1 : Int), v10 = .int .i64 x10_1 ∧ Aside0 (spec_sgTurn.l0 kq l0 x3_1 (l0.length : Int) x10_1 = some r) ∧ Aside0 (kq ≤ k) ∧ Aside0 (Kd.S (Kd.slice 3 (Kd.int .i64)) 35 w' w.heap.size (fun _ => True) v3 x3_1) ∧ Aside0 (Below w.heap.size w w'))
 case atStart => exact ⟨(([] : List (List Int))), (0), tc7_, H', ⟨Nat.le_refl _⟩, ⟨by first | exact Kd.S_nil _ _ _ _ _ | exact Kd.N_nil _ _ _ _ _ | exact Kd.V_nil _ _ _ _ _ | exact Kd.Q_nil _ _ _ _ _ | exact Kd.R_nil _ _ _ _ _⟩, ⟨by repeat (first | (with_reducible first | exact HB.out | apply below_alloc | apply pw_below_drewN | apply below_drew1) | exact HB.out)⟩⟩
 case round =>
  clear H'
  try clear c1
  obtain ⟨x3_1, x10_1, rfl, HA, HK1, HO_3, HB⟩ := hrel
  cases gk with
  | zero => exact absurd HA.out (by simp [spec_sgTurn.l0])
  | succ k1 =>
   have H := HA.out
   clear HA
   simp only [spec_sgTurn.l0] at H
   by_cases c2 : x10_1 < (l0.length : Int)
   ·rw [if_pos c2] at H
    have c2b0 : decide (x10_1 < (l0.length : Int)) = true := decide_eq_true c2
    clear c2
    have H' := am_ H
    clear H
    go_wp2
    go_loopg [5, 15] k1 (fun kq v5 v15 w' => ∃ (x5_2 : List Int) (x15_2 : Int), v15 = .int .i64 x15_2 ∧ Aside0 (spec_sgTurn.l1 kq l0 x3_1 x10_1 x5_2 (l0.length : Int) x10_1 l0 (l0.length : Int) x15_2 = some r) ∧ Aside0 (kq ≤ k1) ∧ Aside0 (Kd.S (Kd.slice 3 (Kd.int .i64)) 35 w' w.heap.size (fun k_ => some k_ ≠ (v5 : Value).ownBlock) u3 x3_1) ∧ Aside0 (Kd.R (Kd.int .i64) 3 w' w.heap.size (fun _ => True) v5 x5_2) ∧ Aside0 (Below w.heap.size w w'))
    case atStart => exact ⟨(([] : List Int)), (0), tc7_, H', ⟨Nat.le_refl _⟩, ⟨by (with_reducible repeat (first | apply Kd.S_alloc | apply Kd.S_drewN | apply Kd.S_drew)); exact Kd.S_mono HO_3.out (fun _ hk => (by simp [Value.ownBlock]))⟩, ⟨by first | exact Kd.R_nil _ _ _ _ _ | exact Kd.N_nil _ _ _ _ _ | exact Kd.V_nil _ _ _ _ _ | exact Kd.Q_nil _ _ _ _ _ | exact Kd.S_nil _ _ _ _ _⟩, ⟨by repeat (first | (with_reducible first | exact HB.out | apply below_alloc | apply pw_below_drewN | apply below_drew1) | exact HB.out)⟩⟩
    case round =>
     clear H'
     try clear c1
     try clear c2
     try clear c2b0
     try clear p2
     obtain ⟨x5_2, x15_2, rfl, HA, HK2, HO_3, HO_5, HB⟩ := hrel
     cases gk with
     | zero => exact absurd HA.out (by simp [spec_sgTurn.l1])
     | succ k2 =>
      have H := HA.out
      clear HA
      simp only [spec_sgTurn.l1] at H
      by_cases c3 : x15_2 < (l0.length : Int)
      ·rw [if_pos c3] at H
       have c3b0 : decide (x15_2 < (l0.length : Int)) = true := decide_eq_true c3
       clear c3
       by_cases c4 : 0 ≤ x15_2
       ·rw [if_pos c4] at H
        have c4b0 : decide (0 ≤ x15_2) = true := decide_eq_true c4
        clear c4
        by_cases c5 : x15_2 < (l0.length : Int)
        ·rw [if_pos c5] at H
         have c5b0 : decide (x15_2 < (l0.length : Int)) = true := decide_eq_true c5
         clear c5
         by_cases c6 : 0 ≤ x10_1
         ·rw [if_pos c6] at H
          have c6b0 : decide (0 ≤ x10_1) = true := decide_eq_true c6
          clear c6
          by_cases c7 : x10_1 < ((rd_L3 l0 x15_2).length : Int)
          ·rw [if_pos c7] at H
           have c7b0 : decide (x10_1 < ((rd_L3 l0 x15_2).length : Int)) = true := decide_eq_true c7
           clear c7
           by_cases c8 : x5_2.length < 17592186044416
           ·rw [if_pos c8] at H
            have LMc8 := am_ c8
            clear c8
            obtain ⟨y103, hy103⟩ : ∃ y_ : List Int, y_ = (x5_2 ++ [rd (rd_L3 l0 x15_2) x10_1]) := ⟨_, rfl⟩
            replace H : (spec_sgTurn.l1 k2 l0 x3_1 x10_1 y103 (l0.length : Int) x10_1 l0 (l0.length : Int) (wrap64 (x15_2 + 1))) = some r := by first | (rw [hy103]; with_reducible exact H) | (have H2_ := (Option.bind_some _ _).symm.trans H; rw [hy103]; with_reducible exact H2_) | (have H2_ := (Option.bind_some _ _).symm.trans H; with_reducible exact H2_) | with_reducible exact H | (rw [hy103]; exact H) | exact H
            have Ny103 := am_ hy103
            clear hy103
            have H' := am_ H
            clear H
            have p101 : 0 ≤ (x15_2 : Int) := of_decide_eq_true tc3_
            have q101 : x15_2 < (l0.length : Int) := of_decide_eq_true tc3_
            obtain ⟨ad101, A101_0, c101_0, e101, hx101_0, hl101_0, hi101_0⟩ := at_L3 HR0.out x15_2 p101 q101
            cases e101
            replace hx101_0 := (HB.out.cell (World.block_lt_of_cell? w _ hx101_0)).trans hx101_0
            have HR101_0 := am_ hi101_0
            have HC101_0 := am_ hl101_0
            clear hi101_0 hl101_0
            replace p101 := eq_true p101
            replace q101 := eq_true q101
            have p102 : 0 ≤ (x10_1 : Int) := of_decide_eq_true tc3_
            have q102 : x10_1 < ((rd_L3 l0 x15_2).length : Int) := of_decide_eq_true tc3_
            obtain ⟨ad102, e102, hx102_0⟩ := Kd.at_int HR101_0.out x10_1 p102 q102
            cases e102
            replace hx102_0 := (HB.out.cell (World.block_lt_of_cell? w _ hx102_0)).trans hx102_0
            replace p102 := eq_true p102
            replace q102 := eq_true q102
            go_wp2_with (first | ((with_reducible refine gate_builtin (b := .append) (xs := #[.tmp 19, .tmp 24]) rfl ?_); at_builtin; refine Kd.R_append (Kd.int .i64) (w0 := w) w.heap.size rfl (.tmp 19) (.tmp 24) 35 3 (.int .i64 0) 8 rfl Try.underlying35 info3 rfl (by decide) (by omega) u5 x5_2 (rd (rd_L3 l0 x15_2) x10_1) [.int .i64 (rd (rd_L3 l0 x15_2) x10_1)] (fun _ => True) (fun _ => False) rfl rfl ?aP (fun _ hk => hk.elim) ?aF ?aO ?aB ?aS ?aL ?_; (case aP => exact rfl); (case aB => exact tc13_); (case aF => exact tc70_); (case aO => exact (by (with_reducible repeat (first | apply Kd.R_alloc | apply Kd.R_drewN | apply Kd.R_drew)); exact HO_5.out)); (case aS => exact tc16_); (case aL => have := LMc8.out; omega); intro v104 w9 ho hb hg hat; rw [← Ny103.out] at ho; have n0_ := am_ (Kd.S_after (ok := (fun _ => True)) (by (with_reducible repeat (first | apply Kd.S_alloc | apply Kd.S_drewN | apply Kd.S_drew)); exact Kd.S_mono HO_3.out (fun _ hk => ⟨trivial, hk⟩)) hg hat); have n1_ := am_ (hb); have n2_ := am_ (ho); clear HO_3 HB HO_5; have HO_3 := n0_; have HB := n1_; have HO105 := n2_; clear n0_ n1_ n2_; clear ho hb hg hat))
            go_roundg k2
            case measure => have := HK1.out; have := HK2.out; omega
            case rel => exact ⟨(y103), (wrap64 (x15_2 + 1)), tc7_, H', ⟨by have := HK1.out; have := HK2.out; omega⟩, ⟨by (with_reducible repeat (first | apply Kd.S_alloc | apply Kd.S_drewN | apply Kd.S_drew)); exact Kd.S_mono HO_3.out (fun _ hk => hk.2)⟩, ⟨by (with_reducible repeat (first | apply Kd.R_alloc | apply Kd.R_drewN | apply Kd.R_drew)); exact HO105.out⟩, ⟨by repeat (first | (with_reducible first | exact HB.out | apply below_alloc | apply pw_below_drewN | apply below_drew1) | exact HB.out)⟩⟩
           ·rw [if_neg c8] at H
            exact absurd H (by simp)
          ·rw [if_neg c7] at H
           exact absurd H (by simp)
         ·rw [if_neg c6] at H
          exact absurd H (by simp)
        ·rw [if_neg c5] at H
         exact absurd H (by simp)
       ·rw [if_neg c4] at H
        exact absurd H (by simp)
      ·rw [if_neg c3] at H
       have c3b0 : decide (x15_2 < (l0.length : Int)) = false := decide_eq_false c3
       clear c3
       by_cases c10 : x3_1.length < 5864062014805
       ·rw [if_pos c10] at H
        have LMc10 := am_ c10
        clear c10
        obtain ⟨y106, hy106⟩ : ∃ y_ : List (List Int), y_ = (x3_1 ++ [x5_2]) := ⟨_, rfl⟩
        replace H : (spec_sgTurn.l0 k2 l0 y106 (l0.length : Int) (wrap64 (x10_1 + 1))) = some r := by first | (rw [hy106]; with_reducible exact H) | (have H2_ := (Option.bind_some _ _).symm.trans H; rw [hy106]; with_reducible exact H2_) | (have H2_ := (Option.bind_some _ _).symm.trans H; with_reducible exact H2_) | with_reducible exact H | (rw [hy106]; exact H) | exact H
        have Ny106 := am_ hy106
        clear hy106
        have H' := am_ H
        clear H
        obtain ⟨Ao12, co12, eo12⟩ := Kd.R_slice HO_5.out
        subst eo12
        go_wp2_with (first | ((with_reducible refine gate_builtin (b := .append) (xs := #[.tmp 27, .tmp 29]) rfl ?_); at_builtin; refine Kd.S_append (Kd.slice 3 (Kd.int .i64)) (w0 := w) w.heap.size rfl (.tmp 27) (.tmp 29) 24 35 (.slice none 0 0) 24 rfl Try.underlying24 info35 rfl (by decide) (by omega) u3 x3_1 x5_2 [.slice Ao12 x5_2.length co12] (fun _ => True) (fun k_ => some k_ = (.slice Ao12 x5_2.length co12 : Value).ownBlock) rfl rfl ?aP (fun k_ hk_ => ((Kd.R_mono (ok' := fun k_ => ((fun _ => True)) k_ ∧ some k_ ≠ (u3 : Value).ownBlock) (Kd.R_apart' (HO_5.out) (Kd.S_typed HO_3.out) (by decide)) (fun k_ hk => ⟨trivial, hk.2⟩))).1 k_ hk_.symm) ?aF ?aO ?aB ?aS ?aL ?_; (case aP => exact Kd.M_row (Kd.R_mono (Kd.R_tight rfl (Kd.R_mono (ok' := fun k_ => ((fun _ => True)) k_ ∧ some k_ ≠ (u3 : Value).ownBlock) (Kd.R_apart' (HO_5.out) (Kd.S_typed HO_3.out) (by decide)) (fun k_ hk => ⟨trivial, hk.2⟩))) (fun _ h_ => h_))); (case aB => exact tc13_); (case aF => exact tc70_); (case aO => exact (by (with_reducible repeat (first | apply Kd.S_alloc | apply Kd.S_drewN | apply Kd.S_drew)); exact Kd.S_mono HO_3.out (fun k_ hk => ⟨trivial, fun e_ => hk e_⟩))); (case aS => exact tc16_); (case aL => have := LMc10.out; omega); intro v107 w11 ho hb hg hat; rw [← Ny106.out] at ho; have n0_ := am_ (hb); have n1_ := am_ (ho); clear HB HO_3 HO_5; have HB := n0_; have HO108 := n1_; clear n0_ n1_; clear ho hb hg hat))
        go_roundg k2
        case measure => have := HK1.out; have := HK2.out; omega
        case rel => exact ⟨(y106), (wrap64 (x10_1 + 1)), tc7_, H', ⟨by have := HK1.out; have := HK2.out; omega⟩, ⟨by (with_reducible repeat (first | apply Kd.S_alloc | apply Kd.S_drewN | apply Kd.S_drew)); exact HO108.out⟩, ⟨by repeat (first | (with_reducible first | exact HB.out | apply below_alloc | apply pw_below_drewN | apply below_drew1) | exact HB.out)⟩⟩
       ·rw [if_neg c10] at H
        exact absurd H (by simp)
   ·rw [if_neg c2] at H
    have c2b0 : decide (x10_1 < (l0.length : Int)) = false := decide_eq_false c2
    clear c2
    obtain rfl := Option.some.inj H
    go_wp2
    go_ret
    exact ⟨_, by first | rfl | (simp [errW_none, errW_some] <;> rfl) | (simp [*, errW_none, errW_some] <;> rfl), by (with_reducible repeat (first | apply Kd.S_alloc | apply Kd.S_drewN | apply Kd.S_drew)); exact HO_3.out, by repeat (first | (with_reducible first | exact HB.out | apply below_alloc | apply pw_below_drewN | apply below_drew1) | exact HB.out)⟩

/-! ### spec_sgMirror: function 204 -/
mutual
def spec_sgMirror.l0 : Nat → List (List Int) → List (List Int) → Int → Int → Option ((List (List Int)))
 | 0, _, _, _, _ => none
 | k + 1, x3, x8, x9, x10 => if x10 < x9 then (if 0 ≤ x10 then (if x10 < (x8.length : Int) then (spec_sgMirror.l1 k x3 (rd_L3 x8 x10) ([] : List Int) (wrap64 (((rd_L3 x8 x10).length : Int) - 1)) x8 x9 x10) else (none)) else (none)) else (some x3)
def spec_sgMirror.l1 : Nat → List (List Int) → List Int → List Int → Int → List (List Int) → Int → Int → Option ((List (List Int)))
 | 0, _, _, _, _, _, _, _ => none
 | k + 1, x3, x5, x6, x7, x8, x9, x10 => if x7 ≥ 0 then (if 0 ≤ x7 then (if x7 < (x5.length : Int) then (if x6.length < 17592186044416 then (spec_sgMirror.l1 k x3 x5 (x6 ++ [rd x5 x7]) (wrap64 (x7 - 1)) x8 x9 x10) else (none)) else (none)) else (none)) else (if x3.length < 5864062014805 then (spec_sgMirror.l0 k (x3 ++ [x6]) x8 x9 (wrap64 (x10 + 1))) else (none))
end
def spec_sgMirror.f (k : Nat) (l0 : List (List Int)) : Option ((List (List Int))) := spec_sgMirror.l0 k ([] : List (List Int)) l0 (l0.length : Int) 0
set_option maxHeartbeats 8000000 in
set_option maxRecDepth 100000 in
theorem spec_sgMirror.calls (k : Nat) (A0 : Option Addr) (c0 : Nat) (l0 : List (List Int)) (r : List (List Int)) (w : World) (hr0 : Kd.C (Kd.slice 3 (Kd.int .i64)) w A0 l0.length l0) (hc0 : l0.length ≤ c0) (h : spec_sgMirror.f k l0 = some r) :
  Calls Try.prog 204 #[.slice A0 l0.length c0] w fun e w' => ∃ v0_ : Value, e = .returned (v0_) ∧ Kd.S (Kd.slice 3 (Kd.int .i64)) 35 w' w.heap.size (fun _ => True) v0_ r ∧ Below w.heap.size w w' := by
 have HR0 := am_ hr0
 have HC0 := am_ hc0
 clear hr0 hc0
 have HB := am_ (Below.refl w.heap.size w)
 have H : (spec_sgMirror.l0 k ([] : List (List Int)) l0 (l0.length : Int) 0) = some r := h
 clear h
 have H' := am_ H
 clear H
 go_enter Try.func204, Try.ntmps204
 go_wp2
 go_loopg [3, 10] k (fun kq v3 v10 w' => ∃ (x3_1 : List (List Int)) (x10_1 : Int), v10 = .int .i64 x10_1 ∧ Aside0 (spec_sgMirror.l0 kq x3_1 l0 (l0.length : Int) x10_1 = some r) ∧ Aside0 (kq ≤ k) ∧ Aside0 (Kd.S (Kd.slice 3 (Kd.int .i64)) 35 w' w.heap.size (fun _ => True) v3 x3_1) ∧ Aside0 (Below w.heap.size w w'))
 case atStart => exact ⟨(([] : List (List Int))), (0), tc7_, H', ⟨Nat.le_refl _⟩, ⟨by first | exact Kd.S_nil _ _ _ _ _ | exact Kd.N_nil _ _ _ _ _ | exact Kd.V_nil _ _ _ _ _ | exact Kd.Q_nil _ _ _ _ _ | exact Kd.R_nil _ _ _ _ _⟩, ⟨by repeat (first | (with_reducible first | exact HB.out | apply below_alloc | apply pw_below_drewN | apply below_drew1) | exact HB.out)⟩⟩
 case round =>
  clear H'
  obtain ⟨x3_1, x10_1, rfl, HA, HK1, HO_3, HB⟩ := hrel
  cases gk with
  | zero => exact absurd HA.out (by simp [spec_sgMirror.l0])
  | succ k1 =>
   have H := HA.out
   clear HA
   simp only [spec_sgMirror.l0] at H
   by_cases c2 : x10_1 < (l0.length : Int)
   ·rw [if_pos c2] at H
    have c2b0 : decide (x10_1 < (l0.length : Int)) = true := decide_eq_true c2
    clear c2
    by_cases c3 : 0 ≤ x10_1
    ·rw [if_pos c3] at H
     have c3b0 : decide (0 ≤ x10_1) = true := decide_eq_true c3
     clear c3
     by_cases c4 : x10_1 < (l0.length : Int)
     ·rw [if_pos c4] at H
      have c4b0 : decide (x10_1 < (l0.length : Int)) = true := decide_eq_true c4
      clear c4
      have H' := am_ H
      clear H
      have p101 : 0 ≤ (x10_1 : Int) := of_decide_eq_true tc3_
      have q101 : x10_1 < (l0.length : Int) := of_decide_eq_true tc3_
      obtain ⟨ad101, A101_0, c101_0, e101, hx101_0, hl101_0, hi101_0⟩ := at_L3 HR0.out x10_1 p101 q101
      cases e101
      replace hx101_0 := (HB.out.cell (World.block_lt_of_cell? w _ hx101_0)).trans hx101_0
      have HR101_0 := am_ hi101_0
      have HC101_0 := am_ hl101_0
      clear hi101_0 hl101_0
      replace p101 := eq_true p101
      replace q101 := eq_true q101
      go_wp2
      go_loopg [6, 7] k1 (fun kq v6 v7 w' => ∃ (x6_2 : List Int) (x7_2 : Int), v7 = .int .i64 x7_2 ∧ Aside0 (spec_sgMirror.l1 kq x3_1 (rd_L3 l0 x10_1) x6_2 x7_2 l0 (l0.length : Int) x10_1 = some r) ∧ Aside0 (kq ≤ k1) ∧ Aside0 (Kd.S (Kd.slice 3 (Kd.int .i64)) 35 w' w.heap.size (fun k_ => some k_ ≠ (v6 : Value).ownBlock) u3 x3_1) ∧ Aside0 (Kd.R (Kd.int .i64) 3 w' w.heap.size (fun _ => True) v6 x6_2) ∧ Aside0 (Below w.heap.size w w'))
      case atStart => exact ⟨(([] : List Int)), (wrap64 (((rd_L3 l0 x10_1).length : Int) - 1)), tc7_, H', ⟨Nat.le_refl _⟩, ⟨by (with_reducible repeat (first | apply Kd.S_alloc | apply Kd.S_drewN | apply Kd.S_drew)); exact Kd.S_mono HO_3.out (fun _ hk => (by simp [Value.ownBlock]))⟩, ⟨by first | exact Kd.R_nil _ _ _ _ _ | exact Kd.N_nil _ _ _ _ _ | exact Kd.V_nil _ _ _ _ _ | exact Kd.Q_nil _ _ _ _ _ | exact Kd.S_nil _ _ _ _ _⟩, ⟨by repeat (first | (with_reducible first | exact HB.out | apply below_alloc | apply pw_below_drewN | apply below_drew1) | exact HB.out)⟩⟩
      case round =>
       clear H'
       try clear c1
       try clear p1
       try clear q1
       try clear hx1
       try clear c2
       try clear c2b0
       try clear p2
       try clear c3
       try clear c3b0
       try clear c4
       try clear c4b0
       try clear hx101_0
       try clear p101
       try clear q101
       obtain ⟨x6_2, x7_2, rfl, HA, HK2, HO_3, HO_6, HB⟩ := hrel
       cases gk with
       | zero => exact absurd HA.out (by simp [spec_sgMirror.l1])
       | succ k2 =>
        have H := HA.out
        clear HA
        simp only [spec_sgMirror.l1] at H
        by_cases c5 : x7_2 ≥ 0
        ·rw [if_pos c5] at H
         have c5b0 : decide (0 ≤ x7_2) = true := decide_eq_true c5
         clear c5
         by_cases c6 : 0 ≤ x7_2
         ·rw [if_pos c6] at H
          have c6b0 : decide (0 ≤ x7_2) = true := decide_eq_true c6
          clear c6
          by_cases c7 : x7_2 < ((rd_L3 l0 x10_1).length : Int)
          ·rw [if_pos c7] at H
           have c7b0 : decide (x7_2 < ((rd_L3 l0 x10_1).length : Int)) = true := decide_eq_true c7
           clear c7
           by_cases c8 : x6_2.length < 17592186044416
           ·rw [if_pos c8] at H
            have LMc8 := am_ c8
            clear c8
            obtain ⟨y103, hy103⟩ : ∃ y_ : List Int, y_ = (x6_2 ++ [rd (rd_L3 l0 x10_1) x7_2]) := ⟨_, rfl⟩
            replace H : (spec_sgMirror.l1 k2 x3_1 (rd_L3 l0 x10_1) y103 (wrap64 (x7_2 - 1)) l0 (l0.length : Int) x10_1) = some r := by first | (rw [hy103]; with_reducible exact H) | (have H2_ := (Option.bind_some _ _).symm.trans H; rw [hy103]; with_reducible exact H2_) | (have H2_ := (Option.bind_some _ _).symm.trans H; with_reducible exact H2_) | with_reducible exact H | (rw [hy103]; exact H) | exact H
            have Ny103 := am_ hy103
            clear hy103
            have H' := am_ H
            clear H
            have p102 : 0 ≤ (x7_2 : Int) := of_decide_eq_true tc3_
            have q102 : x7_2 < ((rd_L3 l0 x10_1).length : Int) := of_decide_eq_true tc3_
            obtain ⟨ad102, e102, hx102_0⟩ := Kd.at_int HR101_0.out x7_2 p102 q102
            cases e102
            replace hx102_0 := (HB.out.cell (World.block_lt_of_cell? w _ hx102_0)).trans hx102_0
            replace p102 := eq_true p102
            replace q102 := eq_true q102
            go_wp2_with (first | ((with_reducible refine gate_builtin (b := .append) (xs := #[.tmp 21, .tmp 26]) rfl ?_); at_builtin; refine Kd.R_append (Kd.int .i64) (w0 := w) w.heap.size rfl (.tmp 21) (.tmp 26) 35 3 (.int .i64 0) 8 rfl Try.underlying35 info3 rfl (by decide) (by omega) u6 x6_2 (rd (rd_L3 l0 x10_1) x7_2) [.int .i64 (rd (rd_L3 l0 x10_1) x7_2)] (fun _ => True) (fun _ => False) rfl rfl ?aP (fun _ hk => hk.elim) ?aF ?aO ?aB ?aS ?aL ?_; (case aP => exact rfl); (case aB => exact tc13_); (case aF => exact tc70_); (case aO => exact (by (with_reducible repeat (first | apply Kd.R_alloc | apply Kd.R_drewN | apply Kd.R_drew)); exact HO_6.out)); (case aS => exact tc16_); (case aL => have := LMc8.out; omega); intro v104 w9 ho hb hg hat; rw [← Ny103.out] at ho; have n0_ := am_ (Kd.S_after (ok := (fun _ => True)) (by (with_reducible repeat (first | apply Kd.S_alloc | apply Kd.S_drewN | apply Kd.S_drew)); exact Kd.S_mono HO_3.out (fun _ hk => ⟨trivial, hk⟩)) hg hat); have n1_ := am_ (hb); have n2_ := am_ (ho); clear HO_3 HB HO_6; have HO_3 := n0_; have HB := n1_; have HO105 := n2_; clear n0_ n1_ n2_; clear ho hb hg hat))
            go_roundg k2
            case measure => have := HK1.out; have := HK2.out; omega
            case rel => exact ⟨(y103), (wrap64 (x7_2 - 1)), tc7_, H', ⟨by have := HK1.out; have := HK2.out; omega⟩, ⟨by (with_reducible repeat (first | apply Kd.S_alloc | apply Kd.S_drewN | apply Kd.S_drew)); exact Kd.S_mono HO_3.out (fun _ hk => hk.2)⟩, ⟨by (with_reducible repeat (first | apply Kd.R_alloc | apply Kd.R_drewN | apply Kd.R_drew)); exact HO105.out⟩, ⟨by repeat (first | (with_reducible first | exact HB.out | apply below_alloc | apply pw_below_drewN | apply below_drew1) | exact HB.out)⟩⟩
           ·rw [if_neg c8] at H
            exact absurd H (by simp)
          ·rw [if_neg c7] at H
           exact absurd H (by simp)
         ·rw [if_neg c6] at H
          exact absurd H (by simp)
        ·rw [if_neg c5] at H
         have c5b0 : decide (0 ≤ x7_2) = false := decide_eq_false c5
         clear c5
         by_cases c10 : x3_1.length < 5864062014805
         ·rw [if_pos c10] at H
          have LMc10 := am_ c10
          clear c10
          obtain ⟨y106, hy106⟩ : ∃ y_ : List (List Int), y_ = (x3_1 ++ [x6_2]) := ⟨_, rfl⟩
          replace H : (spec_sgMirror.l0 k2 y106 l0 (l0.length : Int) (wrap64 (x10_1 + 1))) = some r := by first | (rw [hy106]; with_reducible exact H) | (have H2_ := (Option.bind_some _ _).symm.trans H; rw [hy106]; with_reducible exact H2_) | (have H2_ := (Option.bind_some _ _).symm.trans H; with_reducible exact H2_) | with_reducible exact H | (rw [hy106]; exact H) | exact H
          have Ny106 := am_ hy106
          clear hy106
          have H' := am_ H
          clear H
          obtain ⟨Ao12, co12, eo12⟩ := Kd.R_slice HO_6.out
          subst eo12
          go_wp2_with (first | ((with_reducible refine gate_builtin (b := .append) (xs := #[.tmp 28, .tmp 30]) rfl ?_); at_builtin; refine Kd.S_append (Kd.slice 3 (Kd.int .i64)) (w0 := w) w.heap.size rfl (.tmp 28) (.tmp 30) 24 35 (.slice none 0 0) 24 rfl Try.underlying24 info35 rfl (by decide) (by omega) u3 x3_1 x6_2 [.slice Ao12 x6_2.length co12] (fun _ => True) (fun k_ => some k_ = (.slice Ao12 x6_2.length co12 : Value).ownBlock) rfl rfl ?aP (fun k_ hk_ => ((Kd.R_mono (ok' := fun k_ => ((fun _ => True)) k_ ∧ some k_ ≠ (u3 : Value).ownBlock) (Kd.R_apart' (HO_6.out) (Kd.S_typed HO_3.out) (by decide)) (fun k_ hk => ⟨trivial, hk.2⟩))).1 k_ hk_.symm) ?aF ?aO ?aB ?aS ?aL ?_; (case aP => exact Kd.M_row (Kd.R_mono (Kd.R_tight rfl (Kd.R_mono (ok' := fun k_ => ((fun _ => True)) k_ ∧ some k_ ≠ (u3 : Value).ownBlock) (Kd.R_apart' (HO_6.out) (Kd.S_typed HO_3.out) (by decide)) (fun k_ hk => ⟨trivial, hk.2⟩))) (fun _ h_ => h_))); (case aB => exact tc13_); (case aF => exact tc70_); (case aO => exact (by (with_reducible repeat (first | apply Kd.S_alloc | apply Kd.S_drewN | apply Kd.S_drew)); exact Kd.S_mono HO_3.out (fun k_ hk => ⟨trivial, fun e_ => hk e_⟩))); (case aS => exact tc16_); (case aL => have := LMc10.out; omega); intro v107 w11 ho hb hg hat; rw [← Ny106.out] at ho; have n0_ := am_ (hb); have n1_ := am_ (ho); clear HB HO_3 HO_6; have HB := n0_; have HO108 := n1_; clear n0_ n1_; clear ho hb hg hat))
          go_roundg k2
          case measure => have := HK1.out; have := HK2.out; omega
          case rel => exact ⟨(y106), (wrap64 (x10_1 + 1)), tc7_, H', ⟨by have := HK1.out; have := HK2.out; omega⟩, ⟨by (with_reducible repeat (first | apply Kd.S_alloc | apply Kd.S_drewN | apply Kd.S_drew)); exact HO108.out⟩, ⟨by repeat (first | (with_reducible first | exact HB.out | apply below_alloc | apply pw_below_drewN | apply below_drew1) | exact HB.out)⟩⟩
         ·rw [if_neg c10] at H
          exact absurd H (by simp)
     ·rw [if_neg c4] at H
      exact absurd H (by simp)
    ·rw [if_neg c3] at H
     exact absurd H (by simp)
   ·rw [if_neg c2] at H
    have c2b0 : decide (x10_1 < (l0.length : Int)) = false := decide_eq_false c2
    clear c2
    obtain rfl := Option.some.inj H
    go_wp2
    go_ret
    exact ⟨_, by first | rfl | (simp [errW_none, errW_some] <;> rfl) | (simp [*, errW_none, errW_some] <;> rfl), by (with_reducible repeat (first | apply Kd.S_alloc | apply Kd.S_drewN | apply Kd.S_drew)); exact HO_3.out, by repeat (first | (with_reducible first | exact HB.out | apply below_alloc | apply pw_below_drewN | apply below_drew1) | exact HB.out)⟩

/-! ### spec_sgClockwise: function 203 -/
def spec_sgClockwise.f (k : Nat) (l0 : List (List Int)) : Option ((List (List Int))) := (spec_sgTurn.f k l0).bind fun t101 => ((spec_sgMirror.f k t101).bind fun t104 => (some t104))
set_option maxHeartbeats 8000000 in
set_option maxRecDepth 100000 in
theorem spec_sgClockwise.calls (k : Nat) (A0 : Option Addr) (c0 : Nat) (l0 : List (List Int)) (r : List (List Int)) (w : World) (hr0 : Kd.C (Kd.slice 3 (Kd.int .i64)) w A0 l0.length l0) (hc0 : l0.length ≤ c0) (h : spec_sgClockwise.f k l0 = some r) :
  Calls Try.prog 203 #[.slice A0 l0.length c0] w fun e w' => ∃ v0_ : Value, e = .returned (v0_) ∧ Kd.S (Kd.slice 3 (Kd.int .i64)) 35 w' w.heap.size (fun _ => True) v0_ r ∧ Below w.heap.size w w' := by
 have HR0 := am_ hr0
 have HC0 := am_ hc0
 clear hr0 hc0
 have HB := am_ (Below.refl w.heap.size w)
 have H : ((spec_sgTurn.f k l0).bind fun t101 => ((spec_sgMirror.f k t101).bind fun t104 => (some t104))) = some r := h
 clear h
 replace H := Option.bind_eq_some_iff.mp H
 obtain ⟨t101, A20, H⟩ := H
 replace H : ((spec_sgMirror.f k t101).bind fun t104 => (some t104)) = some r := H
 have A2 := am_ A20
 clear A20
 replace H := Option.bind_eq_some_iff.mp H
 obtain ⟨t104, A30, H⟩ := H
 replace H : (some t104) = some r := H
 have A3 := am_ A30
 clear A30
 obtain rfl := Option.some.inj H
 go_enter Try.func203, Try.ntmps203
 go_wp2_with (first | ((with_reducible refine gate_callee (f := 141) rfl ?_); refine goesL_ (some 4) rfl rfl Try.func141 (by kernel_rfl) rfl #[.slice A0 l0.length c0] rfl tc1_ ?_; (with_reducible refine (spec_sgTurn.calls k _ _ l0 t101 _ ?side1 ?side2 A2.out).mono ?_); (case side1 => exact tc23_); (case side2 => exact HC0.out); rintro e w4 ⟨v102, rfl, ho0, hb⟩; refine ⟨_, rfl, ?_⟩; have n0_ := am_ (Kd.S_lower ho0 (below_size tc0_)); have n1_ := am_ (below_step tc0_ hb); clear HB; have HO103 := n0_; have HB := n1_; clear n0_ n1_; (try clear hb ho0); obtain ⟨Ao5, co5, eo5⟩ := Kd.S_slice HO103.out; subst eo5) | ((with_reducible refine gate_callee (f := 204) rfl ?_); refine goesL_ (some 5) rfl rfl Try.func204 (by kernel_rfl) rfl #[.slice Ao5 t101.length co5] rfl tc1_ ?_; (with_reducible refine (spec_sgMirror.calls k _ _ t101 t104 _ ?side1 ?side2 A3.out).mono ?_); (case side1 => repeat (first | exact (Kd.S_reads' HO103.out).2.2 | (with_reducible refine Kd.C_alloc ?_ _) | (with_reducible refine Kd.C_drewN ?_ _) | (with_reducible refine Kd.C_drew ?_))); (case side2 => exact (Kd.S_reads' HO103.out).2.1); rintro e w6 ⟨v105, rfl, ho0, hb⟩; refine ⟨_, rfl, ?_⟩; have n0_ := am_ (Kd.S_elder' (by (with_reducible repeat (first | apply Kd.S_alloc | apply Kd.S_drewN | apply Kd.S_drew)); exact HO103.out) (Kd.S_base ho0) hb); have n1_ := am_ (Kd.S_lower (Kd.S_new' ho0 (Kd.S_lt (by (with_reducible repeat (first | apply Kd.S_alloc | apply Kd.S_drewN | apply Kd.S_drew)); exact HO103.out))) (below_size tc0_)); have n2_ := am_ (below_step tc0_ hb); clear HO103 HB; have HO103 := n0_; have HO106 := n1_; have HB := n2_; clear n0_ n1_ n2_; (try clear hb ho0)))
 go_ret
 exact ⟨_, by first | rfl | (simp [errW_none, errW_some] <;> rfl) | (simp [*, errW_none, errW_some] <;> rfl), by (with_reducible repeat (first | apply Kd.S_alloc | apply Kd.S_drewN | apply Kd.S_drew)); exact Kd.S_mono HO106.out (fun _ hk => trivial), by repeat (first | (with_reducible first | exact HB.out | apply below_alloc | apply pw_below_drewN | apply below_drew1) | exact HB.out)⟩

end Go.Proofs.Ytkbehdgneojdbaa.X
