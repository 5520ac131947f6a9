-- Written by a program of this session (wip/xprint.py) that drives the kit's print; the contracts of what it does not take are this session's own.
import Derived.Test.YtkfoockclldieaaCFnKindsOfPlacesx0
import Derived.Test.YtkfoockclldieaaCFnKindsOfPlacesx1
namespace Go.Proofs.Ytkfoockclldieaa.X
open Go.RowKit Go.Proofs.YtkfoockclldieaaW.PrintWords Go.Proofs.YtkfoockclldieaaW.PrintLast Go.Proofs.YtkfoockclldieaaW.PrintMore
attribute [local go_sem] max2_int min2_int max_two min_two max_three min_three max_four min_four   -- for this text's walks alone
set_option linter.unusedVariables false
set_option linter.unusedSimpArgs false

/-! ### spec_l1Cur_signs: function 35 -/
def spec_l1Cur_signs.f (k : Nat) (s0_0 : List Int) (s0_1 : Int) (s0_2 : Int) (a1 : Int) : Option ((List (List Int)) × Int × Int) := (spec_l1Cur_pick.f s0_0 s0_1 s0_2 a1).bind fun bt101 => ((spec_l1Cur_sure.f k s0_0 bt101.2.1 bt101.2.2 (wrap64 (1 + bt101.1))).bind fun bt104 => ((spec_l1Cur_pick.f s0_0 bt104.2.1 bt104.2.2 20).bind fun bt109 => (if bt109.1 = 0 then ((spec_l1Cur_pick.f s0_0 bt109.2.1 bt109.2.2 (wrap64 (1 + bt101.1))).bind fun bt112 => (if 0 ≤ bt112.1 then (if bt112.1 < (bt104.1.length : Int) then ((spec_l1Cur_pick.f s0_0 bt112.2.1 bt112.2.2 (wrap64 (1 + bt101.1))).bind fun bt116 => ((spec_l1Cur_among.f s0_0 bt116.2.1 bt116.2.2 (([(-2), (-1), 0, 1, 2, 4611686018427387904] : List Int))).bind fun bt122 => (if 0 ≤ bt116.1 then (if bt116.1 < ((rd_L3 bt104.1 bt112.1).length : Int) then (some ((bt104.1.set (bt112.1 : Int).toNat ((rd_L3 bt104.1 bt112.1).set (bt116.1 : Int).toNat bt122.1)), bt122.2.1, bt122.2.2)) else (none)) else (none)))) else (none)) else (none))) else (if bt109.1 = 1 then (if 0 ≤ (wrap64 (1 + bt101.1)) then (if (wrap64 (1 + bt101.1) : Int).toNat ≤ 35184372088832 then (if bt104.1.length < 5864062014805 then (some ((bt104.1 ++ [(List.replicate (wrap64 (1 + bt101.1) : Int).toNat 0)]), bt109.2.1, bt109.2.2)) else (none)) else (none)) else (none)) else (if bt109.1 = 2 then (if 0 < (bt104.1.length : Int) then (if (rd_L3 bt104.1 0).length < 17592186044416 then (some ((bt104.1.set (0 : Int).toNat ((rd_L3 bt104.1 0) ++ [0])), bt109.2.1, bt109.2.2)) else (none)) else (none)) else (if bt109.1 = 3 then ((spec_l1Cur_sure.f k s0_0 bt109.2.1 bt109.2.2 6).bind fun bt139 => ((spec_l1Cur_one.f s0_0 bt139.2.1 bt139.2.2 2).bind fun bt144 => (if bt144.1 = true then (some (([] : List (List Int)), bt144.2.1, bt144.2.2)) else (some (bt139.1, bt144.2.1, bt144.2.2))))) else (some (bt104.1, bt109.2.1, bt109.2.2))))))))
set_option maxHeartbeats 8000000 in
set_option maxRecDepth 100000 in
theorem spec_l1Cur_signs.calls (k : Nat) (g : Nat) (s0_0 : List Int) (s0_1 : Int) (s0_2 : Int) (a1 : Int) (r1 : List (List Int)) (r2 : Int) (r3 : Int) (w0 w : World) (hI : IsS44 w0 w g s0_0 s0_1 s0_2) (hB : Below w0.heap.size w0 w) (h : spec_l1Cur_signs.f k s0_0 s0_1 s0_2 a1 = some (r1, r2, r3)) :
  Calls Try.prog 35 #[.pointer (some ⟨g, 0, none⟩), .int .i64 a1] w fun e w' => ∃ v0_ : Value, e = .returned (v0_) ∧ Kd.S (Kd.slice 3 (Kd.int .i64)) 28 w' w.heap.size (fun _ => True) v0_ r1 ∧ IsS44 w0 w' g s0_0 r2 r3 ∧ Below w0.heap.size w0 w' ∧ KeepBut w w' g none := by
 have HI0 := am_ hI
 have HK := am_ (KeepBut.refl w g none)
 have HL := am_ hB.size
 clear hI
 have HW0 := am_ hB.size
 have HB := am_ hB
 clear hB
 have H : ((spec_l1Cur_pick.f s0_0 s0_1 s0_2 a1).bind fun bt101 => ((spec_l1Cur_sure.f k s0_0 bt101.2.1 bt101.2.2 (wrap64 (1 + bt101.1))).bind fun bt104 => ((spec_l1Cur_pick.f s0_0 bt104.2.1 bt104.2.2 20).bind fun bt109 => (if bt109.1 = 0 then ((spec_l1Cur_pick.f s0_0 bt109.2.1 bt109.2.2 (wrap64 (1 + bt101.1))).bind fun bt112 => (if 0 ≤ bt112.1 then (if bt112.1 < (bt104.1.length : Int) then ((spec_l1Cur_pick.f s0_0 bt112.2.1 bt112.2.2 (wrap64 (1 + bt101.1))).bind fun bt116 => ((spec_l1Cur_among.f s0_0 bt116.2.1 bt116.2.2 (([(-2), (-1), 0, 1, 2, 4611686018427387904] : List Int))).bind fun bt122 => (if 0 ≤ bt116.1 then (if bt116.1 < ((rd_L3 bt104.1 bt112.1).length : Int) then (some ((bt104.1.set (bt112.1 : Int).toNat ((rd_L3 bt104.1 bt112.1).set (bt116.1 : Int).toNat bt122.1)), bt122.2.1, bt122.2.2)) else (none)) else (none)))) else (none)) else (none))) else (if bt109.1 = 1 then (if 0 ≤ (wrap64 (1 + bt101.1)) then (if (wrap64 (1 + bt101.1) : Int).toNat ≤ 35184372088832 then (if bt104.1.length < 5864062014805 then (some ((bt104.1 ++ [(List.replicate (wrap64 (1 + bt101.1) : Int).toNat 0)]), bt109.2.1, bt109.2.2)) else (none)) else (none)) else (none)) else (if bt109.1 = 2 then (if 0 < (bt104.1.length : Int) then (if (rd_L3 bt104.1 0).length < 17592186044416 then (some ((bt104.1.set (0 : Int).toNat ((rd_L3 bt104.1 0) ++ [0])), bt109.2.1, bt109.2.2)) else (none)) else (none)) else (if bt109.1 = 3 then ((spec_l1Cur_sure.f k s0_0 bt109.2.1 bt109.2.2 6).bind fun bt139 => ((spec_l1Cur_one.f s0_0 bt139.2.1 bt139.2.2 2).bind fun bt144 => (if bt144.1 = true then (some (([] : List (List Int)), bt144.2.1, bt144.2.2)) else (some (bt139.1, bt144.2.1, bt144.2.2))))) else (some (bt104.1, bt109.2.1, bt109.2.2))))))))) = some (r1, r2, r3) := h
 clear h
 replace H := Option.bind_eq_some_iff.mp H
 obtain ⟨⟨t101, t102, t103⟩, A30, H⟩ := H
 replace H : ((spec_l1Cur_sure.f k s0_0 t102 t103 (wrap64 (1 + t101))).bind fun bt104 => ((spec_l1Cur_pick.f s0_0 bt104.2.1 bt104.2.2 20).bind fun bt109 => (if bt109.1 = 0 then ((spec_l1Cur_pick.f s0_0 bt109.2.1 bt109.2.2 (wrap64 (1 + t101))).bind fun bt112 => (if 0 ≤ bt112.1 then (if bt112.1 < (bt104.1.length : Int) then ((spec_l1Cur_pick.f s0_0 bt112.2.1 bt112.2.2 (wrap64 (1 + t101))).bind fun bt116 => ((spec_l1Cur_among.f s0_0 bt116.2.1 bt116.2.2 (([(-2), (-1), 0, 1, 2, 4611686018427387904] : List Int))).bind fun bt122 => (if 0 ≤ bt116.1 then (if bt116.1 < ((rd_L3 bt104.1 bt112.1).length : Int) then (some ((bt104.1.set (bt112.1 : Int).toNat ((rd_L3 bt104.1 bt112.1).set (bt116.1 : Int).toNat bt122.1)), bt122.2.1, bt122.2.2)) else (none)) else (none)))) else (none)) else (none))) else (if bt109.1 = 1 then (if 0 ≤ (wrap64 (1 + t101)) then (if (wrap64 (1 + t101) : Int).toNat ≤ 35184372088832 then (if bt104.1.length < 5864062014805 then (some ((bt104.1 ++ [(List.replicate (wrap64 (1 + t101) : Int).toNat 0)]), bt109.2.1, bt109.2.2)) else (none)) else (none)) else (none)) else (if bt109.1 = 2 then (if 0 < (bt104.1.length : Int) then (if (rd_L3 bt104.1 0).length < 17592186044416 then (some ((bt104.1.set (0 : Int).toNat ((rd_L3 bt104.1 0) ++ [0])), bt109.2.1, bt109.2.2)) else (none)) else (none)) else (if bt109.1 = 3 then ((spec_l1Cur_sure.f k s0_0 bt109.2.1 bt109.2.2 6).bind fun bt139 => ((spec_l1Cur_one.f s0_0 bt139.2.1 bt139.2.2 2).bind fun bt144 => (if bt144.1 = true then (some (([] : List (List Int)), bt144.2.1, bt144.2.2)) else (some (bt139.1, bt144.2.1, bt144.2.2))))) else (some (bt104.1, bt109.2.1, bt109.2.2)))))))) = some (r1, r2, r3) := H
 have A3 := am_ A30
 clear A30
 replace H := Option.bind_eq_some_iff.mp H
 obtain ⟨⟨t104, t107, t108⟩, A40, H⟩ := H
 replace H : ((spec_l1Cur_pick.f s0_0 t107 t108 20).bind fun bt109 => (if bt109.1 = 0 then ((spec_l1Cur_pick.f s0_0 bt109.2.1 bt109.2.2 (wrap64 (1 + t101))).bind fun bt112 => (if 0 ≤ bt112.1 then (if bt112.1 < (t104.length : Int) then ((spec_l1Cur_pick.f s0_0 bt112.2.1 bt112.2.2 (wrap64 (1 + t101))).bind fun bt116 => ((spec_l1Cur_among.f s0_0 bt116.2.1 bt116.2.2 (([(-2), (-1), 0, 1, 2, 4611686018427387904] : List Int))).bind fun bt122 => (if 0 ≤ bt116.1 then (if bt116.1 < ((rd_L3 t104 bt112.1).length : Int) then (some ((t104.set (bt112.1 : Int).toNat ((rd_L3 t104 bt112.1).set (bt116.1 : Int).toNat bt122.1)), bt122.2.1, bt122.2.2)) else (none)) else (none)))) else (none)) else (none))) else (if bt109.1 = 1 then (if 0 ≤ (wrap64 (1 + t101)) then (if (wrap64 (1 + t101) : Int).toNat ≤ 35184372088832 then (if t104.length < 5864062014805 then (some ((t104 ++ [(List.replicate (wrap64 (1 + t101) : Int).toNat 0)]), bt109.2.1, bt109.2.2)) else (none)) else (none)) else (none)) else (if bt109.1 = 2 then (if 0 < (t104.length : Int) then (if (rd_L3 t104 0).length < 17592186044416 then (some ((t104.set (0 : Int).toNat ((rd_L3 t104 0) ++ [0])), bt109.2.1, bt109.2.2)) else (none)) else (none)) else (if bt109.1 = 3 then ((spec_l1Cur_sure.f k s0_0 bt109.2.1 bt109.2.2 6).bind fun bt139 => ((spec_l1Cur_one.f s0_0 bt139.2.1 bt139.2.2 2).bind fun bt144 => (if bt144.1 = true then (some (([] : List (List Int)), bt144.2.1, bt144.2.2)) else (some (bt139.1, bt144.2.1, bt144.2.2))))) else (some (t104, bt109.2.1, bt109.2.2))))))) = some (r1, r2, r3) := H
 have A4 := am_ A40
 clear A40
 replace H := Option.bind_eq_some_iff.mp H
 obtain ⟨⟨t109, t110, t111⟩, A50, H⟩ := H
 replace H : (if t109 = 0 then ((spec_l1Cur_pick.f s0_0 t110 t111 (wrap64 (1 + t101))).bind fun bt112 => (if 0 ≤ bt112.1 then (if bt112.1 < (t104.length : Int) then ((spec_l1Cur_pick.f s0_0 bt112.2.1 bt112.2.2 (wrap64 (1 + t101))).bind fun bt116 => ((spec_l1Cur_among.f s0_0 bt116.2.1 bt116.2.2 (([(-2), (-1), 0, 1, 2, 4611686018427387904] : List Int))).bind fun bt122 => (if 0 ≤ bt116.1 then (if bt116.1 < ((rd_L3 t104 bt112.1).length : Int) then (some ((t104.set (bt112.1 : Int).toNat ((rd_L3 t104 bt112.1).set (bt116.1 : Int).toNat bt122.1)), bt122.2.1, bt122.2.2)) else (none)) else (none)))) else (none)) else (none))) else (if t109 = 1 then (if 0 ≤ (wrap64 (1 + t101)) then (if (wrap64 (1 + t101) : Int).toNat ≤ 35184372088832 then (if t104.length < 5864062014805 then (some ((t104 ++ [(List.replicate (wrap64 (1 + t101) : Int).toNat 0)]), t110, t111)) else (none)) else (none)) else (none)) else (if t109 = 2 then (if 0 < (t104.length : Int) then (if (rd_L3 t104 0).length < 17592186044416 then (some ((t104.set (0 : Int).toNat ((rd_L3 t104 0) ++ [0])), t110, t111)) else (none)) else (none)) else (if t109 = 3 then ((spec_l1Cur_sure.f k s0_0 t110 t111 6).bind fun bt139 => ((spec_l1Cur_one.f s0_0 bt139.2.1 bt139.2.2 2).bind fun bt144 => (if bt144.1 = true then (some (([] : List (List Int)), bt144.2.1, bt144.2.2)) else (some (bt139.1, bt144.2.1, bt144.2.2))))) else (some (t104, t110, t111)))))) = some (r1, r2, r3) := H
 have A5 := am_ A50
 clear A50
 by_cases c6 : t109 = 0
 ·rw [if_pos c6] at H
  have c6b0 : (t109 == 0) = true := beq_iff_eq.mpr c6
  have c6b1 : (t109 != 0) = false := bne_eq_false_iff_eq.mpr c6
  clear c6
  replace H := Option.bind_eq_some_iff.mp H
  obtain ⟨⟨t112, t113, t114⟩, A70, H⟩ := H
  replace H : (if 0 ≤ t112 then (if t112 < (t104.length : Int) then ((spec_l1Cur_pick.f s0_0 t113 t114 (wrap64 (1 + t101))).bind fun bt116 => ((spec_l1Cur_among.f s0_0 bt116.2.1 bt116.2.2 (([(-2), (-1), 0, 1, 2, 4611686018427387904] : List Int))).bind fun bt122 => (if 0 ≤ bt116.1 then (if bt116.1 < ((rd_L3 t104 t112).length : Int) then (some ((t104.set (t112 : Int).toNat ((rd_L3 t104 t112).set (bt116.1 : Int).toNat bt122.1)), bt122.2.1, bt122.2.2)) else (none)) else (none)))) else (none)) else (none)) = some (r1, r2, r3) := H
  have A7 := am_ A70
  clear A70
  by_cases c8 : 0 ≤ t112
  ·rw [if_pos c8] at H
   have c8b0 : decide (0 ≤ t112) = true := decide_eq_true c8
   clear c8
   by_cases c9 : t112 < (t104.length : Int)
   ·rw [if_pos c9] at H
    have c9b0 : decide (t112 < (t104.length : Int)) = true := decide_eq_true c9
    clear c9
    replace H := Option.bind_eq_some_iff.mp H
    obtain ⟨⟨t116, t117, t118⟩, A100, H⟩ := H
    replace H : ((spec_l1Cur_among.f s0_0 t117 t118 (([(-2), (-1), 0, 1, 2, 4611686018427387904] : List Int))).bind fun bt122 => (if 0 ≤ t116 then (if t116 < ((rd_L3 t104 t112).length : Int) then (some ((t104.set (t112 : Int).toNat ((rd_L3 t104 t112).set (t116 : Int).toNat bt122.1)), bt122.2.1, bt122.2.2)) else (none)) else (none))) = some (r1, r2, r3) := H
    have A10 := am_ A100
    clear A100
    obtain ⟨y119, hy119⟩ : ∃ y_ : List Int, y_ = (([(-2), (-1), 0, 1, 2, 4611686018427387904] : List Int)) := ⟨_, rfl⟩
    replace H : ((spec_l1Cur_among.f s0_0 t117 t118 y119).bind fun bt122 => (if 0 ≤ t116 then (if t116 < ((rd_L3 t104 t112).length : Int) then (some ((t104.set (t112 : Int).toNat ((rd_L3 t104 t112).set (t116 : Int).toNat bt122.1)), bt122.2.1, bt122.2.2)) else (none)) else (none))) = some (r1, r2, r3) := by first | (rw [hy119]; with_reducible exact H) | (have H2_ := (Option.bind_some _ _).symm.trans H; rw [hy119]; with_reducible exact H2_) | (have H2_ := (Option.bind_some _ _).symm.trans H; with_reducible exact H2_) | with_reducible exact H | (rw [hy119]; exact H) | exact H
    have Ny119 := am_ hy119
    clear hy119
    replace H := Option.bind_eq_some_iff.mp H
    obtain ⟨⟨t122, t123, t124⟩, A110, H⟩ := H
    replace H : (if 0 ≤ t116 then (if t116 < ((rd_L3 t104 t112).length : Int) then (some ((t104.set (t112 : Int).toNat ((rd_L3 t104 t112).set (t116 : Int).toNat t122)), t123, t124)) else (none)) else (none)) = some (r1, r2, r3) := H
    have A11 := am_ A110
    clear A110
    by_cases c12 : 0 ≤ t116
    ·rw [if_pos c12] at H
     have c12b0 : decide (0 ≤ t116) = true := decide_eq_true c12
     clear c12
     by_cases c13 : t116 < ((rd_L3 t104 t112).length : Int)
     ·rw [if_pos c13] at H
      have c13b0 : decide (t116 < ((rd_L3 t104 t112).length : Int)) = true := decide_eq_true c13
      clear c13
      obtain ⟨y125, hy125⟩ : ∃ y_ : List Int, y_ = ((rd_L3 t104 t112).set (t116 : Int).toNat t122) := ⟨_, rfl⟩
      replace H : (some ((t104.set (t112 : Int).toNat y125), t123, t124)) = some (r1, r2, r3) := by first | (rw [hy125]; with_reducible exact H) | (have H2_ := (Option.bind_some _ _).symm.trans H; rw [hy125]; with_reducible exact H2_) | (have H2_ := (Option.bind_some _ _).symm.trans H; with_reducible exact H2_) | with_reducible exact H | (rw [hy125]; exact H) | exact H
      have Ny125 := am_ hy125
      clear hy125
      obtain ⟨y127, hy127⟩ : ∃ y_ : List (List Int), y_ = (t104.set (t112 : Int).toNat y125) := ⟨_, rfl⟩
      replace H : (some (y127, t123, t124)) = some (r1, r2, r3) := by first | (rw [hy127]; with_reducible exact H) | (have H2_ := (Option.bind_some _ _).symm.trans H; rw [hy127]; with_reducible exact H2_) | (have H2_ := (Option.bind_some _ _).symm.trans H; with_reducible exact H2_) | with_reducible exact H | (rw [hy127]; exact H) | exact H
      have Ny127 := am_ hy127
      clear hy127
      simp only [Option.some.injEq, Prod.mk.injEq] at H
      obtain ⟨rfl, rfl, rfl⟩ := H
      go_enter Try.func35, Try.ntmps35
      go_wp2_with (first | ((with_reducible refine gate_callee (f := 47) rfl ?_); refine goesL_ (some 9) rfl rfl Try.func47 (by kernel_rfl) rfl #[.pointer (some ⟨g, 0, none⟩), .int .i64 a1] rfl tc0_ ?_; (with_reducible refine (spec_l1Cur_pick.calls g s0_0 s0_1 s0_2 a1 t101 t102 t103 w0 _ ?side1 ?side2 A3.out).mono ?_); (case side1 => exact tc3_); (case side2 => exact tc5_); rintro e w15 ⟨rfl, hi, hb, hk⟩; refine ⟨_, rfl, ?_⟩; have n0_ := am_ (KeepBut.trans tc4_ hk (.inl rfl)); have n1_ := am_ (hb); have n2_ := am_ (hi); clear HK HB HI0; have HK := n0_; have HB := n1_; have HI0 := n2_; clear n0_ n1_ n2_; (try clear hb hk hi)) | ((with_reducible refine gate_callee (f := 75) rfl ?_); refine goesL_ (some 13) rfl rfl Try.func75 (by kernel_rfl) rfl #[.pointer (some ⟨g, 0, none⟩), .int .i64 (wrap64 (1 + t101))] rfl tc0_ ?_; (with_reducible refine (spec_l1Cur_sure.calls k g s0_0 t102 t103 (wrap64 (1 + t101)) t104 t107 t108 w0 _ ?side1 ?side2 A4.out).mono ?_); (case side1 => exact tc3_); (case side2 => exact tc5_); rintro e w16 ⟨v105, rfl, ho0, hi, hb, hk⟩; refine ⟨_, rfl, ?_⟩; have n0_ := am_ (Kd.S_lower ho0 (keep_size (w := w) (g := g) (row := none) tc4_)); have n1_ := am_ (KeepBut.trans tc4_ hk (.inl rfl)); have n2_ := am_ (hb); have n3_ := am_ (hi); clear HK HB HI0; have HO106 := n0_; have HK := n1_; have HB := n2_; have HI0 := n3_; clear n0_ n1_ n2_ n3_; (try clear hb hk hi ho0)) | ((with_reducible refine gate_callee (f := 47) rfl ?_); refine goesL_ (some 15) rfl rfl Try.func47 (by kernel_rfl) rfl #[.pointer (some ⟨g, 0, none⟩), .int .i64 20] rfl tc0_ ?_; (with_reducible refine (spec_l1Cur_pick.calls g s0_0 t107 t108 20 t109 t110 t111 w0 _ ?side1 ?side2 A5.out).mono ?_); (case side1 => exact tc3_); (case side2 => exact tc5_); rintro e w17 ⟨rfl, hi, hb, hk⟩; refine ⟨_, rfl, ?_⟩; have n0_ := am_ (Kd.S_mono (Kd.S_keep (IsS44.apartS (show IsS44 w0 _ g s0_0 t107 t108 from tc3_) tc12_ (by decide)) hk (fun _ h => h.2)) (fun _ h => h.1)); have n1_ := am_ (KeepBut.trans tc4_ hk (.inl rfl)); have n2_ := am_ (hb); have n3_ := am_ (hi); clear HO106 HK; clear HB HI0; have HO106 := n0_; have HK := n1_; have HB := n2_; have HI0 := n3_; clear n0_ n1_ n2_ n3_; (try clear hb hk hi)))
      have ey_ := Ny119.out
      subst ey_
      clear Ny119
      obtain ⟨Ao_, co, eo_⟩ := Kd.S_slice HO106.out
      subst eo_
      have c_i0 : 0 ≤ t112 := of_decide_eq_true c8b0
      have c_i1 : t112 < (t104.length : Int) := of_decide_eq_true c9b0
      have c_j0 : 0 ≤ t116 := of_decide_eq_true c12b0
      have c_j1 : t116 < ((rd_L3 t104 t112).length : Int) := of_decide_eq_true c13b0
      obtain ⟨ad, As_, cs_, ead, _, _, _⟩ := at_L3 (Kd.S_reads' HO106.out).2.2 t112 c_i0 c_i1
      subst ead
      obtain ⟨Aw, cw, hx, hall⟩ := S_cell2k HO106.out t112 c_i0 c_i1
      obtain ⟨aw, eaw, _⟩ := hall t116 c_j0 c_j1
      subst eaw
      clear hall
      replace hx := (show World.cell? (World.drew _) (ad.add (t112 : Int).toNat) = some (.slice (some aw) (rd_L3 t104 t112).length cw) from hx)
      have HO := am_ (Kd.S_drew HO106.out)
      replace HK := am_ (keep_drew HK.out)
      have HI := am_ (IsS44.drew HI0.out)
      replace HB := am_ (below_drew1 HB.out)
      clear HO106 HI0
      refine start_ (n := 14) (S := fun w' => w'.cell? (ad.add (t112 : Int).toNat) = some (.slice (some aw) (rd_L3 t104 t112).length cw)) (ds := [13]) #[false, false, false, false, false, false, false, false, false, false, false, false, false, false] (by kernel_rfl) rfl rfl (hx) (fun hHeld => ?_)
      generalize hW_ : World.drew _ = W at HO HK HI HB hx hHeld ⊢
      clear hW_
      have HX := am_ hx
      clear hx
      refine pure_ (i := 0) (N := some 18) (v := ?_) (a' := ?_) #[true, false, false, false, false, false, false, false, false, false, false, false, false, false] rfl rfl (by kernel_rfl) (fun _ _ _ h => h) (Or.inl ⟨by rfl, ?_⟩) ?_ ?_
      rotate_left
      ·intro w'
       go_simp
       with_reducible rfl
      rotate_left
      ·simp only [Act.put, List.setIfInBounds_toArray, List.set_cons_zero, List.set_cons_succ, i64_w, i32_w]
       rfl
      refine pure_ (i := 1) (N := some 19) (v := ?_) (a' := ?_) #[true, true, false, false, false, false, false, false, false, false, false, false, false, false] rfl rfl (by kernel_rfl) (fun _ _ _ h => h) (Or.inl ⟨by rfl, ?_⟩) ?_ ?_
      rotate_left
      ·intro w'
       go_simp
       with_reducible rfl
      rotate_left
      ·simp only [Act.put, List.setIfInBounds_toArray, List.set_cons_zero, List.set_cons_succ, i64_w, i32_w]
       rfl
      refine pure_ (i := 2) (N := some 20) (v := ?_) (a' := ?_) #[true, true, true, false, false, false, false, false, false, false, false, false, false, false] rfl rfl (by kernel_rfl) (fun _ _ _ h => h) (Or.inl ⟨by rfl, ?_⟩) ?_ ?_
      rotate_left
      ·intro w'
       go_simp
       with_reducible rfl
      rotate_left
      ·simp only [Act.put, List.setIfInBounds_toArray, List.set_cons_zero, List.set_cons_succ, i64_w, i32_w]
       rfl
      refine pure_ (i := 6) (N := some 24) (v := ?_) (a' := ?_) #[true, true, true, false, false, false, true, false, false, false, false, false, false, false] rfl rfl (by kernel_rfl) (fun _ _ _ h => h) (Or.inl ⟨by rfl, ?_⟩) ?_ ?_
      rotate_left
      ·intro w'
       go_simp
       with_reducible rfl
      rotate_left
      ·simp only [Act.put, List.setIfInBounds_toArray, List.set_cons_zero, List.set_cons_succ, i64_w, i32_w]
       rfl
      refine pure_ (i := 7) (N := some 25) (v := ?_) (a' := ?_) #[true, true, true, false, false, false, true, true, false, false, false, false, false, false] rfl rfl (by kernel_rfl) (fun _ _ _ h => h) (Or.inl ⟨by rfl, ?_⟩) ?_ ?_
      rotate_left
      ·intro w'
       go_simp
       with_reducible rfl
      rotate_left
      ·simp only [Act.put, List.setIfInBounds_toArray, List.set_cons_zero, List.set_cons_succ, i64_w, i32_w]
       rfl
      refine pure_ (i := 9) (N := some 27) (v := ?_) (a' := ?_) #[true, true, true, false, false, false, true, true, false, true, false, false, false, false] rfl rfl (by kernel_rfl) (fun _ _ _ h => h) (Or.inl ⟨by rfl, ?_⟩) ?_ ?_
      rotate_left
      ·intro w'
       go_simp
       with_reducible rfl
      rotate_left
      ·simp only [Act.put, List.setIfInBounds_toArray, List.set_cons_zero, List.set_cons_succ, i64_w, i32_w]
       rfl
      refine join_ (σ := Nat) 3 #[true, true, true, true, true, true, true, true, true, true, true, false, false, false] (fun s_ => [(21, .int .i64 t112), (22, .pointer (some (ad.add (t112 : Int).toNat))), (23, (.slice (some aw) (rd_L3 t104 t112).length cw)), (26, .int .i64 t116), (28, .slice (some ⟨s_, 0, none⟩) 6 6)]) (fun s_ w' => (w'.cell? (ad.add (t112 : Int).toNat) = some (.slice (some aw) (rd_L3 t104 t112).length cw)) ∧ Kd.S (Kd.slice 3 (Kd.int .i64)) 28 w' w.heap.size (fun _ => True) (.slice (some ad) t104.length co) t104 ∧ KeepBut w w' g none ∧ IsS44 w0 w' g s0_0 t117 t118 ∧ Below w0.heap.size w0 w' ∧ Kd.R (Kd.int .i64) 3 w' w.heap.size (fun _ => True) (.slice (some ⟨s_, 0, none⟩) 6 6) ([(-2), (-1), 0, 1, 2, 4611686018427387904] : List Int)) ?_ ?_
      rotate_left
      ·intro hCont
       refine two_ (i := 3) (j := 10) (Ni := some 21) (Nj := some 28) #[true, true, true, true, false, false, true, true, false, true, false, false, false, false] #[true, true, true, false, false, false, true, true, false, true, true, false, false, false] rfl rfl rfl rfl (by kernel_rfl) (by decide) (by decide) (fun K hK => ?_) (fun K hK => ?_)
       ·skip
        refine goes_ Try.func47 (by kernel_rfl) rfl #[.pointer (some ⟨g, 0, none⟩), .int .i64 (wrap64 (1 + t101))] (by rfl) rfl rfl tc37_ ?_
        refine (spec_l1Cur_pick.calls g s0_0 t110 t111 (wrap64 (1 + t101)) t112 t113 t114 w0 _ HI.out HB.out A7.out).mono ?_
        rintro e w9 ⟨rfl, hi, hb, hk⟩
        refine ⟨_, rfl, ?_⟩
        have n1_ := am_ (Kd.S_mono (Kd.S_keep (IsS44.apartS HI.out HO.out (by decide)) hk (fun _ h => h.2)) (fun _ h => h.1))
        have n2_ := am_ (keep_cell hk HX.out tc44_)
        have n3_ := am_ (KeepBut.trans HK.out hk (.inl rfl))
        have n4_ := am_ hi
        have n5_ := am_ hb
        clear HO HX HK HI HB hk hi hb
        have HO := n1_
        have HX := n2_
        have HK := n3_
        have HI := n4_
        have HB := n5_
        clear n1_ n2_ n3_ n4_ n5_
        refine hK.out _ _ (HX.out) (fun hHeld => ?_)
        clear hK K
        refine norm_ (a' := ?_) ?_ ?_
        rotate_left
        ·show Act.put _ (some 21) _ = _
         simp only [Act.put, List.setIfInBounds_toArray, List.set_cons_zero, List.set_cons_succ, i64_w, i32_w]
         rfl
        refine pure_ (i := 4) (N := some 22) (v := ?_) (a' := ?_) #[true, true, true, true, true, false, true, true, false, true, false, false, false, false] rfl rfl (by kernel_rfl) (fun _ _ _ h => h) (Or.inl ⟨by rfl, ?_⟩) ?_ ?_
        rotate_left
        ·intro w'
         go_simp
         with_reducible rfl
        rotate_left
        ·simp only [Act.put, List.setIfInBounds_toArray, List.set_cons_zero, List.set_cons_succ, i64_w, i32_w]
         rfl
        refine take_ (i := 5) (N := some 23) (v := ?_) (a' := ?_) #[true, true, true, true, true, true, true, true, false, true, false, false, false, false] rfl rfl (by kernel_rfl) (fun _ _ _ h => h) (Or.inl ⟨by rfl, ?_⟩) hHeld ?_ ?_
        rotate_left
        ·intro w' s0
         go_simp
         with_reducible rfl
        rotate_left
        ·simp only [Act.put, List.setIfInBounds_toArray, List.set_cons_zero, List.set_cons_succ, i64_w, i32_w]
         rfl
        refine two_ (i := 8) (j := 10) (Ni := some 26) (Nj := some 28) #[true, true, true, true, true, true, true, true, true, true, false, false, false, false] #[true, true, true, true, true, true, true, true, false, true, true, false, false, false] rfl rfl rfl rfl (by kernel_rfl) (by decide) (by decide) (fun K hK => ?_) (fun K hK => ?_)
        ·skip
         refine goes_ Try.func47 (by kernel_rfl) rfl #[.pointer (some ⟨g, 0, none⟩), .int .i64 (wrap64 (1 + t101))] (by rfl) rfl rfl tc37_ ?_
         refine (spec_l1Cur_pick.calls g s0_0 t113 t114 (wrap64 (1 + t101)) t116 t117 t118 w0 _ HI.out HB.out A10.out).mono ?_
         rintro e w9 ⟨rfl, hi, hb, hk⟩
         refine ⟨_, rfl, ?_⟩
         have n1_ := am_ (Kd.S_mono (Kd.S_keep (IsS44.apartS HI.out HO.out (by decide)) hk (fun _ h => h.2)) (fun _ h => h.1))
         have n2_ := am_ (keep_cell hk HX.out tc44_)
         have n3_ := am_ (KeepBut.trans HK.out hk (.inl rfl))
         have n4_ := am_ hi
         have n5_ := am_ hb
         clear HO HX HK HI HB hk hi hb
         have HO := n1_
         have HX := n2_
         have HK := n3_
         have HI := n4_
         have HB := n5_
         clear n1_ n2_ n3_ n4_ n5_
         refine hK.out _ _ (HX.out) (fun hHeld => ?_)
         clear hK K
         refine norm_ (a' := ?_) ?_ ?_
         rotate_left
         ·show Act.put _ (some 26) _ = _
          simp only [Act.put, List.setIfInBounds_toArray, List.set_cons_zero, List.set_cons_succ, i64_w, i32_w]
          rfl
         refine one_ (i := 10) (N := some 28) #[true, true, true, true, true, true, true, true, true, true, true, false, false, false] rfl rfl (by kernel_rfl) (by decide) (fun K hK => ?_)
         refine value_ (w1 := ?_) (v := ?_) (by rfl) rfl ?_ ?_
         rotate_left 2
         ·go_simp
          constructor
          ·rfl
          ·rfl
         have n6_ := am_ (R_nums (ok := fun _ => True) (e := 3) (base := w.heap.size) (xs := ([(-2), (-1), 0, 1, 2, 4611686018427387904] : List Int)) (k := .i64) (blk_new _ (.cells #[.int .i64 (-2), .int .i64 (-1), .int .i64 0, .int .i64 1, .int .i64 2, .int .i64 4611686018427387904] 3 (0, 0))) (keep_size HK.out) (by decide) trivial)
         have n1_ := am_ (Kd.S_alloc HO.out (.cells #[.int .i64 (-2), .int .i64 (-1), .int .i64 0, .int .i64 1, .int .i64 2, .int .i64 4611686018427387904] 3 (0, 0)))
         have n2_ := am_ (cell_of_below (below_alloc (Below.refl _ _) (.cells #[.int .i64 (-2), .int .i64 (-1), .int .i64 0, .int .i64 1, .int .i64 2, .int .i64 4611686018427387904] 3 (0, 0))) HX.out)
         have n3_ := am_ (keep_alloc HK.out (.cells #[.int .i64 (-2), .int .i64 (-1), .int .i64 0, .int .i64 1, .int .i64 2, .int .i64 4611686018427387904] 3 (0, 0)))
         have n4_ := am_ (IsS44.alloc HI.out (.cells #[.int .i64 (-2), .int .i64 (-1), .int .i64 0, .int .i64 1, .int .i64 2, .int .i64 4611686018427387904] 3 (0, 0)))
         have n5_ := am_ (below_alloc HB.out (.cells #[.int .i64 (-2), .int .i64 (-1), .int .i64 0, .int .i64 1, .int .i64 2, .int .i64 4611686018427387904] 3 (0, 0)))
         clear HO HX HK HI HB
         have HO := n1_
         have HX := n2_
         have HK := n3_
         have HI := n4_
         have HB := n5_
         have HV := n6_
         clear n1_ n2_ n3_ n4_ n5_ n6_
         skip
         refine hK.out _ _ (HX.out) (fun hHeld => ?_)
         clear hK K
         refine norm_ (a' := ?_) ?_ ?_
         rotate_left
         ·show Act.put _ (some 28) _ = _
          simp only [Act.put, List.setIfInBounds_toArray, List.set_cons_zero, List.set_cons_succ, i64_w, i32_w]
          rfl
         exact norm_ (by simp only [putAll, Act.put, List.setIfInBounds_toArray, List.set_cons_zero, List.set_cons_succ]) (hCont _ _ ⟨HX.out, HO.out, HK.out, HI.out, HB.out, HV.out⟩)
        ·skip
         refine value_ (w1 := ?_) (v := ?_) (by rfl) rfl ?_ ?_
         rotate_left 2
         ·go_simp
          constructor
          ·rfl
          ·rfl
         have n6_ := am_ (R_nums (ok := fun _ => True) (e := 3) (base := w.heap.size) (xs := ([(-2), (-1), 0, 1, 2, 4611686018427387904] : List Int)) (k := .i64) (blk_new _ (.cells #[.int .i64 (-2), .int .i64 (-1), .int .i64 0, .int .i64 1, .int .i64 2, .int .i64 4611686018427387904] 3 (0, 0))) (keep_size HK.out) (by decide) trivial)
         have n1_ := am_ (Kd.S_alloc HO.out (.cells #[.int .i64 (-2), .int .i64 (-1), .int .i64 0, .int .i64 1, .int .i64 2, .int .i64 4611686018427387904] 3 (0, 0)))
         have n2_ := am_ (cell_of_below (below_alloc (Below.refl _ _) (.cells #[.int .i64 (-2), .int .i64 (-1), .int .i64 0, .int .i64 1, .int .i64 2, .int .i64 4611686018427387904] 3 (0, 0))) HX.out)
         have n3_ := am_ (keep_alloc HK.out (.cells #[.int .i64 (-2), .int .i64 (-1), .int .i64 0, .int .i64 1, .int .i64 2, .int .i64 4611686018427387904] 3 (0, 0)))
         have n4_ := am_ (IsS44.alloc HI.out (.cells #[.int .i64 (-2), .int .i64 (-1), .int .i64 0, .int .i64 1, .int .i64 2, .int .i64 4611686018427387904] 3 (0, 0)))
         have n5_ := am_ (below_alloc HB.out (.cells #[.int .i64 (-2), .int .i64 (-1), .int .i64 0, .int .i64 1, .int .i64 2, .int .i64 4611686018427387904] 3 (0, 0)))
         clear HO HX HK HI HB
         have HO := n1_
         have HX := n2_
         have HK := n3_
         have HI := n4_
         have HB := n5_
         have HV := n6_
         clear n1_ n2_ n3_ n4_ n5_ n6_
         skip
         refine hK.out _ _ (HX.out) (fun hHeld => ?_)
         clear hK K
         refine norm_ (a' := ?_) ?_ ?_
         rotate_left
         ·show Act.put _ (some 28) _ = _
          simp only [Act.put, List.setIfInBounds_toArray, List.set_cons_zero, List.set_cons_succ, i64_w, i32_w]
          rfl
         refine one_ (i := 8) (N := some 26) #[true, true, true, true, true, true, true, true, true, true, true, false, false, false] rfl rfl (by kernel_rfl) (by decide) (fun K hK => ?_)
         refine goes_ Try.func47 (by kernel_rfl) rfl #[.pointer (some ⟨g, 0, none⟩), .int .i64 (wrap64 (1 + t101))] (by rfl) rfl rfl tc37_ ?_
         refine (spec_l1Cur_pick.calls g s0_0 t113 t114 (wrap64 (1 + t101)) t116 t117 t118 w0 _ HI.out HB.out A10.out).mono ?_
         rintro e w9 ⟨rfl, hi, hb, hk⟩
         refine ⟨_, rfl, ?_⟩
         have n1_ := am_ (Kd.S_mono (Kd.S_keep (IsS44.apartS HI.out HO.out (by decide)) hk (fun _ h => h.2)) (fun _ h => h.1))
         have n2_ := am_ (keep_cell hk HX.out tc44_)
         have n3_ := am_ (KeepBut.trans HK.out hk (.inl rfl))
         have n4_ := am_ hi
         have n5_ := am_ hb
         have n6_ := am_ (Kd.R_mono (Kd.R_keep (IsS44.apart HI.out HV.out (by decide)) hk (fun _ h => h.2)) (fun _ h => h.1))
         clear HO HX HK HI HB hk hi hb HV
         have HO := n1_
         have HX := n2_
         have HK := n3_
         have HI := n4_
         have HB := n5_
         have HV := n6_
         clear n1_ n2_ n3_ n4_ n5_ n6_
         refine hK.out _ _ (HX.out) (fun hHeld => ?_)
         clear hK K
         refine norm_ (a' := ?_) ?_ ?_
         rotate_left
         ·show Act.put _ (some 26) _ = _
          simp only [Act.put, List.setIfInBounds_toArray, List.set_cons_zero, List.set_cons_succ, i64_w, i32_w]
          rfl
         exact norm_ (by simp only [putAll, Act.put, List.setIfInBounds_toArray, List.set_cons_zero, List.set_cons_succ]) (hCont _ _ ⟨HX.out, HO.out, HK.out, HI.out, HB.out, HV.out⟩)
       ·skip
        refine value_ (w1 := ?_) (v := ?_) (by rfl) rfl ?_ ?_
        rotate_left 2
        ·go_simp
         constructor
         ·rfl
         ·rfl
        have n6_ := am_ (R_nums (ok := fun _ => True) (e := 3) (base := w.heap.size) (xs := ([(-2), (-1), 0, 1, 2, 4611686018427387904] : List Int)) (k := .i64) (blk_new _ (.cells #[.int .i64 (-2), .int .i64 (-1), .int .i64 0, .int .i64 1, .int .i64 2, .int .i64 4611686018427387904] 3 (0, 0))) (keep_size HK.out) (by decide) trivial)
        have n1_ := am_ (Kd.S_alloc HO.out (.cells #[.int .i64 (-2), .int .i64 (-1), .int .i64 0, .int .i64 1, .int .i64 2, .int .i64 4611686018427387904] 3 (0, 0)))
        have n2_ := am_ (cell_of_below (below_alloc (Below.refl _ _) (.cells #[.int .i64 (-2), .int .i64 (-1), .int .i64 0, .int .i64 1, .int .i64 2, .int .i64 4611686018427387904] 3 (0, 0))) HX.out)
        have n3_ := am_ (keep_alloc HK.out (.cells #[.int .i64 (-2), .int .i64 (-1), .int .i64 0, .int .i64 1, .int .i64 2, .int .i64 4611686018427387904] 3 (0, 0)))
        have n4_ := am_ (IsS44.alloc HI.out (.cells #[.int .i64 (-2), .int .i64 (-1), .int .i64 0, .int .i64 1, .int .i64 2, .int .i64 4611686018427387904] 3 (0, 0)))
        have n5_ := am_ (below_alloc HB.out (.cells #[.int .i64 (-2), .int .i64 (-1), .int .i64 0, .int .i64 1, .int .i64 2, .int .i64 4611686018427387904] 3 (0, 0)))
        clear HO HX HK HI HB
        have HO := n1_
        have HX := n2_
        have HK := n3_
        have HI := n4_
        have HB := n5_
        have HV := n6_
        clear n1_ n2_ n3_ n4_ n5_ n6_
        skip
        refine hK.out _ _ (HX.out) (fun hHeld => ?_)
        clear hK K
        refine norm_ (a' := ?_) ?_ ?_
        rotate_left
        ·show Act.put _ (some 28) _ = _
         simp only [Act.put, List.setIfInBounds_toArray, List.set_cons_zero, List.set_cons_succ, i64_w, i32_w]
         rfl
        refine one_ (i := 3) (N := some 21) #[true, true, true, true, false, false, true, true, false, true, true, false, false, false] rfl rfl (by kernel_rfl) (by decide) (fun K hK => ?_)
        refine goes_ Try.func47 (by kernel_rfl) rfl #[.pointer (some ⟨g, 0, none⟩), .int .i64 (wrap64 (1 + t101))] (by rfl) rfl rfl tc37_ ?_
        refine (spec_l1Cur_pick.calls g s0_0 t110 t111 (wrap64 (1 + t101)) t112 t113 t114 w0 _ HI.out HB.out A7.out).mono ?_
        rintro e w9 ⟨rfl, hi, hb, hk⟩
        refine ⟨_, rfl, ?_⟩
        have n1_ := am_ (Kd.S_mono (Kd.S_keep (IsS44.apartS HI.out HO.out (by decide)) hk (fun _ h => h.2)) (fun _ h => h.1))
        have n2_ := am_ (keep_cell hk HX.out tc44_)
        have n3_ := am_ (KeepBut.trans HK.out hk (.inl rfl))
        have n4_ := am_ hi
        have n5_ := am_ hb
        have n6_ := am_ (Kd.R_mono (Kd.R_keep (IsS44.apart HI.out HV.out (by decide)) hk (fun _ h => h.2)) (fun _ h => h.1))
        clear HO HX HK HI HB hk hi hb HV
        have HO := n1_
        have HX := n2_
        have HK := n3_
        have HI := n4_
        have HB := n5_
        have HV := n6_
        clear n1_ n2_ n3_ n4_ n5_ n6_
        refine hK.out _ _ (HX.out) (fun hHeld => ?_)
        clear hK K
        refine norm_ (a' := ?_) ?_ ?_
        rotate_left
        ·show Act.put _ (some 21) _ = _
         simp only [Act.put, List.setIfInBounds_toArray, List.set_cons_zero, List.set_cons_succ, i64_w, i32_w]
         rfl
        refine pure_ (i := 4) (N := some 22) (v := ?_) (a' := ?_) #[true, true, true, true, true, false, true, true, false, true, true, false, false, false] rfl rfl (by kernel_rfl) (fun _ _ _ h => h) (Or.inl ⟨by rfl, ?_⟩) ?_ ?_
        rotate_left
        ·intro w'
         go_simp
         with_reducible rfl
        rotate_left
        ·simp only [Act.put, List.setIfInBounds_toArray, List.set_cons_zero, List.set_cons_succ, i64_w, i32_w]
         rfl
        refine take_ (i := 5) (N := some 23) (v := ?_) (a' := ?_) #[true, true, true, true, true, true, true, true, false, true, true, false, false, false] rfl rfl (by kernel_rfl) (fun _ _ _ h => h) (Or.inl ⟨by rfl, ?_⟩) hHeld ?_ ?_
        rotate_left
        ·intro w' s0
         go_simp
         with_reducible rfl
        rotate_left
        ·simp only [Act.put, List.setIfInBounds_toArray, List.set_cons_zero, List.set_cons_succ, i64_w, i32_w]
         rfl
        refine one_ (i := 8) (N := some 26) #[true, true, true, true, true, true, true, true, true, true, true, false, false, false] rfl rfl (by kernel_rfl) (by decide) (fun K hK => ?_)
        refine goes_ Try.func47 (by kernel_rfl) rfl #[.pointer (some ⟨g, 0, none⟩), .int .i64 (wrap64 (1 + t101))] (by rfl) rfl rfl tc37_ ?_
        refine (spec_l1Cur_pick.calls g s0_0 t113 t114 (wrap64 (1 + t101)) t116 t117 t118 w0 _ HI.out HB.out A10.out).mono ?_
        rintro e w9 ⟨rfl, hi, hb, hk⟩
        refine ⟨_, rfl, ?_⟩
        have n1_ := am_ (Kd.S_mono (Kd.S_keep (IsS44.apartS HI.out HO.out (by decide)) hk (fun _ h => h.2)) (fun _ h => h.1))
        have n2_ := am_ (keep_cell hk HX.out tc44_)
        have n3_ := am_ (KeepBut.trans HK.out hk (.inl rfl))
        have n4_ := am_ hi
        have n5_ := am_ hb
        have n6_ := am_ (Kd.R_mono (Kd.R_keep (IsS44.apart HI.out HV.out (by decide)) hk (fun _ h => h.2)) (fun _ h => h.1))
        clear HO HX HK HI HB hk hi hb HV
        have HO := n1_
        have HX := n2_
        have HK := n3_
        have HI := n4_
        have HB := n5_
        have HV := n6_
        clear n1_ n2_ n3_ n4_ n5_ n6_
        refine hK.out _ _ (HX.out) (fun hHeld => ?_)
        clear hK K
        refine norm_ (a' := ?_) ?_ ?_
        rotate_left
        ·show Act.put _ (some 26) _ = _
         simp only [Act.put, List.setIfInBounds_toArray, List.set_cons_zero, List.set_cons_succ, i64_w, i32_w]
         rfl
        exact norm_ (by simp only [putAll, Act.put, List.setIfInBounds_toArray, List.set_cons_zero, List.set_cons_succ]) (hCont _ _ ⟨HX.out, HO.out, HK.out, HI.out, HB.out, HV.out⟩)
      rintro gl W4 ⟨hHeld, ho_, hk_, hi_, hb_, hv_⟩
      have HX := am_ hHeld
      have HV := am_ hv_
      have HO := am_ ho_
      have HK := am_ hk_
      have HI := am_ hi_
      have HB := am_ hb_
      clear ho_ hk_ hi_ hb_ hv_
      refine norm_ (a' := ?_) ?_ ?_
      rotate_left
      ·simp only [putAll, Act.put, List.setIfInBounds_toArray, List.set_cons_zero, List.set_cons_succ]
       rfl
      refine one_ (i := 11) (N := some 29) #[true, true, true, true, true, true, true, true, true, true, true, true, false, false] rfl rfl (by kernel_rfl) (by decide) (fun K hK => ?_)
      refine goes_ Try.func76 (by kernel_rfl) rfl #[.pointer (some ⟨g, 0, none⟩), .slice (some ⟨gl, 0, none⟩) 6 6] (by rfl) rfl rfl tc37_ ?_
      refine (spec_l1Cur_among.calls g s0_0 t117 t118 (some ⟨gl, 0, none⟩) 6 ([(-2), (-1), 0, 1, 2, 4611686018427387904] : List Int) t122 t123 t124 w0 _ HI.out HB.out (Kd.R_reads' HV.out).2.2 (Kd.R_reads' HV.out).2.1 (far_slice (IsS44.own_ne HI.out HV.out (by decide))) A11.out).mono ?_
      rintro e w9 ⟨rfl, hi, hb, hk⟩
      refine ⟨_, rfl, ?_⟩
      have n1_ := am_ (Kd.S_mono (Kd.S_keep (IsS44.apartS HI.out HO.out (by decide)) hk (fun _ h => h.2)) (fun _ h => h.1))
      have n2_ := am_ (keep_cell hk HX.out tc44_)
      have n3_ := am_ (KeepBut.trans HK.out hk (.inl rfl))
      have n4_ := am_ hi
      have n5_ := am_ hb
      have n6_ := am_ (Kd.R_mono (Kd.R_keep (IsS44.apart HI.out HV.out (by decide)) hk (fun _ h => h.2)) (fun _ h => h.1))
      clear HO HX HK HI HB hk hi hb HV
      have HO := n1_
      have HX := n2_
      have HK := n3_
      have HI := n4_
      have HB := n5_
      have HV := n6_
      clear n1_ n2_ n3_ n4_ n5_ n6_
      refine hK.out _ _ (HX.out) (fun hHeld => ?_)
      clear hK K
      refine norm_ (a' := ?_) ?_ ?_
      rotate_left
      ·show Act.put _ (some 29) _ = _
       simp only [Act.put, List.setIfInBounds_toArray, List.set_cons_zero, List.set_cons_succ, i64_w, i32_w]
       rfl
      refine pure_ (i := 12) (N := some 30) (v := ?_) (a' := ?_) #[true, true, true, true, true, true, true, true, true, true, true, true, true, false] rfl rfl (by kernel_rfl) (fun _ _ _ h => h) (Or.inl ⟨by rfl, ?_⟩) ?_ ?_
      rotate_left
      ·intro w'
       go_simp
       with_reducible rfl
      rotate_left
      ·simp only [Act.put, List.setIfInBounds_toArray, List.set_cons_zero, List.set_cons_succ, i64_w, i32_w]
       rfl
      refine last_ (i := 13) (N := none) #[true, true, true, true, true, true, true, true, true, true, true, true, true, true] rfl rfl (by kernel_rfl) (by decide) (fun K hK => ?_)
      obtain ⟨Aw2, cw2, hx2, hall2⟩ := S_cell2k (IsS44.apartS HI.out HO.out (by decide)) t112 c_i0 c_i1
      have e2_ := Option.some.inj (hx2.symm.trans hHeld)
      injection e2_ with e3_ e4_ e5_
      subst e3_ e5_
      clear e4_ hx2
      obtain ⟨aw2, ea2, hc2, hf2, hg2, hok2, hback2⟩ := hall2 t116 c_j0 c_j1
      obtain rfl := Option.some.inj ea2
      clear ea2 hall2
      refine skip_ (w1 := ?_) (by rfl) rfl ?_ ?_
      rotate_left
      ·go_simp
       rfl
      refine hK.out _ _ ?_
      clear hK K
      refine done_ (by kernel_rfl) ?_
      have hb3_ := hback2 t122
      rw [show (t104.set (t112 : Int).toNat ((t104.getD (t112 : Int).toNat []).set (t116 : Int).toNat t122)) = y127 from (by rw [Ny127.out, Ny125.out]; rfl)] at hb3_
      go_wp2
      go_ret
      exact ⟨_, rfl, Kd.S_mono hb3_ (fun _ _ => trivial), IsS44.far HI.out (Ne.symm hok2.2) _, HB.out.setCell (Nat.le_trans HL.out hg2) _, keep_far HK.out hg2 _⟩
     ·rw [if_neg c13] at H
      exact absurd H (by simp)
    ·rw [if_neg c12] at H
     exact absurd H (by simp)
   ·rw [if_neg c9] at H
    exact absurd H (by simp)
  ·rw [if_neg c8] at H
   exact absurd H (by simp)
 ·rw [if_neg c6] at H
  have c6b0 : (t109 == 0) = false := beq_eq_false_iff_ne.mpr c6
  have c6b1 : (t109 != 0) = true := bne_iff_ne.mpr c6
  by_cases c27 : t109 = 1
  ·rw [if_pos c27] at H
   have c27b0 : (t109 == 1) = true := beq_iff_eq.mpr c27
   have c27b1 : (t109 != 1) = false := bne_eq_false_iff_eq.mpr c27
   clear c27
   obtain ⟨ji28, hji28⟩ : ∃ j_ : Int, (wrap64 (1 + t101)) = j_ := ⟨_, rfl⟩
   replace H : (if 0 ≤ (ji28) then (if (ji28 : Int).toNat ≤ 35184372088832 then (if t104.length < 5864062014805 then (some ((t104 ++ [(List.replicate (ji28 : Int).toNat 0)]), t110, t111)) else (none)) else (none)) else (none)) = some (r1, r2, r3) := by first | (rw [hji28] at H; exact H) | (simp only [hji28] at H ⊢; exact H)
   (try rw [hji28] at A3)
   (try rw [hji28] at A4)
   (try rw [hji28] at A5)
   have hji28w : (IntKind.i64.wrap (1 + t101)) = ji28 := (i64_w _).trans hji28
   by_cases c29 : 0 ≤ (ji28)
   ·rw [if_pos c29] at H
    have c29b0 := eq_true c29
    have c29b1 : decide (0 ≤ (ji28)) = true := decide_eq_true c29
    clear c29
    by_cases c30 : (ji28 : Int).toNat ≤ 35184372088832
    ·rw [if_pos c30] at H
     have c30b0 := eq_true c30
     have c30b1 : decide ((ji28 : Int).toNat ≤ 35184372088832) = true := decide_eq_true c30
     clear c30
     obtain ⟨y128, hy128⟩ : ∃ y_ : List Int, y_ = (List.replicate (ji28 : Int).toNat 0) := ⟨_, rfl⟩
     replace H : (if t104.length < 5864062014805 then (some ((t104 ++ [y128]), t110, t111)) else (none)) = some (r1, r2, r3) := by first | (rw [hy128]; with_reducible exact H) | (have H2_ := (Option.bind_some _ _).symm.trans H; rw [hy128]; with_reducible exact H2_) | (have H2_ := (Option.bind_some _ _).symm.trans H; with_reducible exact H2_) | with_reducible exact H | (rw [hy128]; exact H) | exact H
     have Ny128 := am_ hy128
     clear hy128
     by_cases c31 : t104.length < 5864062014805
     ·rw [if_pos c31] at H
      have LMc31 := am_ c31
      clear c31
      obtain ⟨y131, hy131⟩ : ∃ y_ : List (List Int), y_ = (t104 ++ [y128]) := ⟨_, rfl⟩
      replace H : (some (y131, t110, t111)) = some (r1, r2, r3) := by first | (rw [hy131]; with_reducible exact H) | (have H2_ := (Option.bind_some _ _).symm.trans H; rw [hy131]; with_reducible exact H2_) | (have H2_ := (Option.bind_some _ _).symm.trans H; with_reducible exact H2_) | with_reducible exact H | (rw [hy131]; exact H) | exact H
      have Ny131 := am_ hy131
      clear hy131
      simp only [Option.some.injEq, Prod.mk.injEq] at H
      obtain ⟨rfl, rfl, rfl⟩ := H
      go_enter Try.func35, Try.ntmps35
      go_wp2_with (first | ((with_reducible refine gate_callee (f := 47) rfl ?_); refine goesL_ (some 9) rfl rfl Try.func47 (by kernel_rfl) rfl #[.pointer (some ⟨g, 0, none⟩), .int .i64 a1] rfl tc0_ ?_; (with_reducible refine (spec_l1Cur_pick.calls g s0_0 s0_1 s0_2 a1 t101 t102 t103 w0 _ ?side1 ?side2 A3.out).mono ?_); (case side1 => exact tc3_); (case side2 => exact tc5_); rintro e w32 ⟨rfl, hi, hb, hk⟩; refine ⟨_, rfl, ?_⟩; have n0_ := am_ (KeepBut.trans tc4_ hk (.inl rfl)); have n1_ := am_ (hb); have n2_ := am_ (hi); clear HK HB HI0; have HK := n0_; have HB := n1_; have HI0 := n2_; clear n0_ n1_ n2_; (try clear hb hk hi)) | ((with_reducible refine gate_callee (f := 75) rfl ?_); refine goesL_ (some 13) rfl rfl Try.func75 (by kernel_rfl) rfl #[.pointer (some ⟨g, 0, none⟩), .int .i64 ji28] rfl (by (try simp only [List.map_toArray, List.map_cons, List.map_nil]); first | done | (simp only [hji28]; rfl) | rfl | (simp only [List.length_drop, List.length_take]; rfl)) ?_; (with_reducible refine (spec_l1Cur_sure.calls k g s0_0 t102 t103 ji28 t104 t107 t108 w0 _ ?side1 ?side2 A4.out).mono ?_); (case side1 => exact tc3_); (case side2 => exact tc5_); rintro e w33 ⟨v105, rfl, ho0, hi, hb, hk⟩; refine ⟨_, rfl, ?_⟩; have n0_ := am_ (Kd.S_lower ho0 (keep_size (w := w) (g := g) (row := none) tc4_)); have n1_ := am_ (KeepBut.trans tc4_ hk (.inl rfl)); have n2_ := am_ (hb); have n3_ := am_ (hi); clear HK HB HI0; have HO106 := n0_; have HK := n1_; have HB := n2_; have HI0 := n3_; clear n0_ n1_ n2_ n3_; (try clear hb hk hi ho0)) | ((with_reducible refine gate_callee (f := 47) rfl ?_); refine goesL_ (some 15) rfl rfl Try.func47 (by kernel_rfl) rfl #[.pointer (some ⟨g, 0, none⟩), .int .i64 20] rfl tc0_ ?_; (with_reducible refine (spec_l1Cur_pick.calls g s0_0 t107 t108 20 t109 t110 t111 w0 _ ?side1 ?side2 A5.out).mono ?_); (case side1 => exact tc3_); (case side2 => exact tc5_); rintro e w34 ⟨rfl, hi, hb, hk⟩; refine ⟨_, rfl, ?_⟩; have n0_ := am_ (Kd.S_mono (Kd.S_keep (IsS44.apartS (show IsS44 w0 _ g s0_0 t107 t108 from tc3_) tc12_ (by decide)) hk (fun _ h => h.2)) (fun _ h => h.1)); have n1_ := am_ (KeepBut.trans tc4_ hk (.inl rfl)); have n2_ := am_ (hb); have n3_ := am_ (hi); clear HO106 HK; clear HB HI0; have HO106 := n0_; have HK := n1_; have HB := n2_; have HI0 := n3_; clear n0_ n1_ n2_ n3_; (try clear hb hk hi)) | ((with_reducible refine gate_dst (N := 35) rfl ?_); refine Kd.R_make (Kd.int .i64) _ 3 rfl (N := 35) rfl 28 _ _ rfl ji28 rfl rfl Try.underlying28 (.int .i64 0) 8 info3 rfl (by decide) (by omega) 0 (ok := fun _ => True) (okp := fun _ => True) rfl (fun _ hk => hk) trivial (of_decide_eq_true tc2_) (Nat.le_trans (Nat.mul_le_mul_right _ (of_decide_eq_true tc2_ : ji28.toNat ≤ 35184372088832)) (by omega)) (Below.refl _ _) (Nat.le_refl _) ?_; intro v129 w35 ho36 hb hg_ hnew_; clear hg_ hnew_; (first | rw [← Ny128.out] at ho36 | (simp only [Int.reduceToNat] at ho36; rw [← Ny128.out] at ho36)); have n0_ := am_ (Kd.S_elder' tc12_ (Kd.R_base ho36) hb); have n1_ := am_ (Kd.R_lower ho36 (keep_size (w := w) (g := g) (row := none) tc4_)); have n2_ := am_ (IsS44.below tc3_ hb); have n3_ := am_ (KeepBut.trans tc4_ (KeepBut.of_below hb g none) (.inl rfl)); have n4_ := am_ (below_step tc5_ hb); clear HO106 HI0; clear HK HB; have HO106 := n0_; have HO130 := n1_; have HI0 := n2_; have HK := n3_; have HB := n4_; clear n0_ n1_ n2_ n3_ n4_; clear hb ho36; obtain ⟨Ao38, co38, eo38⟩ := Kd.R_slice HO130.out; subst eo38) | ((with_reducible refine gate_builtin (b := .append) (xs := #[.tmp 33, .tmp 36]) rfl ?_); at_builtin; refine Kd.S_append (Kd.slice 3 (Kd.int .i64)) w.heap.size rfl (.tmp 33) (.tmp 36) 24 28 (.slice none 0 0) 24 rfl Try.underlying24 info28 rfl (by decide) (by omega) v105 t104 y128 [.slice Ao38 y128.length co38] (fun _ => True) (fun k_ => some k_ = (.slice Ao38 y128.length co38 : Value).ownBlock) rfl rfl ?aP (fun k_ hk_ => ((Kd.R_mono (ok' := fun k_ => ((fun _ => True)) k_ ∧ some k_ ≠ (v105 : Value).ownBlock) (Kd.R_apart' (HO130.out) (Kd.S_typed HO106.out) (by decide)) (fun k_ hk => ⟨trivial, hk.2⟩))).1 k_ hk_.symm) ?aF ?aO (Below.refl _ _) ?aS ?aL ?_; (case aP => exact Kd.M_row (Kd.R_mono (Kd.R_tight rfl (Kd.R_mono (ok' := fun k_ => ((fun _ => True)) k_ ∧ some k_ ≠ (v105 : Value).ownBlock) (Kd.R_apart' (HO130.out) (Kd.S_typed HO106.out) (by decide)) (fun k_ hk => ⟨trivial, hk.2⟩))) (fun _ h_ => h_))); (case aF => exact (fun _ _ => trivial)); (case aO => exact (by (with_reducible repeat (first | apply Kd.S_alloc | apply Kd.S_drewN | apply Kd.S_drew)); exact Kd.S_mono HO106.out (fun k_ hk => ⟨trivial, fun e_ => hk.2 e_⟩))); (case aS => exact (keep_size (w := w) (g := g) (row := none) tc4_)); (case aL => have := LMc31.out; omega); intro v132 w37 ho hb hg hat; rw [← Ny131.out] at ho; have n0_ := am_ (IsS44.grown tc3_ hg (IsS44.own_neS HI0.out HO106.out (by decide))); have n1_ := am_ (below_weaken tc5_ HL.out hb); have n2_ := am_ (KeepBut.trans tc4_ (KeepBut.of_grown hg g) (Kd.S_base2 HO106.out)); have n3_ := am_ (ho); clear HI0 HB; clear HK HO106 HO130; have HI0 := n0_; have HB := n1_; have HK := n2_; have HO133 := n3_; clear n0_ n1_ n2_ n3_; clear ho hb hg hat))
      go_ret
      exact ⟨_, by first | rfl | (simp [errW_none, errW_some] <;> rfl) | (simp only [← hji28]; first | rfl | (simp [errW_none, errW_some] <;> rfl)) | (simp [*, errW_none, errW_some] <;> rfl), by (with_reducible repeat (first | apply Kd.S_alloc | apply Kd.S_drewN | apply Kd.S_drew)); exact HO133.out, by repeat (first | (with_reducible first | exact HI0.out | apply IsS44.alloc | apply IsS44.drewN | apply IsS44.drew | apply IsS44.set_1 | apply IsS44.set_2) | exact HI0.out), by repeat (first | (with_reducible first | exact HB.out | apply below_alloc | apply pw_below_drewN | apply below_drew1 | refine below_set ?_ (IsS44.ge HI0.out)) | exact HB.out), by repeat (first | (with_reducible first | exact HK.out | apply KeepBut.set_ | apply keep_drewN | apply keep_drew | apply keep_alloc) | exact HK.out)⟩
     ·rw [if_neg c31] at H
      exact absurd H (by simp)
    ·rw [if_neg c30] at H
     exact absurd H (by simp)
   ·rw [if_neg c29] at H
    exact absurd H (by simp)
  ·rw [if_neg c27] at H
   have c27b0 : (t109 == 1) = false := beq_eq_false_iff_ne.mpr c27
   have c27b1 : (t109 != 1) = true := bne_iff_ne.mpr c27
   by_cases c39 : t109 = 2
   ·rw [if_pos c39] at H
    have c39b0 : (t109 == 2) = true := beq_iff_eq.mpr c39
    have c39b1 : (t109 != 2) = false := bne_eq_false_iff_eq.mpr c39
    clear c39
    by_cases c40 : 0 < (t104.length : Int)
    ·rw [if_pos c40] at H
     have c40b0 : decide (0 < (t104.length : Int)) = true := decide_eq_true c40
     have c40b1 : decide (0 < t104.length) = true := decide_eq_true (by omega)
     clear c40
     by_cases c41 : (rd_L3 t104 0).length < 17592186044416
     ·rw [if_pos c41] at H
      have LMc41 := am_ c41
      clear c41
      obtain ⟨y135, hy135⟩ : ∃ y_ : List Int, y_ = ((rd_L3 t104 0) ++ [0]) := ⟨_, rfl⟩
      replace H : (some ((t104.set (0 : Int).toNat y135), t110, t111)) = some (r1, r2, r3) := by first | (rw [hy135]; with_reducible exact H) | (have H2_ := (Option.bind_some _ _).symm.trans H; rw [hy135]; with_reducible exact H2_) | (have H2_ := (Option.bind_some _ _).symm.trans H; with_reducible exact H2_) | with_reducible exact H | (rw [hy135]; exact H) | exact H
      have Ny135 := am_ hy135
      clear hy135
      obtain ⟨y138, hy138⟩ : ∃ y_ : List (List Int), y_ = (t104.set (0 : Int).toNat y135) := ⟨_, rfl⟩
      replace H : (some (y138, t110, t111)) = some (r1, r2, r3) := by first | (rw [hy138]; with_reducible exact H) | (have H2_ := (Option.bind_some _ _).symm.trans H; rw [hy138]; with_reducible exact H2_) | (have H2_ := (Option.bind_some _ _).symm.trans H; with_reducible exact H2_) | with_reducible exact H | (rw [hy138]; exact H) | exact H
      have Ny138 := am_ hy138
      clear hy138
      simp only [Option.some.injEq, Prod.mk.injEq] at H
      obtain ⟨rfl, rfl, rfl⟩ := H
      go_enter Try.func35, Try.ntmps35
      go_wp2_with (first | ((with_reducible refine gate_callee (f := 47) rfl ?_); refine goesL_ (some 9) rfl rfl Try.func47 (by kernel_rfl) rfl #[.pointer (some ⟨g, 0, none⟩), .int .i64 a1] rfl tc0_ ?_; (with_reducible refine (spec_l1Cur_pick.calls g s0_0 s0_1 s0_2 a1 t101 t102 t103 w0 _ ?side1 ?side2 A3.out).mono ?_); (case side1 => exact tc3_); (case side2 => exact tc5_); rintro e w43 ⟨rfl, hi, hb, hk⟩; refine ⟨_, rfl, ?_⟩; have n0_ := am_ (KeepBut.trans tc4_ hk (.inl rfl)); have n1_ := am_ (hb); have n2_ := am_ (hi); clear HK HB HI0; have HK := n0_; have HB := n1_; have HI0 := n2_; clear n0_ n1_ n2_; (try clear hb hk hi)) | ((with_reducible refine gate_callee (f := 75) rfl ?_); refine goesL_ (some 13) rfl rfl Try.func75 (by kernel_rfl) rfl #[.pointer (some ⟨g, 0, none⟩), .int .i64 (wrap64 (1 + t101))] rfl tc0_ ?_; (with_reducible refine (spec_l1Cur_sure.calls k g s0_0 t102 t103 (wrap64 (1 + t101)) t104 t107 t108 w0 _ ?side1 ?side2 A4.out).mono ?_); (case side1 => exact tc3_); (case side2 => exact tc5_); rintro e w44 ⟨v105, rfl, ho0, hi, hb, hk⟩; refine ⟨_, rfl, ?_⟩; have n0_ := am_ (Kd.S_lower ho0 (keep_size (w := w) (g := g) (row := none) tc4_)); have n1_ := am_ (KeepBut.trans tc4_ hk (.inl rfl)); have n2_ := am_ (hb); have n3_ := am_ (hi); clear HK HB HI0; have HO106 := n0_; have HK := n1_; have HB := n2_; have HI0 := n3_; clear n0_ n1_ n2_ n3_; (try clear hb hk hi ho0)) | ((with_reducible refine gate_callee (f := 47) rfl ?_); refine goesL_ (some 15) rfl rfl Try.func47 (by kernel_rfl) rfl #[.pointer (some ⟨g, 0, none⟩), .int .i64 20] rfl tc0_ ?_; (with_reducible refine (spec_l1Cur_pick.calls g s0_0 t107 t108 20 t109 t110 t111 w0 _ ?side1 ?side2 A5.out).mono ?_); (case side1 => exact tc3_); (case side2 => exact tc5_); rintro e w45 ⟨rfl, hi, hb, hk⟩; refine ⟨_, rfl, ?_⟩; have n0_ := am_ (Kd.S_mono (Kd.S_keep (IsS44.apartS (show IsS44 w0 _ g s0_0 t107 t108 from tc3_) tc12_ (by decide)) hk (fun _ h => h.2)) (fun _ h => h.1)); have n1_ := am_ (KeepBut.trans tc4_ hk (.inl rfl)); have n2_ := am_ (hb); have n3_ := am_ (hi); clear HO106 HK; clear HB HI0; have HO106 := n0_; have HK := n1_; have HB := n2_; have HI0 := n3_; clear n0_ n1_ n2_ n3_; (try clear hb hk hi); obtain ⟨Ao46, co46, eo46⟩ := Kd.S_slice HO106.out; subst eo46; have p134 : 0 ≤ (0 : Int) := (by omega); have q134 : 0 < (t104.length : Int) := of_decide_eq_true tc2_; obtain ⟨ad134, A134_0, c134_0, e134, hx134_0, hl134_0, hi134_0⟩ := at_L3 (Kd.S_reads' HO106.out).2.2 0 p134 q134; cases e134; obtain ⟨ce134, hce134, hMe134, hcc134⟩ := Kd.S_get HO106.out [] 0 p134 (by first | exact q134 | exact of_decide_eq_true tc2_ | (have e_ := (Kd.S_reads' HO106.out).1; omega)); obtain ⟨ve134_0, rfl, ge134_0⟩ := hMe134; have hv134_0 := hcc134 0 _ rfl; rw [Nat.add_zero, show ((Kd.slice 3 (Kd.int .i64))).sz = 1 from rfl, Nat.mul_one] at hv134_0; replace hv134_0 := Option.some.inj (hv134_0.symm.trans hx134_0); rw [hv134_0] at ge134_0; have HL134_0 := am_ (show Kd.R (Kd.int .i64) 3 _ _ _ _ (rd_L3 t104 0) from ge134_0); clear hv134_0 ge134_0; have HX134_0 := am_ hx134_0; clear hcc134 hce134; have qi134 : (0 < t104.length) = True := eq_true (by omega); (try rw [show ((0 : Int)).toNat = 0 from rfl] at hx134_0); (try rw [Addr.add_zero'] at hx134_0); have HR134_0 := am_ hi134_0; have HC134_0 := am_ hl134_0; clear hi134_0 hl134_0; replace p134 := eq_true p134; replace q134 := eq_true q134; obtain ⟨go47, co47, eo47, gb47, gl47, cl47, HG47⟩ := Kd.S_form HO106.out (by have h_ : (0 : Int) < ((t104.length : Int) : Int) := of_decide_eq_true tc2_; have h2_ : 0 ≤ (0 : Int) := (by omega); omega); (first | cases eo47 | (injection eo47 with ea_ en_ ec_; (first | subst ea_ | (injection ea_ with ea_; subst ea_)); subst ec_; clear en_)); have GB47 := am_ gb47; have GG47 := am_ HG47; clear gb47 gl47 HG47; (first | simp only [add_plain] at hx134_0 | skip); obtain ⟨oki47, ce47, hcl47, hM47, hcc47, _, _, hH47⟩ := Kd.S_elem HO106.out [] (0 : Int) (by omega) (by have h_ : (0 : Int) < ((t104.length : Int) : Int) := of_decide_eq_true tc2_; first | exact h_ | (have e_ := (Kd.S_reads' HO106.out).1; omega) | simpa using h_); obtain ⟨ve47_0, rfl, ge47_0⟩ := hM47; have hv47 := hcc47 0 _ rfl; have hX47 := HX134_0.out; (try simp only [add_plain] at hX47); (try simp only [Nat.add_zero] at hv47); (try rw [show ((Kd.slice 3 (Kd.int .i64))).sz = 1 from rfl, Nat.mul_one] at hv47); replace hv47 := Option.some.inj (hv47.symm.trans hX47); subst hv47; clear hX47 hcc47 hcl47; have UU47 := am_ (show Kd.R (Kd.int .i64) 3 _ w.heap.size oki47 (.slice A134_0 (rd_L3 t104 0).length c134_0) (rd_L3 t104 0) from ge47_0); have HH47 := am_ hH47; have HN47 := am_ (Kd.S_reads' HO106.out).1; clear hH47 ge47_0) | ((with_reducible refine gate_builtin (b := .append) (xs := #[.tmp 43, .tmp 44]) rfl ?_); at_builtin; refine Kd.R_append (Kd.int .i64) w.heap.size rfl (.tmp 43) (.tmp 44) 28 3 (.int .i64 0) 8 rfl Try.underlying28 info3 rfl (by decide) (by omega) (.slice A134_0 (rd_L3 t104 0).length c134_0) (rd_L3 t104 0) 0 [.int .i64 0] (fun k_ => oki47 k_ ∨ ((fun _ => True)) k_ ∧ w45.heap.size ≤ k_) (fun _ => False) rfl rfl ?aP (fun _ hk => hk.elim) ?aF ?aO (Below.refl _ _) ?aS ?aL ?_; (case aP => exact rfl); (case aF => exact (fun k_ hk => .inr ⟨trivial, hk⟩)); (case aO => exact (by (with_reducible repeat (first | apply Kd.R_alloc | apply Kd.R_drewN | apply Kd.R_drew)); exact Kd.R_mono UU47.out (fun _ hk => .inl hk))); (case aS => exact (keep_size (w := w) (g := g) (row := none) tc4_)); (case aL => have := LMc41.out; omega); intro v136 w48 ho hb hg hat; rw [← Ny135.out] at ho; have n0_ := am_ (IsS44.grown tc3_ hg (IsS44.own_ne HI0.out HL134_0.out (by decide))); have n1_ := am_ (below_weaken tc5_ HL.out hb); have n2_ := am_ (KeepBut.trans tc4_ (KeepBut.of_grown hg g) (Kd.R_base2 HL134_0.out)); have n3_ := am_ (Kd.H_grown (Kd.H_widen (by repeat (first | exact HH47.out | refine Kd.H_alloc ?_ _ | refine Kd.H_drewN ?_ _ | refine Kd.H_drew ?_))) hg (fun k_ e_ => .inl (UU47.out.1 k_ e_))); have n4_ := am_ (ho); clear HI0 HB; clear HK HH47; clear HO106 UU47 HL134_0; have HI0 := n0_; have HB := n1_; have HK := n2_; have HH47 := n3_; have HO137 := n4_; clear n0_ n1_ n2_ n3_ n4_; clear ho hb hg hat; have p42 : 0 ≤ (0 : Int) := (by omega); have q42 : (0 : Int) < ((t104.length : Int) : Int) := of_decide_eq_true tc2_; replace p42 := eq_true p42; replace q42 := eq_true q42; obtain ⟨Ao51, co51, eo51⟩ := Kd.R_slice HO137.out; subst eo51; obtain ⟨_, _, hraw49, _, _, hcc49, _⟩ := Kd.H_raw HH47.out (by omega) (by have h_ : (0 : Int) < ((t104.length : Int) : Int) := of_decide_eq_true tc2_; first | exact h_ | (have e_ := (HN47.out); omega) | simpa using h_); obtain ⟨_, hfr49⟩ := Kd.H_at HH47.out (by omega) (by have h_ : (0 : Int) < ((t104.length : Int) : Int) := of_decide_eq_true tc2_; first | exact h_ | (have e_ := (HN47.out); omega) | simpa using h_); have hx49_0 := hcc49 0 _ rfl; have hf49_0 := hfr49 0; (try simp only [Nat.add_zero] at hx49_0 hf49_0); (try rw [show ((Kd.slice 3 (Kd.int .i64))).sz = 1 from rfl, Nat.mul_one] at hx49_0); (try rw [show ((Kd.slice 3 (Kd.int .i64))).sz = 1 from rfl, Nat.mul_one] at hf49_0); (try rw [show ((0 : Int)).toNat = 0 from rfl] at hx49_0); (try simp only [Nat.reduceMul, Nat.zero_mul, Nat.zero_add, Nat.reduceAdd] at hx49_0); (try rw [show ((0 : Int)).toNat = 0 from rfl] at hf49_0); (try simp only [Nat.reduceMul, Nat.zero_mul, Nat.zero_add, Nat.reduceAdd] at hf49_0); have HP49 := Kd.S_seg0 HH47.out (by omega) (by have h_ : (0 : Int) < ((t104.length : Int) : Int) := of_decide_eq_true tc2_; first | exact h_ | (have e_ := (HN47.out); omega) | simpa using h_) (seg := [.slice Ao51 y135.length co51]) (j := 0) (show 1 ≤ 1 from (by decide)) (x' := y135) (Kd.M_row HO137.out) (fun _ hk => hk); (try simp only [show ((Kd.slice 3 (Kd.int .i64))).sz = 1 from rfl, Nat.mul_one, Nat.add_zero] at HP49); clear hcc49 hfr49) | ((with_reducible refine gate_store (t := 28) (p := 46) rfl ?_); refine store_event (t := 28) (p := 46) (v := ?vo_w50) (w1 := (w48.setCell ⟨go47, (0 : Int).toNat, none⟩ (.slice Ao51 y135.length co51))) ?hg ?ho ?hn ?hr ?_; (case ho => rfl); (case hg => rfl); (case hn => rfl); (case hr => exact tc27_); intro w50 hw; have hg : w48.grownBy w50 (some go47) := (by rw [hw]; exact HP49.2); have hp_ : Kd.S (Kd.slice 3 (Kd.int .i64)) 28 w50 w.heap.size (fun _ => True) (.slice (some ⟨go47, 0, none⟩) t104.length co46) y138 := (by rw [hw, Ny138.out]; exact HP49.1); clear HP49; have n0_ := am_ (IsS44.grown tc3_ hg (IsS44.own_ne HI0.out hraw49 (by decide))); have n1_ := am_ ((by rw [hw]; exact below_set HB.out (Nat.le_trans HL.out GB47.out) : Below w0.heap.size w0 w50)); have n2_ := am_ (KeepBut.trans tc4_ (KeepBut.of_grown hg g) (Kd.R_base2 hraw49)); have n3_ := am_ (hp_); clear HI0 HB; clear HK HO137 HH47; have HI0 := n0_; have HB := n1_; have HK := n2_; have HO106 := n3_; clear n0_ n1_ n2_ n3_; clear hg hw hp_ hraw49))
      go_ret
      exact ⟨_, by first | rfl | (simp [errW_none, errW_some] <;> rfl) | (simp [*, errW_none, errW_some] <;> rfl), by (with_reducible repeat (first | apply Kd.S_alloc | apply Kd.S_drewN | apply Kd.S_drew)); exact HO106.out, by repeat (first | (with_reducible first | exact HI0.out | apply IsS44.alloc | apply IsS44.drewN | apply IsS44.drew | apply IsS44.set_1 | apply IsS44.set_2) | exact HI0.out), by repeat (first | (with_reducible first | exact HB.out | apply below_alloc | apply pw_below_drewN | apply below_drew1 | refine below_set ?_ (IsS44.ge HI0.out)) | exact HB.out), by repeat (first | (with_reducible first | exact HK.out | apply KeepBut.set_ | apply keep_drewN | apply keep_drew | apply keep_alloc) | exact HK.out)⟩
     ·rw [if_neg c41] at H
      exact absurd H (by simp)
    ·rw [if_neg c40] at H
     exact absurd H (by simp)
   ·rw [if_neg c39] at H
    have c39b0 : (t109 == 2) = false := beq_eq_false_iff_ne.mpr c39
    have c39b1 : (t109 != 2) = true := bne_iff_ne.mpr c39
    by_cases c52 : t109 = 3
    ·rw [if_pos c52] at H
     have c52b0 : (t109 == 3) = true := beq_iff_eq.mpr c52
     have c52b1 : (t109 != 3) = false := bne_eq_false_iff_eq.mpr c52
     clear c52
     replace H := Option.bind_eq_some_iff.mp H
     obtain ⟨⟨t139, t142, t143⟩, A530, H⟩ := H
     replace H : ((spec_l1Cur_one.f s0_0 t142 t143 2).bind fun bt144 => (if bt144.1 = true then (some (([] : List (List Int)), bt144.2.1, bt144.2.2)) else (some (t139, bt144.2.1, bt144.2.2)))) = some (r1, r2, r3) := H
     have A53 := am_ A530
     clear A530
     replace H := Option.bind_eq_some_iff.mp H
     obtain ⟨⟨t144, t145, t146⟩, A540, H⟩ := H
     replace H : (if t144 = true then (some (([] : List (List Int)), t145, t146)) else (some (t139, t145, t146))) = some (r1, r2, r3) := H
     have A54 := am_ A540
     clear A540
     by_cases c55 : t144 = true
     ·subst c55
      have H1 : (some (([] : List (List Int)), t145, t146)) = some (r1, r2, r3) := by rw [if_pos rfl] at H; exact H
      clear H
      have H := H1
      clear H1
      simp only [Option.some.injEq, Prod.mk.injEq] at H
      obtain ⟨rfl, rfl, rfl⟩ := H
      go_enter Try.func35, Try.ntmps35
      go_wp2_with (first | ((with_reducible refine gate_callee (f := 47) rfl ?_); refine goesL_ (some 9) rfl rfl Try.func47 (by kernel_rfl) rfl #[.pointer (some ⟨g, 0, none⟩), .int .i64 a1] rfl tc0_ ?_; (with_reducible refine (spec_l1Cur_pick.calls g s0_0 s0_1 s0_2 a1 t101 t102 t103 w0 _ ?side1 ?side2 A3.out).mono ?_); (case side1 => exact tc3_); (case side2 => exact tc5_); rintro e w56 ⟨rfl, hi, hb, hk⟩; refine ⟨_, rfl, ?_⟩; have n0_ := am_ (KeepBut.trans tc4_ hk (.inl rfl)); have n1_ := am_ (hb); have n2_ := am_ (hi); clear HK HB HI0; have HK := n0_; have HB := n1_; have HI0 := n2_; clear n0_ n1_ n2_; (try clear hb hk hi)) | ((with_reducible refine gate_callee (f := 75) rfl ?_); refine goesL_ (some 13) rfl rfl Try.func75 (by kernel_rfl) rfl #[.pointer (some ⟨g, 0, none⟩), .int .i64 (wrap64 (1 + t101))] rfl tc0_ ?_; (with_reducible refine (spec_l1Cur_sure.calls k g s0_0 t102 t103 (wrap64 (1 + t101)) t104 t107 t108 w0 _ ?side1 ?side2 A4.out).mono ?_); (case side1 => exact tc3_); (case side2 => exact tc5_); rintro e w57 ⟨v105, rfl, ho0, hi, hb, hk⟩; refine ⟨_, rfl, ?_⟩; have n0_ := am_ (Kd.S_lower ho0 (keep_size (w := w) (g := g) (row := none) tc4_)); have n1_ := am_ (KeepBut.trans tc4_ hk (.inl rfl)); have n2_ := am_ (hb); have n3_ := am_ (hi); clear HK HB HI0; have HO106 := n0_; have HK := n1_; have HB := n2_; have HI0 := n3_; clear n0_ n1_ n2_ n3_; (try clear hb hk hi ho0)) | ((with_reducible refine gate_callee (f := 47) rfl ?_); refine goesL_ (some 15) rfl rfl Try.func47 (by kernel_rfl) rfl #[.pointer (some ⟨g, 0, none⟩), .int .i64 20] rfl tc0_ ?_; (with_reducible refine (spec_l1Cur_pick.calls g s0_0 t107 t108 20 t109 t110 t111 w0 _ ?side1 ?side2 A5.out).mono ?_); (case side1 => exact tc3_); (case side2 => exact tc5_); rintro e w58 ⟨rfl, hi, hb, hk⟩; refine ⟨_, rfl, ?_⟩; have n0_ := am_ (Kd.S_mono (Kd.S_keep (IsS44.apartS (show IsS44 w0 _ g s0_0 t107 t108 from tc3_) tc12_ (by decide)) hk (fun _ h => h.2)) (fun _ h => h.1)); have n1_ := am_ (KeepBut.trans tc4_ hk (.inl rfl)); have n2_ := am_ (hb); have n3_ := am_ (hi); clear HO106 HK; clear HB HI0; have HO106 := n0_; have HK := n1_; have HB := n2_; have HI0 := n3_; clear n0_ n1_ n2_ n3_; (try clear hb hk hi)) | ((with_reducible refine gate_callee (f := 75) rfl ?_); refine goesL_ (some 50) rfl rfl Try.func75 (by kernel_rfl) rfl #[.pointer (some ⟨g, 0, none⟩), .int .i64 6] rfl tc0_ ?_; (with_reducible refine (spec_l1Cur_sure.calls k g s0_0 t110 t111 6 t139 t142 t143 w0 _ ?side1 ?side2 A53.out).mono ?_); (case side1 => exact tc3_); (case side2 => exact tc5_); rintro e w59 ⟨v140, rfl, ho0, hi, hb, hk⟩; refine ⟨_, rfl, ?_⟩; have n0_ := am_ (Kd.S_mono (Kd.S_told (Kd.S_oldK (IsS44.apartS (show IsS44 w0 _ g s0_0 t110 t111 from tc3_) tc12_ (by decide)) hk) (Kd.S_base ho0)) (fun _ h_ => h_.1)); have n1_ := am_ (Kd.S_lower (Kd.S_new' ho0 (Kd.S_lt tc12_)) (keep_size (w := w) (g := g) (row := none) tc4_)); have n2_ := am_ (KeepBut.trans tc4_ hk (.inl rfl)); have n3_ := am_ (hb); have n4_ := am_ (hi); clear HO106 HK; clear HB HI0; have HO106 := n0_; have HO141 := n1_; have HK := n2_; have HB := n3_; have HI0 := n4_; clear n0_ n1_ n2_ n3_ n4_; (try clear hb hk hi ho0)) | ((with_reducible refine gate_callee (f := 46) rfl ?_); refine goesL_ (some 52) rfl rfl Try.func46 (by kernel_rfl) rfl #[.pointer (some ⟨g, 0, none⟩), .int .i64 2] rfl tc0_ ?_; (with_reducible refine (spec_l1Cur_one.calls g s0_0 t142 t143 2 true t145 t146 w0 _ ?side1 ?side2 A54.out).mono ?_); (case side1 => exact tc3_); (case side2 => exact tc5_); rintro e w60 ⟨rfl, hi, hb, hk⟩; refine ⟨_, rfl, ?_⟩; have n0_ := am_ (Kd.S_mono (Kd.S_keep (IsS44.apartS (show IsS44 w0 _ g s0_0 t142 t143 from tc3_) tc12_ (by decide)) hk (fun _ h => h.2)) (fun _ h => h.1)); have n1_ := am_ (Kd.S_mono (Kd.S_keep (IsS44.apartS (show IsS44 w0 _ g s0_0 t142 t143 from tc3_) (by (with_reducible repeat (first | apply Kd.S_alloc | apply Kd.S_drewN | apply Kd.S_drew)); exact HO141.out) (by decide)) hk (fun _ h => h.2)) (fun _ h => h.1)); have n2_ := am_ (KeepBut.trans tc4_ hk (.inl rfl)); have n3_ := am_ (hb); have n4_ := am_ (hi); clear HO106 HO141; clear HK HB HI0; have HO106 := n0_; have HO141 := n1_; have HK := n2_; have HB := n3_; have HI0 := n4_; clear n0_ n1_ n2_ n3_ n4_; (try clear hb hk hi)))
      go_ret
      exact ⟨_, by first | rfl | (simp [errW_none, errW_some] <;> rfl) | (simp [*, errW_none, errW_some] <;> rfl), by first | exact Kd.S_nil _ _ _ _ _ | exact Kd.N_nil _ _ _ _ _ | exact Kd.V_nil _ _ _ _ _ | exact Kd.Q_nil _ _ _ _ _ | exact Kd.R_nil _ _ _ _ _, by repeat (first | (with_reducible first | exact HI0.out | apply IsS44.alloc | apply IsS44.drewN | apply IsS44.drew | apply IsS44.set_1 | apply IsS44.set_2) | exact HI0.out), by repeat (first | (with_reducible first | exact HB.out | apply below_alloc | apply pw_below_drewN | apply below_drew1 | refine below_set ?_ (IsS44.ge HI0.out)) | exact HB.out), by repeat (first | (with_reducible first | exact HK.out | apply KeepBut.set_ | apply keep_drewN | apply keep_drew | apply keep_alloc) | exact HK.out)⟩
     ·replace c55 := Bool.eq_false_iff.mpr c55
      subst c55
      have H1 : (some (t139, t145, t146)) = some (r1, r2, r3) := by rw [if_neg (show ¬ (false = true) by decide)] at H; exact H
      clear H
      have H := H1
      clear H1
      simp only [Option.some.injEq, Prod.mk.injEq] at H
      obtain ⟨rfl, rfl, rfl⟩ := H
      go_enter Try.func35, Try.ntmps35
      go_wp2_with (first | ((with_reducible refine gate_callee (f := 47) rfl ?_); refine goesL_ (some 9) rfl rfl Try.func47 (by kernel_rfl) rfl #[.pointer (some ⟨g, 0, none⟩), .int .i64 a1] rfl tc0_ ?_; (with_reducible refine (spec_l1Cur_pick.calls g s0_0 s0_1 s0_2 a1 t101 t102 t103 w0 _ ?side1 ?side2 A3.out).mono ?_); (case side1 => exact tc3_); (case side2 => exact tc5_); rintro e w61 ⟨rfl, hi, hb, hk⟩; refine ⟨_, rfl, ?_⟩; have n0_ := am_ (KeepBut.trans tc4_ hk (.inl rfl)); have n1_ := am_ (hb); have n2_ := am_ (hi); clear HK HB HI0; have HK := n0_; have HB := n1_; have HI0 := n2_; clear n0_ n1_ n2_; (try clear hb hk hi)) | ((with_reducible refine gate_callee (f := 75) rfl ?_); refine goesL_ (some 13) rfl rfl Try.func75 (by kernel_rfl) rfl #[.pointer (some ⟨g, 0, none⟩), .int .i64 (wrap64 (1 + t101))] rfl tc0_ ?_; (with_reducible refine (spec_l1Cur_sure.calls k g s0_0 t102 t103 (wrap64 (1 + t101)) t104 t107 t108 w0 _ ?side1 ?side2 A4.out).mono ?_); (case side1 => exact tc3_); (case side2 => exact tc5_); rintro e w62 ⟨v105, rfl, ho0, hi, hb, hk⟩; refine ⟨_, rfl, ?_⟩; have n0_ := am_ (Kd.S_lower ho0 (keep_size (w := w) (g := g) (row := none) tc4_)); have n1_ := am_ (KeepBut.trans tc4_ hk (.inl rfl)); have n2_ := am_ (hb); have n3_ := am_ (hi); clear HK HB HI0; have HO106 := n0_; have HK := n1_; have HB := n2_; have HI0 := n3_; clear n0_ n1_ n2_ n3_; (try clear hb hk hi ho0)) | ((with_reducible refine gate_callee (f := 47) rfl ?_); refine goesL_ (some 15) rfl rfl Try.func47 (by kernel_rfl) rfl #[.pointer (some ⟨g, 0, none⟩), .int .i64 20] rfl tc0_ ?_; (with_reducible refine (spec_l1Cur_pick.calls g s0_0 t107 t108 20 t109 t110 t111 w0 _ ?side1 ?side2 A5.out).mono ?_); (case side1 => exact tc3_); (case side2 => exact tc5_); rintro e w63 ⟨rfl, hi, hb, hk⟩; refine ⟨_, rfl, ?_⟩; have n0_ := am_ (Kd.S_mono (Kd.S_keep (IsS44.apartS (show IsS44 w0 _ g s0_0 t107 t108 from tc3_) tc12_ (by decide)) hk (fun _ h => h.2)) (fun _ h => h.1)); have n1_ := am_ (KeepBut.trans tc4_ hk (.inl rfl)); have n2_ := am_ (hb); have n3_ := am_ (hi); clear HO106 HK; clear HB HI0; have HO106 := n0_; have HK := n1_; have HB := n2_; have HI0 := n3_; clear n0_ n1_ n2_ n3_; (try clear hb hk hi)) | ((with_reducible refine gate_callee (f := 75) rfl ?_); refine goesL_ (some 50) rfl rfl Try.func75 (by kernel_rfl) rfl #[.pointer (some ⟨g, 0, none⟩), .int .i64 6] rfl tc0_ ?_; (with_reducible refine (spec_l1Cur_sure.calls k g s0_0 t110 t111 6 t139 t142 t143 w0 _ ?side1 ?side2 A53.out).mono ?_); (case side1 => exact tc3_); (case side2 => exact tc5_); rintro e w64 ⟨v140, rfl, ho0, hi, hb, hk⟩; refine ⟨_, rfl, ?_⟩; have n0_ := am_ (Kd.S_mono (Kd.S_told (Kd.S_oldK (IsS44.apartS (show IsS44 w0 _ g s0_0 t110 t111 from tc3_) tc12_ (by decide)) hk) (Kd.S_base ho0)) (fun _ h_ => h_.1)); have n1_ := am_ (Kd.S_lower (Kd.S_new' ho0 (Kd.S_lt tc12_)) (keep_size (w := w) (g := g) (row := none) tc4_)); have n2_ := am_ (KeepBut.trans tc4_ hk (.inl rfl)); have n3_ := am_ (hb); have n4_ := am_ (hi); clear HO106 HK; clear HB HI0; have HO106 := n0_; have HO141 := n1_; have HK := n2_; have HB := n3_; have HI0 := n4_; clear n0_ n1_ n2_ n3_ n4_; (try clear hb hk hi ho0)) | ((with_reducible refine gate_callee (f := 46) rfl ?_); refine goesL_ (some 52) rfl rfl Try.func46 (by kernel_rfl) rfl #[.pointer (some ⟨g, 0, none⟩), .int .i64 2] rfl tc0_ ?_; (with_reducible refine (spec_l1Cur_one.calls g s0_0 t142 t143 2 false t145 t146 w0 _ ?side1 ?side2 A54.out).mono ?_); (case side1 => exact tc3_); (case side2 => exact tc5_); rintro e w65 ⟨rfl, hi, hb, hk⟩; refine ⟨_, rfl, ?_⟩; have n0_ := am_ (Kd.S_mono (Kd.S_keep (IsS44.apartS (show IsS44 w0 _ g s0_0 t142 t143 from tc3_) tc12_ (by decide)) hk (fun _ h => h.2)) (fun _ h => h.1)); have n1_ := am_ (Kd.S_mono (Kd.S_keep (IsS44.apartS (show IsS44 w0 _ g s0_0 t142 t143 from tc3_) (by (with_reducible repeat (first | apply Kd.S_alloc | apply Kd.S_drewN | apply Kd.S_drew)); exact HO141.out) (by decide)) hk (fun _ h => h.2)) (fun _ h => h.1)); have n2_ := am_ (KeepBut.trans tc4_ hk (.inl rfl)); have n3_ := am_ (hb); have n4_ := am_ (hi); clear HO106 HO141; clear HK HB HI0; have HO106 := n0_; have HO141 := n1_; have HK := n2_; have HB := n3_; have HI0 := n4_; clear n0_ n1_ n2_ n3_ n4_; (try clear hb hk hi)))
      go_ret
      exact ⟨_, by first | rfl | (simp [errW_none, errW_some] <;> rfl) | (simp [*, errW_none, errW_some] <;> rfl), by (with_reducible repeat (first | apply Kd.S_alloc | apply Kd.S_drewN | apply Kd.S_drew)); exact Kd.S_mono HO141.out (fun _ hk => trivial), by repeat (first | (with_reducible first | exact HI0.out | apply IsS44.alloc | apply IsS44.drewN | apply IsS44.drew | apply IsS44.set_1 | apply IsS44.set_2) | exact HI0.out), by repeat (first | (with_reducible first | exact HB.out | apply below_alloc | apply pw_below_drewN | apply below_drew1 | refine below_set ?_ (IsS44.ge HI0.out)) | exact HB.out), by repeat (first | (with_reducible first | exact HK.out | apply KeepBut.set_ | apply keep_drewN | apply keep_drew | apply keep_alloc) | exact HK.out)⟩
    ·rw [if_neg c52] at H
     have c52b0 : (t109 == 3) = false := beq_eq_false_iff_ne.mpr c52
     have c52b1 : (t109 != 3) = true := bne_iff_ne.mpr c52
     simp only [Option.some.injEq, Prod.mk.injEq] at H
     obtain ⟨rfl, rfl, rfl⟩ := H
     go_enter Try.func35, Try.ntmps35
     go_wp2_with (first | ((with_reducible refine gate_callee (f := 47) rfl ?_); refine goesL_ (some 9) rfl rfl Try.func47 (by kernel_rfl) rfl #[.pointer (some ⟨g, 0, none⟩), .int .i64 a1] rfl tc0_ ?_; (with_reducible refine (spec_l1Cur_pick.calls g s0_0 s0_1 s0_2 a1 t101 t102 t103 w0 _ ?side1 ?side2 A3.out).mono ?_); (case side1 => exact tc3_); (case side2 => exact tc5_); rintro e w66 ⟨rfl, hi, hb, hk⟩; refine ⟨_, rfl, ?_⟩; have n0_ := am_ (KeepBut.trans tc4_ hk (.inl rfl)); have n1_ := am_ (hb); have n2_ := am_ (hi); clear HK HB HI0; have HK := n0_; have HB := n1_; have HI0 := n2_; clear n0_ n1_ n2_; (try clear hb hk hi)) | ((with_reducible refine gate_callee (f := 75) rfl ?_); refine goesL_ (some 13) rfl rfl Try.func75 (by kernel_rfl) rfl #[.pointer (some ⟨g, 0, none⟩), .int .i64 (wrap64 (1 + t101))] rfl tc0_ ?_; (with_reducible refine (spec_l1Cur_sure.calls k g s0_0 t102 t103 (wrap64 (1 + t101)) t104 t107 t108 w0 _ ?side1 ?side2 A4.out).mono ?_); (case side1 => exact tc3_); (case side2 => exact tc5_); rintro e w67 ⟨v105, rfl, ho0, hi, hb, hk⟩; refine ⟨_, rfl, ?_⟩; have n0_ := am_ (Kd.S_lower ho0 (keep_size (w := w) (g := g) (row := none) tc4_)); have n1_ := am_ (KeepBut.trans tc4_ hk (.inl rfl)); have n2_ := am_ (hb); have n3_ := am_ (hi); clear HK HB HI0; have HO106 := n0_; have HK := n1_; have HB := n2_; have HI0 := n3_; clear n0_ n1_ n2_ n3_; (try clear hb hk hi ho0)) | ((with_reducible refine gate_callee (f := 47) rfl ?_); refine goesL_ (some 15) rfl rfl Try.func47 (by kernel_rfl) rfl #[.pointer (some ⟨g, 0, none⟩), .int .i64 20] rfl tc0_ ?_; (with_reducible refine (spec_l1Cur_pick.calls g s0_0 t107 t108 20 t109 t110 t111 w0 _ ?side1 ?side2 A5.out).mono ?_); (case side1 => exact tc3_); (case side2 => exact tc5_); rintro e w68 ⟨rfl, hi, hb, hk⟩; refine ⟨_, rfl, ?_⟩; have n0_ := am_ (Kd.S_mono (Kd.S_keep (IsS44.apartS (show IsS44 w0 _ g s0_0 t107 t108 from tc3_) tc12_ (by decide)) hk (fun _ h => h.2)) (fun _ h => h.1)); have n1_ := am_ (KeepBut.trans tc4_ hk (.inl rfl)); have n2_ := am_ (hb); have n3_ := am_ (hi); clear HO106 HK; clear HB HI0; have HO106 := n0_; have HK := n1_; have HB := n2_; have HI0 := n3_; clear n0_ n1_ n2_ n3_; (try clear hb hk hi)))
     go_ret
     exact ⟨_, by first | rfl | (simp [errW_none, errW_some] <;> rfl) | (simp [*, errW_none, errW_some] <;> rfl), by (with_reducible repeat (first | apply Kd.S_alloc | apply Kd.S_drewN | apply Kd.S_drew)); exact HO106.out, by repeat (first | (with_reducible first | exact HI0.out | apply IsS44.alloc | apply IsS44.drewN | apply IsS44.drew | apply IsS44.set_1 | apply IsS44.set_2) | exact HI0.out), by repeat (first | (with_reducible first | exact HB.out | apply below_alloc | apply pw_below_drewN | apply below_drew1 | refine below_set ?_ (IsS44.ge HI0.out)) | exact HB.out), by repeat (first | (with_reducible first | exact HK.out | apply KeepBut.set_ | apply keep_drewN | apply keep_drew | apply keep_alloc) | exact HK.out)⟩

/-! ### spec_DrawKindsOf: function 6 -/
def spec_DrawKindsOf.f (k : Nat) (l0 : List Int) : Option ((List (List Int))) := (spec_l1Cur_signs.f k l0 0 0 5).bind fun bt102 => (some bt102.1)
set_option maxHeartbeats 8000000 in
set_option maxRecDepth 100000 in
theorem spec_DrawKindsOf.calls (k : Nat) (A0 : Option Addr) (c0 : Nat) (l0 : List Int) (r : List (List Int)) (w : World) (hr0 : Kd.C (Kd.int .u8) w A0 l0.length l0) (hc0 : l0.length ≤ c0) (h : spec_DrawKindsOf.f k l0 = some r) :
  Calls Try.prog 6 #[.slice A0 l0.length c0] w fun e w' => ∃ v0_ : Value, e = .returned (v0_) ∧ Kd.S (Kd.slice 3 (Kd.int .i64)) 28 w' w.heap.size (fun _ => True) v0_ r ∧ Below w.heap.size w w' := by
 have hu44 := Try.underlying44
 have HR0 := am_ hr0
 have HC0 := am_ hc0
 clear hr0 hc0
 have HB := am_ (Below.refl w.heap.size w)
 have H : ((spec_l1Cur_signs.f k l0 0 0 5).bind fun bt102 => (some bt102.1)) = some r := h
 clear h
 replace H := Option.bind_eq_some_iff.mp H
 obtain ⟨⟨t102, t105, t106⟩, A20, H⟩ := H
 replace H : (some t102) = some r := H
 have A2 := am_ A20
 clear A20
 obtain rfl := Option.some.inj H
 go_enter Try.func6, Try.ntmps6
 go_wp2_with (first | ((with_reducible refine gate_dst (N := 6) rfl ?_); refine box_event ?hg (N := 6) ?hd (cs := #[.slice A0 l0.length c0, .int .i64 0, .int .u64 0]) (t := 44) ?hr ?_; (case hd => rfl); (case hg => rfl); (case hr => exact tc27_); intro gb101 hg w3 hbox hb; have n0_ := am_ (below_step tc1_ hb); have n1_ := am_ ((by rw [hg]; exact (below_size tc1_) : w.heap.size ≤ gb101)); have n2_ := am_ ((by rw [hg]; exact (below_size tc1_) : w.heap.size ≤ gb101)); have n3_ := am_ ((show IsS44 w w3 gb101 l0 0 0 from ⟨A0, c0, hbox, (by rw [hg]; exact (below_size tc1_) : w.heap.size ≤ gb101), HR0.out⟩)); clear HB; have HB := n0_; have GW101 := n1_; have GE101 := n2_; have HI101 := n3_; clear n0_ n1_ n2_ n3_; clear hb hbox hg) | ((with_reducible refine gate_callee (f := 35) rfl ?_); refine goesL_ (some 8) rfl rfl Try.func35 (by kernel_rfl) rfl #[.pointer (some ⟨gb101, 0, none⟩), .int .i64 5] rfl tc0_ ?_; (with_reducible refine (spec_l1Cur_signs.calls k gb101 l0 0 0 5 t102 t105 t106 w _ ?side1 ?side2 A2.out).mono ?_); (case side1 => exact tc7_); (case side2 => exact tc9_); rintro e w4 ⟨v103, rfl, ho0, hi, hb, hk⟩; refine ⟨_, rfl, ?_⟩; have n0_ := am_ (Kd.S_lower ho0 (below_size tc9_)); have n1_ := am_ (hb); have n2_ := am_ (hi); clear HB HI101; have HO104 := n0_; have HB := n1_; have HI101 := n2_; clear n0_ n1_ n2_; (try clear hb hk hi ho0)))
 go_ret
 exact ⟨_, by first | rfl | (simp [errW_none, errW_some] <;> rfl) | (simp [*, errW_none, errW_some] <;> rfl), by (with_reducible repeat (first | apply Kd.S_alloc | apply Kd.S_drewN | apply Kd.S_drew)); exact HO104.out, by repeat (first | (with_reducible first | exact HB.out | apply below_alloc | apply pw_below_drewN | apply below_drew1 | refine below_set ?_ (IsS44.ge HI101.out)) | exact HB.out)⟩

/-! ### impl_within: function 81 -/
def impl_within.f (a0 : Int) (a1 : Int) (a2 : Int) : Option (Bool) := if a1 ≤ a0 then (some (decide (a0 ≤ a2))) else (some false)
set_option maxHeartbeats 8000000 in
set_option maxRecDepth 100000 in
theorem impl_within.calls (a0 : Int) (a1 : Int) (a2 : Int) (r : Bool) (w : World) (h : impl_within.f a0 a1 a2 = some r) :
  Calls Try.prog 81 #[.int .i64 a0, .int .i64 a1, .int .i64 a2] w fun e w' => e = .returned (.bool r) ∧ Drawn0 w w' := by
 have H : (if a1 ≤ a0 then (some (decide (a0 ≤ a2))) else (some false)) = some r := h
 clear h
 by_cases c4 : a1 ≤ a0
 ·rw [if_pos c4] at H
  have c4b0 : decide (a1 ≤ a0) = true := decide_eq_true c4
  clear c4
  obtain rfl := Option.some.inj H
  go_enter Try.func81, Try.ntmps81
  go_wp2
  go_ret
  exact ⟨by first | rfl | (simp; done) | (simp [*]; done), by repeat (first | exact Drawn0.refl _ | apply Drawn0.step)⟩
 ·rw [if_neg c4] at H
  have c4b0 : decide (a1 ≤ a0) = false := decide_eq_false c4
  clear c4
  obtain rfl := Option.some.inj H
  go_enter Try.func81, Try.ntmps81
  go_wp2
  go_ret
  exact ⟨by first | rfl | (simp; done) | (simp [*]; done), by repeat (first | exact Drawn0.refl _ | apply Drawn0.step)⟩

/-! ### impl_isSide: function 42 -/
def impl_isSide.f (a0 : Int) : Option (Bool) := (impl_within.f a0 1 6).bind fun t101 => (some t101)
set_option maxHeartbeats 8000000 in
set_option maxRecDepth 100000 in
theorem impl_isSide.calls (a0 : Int) (r : Bool) (w : World) (h : impl_isSide.f a0 = some r) :
  Calls Try.prog 42 #[.int .i64 a0] w fun e w' => e = .returned (.bool r) ∧ Drawn0 w w' := by
 have H : ((impl_within.f a0 1 6).bind fun t101 => (some t101)) = some r := h
 clear h
 replace H := Option.bind_eq_some_iff.mp H
 obtain ⟨t101, A20, H⟩ := H
 replace H : (some t101) = some r := H
 have A2 := am_ A20
 clear A20
 obtain rfl := Option.some.inj H
 go_enter Try.func42, Try.ntmps42
 go_wp2_with (first | ((with_reducible refine gate_callee (f := 81) rfl ?_); refine goesL_ (some 4) rfl rfl Try.func81 (by kernel_rfl) rfl #[.int .i64 a0, .int .i64 1, .int .i64 6] rfl tc0_ ?_; (with_reducible refine (impl_within.calls a0 1 6 t101 _ A2.out).mono ?_); rintro e w' ⟨rfl, ⟨nd, rfl⟩⟩; refine ⟨_, rfl, ?_⟩))
 go_ret
 exact ⟨by first | rfl | (simp; done) | (simp [*]; done), by repeat (first | exact Drawn0.refl _ | apply Drawn0.step)⟩

/-! ### slices_IndexFunc_int_int: function 95 -/
def slices_IndexFunc_int_int.l0 : Nat → List (List Int) → ((List Int) → Option Bool) → Int → Int → Option (Int)
 | 0, _, _, _, _ => none
 | k + 1, x0, x1, x7, x8 => if x8 < x7 then (if 0 ≤ x8 then (if x8 < (x0.length : Int) then ((x1 (rd_L3 x0 x8)).bind fun t102 => (if t102 = true then (some x8) else (slices_IndexFunc_int_int.l0 k x0 x1 x7 (wrap64 (x8 + 1))))) else (none)) else (none)) else (some (-1))
def slices_IndexFunc_int_int.f (k : Nat) (l0 : List (List Int)) (a1 : ((List Int) → Option Bool)) : Option (Int) := slices_IndexFunc_int_int.l0 k l0 a1 (l0.length : Int) 0
set_option maxHeartbeats 8000000 in
set_option maxRecDepth 100000 in
theorem slices_IndexFunc_int_int.calls (k : Nat) (A0 : Option Addr) (c0 : Nat) (l0 : List (List Int)) (g1 : Nat) (b1 : Array Value) (a1 : ((List Int) → Option Bool)) (r : Int) (w : World) (hr0 : Kd.C (Kd.slice 3 (Kd.int .i64)) w A0 l0.length l0) (hc0 : l0.length ≤ c0) (hf1 : Fn1 (Kd.slice 3 (Kd.int .i64)) Value.bool Try.prog g1 b1 a1 w) (h : slices_IndexFunc_int_int.f k l0 a1 = some r) :
  Calls Try.prog 95 #[.slice A0 l0.length c0, .func (.func g1) #[] b1] w fun e w' => e = .returned (.int .i64 r) ∧ Below w.heap.size w w' := by
 have HR0 := am_ hr0
 have HC0 := am_ hc0
 clear hr0 hc0
 have HF1 := am_ hf1.cl
 have eg1 := hf1.eg
 clear hf1
 have HB := am_ (Below.refl w.heap.size w)
 have H : (slices_IndexFunc_int_int.l0 k l0 a1 (l0.length : Int) 0) = some r := h
 clear h
 have H' := am_ H
 clear H
 go_enter Try.func95, Try.ntmps95
 go_wp2
 go_loopg [8] k (fun kq v8 w' => ∃ (x8_1 : Int), v8 = .int .i64 x8_1 ∧ Aside0 (slices_IndexFunc_int_int.l0 kq l0 a1 (l0.length : Int) x8_1 = some r) ∧ Aside0 (kq ≤ k) ∧ Aside0 (Below w.heap.size w w'))
 case atStart => exact ⟨(0), tc6_, H', ⟨Nat.le_refl _⟩, ⟨by repeat (first | (with_reducible first | exact HB.out | apply below_alloc | apply pw_below_drewN | apply below_drew1) | exact HB.out)⟩⟩
 case round =>
  clear H'
  try clear p2
  obtain ⟨x8_1, rfl, HA, HK1, HB⟩ := hrel
  cases gk with
  | zero => exact absurd HA.out (by simp [slices_IndexFunc_int_int.l0])
  | succ k1 =>
   have H := HA.out
   clear HA
   simp only [slices_IndexFunc_int_int.l0] at H
   by_cases c3 : x8_1 < (l0.length : Int)
   ·rw [if_pos c3] at H
    have c3b0 : decide (x8_1 < (l0.length : Int)) = true := decide_eq_true c3
    clear c3
    by_cases c4 : 0 ≤ x8_1
    ·rw [if_pos c4] at H
     have c4b0 : decide (0 ≤ x8_1) = true := decide_eq_true c4
     clear c4
     by_cases c5 : x8_1 < (l0.length : Int)
     ·rw [if_pos c5] at H
      have c5b0 : decide (x8_1 < (l0.length : Int)) = true := decide_eq_true c5
      clear c5
      replace H := Option.bind_eq_some_iff.mp H
      obtain ⟨t102, A60, H⟩ := H
      replace H : (if t102 = true then (some x8_1) else (slices_IndexFunc_int_int.l0 k1 l0 a1 (l0.length : Int) (wrap64 (x8_1 + 1)))) = some r := H
      have A6 := am_ A60
      clear A60
      by_cases c7 : t102 = true
      ·subst c7
       have H1 : (some x8_1) = some r := by rw [if_pos rfl] at H; exact H
       clear H
       have H := H1
       clear H1
       obtain rfl := Option.some.inj H
       have p101 : 0 ≤ (x8_1 : Int) := of_decide_eq_true tc2_
       have q101 : x8_1 < (l0.length : Int) := of_decide_eq_true tc2_
       obtain ⟨ad101, A101_0, c101_0, e101, hx101_0, hl101_0, hi101_0⟩ := at_L3 HR0.out x8_1 p101 q101
       cases e101
       replace hx101_0 := (HB.out.cell (World.block_lt_of_cell? w _ hx101_0)).trans hx101_0
       have HR101_0 := am_ hi101_0
       have HC101_0 := am_ hl101_0
       clear hi101_0 hl101_0
       replace p101 := eq_true p101
       replace q101 := eq_true q101
       go_wp2_with (first | (go_at_fn g1; (refine (HF1.out _ ?side1 (rd_L3 l0 x8_1) _ (K_slice ?side2 ?side3) true A6.out).mono ?_); (case side1 => exact tc16_); (case side2 => exact HC101_0.out); (case side3 => exact tc34_); rintro e w8 ⟨rfl, hb⟩; have n0_ := am_ (below_step tc1_ hb); clear HB; have HB := n0_; clear n0_; (try clear hb)))
       go_ret
       exact ⟨by first | rfl | (simp [errW_none, errW_some] <;> rfl) | (simp [*, errW_none, errW_some] <;> rfl), by repeat (first | (with_reducible first | exact HB.out | apply below_alloc | apply pw_below_drewN | apply below_drew1) | exact HB.out)⟩
      ·replace c7 := Bool.eq_false_iff.mpr c7
       subst c7
       have H1 : (slices_IndexFunc_int_int.l0 k1 l0 a1 (l0.length : Int) (wrap64 (x8_1 + 1))) = some r := by rw [if_neg (show ¬ (false = true) by decide)] at H; exact H
       clear H
       have H := H1
       clear H1
       have H' := am_ H
       clear H
       have p101 : 0 ≤ (x8_1 : Int) := of_decide_eq_true tc2_
       have q101 : x8_1 < (l0.length : Int) := of_decide_eq_true tc2_
       obtain ⟨ad101, A101_0, c101_0, e101, hx101_0, hl101_0, hi101_0⟩ := at_L3 HR0.out x8_1 p101 q101
       cases e101
       replace hx101_0 := (HB.out.cell (World.block_lt_of_cell? w _ hx101_0)).trans hx101_0
       have HR101_0 := am_ hi101_0
       have HC101_0 := am_ hl101_0
       clear hi101_0 hl101_0
       replace p101 := eq_true p101
       replace q101 := eq_true q101
       go_wp2_with (first | (go_at_fn g1; (refine (HF1.out _ ?side1 (rd_L3 l0 x8_1) _ (K_slice ?side2 ?side3) false A6.out).mono ?_); (case side1 => exact tc16_); (case side2 => exact HC101_0.out); (case side3 => exact tc34_); rintro e w9 ⟨rfl, hb⟩; have n0_ := am_ (below_step tc1_ hb); clear HB; have HB := n0_; clear n0_; (try clear hb)))
       go_roundg k1
       case measure => have := HK1.out; omega
       case rel => exact ⟨(wrap64 (x8_1 + 1)), tc6_, H', ⟨by have := HK1.out; omega⟩, ⟨by repeat (first | (with_reducible first | exact HB.out | apply below_alloc | apply pw_below_drewN | apply below_drew1) | exact HB.out)⟩⟩
     ·rw [if_neg c5] at H
      exact absurd H (by simp)
    ·rw [if_neg c4] at H
     exact absurd H (by simp)
   ·rw [if_neg c3] at H
    have c3b0 : decide (x8_1 < (l0.length : Int)) = false := decide_eq_false c3
    clear c3
    obtain rfl := Option.some.inj H
    go_wp2
    go_ret
    exact ⟨by first | rfl | (simp [errW_none, errW_some] <;> rfl) | (simp [*, errW_none, errW_some] <;> rfl), by repeat (first | (with_reducible first | exact HB.out | apply below_alloc | apply pw_below_drewN | apply below_drew1) | exact HB.out)⟩

/-! ### slices_ContainsFunc_int_int: function 82 -/
def slices_ContainsFunc_int_int.f (k : Nat) (l0 : List (List Int)) (a1 : ((List Int) → Option Bool)) : Option (Bool) := (slices_IndexFunc_int_int.f k l0 a1).bind fun t101 => (some (decide (t101 ≥ 0)))
set_option maxHeartbeats 8000000 in
set_option maxRecDepth 100000 in
theorem slices_ContainsFunc_int_int.calls (k : Nat) (A0 : Option Addr) (c0 : Nat) (l0 : List (List Int)) (g1 : Nat) (b1 : Array Value) (a1 : ((List Int) → Option Bool)) (r : Bool) (w : World) (hr0 : Kd.C (Kd.slice 3 (Kd.int .i64)) w A0 l0.length l0) (hc0 : l0.length ≤ c0) (hf1 : Fn1 (Kd.slice 3 (Kd.int .i64)) Value.bool Try.prog g1 b1 a1 w) (h : slices_ContainsFunc_int_int.f k l0 a1 = some r) :
  Calls Try.prog 82 #[.slice A0 l0.length c0, .func (.func g1) #[] b1] w fun e w' => e = .returned (.bool r) ∧ Below w.heap.size w w' := by
 have HR0 := am_ hr0
 have HC0 := am_ hc0
 clear hr0 hc0
 have HF1 := am_ hf1.cl
 have eg1 := hf1.eg
 clear hf1
 have HB := am_ (Below.refl w.heap.size w)
 have H : ((slices_IndexFunc_int_int.f k l0 a1).bind fun t101 => (some (decide (t101 ≥ 0)))) = some r := h
 clear h
 replace H := Option.bind_eq_some_iff.mp H
 obtain ⟨t101, A30, H⟩ := H
 replace H : (some (decide (t101 ≥ 0))) = some r := H
 have A3 := am_ A30
 clear A30
 obtain rfl := Option.some.inj H
 go_enter Try.func82, Try.ntmps82
 go_wp2_with (first | ((with_reducible refine gate_callee (f := 95) rfl ?_); refine goesL_ (some 7) rfl rfl Try.func95 (by kernel_rfl) rfl #[.slice A0 l0.length c0, .func (.func g1) #[] b1] rfl tc0_ ?_; (with_reducible refine (slices_IndexFunc_int_int.calls k _ _ l0 _ _ a1 t101 _ ?side1 ?side2 ?side3 A3.out).mono ?_); (case side1 => exact tc8_); (case side2 => exact HC0.out); (case side3 => exact Fn1.later ⟨eg1, HF1.out⟩ tc1_); rintro e w4 ⟨rfl, hb⟩; refine ⟨_, rfl, ?_⟩; have n0_ := am_ (below_step tc1_ hb); clear HB; have HB := n0_; clear n0_; (try clear hb)))
 go_ret
 exact ⟨by first | rfl | (simp [errW_none, errW_some] <;> rfl) | (simp [*, errW_none, errW_some] <;> rfl), by repeat (first | (with_reducible first | exact HB.out | apply below_alloc | apply pw_below_drewN | apply below_drew1) | exact HB.out)⟩

/-! ### impl_isSquare_1: function 83 -/
def impl_isSquare_1.f (l0 : List Int) (l1_0 : List (List Int)) : Option (Bool) := some ((l0.length : Int) != (l1_0.length : Int))
set_option maxHeartbeats 8000000 in
set_option maxRecDepth 100000 in
theorem impl_isSquare_1.calls (A0 : Option Addr) (c0 : Nat) (l0 : List Int) (B1 : Nat) (A1_0 : Option Addr) (c1_0 : Nat) (l1_0 : List (List Int)) (r : Bool) (w : World) (hr0 : Kd.C (Kd.int .i64) w A0 l0.length l0) (hc0 : l0.length ≤ c0) (hb1 : w.heap[B1]? = some (.cells #[.slice A1_0 l1_0.length c1_0] 24 (0, 0))) (hr1_0 : Kd.C (Kd.slice 3 (Kd.int .i64)) w A1_0 l1_0.length l1_0) (hc1_0 : l1_0.length ≤ c1_0) (h : impl_isSquare_1.f l0 l1_0 = some r) :
  Calls Try.prog 83 #[.slice A0 l0.length c0, .pointer (some ⟨B1, 0, none⟩)] w fun e w' => e = .returned (.bool r) ∧ Drawn0 w w' := by
 have HR0 := am_ hr0
 have HC0 := am_ hc0
 clear hr0 hc0
 have HR1_0 := am_ hr1_0
 have HC1_0 := am_ hc1_0
 clear hr1_0 hc1_0
 have BK61 := am_ hb1
 clear hb1
 have H : (some ((l0.length : Int) != (l1_0.length : Int))) = some r := h
 clear h
 obtain rfl := Option.some.inj H
 have hcz3_0 : w.cell? ⟨B1, 0, none⟩ = some (.slice A1_0 l1_0.length c1_0) := (blk_cell BK61.out 0).trans rfl
 have hfz3_0 := blk_frozen BK61.out 0
 go_enter Try.func83, Try.ntmps83
 go_wp2
 go_ret
 exact ⟨by first | rfl | (simp; done) | (simp [*]; done), by repeat (first | exact Drawn0.refl _ | apply Drawn0.step)⟩

/-! ### impl_isSquare: function 43 -/
def impl_isSquare.f (k : Nat) (l0 : List (List Int)) : Option (Bool) := (slices_ContainsFunc_int_int.f k l0 (fun x0_ => impl_isSquare_1.f x0_ l0)).bind fun t102 => (some (!t102))
set_option maxHeartbeats 8000000 in
set_option maxRecDepth 100000 in
theorem impl_isSquare.calls (k : Nat) (A0 : Option Addr) (c0 : Nat) (l0 : List (List Int)) (r : Bool) (w : World) (hr0 : Kd.C (Kd.slice 3 (Kd.int .i64)) w A0 l0.length l0) (hc0 : l0.length ≤ c0) (h : impl_isSquare.f k l0 = some r) :
  Calls Try.prog 43 #[.slice A0 l0.length c0] w fun e w' => e = .returned (.bool r) ∧ Below w.heap.size w w' := by
 have HR0 := am_ hr0
 have HC0 := am_ hc0
 clear hr0 hc0
 have HB := am_ (Below.refl w.heap.size w)
 have H : ((slices_ContainsFunc_int_int.f k l0 (fun x0_ => impl_isSquare_1.f x0_ l0)).bind fun t102 => (some (!t102))) = some r := h
 clear h
 replace H := Option.bind_eq_some_iff.mp H
 obtain ⟨t102, A20, H⟩ := H
 replace H : (some (!t102)) = some r := H
 have A2 := am_ A20
 clear A20
 obtain rfl := Option.some.inj H
 go_enter Try.func43, Try.ntmps43
 go_wp2_with (first | ((with_reducible refine gate_dst (N := 1) rfl ?_); refine box_event ?hg (N := 1) ?hd (cs := #[.slice A0 l0.length c0]) (t := 24) ?hr ?_; (case hd => rfl); (case hg => rfl); (case hr => exact tc27_); intro gb101 hg w3 hbox hb; have n0_ := am_ (below_step tc1_ hb); have n1_ := am_ (hbox); have n2_ := am_ ((by rw [hg]; exact (below_size tc1_) : w.heap.size ≤ gb101)); have n3_ := am_ ((by rw [hg]; exact (below_size tc1_) : w.heap.size ≤ gb101)); clear HB; have HB := n0_; have BK101 := n1_; have GW101 := n2_; have GE101 := n3_; clear n0_ n1_ n2_ n3_; clear hb hbox hg; have hcz4_0 : w3.cell? ⟨gb101, 0, none⟩ = some (.slice A0 l0.length c0) := (blk_cell BK101.out 0).trans rfl; have hfz4_0 := blk_frozen BK101.out 0) | ((with_reducible refine gate_callee (f := 82) rfl ?_); refine goesL_ (some 5) rfl rfl Try.func82 (by kernel_rfl) rfl #[.slice A0 l0.length c0, .func (.func 83) #[] #[.pointer (some ⟨gb101, 0, none⟩)]] rfl tc0_ ?_; (with_reducible refine (slices_ContainsFunc_int_int.calls k _ _ l0 _ _ (fun x0_ => impl_isSquare_1.f x0_ l0) t102 _ ?side1 ?side2 ?side3 A2.out).mono ?_); (case side1 => exact tc13_); (case side2 => exact HC0.out); (case side3 => refine ⟨enters_of Try.func83 (by kernel_rfl) rfl, fun W_ hW_ x0_ v0_ hK0_ r_ hr_ => ?_⟩; obtain ⟨A0_, c0_, e0_, hl0_, hC0_⟩ := hK0_; cases e0_; refine (impl_isSquare_1.calls A0_ c0_ x0_ _ A0 c0 l0 r_ W_ hC0_ hl0_ ?cb1 ?cb2 ?cb3 hr_).mono ?_; (case cb1 => exact tc33_); (case cb2 => exact tc26_); (case cb3 => exact HC0.out); exact fun _ _ h_ => ⟨h_.1, h_.2.below⟩); rintro e w5 ⟨rfl, hb⟩; refine ⟨_, rfl, ?_⟩; have n0_ := am_ (blk_below (g := gb101) (o := .cells #[.slice A0 l0.length c0] 24 (0, 0)) tc14_ hb); have n1_ := am_ (below_step tc10_ hb); clear BK101 HB; have BK101 := n0_; have HB := n1_; clear n0_ n1_; (try clear hb)))
 go_ret
 exact ⟨by first | rfl | (simp [errW_none, errW_some] <;> rfl) | (simp [*, errW_none, errW_some] <;> rfl), by repeat (first | (with_reducible first | exact HB.out | apply below_alloc | apply pw_below_drewN | apply below_drew1 | refine below_set ?_ GE101.out) | exact HB.out)⟩

/-! ### impl_alternate: function 44 -/
def impl_alternate.l0 : Nat → Int → List Int → Int → Int → Option (Bool)
 | 0, _, _, _, _ => none
 | k + 1, x3, x6, x7, x8 => if x8 < x7 then (if 0 ≤ x8 then (if x8 < (x6.length : Int) then ((impl_within.f (rd x6 x8) (-1) 1).bind fun t102 => (if t102 = true then ((impl_within.f (wrap64 (x3 + (rd x6 x8))) 0 1).bind fun t103 => (if t103 = true then (impl_alternate.l0 k (wrap64 (x3 + (rd x6 x8))) x6 x7 (wrap64 (x8 + 1))) else (some false))) else (some false))) else (none)) else (none)) else (some (x3 == 1))
def impl_alternate.f (k : Nat) (l0 : List Int) : Option (Bool) := impl_alternate.l0 k 0 l0 (l0.length : Int) 0
set_option maxHeartbeats 8000000 in
set_option maxRecDepth 100000 in
theorem impl_alternate.calls (k : Nat) (A0 : Option Addr) (c0 : Nat) (l0 : List Int) (r : Bool) (w : World) (hr0 : Kd.C (Kd.int .i64) w A0 l0.length l0) (hc0 : l0.length ≤ c0) (h : impl_alternate.f k l0 = some r) :
  Calls Try.prog 44 #[.slice A0 l0.length c0] w fun e w' => e = .returned (.bool r) ∧ Drawn0 w w' := by
 have HR0 := am_ hr0
 have HC0 := am_ hc0
 clear hr0 hc0
 have H : (impl_alternate.l0 k 0 l0 (l0.length : Int) 0) = some r := h
 clear h
 have H' := am_ H
 clear H
 go_enter Try.func44, Try.ntmps44
 go_wp2
 go_loopg [3, 8] k (fun kq v3 v8 w' => ∃ (x3_1 : Int) (x8_1 : Int), v3 = .int .i64 x3_1 ∧ v8 = .int .i64 x8_1 ∧ Aside0 (impl_alternate.l0 kq x3_1 l0 (l0.length : Int) x8_1 = some r) ∧ Aside0 (kq ≤ k) ∧ Drawn0 w w')
 case atStart => exact ⟨(0), (0), tc6_, tc6_, H', ⟨Nat.le_refl _⟩, by repeat (first | exact Drawn0.refl _ | apply Drawn0.step)⟩
 case round =>
  clear H'
  obtain ⟨x3_1, x8_1, rfl, rfl, HA, HK1, ⟨m1, rfl⟩⟩ := hrel
  cases gk with
  | zero => exact absurd HA.out (by simp [impl_alternate.l0])
  | succ k1 =>
   have H := HA.out
   clear HA
   simp only [impl_alternate.l0] at H
   by_cases c2 : x8_1 < (l0.length : Int)
   ·rw [if_pos c2] at H
    have c2b0 : decide (x8_1 < (l0.length : Int)) = true := decide_eq_true c2
    clear c2
    by_cases c3 : 0 ≤ x8_1
    ·rw [if_pos c3] at H
     have c3b0 : decide (0 ≤ x8_1) = true := decide_eq_true c3
     clear c3
     by_cases c4 : x8_1 < (l0.length : Int)
     ·rw [if_pos c4] at H
      have c4b0 : decide (x8_1 < (l0.length : Int)) = true := decide_eq_true c4
      clear c4
      replace H := Option.bind_eq_some_iff.mp H
      obtain ⟨t102, A50, H⟩ := H
      replace H : (if t102 = true then ((impl_within.f (wrap64 (x3_1 + (rd l0 x8_1))) 0 1).bind fun t103 => (if t103 = true then (impl_alternate.l0 k1 (wrap64 (x3_1 + (rd l0 x8_1))) l0 (l0.length : Int) (wrap64 (x8_1 + 1))) else (some false))) else (some false)) = some r := H
      have A5 := am_ A50
      clear A50
      by_cases c6 : t102 = true
      ·subst c6
       have H1 : ((impl_within.f (wrap64 (x3_1 + (rd l0 x8_1))) 0 1).bind fun t103 => (if t103 = true then (impl_alternate.l0 k1 (wrap64 (x3_1 + (rd l0 x8_1))) l0 (l0.length : Int) (wrap64 (x8_1 + 1))) else (some false))) = some r := by rw [if_pos rfl] at H; exact H
       clear H
       have H := H1
       clear H1
       replace H := Option.bind_eq_some_iff.mp H
       obtain ⟨t103, A70, H⟩ := H
       replace H : (if t103 = true then (impl_alternate.l0 k1 (wrap64 (x3_1 + (rd l0 x8_1))) l0 (l0.length : Int) (wrap64 (x8_1 + 1))) else (some false)) = some r := H
       have A7 := am_ A70
       clear A70
       by_cases c8 : t103 = true
       ·subst c8
        have H1 : (impl_alternate.l0 k1 (wrap64 (x3_1 + (rd l0 x8_1))) l0 (l0.length : Int) (wrap64 (x8_1 + 1))) = some r := by rw [if_pos rfl] at H; exact H
        clear H
        have H := H1
        clear H1
        have H' := am_ H
        clear H
        have p101 : 0 ≤ (x8_1 : Int) := of_decide_eq_true tc2_
        have q101 : x8_1 < (l0.length : Int) := of_decide_eq_true tc2_
        obtain ⟨ad101, e101, hx101_0⟩ := Kd.at_int HR0.out x8_1 p101 q101
        cases e101
        replace p101 := eq_true p101
        replace q101 := eq_true q101
        go_wp2_with (first | ((with_reducible refine gate_callee (f := 81) rfl ?_); refine goesL_ (some 16) rfl rfl Try.func81 (by kernel_rfl) rfl #[.int .i64 (rd l0 x8_1), .int .i64 (-1), .int .i64 1] rfl tc0_ ?_; (with_reducible refine (impl_within.calls (rd l0 x8_1) (-1) 1 true _ A5.out).mono ?_); rintro e w' ⟨rfl, ⟨nd, rfl⟩⟩; refine ⟨_, rfl, ?_⟩) | (go_at_call 81; (with_reducible refine (impl_within.calls (wrap64 (x3_1 + (rd l0 x8_1))) 0 1 true _ A7.out).mono ?_); rintro e w' ⟨rfl, ⟨nd, rfl⟩⟩))
        go_roundg k1
        case measure => have := HK1.out; omega
        case rel => exact ⟨(wrap64 (x3_1 + (rd l0 x8_1))), (wrap64 (x8_1 + 1)), tc6_, tc6_, H', ⟨by have := HK1.out; omega⟩, by repeat (first | exact Drawn0.refl _ | apply Drawn0.step)⟩
       ·replace c8 := Bool.eq_false_iff.mpr c8
        subst c8
        have H1 : (some false) = some r := by rw [if_neg (show ¬ (false = true) by decide)] at H; exact H
        clear H
        have H := H1
        clear H1
        obtain rfl := Option.some.inj H
        have p101 : 0 ≤ (x8_1 : Int) := of_decide_eq_true tc2_
        have q101 : x8_1 < (l0.length : Int) := of_decide_eq_true tc2_
        obtain ⟨ad101, e101, hx101_0⟩ := Kd.at_int HR0.out x8_1 p101 q101
        cases e101
        replace p101 := eq_true p101
        replace q101 := eq_true q101
        go_wp2_with (first | ((with_reducible refine gate_callee (f := 81) rfl ?_); refine goesL_ (some 16) rfl rfl Try.func81 (by kernel_rfl) rfl #[.int .i64 (rd l0 x8_1), .int .i64 (-1), .int .i64 1] rfl tc0_ ?_; (with_reducible refine (impl_within.calls (rd l0 x8_1) (-1) 1 true _ A5.out).mono ?_); rintro e w' ⟨rfl, ⟨nd, rfl⟩⟩; refine ⟨_, rfl, ?_⟩) | (go_at_call 81; (with_reducible refine (impl_within.calls (wrap64 (x3_1 + (rd l0 x8_1))) 0 1 false _ A7.out).mono ?_); rintro e w' ⟨rfl, ⟨nd, rfl⟩⟩))
        go_ret
        exact ⟨by first | rfl | (simp; done) | (simp [*]; done), by repeat (first | exact Drawn0.refl _ | apply Drawn0.step)⟩
      ·replace c6 := Bool.eq_false_iff.mpr c6
       subst c6
       have H1 : (some false) = some r := by rw [if_neg (show ¬ (false = true) by decide)] at H; exact H
       clear H
       have H := H1
       clear H1
       obtain rfl := Option.some.inj H
       have p101 : 0 ≤ (x8_1 : Int) := of_decide_eq_true tc2_
       have q101 : x8_1 < (l0.length : Int) := of_decide_eq_true tc2_
       obtain ⟨ad101, e101, hx101_0⟩ := Kd.at_int HR0.out x8_1 p101 q101
       cases e101
       replace p101 := eq_true p101
       replace q101 := eq_true q101
       go_wp2_with (first | ((with_reducible refine gate_callee (f := 81) rfl ?_); refine goesL_ (some 16) rfl rfl Try.func81 (by kernel_rfl) rfl #[.int .i64 (rd l0 x8_1), .int .i64 (-1), .int .i64 1] rfl tc0_ ?_; (with_reducible refine (impl_within.calls (rd l0 x8_1) (-1) 1 false _ A5.out).mono ?_); rintro e w' ⟨rfl, ⟨nd, rfl⟩⟩; refine ⟨_, rfl, ?_⟩))
       go_ret
       exact ⟨by first | rfl | (simp; done) | (simp [*]; done), by repeat (first | exact Drawn0.refl _ | apply Drawn0.step)⟩
     ·rw [if_neg c4] at H
      exact absurd H (by simp)
    ·rw [if_neg c3] at H
     exact absurd H (by simp)
   ·rw [if_neg c2] at H
    have c2b0 : decide (x8_1 < (l0.length : Int)) = false := decide_eq_false c2
    clear c2
    obtain rfl := Option.some.inj H
    go_wp2
    go_ret
    exact ⟨by first | rfl | (simp; done) | (simp [*]; done), by repeat (first | exact Drawn0.refl _ | apply Drawn0.step)⟩

/-! ### impl_column: function 45 -/
def impl_column.l0 : Nat → Int → List Int → List (List Int) → Int → Int → Option (List Int)
 | 0, _, _, _, _, _ => none
 | k + 1, x1, x5, x9, x10, x11 => if x11 < x10 then (if 0 ≤ x11 then (if x11 < (x9.length : Int) then (if 0 ≤ x1 then (if x1 < ((rd_L3 x9 x11).length : Int) then (if x5.length < 17592186044416 then (impl_column.l0 k x1 (x5 ++ [rd (rd_L3 x9 x11) x1]) x9 x10 (wrap64 (x11 + 1))) else (none)) else (none)) else (none)) else (none)) else (none)) else (some x5)
def impl_column.f (k : Nat) (l0 : List (List Int)) (a1 : Int) : Option (List Int) := impl_column.l0 k a1 (([] : List Int)) l0 (l0.length : Int) 0
set_option maxHeartbeats 8000000 in
set_option maxRecDepth 100000 in
theorem impl_column.calls (k : Nat) (A0 : Option Addr) (c0 : Nat) (l0 : List (List Int)) (a1 : Int) (r : List Int) (w : World) (hr0 : Kd.C (Kd.slice 3 (Kd.int .i64)) w A0 l0.length l0) (hc0 : l0.length ≤ c0) (h : impl_column.f k l0 a1 = some r) :
  Calls Try.prog 45 #[.slice A0 l0.length c0, .int .i64 a1] w fun e w' => ∃ v0_ : Value, e = .returned (v0_) ∧ Kd.R (Kd.int .i64) 3 w' w.heap.size (fun _ => True) v0_ r ∧ Below w.heap.size w w' := by
 have HR0 := am_ hr0
 have HC0 := am_ hc0
 clear hr0 hc0
 have HB := am_ (Below.refl w.heap.size w)
 have H : (impl_column.l0 k a1 (([] : List Int)) l0 (l0.length : Int) 0) = some r := h
 clear h
 obtain ⟨y101, hy101⟩ : ∃ y_ : List Int, y_ = (([] : List Int)) := ⟨_, rfl⟩
 replace H : (impl_column.l0 k a1 y101 l0 (l0.length : Int) 0) = some r := by first | (rw [hy101]; with_reducible exact H) | (have H2_ := (Option.bind_some _ _).symm.trans H; rw [hy101]; with_reducible exact H2_) | (have H2_ := (Option.bind_some _ _).symm.trans H; with_reducible exact H2_) | with_reducible exact H | (rw [hy101]; exact H) | exact H
 have Ny101 := am_ hy101
 clear hy101
 have H' := am_ H
 clear H
 go_enter Try.func45, Try.ntmps45
 go_wp2_with (first | ((with_reducible refine gate_dst (N := 8) rfl ?_); refine Kd.R_lit (Kd.int .i64) _ 3 ?hg (N := 8) ?hd (xs := ([] : List Int)) (inner := []) (ok := fun _ => True) (okp := fun _ => True) ?hr ?hp (fun _ hk => hk) trivial (Below.refl _ _) (Nat.le_refl _) (by simp) ?_; (case hd => rfl); (case hg => rfl); (case hr => exact tc27_); (case hp => exact (Reps.none _ _)); intro v102 w3 ho4 hb hg_ hnew_; clear hg_ hnew_; (first | rw [← Ny101.out] at ho4 | (simp only [Int.reduceToNat] at ho4; rw [← Ny101.out] at ho4)); have n0_ := am_ (Kd.R_lower ho4 (below_size tc1_)); have n1_ := am_ (below_step tc1_ hb); clear HB; have HO103 := n0_; have HB := n1_; clear n0_ n1_; clear hb ho4))
 go_loopg [5, 11] k (fun kq v5 v11 w' => ∃ (x5_1 : List Int) (x11_1 : Int), v11 = .int .i64 x11_1 ∧ Aside0 (impl_column.l0 kq a1 x5_1 l0 (l0.length : Int) x11_1 = some r) ∧ Aside0 (kq ≤ k) ∧ Aside0 (Kd.R (Kd.int .i64) 3 w' w.heap.size (fun _ => True) v5 x5_1) ∧ Aside0 (Below w.heap.size w w'))
 case atStart => exact ⟨(y101), (0), tc6_, H', ⟨Nat.le_refl _⟩, ⟨by (with_reducible repeat (first | apply Kd.R_alloc | apply Kd.R_drewN | apply Kd.R_drew)); exact HO103.out⟩, ⟨by repeat (first | (with_reducible first | exact HB.out | apply below_alloc | apply pw_below_drewN | apply below_drew1) | exact HB.out)⟩⟩
 case round =>
  clear H'
  try clear p2
  try clear c4
  obtain ⟨x5_1, x11_1, rfl, HA, HK1, HO_5, HB⟩ := hrel
  cases gk with
  | zero => exact absurd HA.out (by simp [impl_column.l0])
  | succ k1 =>
   have H := HA.out
   clear HA
   simp only [impl_column.l0] at H
   by_cases c5 : x11_1 < (l0.length : Int)
   ·rw [if_pos c5] at H
    have c5b0 : decide (x11_1 < (l0.length : Int)) = true := decide_eq_true c5
    clear c5
    by_cases c6 : 0 ≤ x11_1
    ·rw [if_pos c6] at H
     have c6b0 : decide (0 ≤ x11_1) = true := decide_eq_true c6
     clear c6
     by_cases c7 : x11_1 < (l0.length : Int)
     ·rw [if_pos c7] at H
      have c7b0 : decide (x11_1 < (l0.length : Int)) = true := decide_eq_true c7
      clear c7
      by_cases c8 : 0 ≤ a1
      ·rw [if_pos c8] at H
       have c8b0 : decide (0 ≤ a1) = true := decide_eq_true c8
       clear c8
       by_cases c9 : a1 < ((rd_L3 l0 x11_1).length : Int)
       ·rw [if_pos c9] at H
        have c9b0 : decide (a1 < ((rd_L3 l0 x11_1).length : Int)) = true := decide_eq_true c9
        clear c9
        by_cases c10 : x5_1.length < 17592186044416
        ·rw [if_pos c10] at H
         have LMc10 := am_ c10
         clear c10
         obtain ⟨y106, hy106⟩ : ∃ y_ : List Int, y_ = (x5_1 ++ [rd (rd_L3 l0 x11_1) a1]) := ⟨_, rfl⟩
         replace H : (impl_column.l0 k1 a1 y106 l0 (l0.length : Int) (wrap64 (x11_1 + 1))) = some r := by first | (rw [hy106]; with_reducible exact H) | (have H2_ := (Option.bind_some _ _).symm.trans H; rw [hy106]; with_reducible exact H2_) | (have H2_ := (Option.bind_some _ _).symm.trans H; with_reducible exact H2_) | with_reducible exact H | (rw [hy106]; exact H) | exact H
         have Ny106 := am_ hy106
         clear hy106
         have H' := am_ H
         clear H
         have p104 : 0 ≤ (x11_1 : Int) := of_decide_eq_true tc2_
         have q104 : x11_1 < (l0.length : Int) := of_decide_eq_true tc2_
         obtain ⟨ad104, A104_0, c104_0, e104, hx104_0, hl104_0, hi104_0⟩ := at_L3 HR0.out x11_1 p104 q104
         cases e104
         replace hx104_0 := (HB.out.cell (World.block_lt_of_cell? w _ hx104_0)).trans hx104_0
         have HR104_0 := am_ hi104_0
         have HC104_0 := am_ hl104_0
         clear hi104_0 hl104_0
         replace p104 := eq_true p104
         replace q104 := eq_true q104
         have p105 : 0 ≤ (a1 : Int) := of_decide_eq_true tc2_
         have q105 : a1 < ((rd_L3 l0 x11_1).length : Int) := of_decide_eq_true tc2_
         obtain ⟨ad105, e105, hx105_0⟩ := Kd.at_int HR104_0.out a1 p105 q105
         cases e105
         replace hx105_0 := (HB.out.cell (World.block_lt_of_cell? w _ hx105_0)).trans hx105_0
         replace p105 := eq_true p105
         replace q105 := eq_true q105
         go_wp2_with (first | ((with_reducible refine gate_builtin (b := .append) (xs := #[.tmp 15, .tmp 20]) rfl ?_); at_builtin; refine Kd.R_append (Kd.int .i64) (w0 := w) w.heap.size rfl (.tmp 15) (.tmp 20) 28 3 (.int .i64 0) 8 rfl Try.underlying28 info3 rfl (by decide) (by omega) u5 x5_1 (rd (rd_L3 l0 x11_1) a1) [.int .i64 (rd (rd_L3 l0 x11_1) a1)] (fun _ => True) (fun _ => False) rfl rfl ?aP (fun _ hk => hk.elim) ?aF ?aO ?aB ?aS ?aL ?_; (case aP => exact rfl); (case aB => exact tc16_); (case aF => exact (fun _ _ => trivial)); (case aO => exact (by (with_reducible repeat (first | apply Kd.R_alloc | apply Kd.R_drewN | apply Kd.R_drew)); exact HO_5.out)); (case aS => exact tc23_); (case aL => have := LMc10.out; omega); intro v107 w11 ho hb hg hat; rw [← Ny106.out] at ho; have n0_ := am_ (hb); have n1_ := am_ (ho); clear HB HO_5; have HB := n0_; have HO108 := n1_; clear n0_ n1_; clear ho hb hg hat))
         go_roundg k1
         case measure => have := HK1.out; omega
         case rel => exact ⟨(y106), (wrap64 (x11_1 + 1)), tc6_, H', ⟨by have := HK1.out; omega⟩, ⟨by (with_reducible repeat (first | apply Kd.R_alloc | apply Kd.R_drewN | apply Kd.R_drew)); exact HO108.out⟩, ⟨by repeat (first | (with_reducible first | exact HB.out | apply below_alloc | apply pw_below_drewN | apply below_drew1) | exact HB.out)⟩⟩
        ·rw [if_neg c10] at H
         exact absurd H (by simp)
       ·rw [if_neg c9] at H
        exact absurd H (by simp)
      ·rw [if_neg c8] at H
       exact absurd H (by simp)
     ·rw [if_neg c7] at H
      exact absurd H (by simp)
    ·rw [if_neg c6] at H
     exact absurd H (by simp)
   ·rw [if_neg c5] at H
    have c5b0 : decide (x11_1 < (l0.length : Int)) = false := decide_eq_false c5
    clear c5
    obtain rfl := Option.some.inj H
    go_wp2
    go_ret
    exact ⟨_, by first | rfl | (simp [errW_none, errW_some] <;> rfl) | (simp [*, errW_none, errW_some] <;> rfl), by (with_reducible repeat (first | apply Kd.R_alloc | apply Kd.R_drewN | apply Kd.R_drew)); exact HO_5.out, by repeat (first | (with_reducible first | exact HB.out | apply below_alloc | apply pw_below_drewN | apply below_drew1) | exact HB.out)⟩

/-! ### impl_IsSignMatrix: function 13 -/
mutual
def impl_IsSignMatrix.j0 : Nat → List (List Int) → Bool → Option (Bool)
 | 0, _, _ => none
 | k + 1, x0, x12 => if x12 = true then (some false) else (impl_IsSignMatrix.l0 k x0 (x0.length : Int) 0)
def impl_IsSignMatrix.l0 : Nat → List (List Int) → Int → Int → Option (Bool)
 | 0, _, _, _ => none
 | k + 1, x0, x14, x15 => if x15 < x14 then (if 0 ≤ x15 then (if x15 < (x0.length : Int) then ((impl_alternate.f k (rd_L3 x0 x15)).bind fun t104 => (if t104 = true then ((impl_column.f k x0 x15).bind fun t105 => ((impl_alternate.f k t105).bind fun t108 => (if t108 = true then (impl_IsSignMatrix.l0 k x0 x14 (wrap64 (x15 + 1))) else (some false)))) else (some false))) else (none)) else (none)) else (some true)
end
def impl_IsSignMatrix.f (k : Nat) (l0 : List (List Int)) : Option (Bool) := (impl_isSide.f (l0.length : Int)).bind fun t101 => (if t101 = true then ((impl_isSquare.f k l0).bind fun t102 => (impl_IsSignMatrix.j0 k l0 (!t102))) else (impl_IsSignMatrix.j0 k l0 true))
set_option maxHeartbeats 8000000 in
set_option maxRecDepth 100000 in
theorem impl_IsSignMatrix.calls (k : Nat) (A0 : Option Addr) (c0 : Nat) (l0 : List (List Int)) (r : Bool) (w : World) (hr0 : Kd.C (Kd.slice 3 (Kd.int .i64)) w A0 l0.length l0) (hc0 : l0.length ≤ c0) (h : impl_IsSignMatrix.f k l0 = some r) :
  Calls Try.prog 13 #[.slice A0 l0.length c0] w fun e w' => e = .returned (.bool r) ∧ Below w.heap.size w w' := by
 have HR0 := am_ hr0
 have HC0 := am_ hc0
 clear hr0 hc0
 have HB := am_ (Below.refl w.heap.size w)
 have H : ((impl_isSide.f (l0.length : Int)).bind fun t101 => (if t101 = true then ((impl_isSquare.f k l0).bind fun t102 => (impl_IsSignMatrix.j0 k l0 (!t102))) else (impl_IsSignMatrix.j0 k l0 true))) = some r := h
 clear h
 have HC2 := am_ H
 clear H
 go_enter Try.func13, Try.ntmps13
 go_upto_region 1 with (fail)
 go_cut [12] (fun v12 wc => ∃ (kq : Nat) (x12_1 : Bool), v12 = .bool x12_1 ∧ Aside0 (impl_IsSignMatrix.j0 kq l0 x12_1 = some r) ∧ Aside0 (kq ≤ k) ∧ Aside0 (Below w.heap.size w wc))
 case first =>
  have H := HC2.out
  clear HC2
  replace H := Option.bind_eq_some_iff.mp H
  obtain ⟨t101, A30, H⟩ := H
  replace H : (if t101 = true then ((impl_isSquare.f k l0).bind fun t102 => (impl_IsSignMatrix.j0 k l0 (!t102))) else (impl_IsSignMatrix.j0 k l0 true)) = some r := H
  have A3 := am_ A30
  clear A30
  by_cases c4 : t101 = true
  ·subst c4
   have H1 : ((impl_isSquare.f k l0).bind fun t102 => (impl_IsSignMatrix.j0 k l0 (!t102))) = some r := by rw [if_pos rfl] at H; exact H
   clear H
   have H := H1
   clear H1
   replace H := Option.bind_eq_some_iff.mp H
   obtain ⟨t102, A50, H⟩ := H
   replace H : (impl_IsSignMatrix.j0 k l0 (!t102)) = some r := H
   have A5 := am_ A50
   clear A50
   have H' := am_ H
   clear H
   go_wp2_with (first | ((with_reducible refine gate_callee (f := 42) rfl ?_); refine goesL_ (some 6) rfl rfl Try.func42 (by kernel_rfl) rfl #[.int .i64 (l0.length : Int)] rfl tc0_ ?_; (with_reducible refine (impl_isSide.calls (l0.length : Int) true _ A3.out).mono ?_); rintro e w' ⟨rfl, ⟨nd, rfl⟩⟩; refine ⟨_, rfl, ?_⟩) | (go_at_call 43; (with_reducible refine (impl_isSquare.calls k _ _ l0 t102 _ ?side1 ?side2 A5.out).mono ?_); (case side1 => exact tc17_); (case side2 => exact HC0.out); rintro e w6 ⟨rfl, hb⟩; have n0_ := am_ (below_step tc1_ hb); clear HB; have HB := n0_; clear n0_; (try clear hb)))
   go_meet
   case rel => exact ⟨_, (!t102), tc6_, H', ⟨by first | omega | exact Nat.le_refl _⟩, ⟨by repeat (first | (with_reducible first | exact HB.out | apply below_alloc | apply pw_below_drewN | apply below_drew1) | exact HB.out)⟩⟩
  ·replace c4 := Bool.eq_false_iff.mpr c4
   subst c4
   have H1 : (impl_IsSignMatrix.j0 k l0 true) = some r := by rw [if_neg (show ¬ (false = true) by decide)] at H; exact H
   clear H
   have H := H1
   clear H1
   have H' := am_ H
   clear H
   go_wp2_with (first | ((with_reducible refine gate_callee (f := 42) rfl ?_); refine goesL_ (some 6) rfl rfl Try.func42 (by kernel_rfl) rfl #[.int .i64 (l0.length : Int)] rfl tc0_ ?_; (with_reducible refine (impl_isSide.calls (l0.length : Int) false _ A3.out).mono ?_); rintro e w' ⟨rfl, ⟨nd, rfl⟩⟩; refine ⟨_, rfl, ?_⟩))
   go_meet
   case rel => exact ⟨_, (true), tc6_, H', ⟨by first | omega | exact Nat.le_refl _⟩, ⟨by repeat (first | (with_reducible first | exact HB.out | apply below_alloc | apply pw_below_drewN | apply below_drew1) | exact HB.out)⟩⟩
 case rest =>
  clear HC2
  try clear c1
  try clear p2
  try clear c4
  obtain ⟨kq, x12_1, rfl, HA, HJ1, HB⟩ := hcut
  cases kq with
  | zero => exact absurd HA.out (by simp [impl_IsSignMatrix.j0])
  | succ kj1 =>
   have H := HA.out
   clear HA
   simp only [impl_IsSignMatrix.j0] at H
   by_cases c7 : x12_1 = true
   ·subst c7
    have H1 : (some false) = some r := by rw [if_pos rfl] at H; exact H
    clear H
    have H := H1
    clear H1
    obtain rfl := Option.some.inj H
    go_wp2
    go_ret
    exact ⟨by first | rfl | (simp [errW_none, errW_some] <;> rfl) | (simp [*, errW_none, errW_some] <;> rfl), by repeat (first | (with_reducible first | exact HB.out | apply below_alloc | apply pw_below_drewN | apply below_drew1) | exact HB.out)⟩
   ·replace c7 := Bool.eq_false_iff.mpr c7
    subst c7
    have H1 : (impl_IsSignMatrix.l0 kj1 l0 (l0.length : Int) 0) = some r := by rw [if_neg (show ¬ (false = true) by decide)] at H; exact H
    clear H
    have H := H1
    clear H1
    have H' := am_ H
    clear H
    go_wp2
    go_loopg [15] kj1 (fun kq v15 w' => ∃ (x15_2 : Int), v15 = .int .i64 x15_2 ∧ Aside0 (impl_IsSignMatrix.l0 kq l0 (l0.length : Int) x15_2 = some r) ∧ Aside0 (kq ≤ kj1) ∧ Aside0 (Below w.heap.size w w'))
    case atStart => exact ⟨(0), tc6_, H', ⟨Nat.le_refl _⟩, ⟨by repeat (first | (with_reducible first | exact HB.out | apply below_alloc | apply pw_below_drewN | apply below_drew1) | exact HB.out)⟩⟩
    case round =>
     clear H'
     try clear c1
     try clear p2
     try clear c4
     try clear c7
     try clear p2
     obtain ⟨x15_2, rfl, HA, HK2, HB⟩ := hrel
     cases gk with
     | zero => exact absurd HA.out (by simp [impl_IsSignMatrix.l0])
     | succ k2 =>
      have H := HA.out
      clear HA
      simp only [impl_IsSignMatrix.l0] at H
      by_cases c8 : x15_2 < (l0.length : Int)
      ·rw [if_pos c8] at H
       have c8b0 : decide (x15_2 < (l0.length : Int)) = true := decide_eq_true c8
       clear c8
       by_cases c9 : 0 ≤ x15_2
       ·rw [if_pos c9] at H
        have c9b0 : decide (0 ≤ x15_2) = true := decide_eq_true c9
        clear c9
        by_cases c10 : x15_2 < (l0.length : Int)
        ·rw [if_pos c10] at H
         have c10b0 : decide (x15_2 < (l0.length : Int)) = true := decide_eq_true c10
         clear c10
         replace H := Option.bind_eq_some_iff.mp H
         obtain ⟨t104, A110, H⟩ := H
         replace H : (if t104 = true then ((impl_column.f k2 l0 x15_2).bind fun t105 => ((impl_alternate.f k2 t105).bind fun t108 => (if t108 = true then (impl_IsSignMatrix.l0 k2 l0 (l0.length : Int) (wrap64 (x15_2 + 1))) else (some false)))) else (some false)) = some r := H
         have A11 := am_ A110
         clear A110
         by_cases c12 : t104 = true
         ·subst c12
          have H1 : ((impl_column.f k2 l0 x15_2).bind fun t105 => ((impl_alternate.f k2 t105).bind fun t108 => (if t108 = true then (impl_IsSignMatrix.l0 k2 l0 (l0.length : Int) (wrap64 (x15_2 + 1))) else (some false)))) = some r := by rw [if_pos rfl] at H; exact H
          clear H
          have H := H1
          clear H1
          replace H := Option.bind_eq_some_iff.mp H
          obtain ⟨t105, A130, H⟩ := H
          replace H : ((impl_alternate.f k2 t105).bind fun t108 => (if t108 = true then (impl_IsSignMatrix.l0 k2 l0 (l0.length : Int) (wrap64 (x15_2 + 1))) else (some false))) = some r := H
          have A13 := am_ A130
          clear A130
          replace H := Option.bind_eq_some_iff.mp H
          obtain ⟨t108, A140, H⟩ := H
          replace H : (if t108 = true then (impl_IsSignMatrix.l0 k2 l0 (l0.length : Int) (wrap64 (x15_2 + 1))) else (some false)) = some r := H
          have A14 := am_ A140
          clear A140
          by_cases c15 : t108 = true
          ·subst c15
           have H1 : (impl_IsSignMatrix.l0 k2 l0 (l0.length : Int) (wrap64 (x15_2 + 1))) = some r := by rw [if_pos rfl] at H; exact H
           clear H
           have H := H1
           clear H1
           have H' := am_ H
           clear H
           have p103 : 0 ≤ (x15_2 : Int) := of_decide_eq_true tc2_
           have q103 : x15_2 < (l0.length : Int) := of_decide_eq_true tc2_
           obtain ⟨ad103, A103_0, c103_0, e103, hx103_0, hl103_0, hi103_0⟩ := at_L3 HR0.out x15_2 p103 q103
           cases e103
           replace hx103_0 := (HB.out.cell (World.block_lt_of_cell? w _ hx103_0)).trans hx103_0
           have HR103_0 := am_ hi103_0
           have HC103_0 := am_ hl103_0
           clear hi103_0 hl103_0
           replace p103 := eq_true p103
           replace q103 := eq_true q103
           go_wp2_with (first | ((with_reducible refine gate_callee (f := 44) rfl ?_); refine goesL_ (some 22) rfl rfl Try.func44 (by kernel_rfl) rfl #[.slice A103_0 (rd_L3 l0 x15_2).length c103_0] rfl tc0_ ?_; (with_reducible refine (impl_alternate.calls k2 _ _ (rd_L3 l0 x15_2) true _ ?side1 ?side2 A11.out).mono ?_); (case side1 => exact tc38_); (case side2 => exact HC103_0.out); rintro e w' ⟨rfl, ⟨nd, rfl⟩⟩; refine ⟨_, rfl, ?_⟩) | (go_at_call 45; (with_reducible refine (impl_column.calls k2 _ _ l0 x15_2 t105 _ ?side1 ?side2 A13.out).mono ?_); (case side1 => exact tc17_); (case side2 => exact HC0.out); rintro e w16 ⟨v106, rfl, ho0, hb⟩; have n0_ := am_ (Kd.R_lower ho0 (below_size tc1_)); have n1_ := am_ (below_step tc1_ hb); clear HB; have HO107 := n0_; have HB := n1_; clear n0_ n1_; (try clear hb ho0); obtain ⟨Ao17, co17, eo17⟩ := Kd.R_slice HO107.out; subst eo17) | (go_at_call 44; (with_reducible refine (impl_alternate.calls k2 _ _ t105 true _ ?side1 ?side2 A14.out).mono ?_); (case side1 => repeat (first | exact (Kd.R_reads' HO107.out).2.2 | (with_reducible refine Kd.C_alloc ?_ _) | (with_reducible refine Kd.C_drewN ?_ _) | (with_reducible refine Kd.C_drew ?_))); (case side2 => exact (Kd.R_reads' HO107.out).2.1); rintro e w' ⟨rfl, ⟨nd, rfl⟩⟩))
           go_roundg k2
           case measure => have := HJ1.out; have := HK2.out; omega
           case rel => exact ⟨(wrap64 (x15_2 + 1)), tc6_, H', ⟨by have := HJ1.out; have := HK2.out; omega⟩, ⟨by repeat (first | (with_reducible first | exact HB.out | apply below_alloc | apply pw_below_drewN | apply below_drew1) | exact HB.out)⟩⟩
          ·replace c15 := Bool.eq_false_iff.mpr c15
           subst c15
           have H1 : (some false) = some r := by rw [if_neg (show ¬ (false = true) by decide)] at H; exact H
           clear H
           have H := H1
           clear H1
           obtain rfl := Option.some.inj H
           have p103 : 0 ≤ (x15_2 : Int) := of_decide_eq_true tc2_
           have q103 : x15_2 < (l0.length : Int) := of_decide_eq_true tc2_
           obtain ⟨ad103, A103_0, c103_0, e103, hx103_0, hl103_0, hi103_0⟩ := at_L3 HR0.out x15_2 p103 q103
           cases e103
           replace hx103_0 := (HB.out.cell (World.block_lt_of_cell? w _ hx103_0)).trans hx103_0
           have HR103_0 := am_ hi103_0
           have HC103_0 := am_ hl103_0
           clear hi103_0 hl103_0
           replace p103 := eq_true p103
           replace q103 := eq_true q103
           go_wp2_with (first | ((with_reducible refine gate_callee (f := 44) rfl ?_); refine goesL_ (some 22) rfl rfl Try.func44 (by kernel_rfl) rfl #[.slice A103_0 (rd_L3 l0 x15_2).length c103_0] rfl tc0_ ?_; (with_reducible refine (impl_alternate.calls k2 _ _ (rd_L3 l0 x15_2) true _ ?side1 ?side2 A11.out).mono ?_); (case side1 => exact tc38_); (case side2 => exact HC103_0.out); rintro e w' ⟨rfl, ⟨nd, rfl⟩⟩; refine ⟨_, rfl, ?_⟩) | (go_at_call 45; (with_reducible refine (impl_column.calls k2 _ _ l0 x15_2 t105 _ ?side1 ?side2 A13.out).mono ?_); (case side1 => exact tc17_); (case side2 => exact HC0.out); rintro e w18 ⟨v106, rfl, ho0, hb⟩; have n0_ := am_ (Kd.R_lower ho0 (below_size tc1_)); have n1_ := am_ (below_step tc1_ hb); clear HB; have HO107 := n0_; have HB := n1_; clear n0_ n1_; (try clear hb ho0); obtain ⟨Ao19, co19, eo19⟩ := Kd.R_slice HO107.out; subst eo19) | (go_at_call 44; (with_reducible refine (impl_alternate.calls k2 _ _ t105 false _ ?side1 ?side2 A14.out).mono ?_); (case side1 => repeat (first | exact (Kd.R_reads' HO107.out).2.2 | (with_reducible refine Kd.C_alloc ?_ _) | (with_reducible refine Kd.C_drewN ?_ _) | (with_reducible refine Kd.C_drew ?_))); (case side2 => exact (Kd.R_reads' HO107.out).2.1); rintro e w' ⟨rfl, ⟨nd, rfl⟩⟩))
           go_ret
           exact ⟨by first | rfl | (simp [errW_none, errW_some] <;> rfl) | (simp [*, errW_none, errW_some] <;> rfl), by repeat (first | (with_reducible first | exact HB.out | apply below_alloc | apply pw_below_drewN | apply below_drew1) | exact HB.out)⟩
         ·replace c12 := Bool.eq_false_iff.mpr c12
          subst c12
          have H1 : (some false) = some r := by rw [if_neg (show ¬ (false = true) by decide)] at H; exact H
          clear H
          have H := H1
          clear H1
          obtain rfl := Option.some.inj H
          have p103 : 0 ≤ (x15_2 : Int) := of_decide_eq_true tc2_
          have q103 : x15_2 < (l0.length : Int) := of_decide_eq_true tc2_
          obtain ⟨ad103, A103_0, c103_0, e103, hx103_0, hl103_0, hi103_0⟩ := at_L3 HR0.out x15_2 p103 q103
          cases e103
          replace hx103_0 := (HB.out.cell (World.block_lt_of_cell? w _ hx103_0)).trans hx103_0
          have HR103_0 := am_ hi103_0
          have HC103_0 := am_ hl103_0
          clear hi103_0 hl103_0
          replace p103 := eq_true p103
          replace q103 := eq_true q103
          go_wp2_with (first | ((with_reducible refine gate_callee (f := 44) rfl ?_); refine goesL_ (some 22) rfl rfl Try.func44 (by kernel_rfl) rfl #[.slice A103_0 (rd_L3 l0 x15_2).length c103_0] rfl tc0_ ?_; (with_reducible refine (impl_alternate.calls k2 _ _ (rd_L3 l0 x15_2) false _ ?side1 ?side2 A11.out).mono ?_); (case side1 => exact tc38_); (case side2 => exact HC103_0.out); rintro e w' ⟨rfl, ⟨nd, rfl⟩⟩; refine ⟨_, rfl, ?_⟩))
          go_ret
          exact ⟨by first | rfl | (simp [errW_none, errW_some] <;> rfl) | (simp [*, errW_none, errW_some] <;> rfl), by repeat (first | (with_reducible first | exact HB.out | apply below_alloc | apply pw_below_drewN | apply below_drew1) | exact HB.out)⟩
        ·rw [if_neg c10] at H
         exact absurd H (by simp)
       ·rw [if_neg c9] at H
        exact absurd H (by simp)
      ·rw [if_neg c8] at H
       have c8b0 : decide (x15_2 < (l0.length : Int)) = false := decide_eq_false c8
       clear c8
       obtain rfl := Option.some.inj H
       go_wp2
       go_ret
       exact ⟨by first | rfl | (simp [errW_none, errW_some] <;> rfl) | (simp [*, errW_none, errW_some] <;> rfl), by repeat (first | (with_reducible first | exact HB.out | apply below_alloc | apply pw_below_drewN | apply below_drew1) | exact HB.out)⟩

/-! ### impl_changed: function 36 (by hand) -/
/-- A function value that makes a table of a table, as p says, wherever memory has only grown. -/
structure FnR (P : Program) (g : Nat) (lb : Array Value) (p : List (List Int) → Option (List (List Int))) (w : World) : Prop where
  eg : ∀ args w, (callFunc g args).run P w = .ok (.enter g args) w
  cl : ∀ W, Below w.heap.size w W → ∀ (A : Option Addr) (c : Nat) (x : List (List Int)), Kd.C (Kd.slice 3 (Kd.int .i64)) W A x.length x → x.length ≤ c → ∀ r, p x = some r →
    Calls P g (#[.slice A x.length c] ++ lb) W fun e W' => ∃ v, e = .returned v ∧ Kd.S (Kd.slice 3 (Kd.int .i64)) 28 W' W.heap.size (fun _ => True) v r ∧ Below W.heap.size W W'
def impl_changed.f (k : Nat) (l0 : List (List Int)) (p : List (List Int) → Option (List (List Int))) : Option (List (List Int) × Bool) := (impl_IsSignMatrix.f k l0).bind fun t => if t = true then (p l0).bind fun q => some (q, true) else some ([], false)
set_option maxHeartbeats 4000000 in
set_option maxRecDepth 100000 in
theorem impl_changed.calls (k : Nat) (A0 : Option Addr) (c0 : Nat) (l0 : List (List Int)) (g : Nat) (b : Array Value) (p : List (List Int) → Option (List (List Int))) (r1 : List (List Int)) (r2 : Bool) (w : World) (hr0 : Kd.C (Kd.slice 3 (Kd.int .i64)) w A0 l0.length l0) (hc0 : l0.length ≤ c0)
    (hf : FnR Try.prog g b p w) (h : impl_changed.f k l0 p = some (r1, r2)) :
    Calls Try.prog 36 #[.slice A0 l0.length c0, .func (.func g) #[] b] w fun e w' => ∃ v0_ : Value, e = .returned (.tuple #[v0_, .bool r2]) ∧ Kd.S (Kd.slice 3 (Kd.int .i64)) 28 w' w.heap.size (fun _ => True) v0_ r1 ∧ Below w.heap.size w w' := by
  have HR0 := am_ hr0
  have HC0 := am_ hc0
  have HF := am_ hf.cl
  have eg := hf.eg
  clear hr0 hc0 hf
  obtain ⟨t, ht, h⟩ := Option.bind_eq_some_iff.mp h
  have HT := am_ ht
  clear ht
  cases t with
  | true =>
    rw [if_pos rfl] at h
    obtain ⟨q, hq, h⟩ := Option.bind_eq_some_iff.mp h
    simp only [Option.some.injEq, Prod.mk.injEq] at h
    obtain ⟨rfl, rfl⟩ := h
    have HQ := am_ hq
    clear hq
    go_enter Try.func36, Try.ntmps36
    go_wp2_with (first | (go_at_call 13; (refine (impl_IsSignMatrix.calls k A0 c0 l0 true w HR0.out HC0.out HT.out).mono ?_); rintro e w1 ⟨rfl, hb1⟩; have HB1 := am_ hb1; clear hb1) | (go_at_fn g; (refine (HF.out w1 HB1.out A0 c0 l0 (Kd.C_below HR0.out HB1.out) HC0.out q HQ.out).mono ?_); rintro e w2 ⟨v2, rfl, ho2, hb2⟩; have HO2 := am_ ho2; have HB2 := am_ hb2; clear ho2 hb2))
    go_ret2
    exact ⟨_, rfl, Kd.S_lower HO2.out (below_size HB1.out), below_step HB1.out HB2.out⟩
  | false =>
    rw [if_neg (by simp)] at h
    simp only [Option.some.injEq, Prod.mk.injEq] at h
    obtain ⟨rfl, rfl⟩ := h
    go_enter Try.func36, Try.ntmps36
    go_wp2_with (go_at_call 13; (refine (impl_IsSignMatrix.calls k A0 c0 l0 false w HR0.out HC0.out HT.out).mono ?_); rintro e w1 ⟨rfl, hb1⟩; have HB1 := am_ hb1; clear hb1)
    go_ret2
    exact ⟨_, rfl, Kd.S_nil _ _ _ _ _, HB1.out⟩

/-! ### impl_table: function 48 -/
mutual
def impl_table.l0 : Nat → Int → (Int → Int → Option Int) → List (List Int) → Int → Int → Option ((List (List Int)))
 | 0, _, _, _, _, _ => none
 | k + 1, x1, x2, x7, x13, x14 => if x14 < x13 then (if 0 ≤ x1 then (if (x1 : Int).toNat ≤ 35184372088832 then (if 0 ≤ x14 then (if x14 < (x7.length : Int) then ((some (x7.set (x14 : Int).toNat (List.replicate (x1 : Int).toNat 0) : List (List Int))).bind fun y107 => (impl_table.l1 k x1 x2 y107 x14 x13 x14 ((rd_L3 y107 x14).length : Int) 0)) else (none)) else (none)) else (none)) else (none)) else (some x7)
def impl_table.l1 : Nat → Int → (Int → Int → Option Int) → List (List Int) → Int → Int → Int → Int → Int → Option ((List (List Int)))
 | 0, _, _, _, _, _, _, _, _ => none
 | k + 1, x1, x2, x7, x8, x13, x14, x26, x27 => if x27 < x26 then (if 0 ≤ x8 then (if x8 < (x7.length : Int) then ((x2 x8 x27).bind fun t110 => (if 0 ≤ x27 then (if x27 < ((rd_L3 x7 x8).length : Int) then (impl_table.l1 k x1 x2 (x7.set (x8 : Int).toNat ((rd_L3 x7 x8).set (x27 : Int).toNat t110)) x8 x13 x14 x26 (wrap64 (x27 + 1))) else (none)) else (none))) else (none)) else (none)) else (impl_table.l0 k x1 x2 x7 x13 (wrap64 (x14 + 1)))
end
def impl_table.f (k : Nat) (a0 : Int) (a1 : Int) (a2 : (Int → Int → Option Int)) : Option ((List (List Int))) := if 0 ≤ a0 then (if (a0 : Int).toNat ≤ 11728124029610 then ((some (List.replicate (a0 : Int).toNat [] : List (List Int))).bind fun y101 => (impl_table.l0 k a1 a2 y101 (y101.length : Int) 0)) else (none)) else (none)
def impl_table.T9 : Bool × List (List Nat × List Nat) := (true, [([], []), ([], []), ([0, 1], [0, 1]), ([2], [2]), ([], []), ([], []), ([], []), ([], []), ([5, 6, 7], [5, 6, 7]), ([3, 4, 0, 1, 2, 3, 4, 5, 6, 7, 8], [3, 4]), ([9, 8, 8, 0, 1, 2, 3, 4, 5, 6, 7, 8], [8, 9])])
def impl_table.B9 : List Nat := [0, 0, 3, 7, 0, 0, 0, 0, 224, 511, 1023]
theorem impl_table.tab9 : rtab .any (opsOf Try.f48 9) = impl_table.T9 := by kernel_rfl
theorem impl_table.bits9 : waitsOk impl_table.T9.2 impl_table.B9 = true := by kernel_rfl
set_option maxHeartbeats 8000000 in
set_option maxRecDepth 100000 in
theorem impl_table.calls (k : Nat) (a0 : Int) (a1 : Int) (g2 : Nat) (b2 : Array Value) (a2 : (Int → Int → Option Int)) (r : List (List Int)) (w : World) (hf2 : Fn2 (Kd.int .i64) (Kd.int .i64) (Value.int .i64) Try.prog g2 b2 a2 w) (h : impl_table.f k a0 a1 a2 = some r) :
  Calls Try.prog 48 #[.int .i64 a0, .int .i64 a1, .func (.func g2) #[] b2] w fun e w' => ∃ v0_ : Value, e = .returned (v0_) ∧ Kd.S (Kd.slice 3 (Kd.int .i64)) 28 w' w.heap.size (fun _ => True) v0_ r ∧ Below w.heap.size w w' := by
 have HF2 := am_ hf2.cl
 have eg2 := hf2.eg
 clear hf2
 have HB := am_ (Below.refl w.heap.size w)
 have H : (if 0 ≤ a0 then (if (a0 : Int).toNat ≤ 11728124029610 then ((some (List.replicate (a0 : Int).toNat [] : List (List Int))).bind fun y101 => (impl_table.l0 k a1 a2 y101 (y101.length : Int) 0)) else (none)) else (none)) = some r := h
 clear h
 by_cases c4 : 0 ≤ a0
 ·rw [if_pos c4] at H
  have c4b0 := eq_true c4
  have c4b1 : decide (0 ≤ a0) = true := decide_eq_true c4
  clear c4
  by_cases c5 : (a0 : Int).toNat ≤ 11728124029610
  ·rw [if_pos c5] at H
   have c5b0 := eq_true c5
   have c5b1 : decide ((a0 : Int).toNat ≤ 11728124029610) = true := decide_eq_true c5
   clear c5
   obtain ⟨y101, hy101⟩ : ∃ y_ : List (List Int), y_ = (List.replicate (a0 : Int).toNat []) := ⟨_, rfl⟩
   replace H : (impl_table.l0 k a1 a2 y101 (y101.length : Int) 0) = some r := by first | (rw [hy101]; with_reducible exact H) | (have H2_ := (Option.bind_some _ _).symm.trans H; rw [hy101]; with_reducible exact H2_) | (have H2_ := (Option.bind_some _ _).symm.trans H; with_reducible exact H2_) | with_reducible exact H | (rw [hy101]; exact H) | exact H
   have Ny101 := am_ hy101
   clear hy101
   have H' := am_ H
   clear H
   go_enter Try.func48, Try.ntmps48
   go_wp2_with (first | ((with_reducible refine gate_dst (N := 11) rfl ?_); refine Kd.S_make (Kd.slice 3 (Kd.int .i64)) _ 28 rfl (N := 11) rfl 24 _ _ rfl a0 rfl rfl Try.underlying24 (.slice none 0 0) 24 info28 rfl (by decide) (by omega) [] (ok := fun _ => True) (okp := fun _ => True) ⟨_, rfl, Kd.R_nil _ _ _ _ _⟩ (fun _ hk => hk) trivial (of_decide_eq_true tc2_) (Nat.le_trans (Nat.mul_le_mul_right _ (of_decide_eq_true tc2_ : a0.toNat ≤ 11728124029610)) (by omega)) (Below.refl _ _) (Nat.le_refl _) ?_; intro v102 w6 ho7 hb hg_ hnew_; clear hg_ hnew_; (first | rw [← Ny101.out] at ho7 | (simp only [Int.reduceToNat] at ho7; rw [← Ny101.out] at ho7)); have n0_ := am_ (Kd.S_lower ho7 (below_size tc1_)); have n1_ := am_ (below_step tc1_ hb); clear HB; have HO103 := n0_; have HB := n1_; clear n0_ n1_; clear hb ho7; obtain ⟨Ao8, co8, eo8⟩ := Kd.S_slice HO103.out; subst eo8))
   go_loopg [14] k (fun kq v14 w' => ∃ (x7_1 : List (List Int)) (x14_1 : Int), v14 = .int .i64 x14_1 ∧ Aside0 (impl_table.l0 kq a1 a2 x7_1 (y101.length : Int) x14_1 = some r) ∧ Aside0 (kq ≤ k) ∧ Aside0 (Kd.S (Kd.slice 3 (Kd.int .i64)) 28 w' w.heap.size (fun _ => True) (.slice Ao8 y101.length co8) x7_1) ∧ Aside0 (Below w.heap.size w w'))
   case atStart => exact ⟨(y101), (0), tc6_, H', ⟨Nat.le_refl _⟩, ⟨by (with_reducible repeat (first | apply Kd.S_alloc | apply Kd.S_drewN | apply Kd.S_drew)); exact HO103.out⟩, ⟨by repeat (first | (with_reducible first | exact HB.out | apply below_alloc | apply pw_below_drewN | apply below_drew1) | exact HB.out)⟩⟩
   case round =>
    clear H'
    try clear p2
    try clear c4
    try clear c4b0
    try clear c4b1
    try clear c5
    try clear c5b0
    try clear c5b1
    obtain ⟨x7_1, x14_1, rfl, HA, HK1, HO_7, HB⟩ := hrel
    have hl7_1 := (Kd.S_reads' HO_7.out).1
    rw [hl7_1] at HO_7
    (try simp only [hl7_1])
    cases gk with
    | zero => exact absurd HA.out (by simp [impl_table.l0])
    | succ k1 =>
     have H := HA.out
     clear HA
     simp only [impl_table.l0] at H
     by_cases c9 : x14_1 < (y101.length : Int)
     ·rw [if_pos c9] at H
      have c9b0 : decide (x14_1 < (y101.length : Int)) = true := decide_eq_true c9
      (try simp only [hl7_1] at c9b0)
      clear c9
      by_cases c10 : 0 ≤ a1
      ·rw [if_pos c10] at H
       have c10b0 := eq_true c10
       have c10b1 : decide (0 ≤ a1) = true := decide_eq_true c10
       clear c10
       by_cases c11 : (a1 : Int).toNat ≤ 35184372088832
       ·rw [if_pos c11] at H
        have c11b0 := eq_true c11
        have c11b1 : decide ((a1 : Int).toNat ≤ 35184372088832) = true := decide_eq_true c11
        clear c11
        obtain ⟨y104, hy104⟩ : ∃ y_ : List Int, y_ = (List.replicate (a1 : Int).toNat 0) := ⟨_, rfl⟩
        replace H : (if 0 ≤ x14_1 then (if x14_1 < (x7_1.length : Int) then ((some (x7_1.set (x14_1 : Int).toNat y104 : List (List Int))).bind fun y107 => (impl_table.l1 k1 a1 a2 y107 x14_1 (y101.length : Int) x14_1 ((rd_L3 y107 x14_1).length : Int) 0)) else (none)) else (none)) = some r := by first | (rw [hy104]; with_reducible exact H) | (have H2_ := (Option.bind_some _ _).symm.trans H; rw [hy104]; with_reducible exact H2_) | (have H2_ := (Option.bind_some _ _).symm.trans H; with_reducible exact H2_) | with_reducible exact H | (rw [hy104]; exact H) | exact H
        have Ny104 := am_ hy104
        clear hy104
        by_cases c12 : 0 ≤ x14_1
        ·rw [if_pos c12] at H
         have c12b0 : decide (0 ≤ x14_1) = true := decide_eq_true c12
         clear c12
         by_cases c13 : x14_1 < (x7_1.length : Int)
         ·rw [if_pos c13] at H
          have c13b0 : decide (x14_1 < (x7_1.length : Int)) = true := decide_eq_true c13
          (try simp only [hl7_1] at c13b0)
          clear c13
          obtain ⟨y107, hy107⟩ : ∃ y_ : List (List Int), y_ = (x7_1.set (x14_1 : Int).toNat y104) := ⟨_, rfl⟩
          replace H : (impl_table.l1 k1 a1 a2 y107 x14_1 (y101.length : Int) x14_1 ((rd_L3 y107 x14_1).length : Int) 0) = some r := by first | (rw [hy107]; with_reducible exact H) | (have H2_ := (Option.bind_some _ _).symm.trans H; rw [hy107]; with_reducible exact H2_) | (have H2_ := (Option.bind_some _ _).symm.trans H; with_reducible exact H2_) | with_reducible exact H | (rw [hy107]; exact H) | exact H
          have Ny107 := am_ hy107
          clear hy107
          have H' := am_ H
          clear H
          go_wp2_with (first | ((with_reducible refine gate_dst (N := 20) rfl ?_); refine Kd.R_make (Kd.int .i64) _ 3 rfl (N := 20) rfl 28 _ _ rfl a1 rfl rfl Try.underlying28 (.int .i64 0) 8 info3 rfl (by decide) (by omega) 0 (ok := fun _ => True) (okp := fun _ => True) rfl (fun _ hk => hk) trivial (of_decide_eq_true tc2_) (Nat.le_trans (Nat.mul_le_mul_right _ (of_decide_eq_true tc2_ : a1.toNat ≤ 35184372088832)) (by omega)) (Below.refl _ _) (Nat.le_refl _) ?_; intro v105 w15 ho16 hb hg_ hnew_; clear hg_ hnew_; (first | rw [← Ny104.out] at ho16 | (simp only [Int.reduceToNat] at ho16; rw [← Ny104.out] at ho16)); have n0_ := am_ (Kd.S_elder' (by (with_reducible repeat (first | apply Kd.S_alloc | apply Kd.S_drewN | apply Kd.S_drew)); exact HO_7.out) (Kd.R_base ho16) hb); have n1_ := am_ (Kd.R_lower ho16 (below_size tc1_)); have n2_ := am_ (below_step tc1_ hb); clear HO_7 HB; have HO_7 := n0_; have HO106 := n1_; have HB := n2_; clear n0_ n1_ n2_; clear hb ho16; have p14 : 0 ≤ (x14_1 : Int) := of_decide_eq_true tc2_; have q14 : (x14_1 : Int) < ((x7_1.length : Int) : Int) := of_decide_eq_true tc2_; obtain ⟨go14, co14, eo14, gb14, gl14, cl14, HG14⟩ := Kd.S_form HO_7.out (by omega); (first | cases eo14 | (injection eo14 with ea_ en_ ec_; (first | subst ea_ | (injection ea_ with ea_; subst ea_)); subst ec_; clear en_)); have GB14 := am_ gb14; have GG14 := am_ HG14; clear gb14 gl14 HG14; obtain ⟨_, ce14, hcl14, hM14, hcc14, hfr14, _, _⟩ := Kd.S_elem HO_7.out [] (x14_1 : Int) p14 q14; obtain ⟨ve14_0, rfl, ge14_0⟩ := hM14; have hx14_0 := hcc14 0 _ rfl; have hf14_0 := hfr14 0; (try simp only [show ((Kd.slice 3 (Kd.int .i64))).sz = 1 from rfl, Nat.mul_one, Nat.add_zero] at hx14_0); (try simp only [show ((Kd.slice 3 (Kd.int .i64))).sz = 1 from rfl, Nat.mul_one, Nat.add_zero] at hf14_0); (try clear hcl14 hcc14 hfr14 hM14); replace p14 := eq_true p14; replace q14 := eq_true q14; obtain ⟨Ao19, co19, eo19⟩ := Kd.R_slice HO106.out; subst eo19; have n_ := am_ (Kd.S_mono (ok' := (fun k_ => some k_ ≠ (.slice Ao19 y104.length co19 : Value).ownBlock)) HO_7.out (fun k_ hk => hk.2)); clear HO_7; have HO_7 := n_; clear n_; have HX17 := am_ (show Kd.S (Kd.slice 3 (Kd.int .i64)) 28 w15 w.heap.size (fun k_ => ((fun _ => True)) k_ ∧ ¬ ((fun k_ => some k_ = (.slice Ao19 y104.length co19 : Value).ownBlock)) k_) (.slice (some ⟨go14, 0, none⟩) x7_1.length co8) x7_1 from (by (with_reducible repeat (first | apply Kd.S_alloc | apply Kd.S_drewN | apply Kd.S_drew)); exact Kd.S_mono HO_7.out (fun k_ hk => ⟨trivial, fun e_ => hk e_⟩))); obtain ⟨oki17, ce17, hcl17, hM17, hcc17, hfr17, hoki17, hH17⟩ := Kd.S_elem HX17.out [] (x14_1 : Int) (of_decide_eq_true tc2_) (by have h_ : (x14_1 : Int) < ((x7_1.length : Int) : Int) := of_decide_eq_true tc2_; first | exact h_ | (have e_ := (Kd.S_reads' HO_7.out).1; omega) | simpa using h_); obtain ⟨ve17_0, rfl, ge17_0⟩ := hM17; have HP17 := Kd.S_seg hH17 (of_decide_eq_true tc2_) (by have h_ : (x14_1 : Int) < ((x7_1.length : Int) : Int) := of_decide_eq_true tc2_; first | exact h_ | (have e_ := (Kd.S_reads' HO_7.out).1; omega) | simpa using h_) (seg := [.slice Ao19 y104.length co19]) (j := 0) (show 1 ≤ 1 from (by decide)) (x' := y104) (Kd.M_row (Kd.R_mono (Kd.R_tight rfl (Kd.R_mono (ok' := fun k_ => ((fun _ => True)) k_ ∧ k_ ≠ go14) (Kd.R_apart' (HO106.out) (Kd.S_typed HO_7.out) (by decide)) (fun k_ hk => ⟨trivial, fun e_ => (hk.2) (by rw [e_]; rfl)⟩))) (fun _ h_ => Or.inr (h_)))) (fun _ hk => hk) (fun k_ hk_ => ((Kd.R_mono (ok' := fun k_ => ((fun _ => True)) k_ ∧ k_ ≠ go14) (Kd.R_apart' (HO106.out) (Kd.S_typed HO_7.out) (by decide)) (fun k_ hk => ⟨trivial, fun e_ => (hk.2) (by rw [e_]; rfl)⟩))).1 k_ hk_.symm); have hx17_0 := hcc17 0 _ rfl; (try simp only [show ((Kd.slice 3 (Kd.int .i64))).sz = 1 from rfl, Nat.mul_one, Nat.add_zero] at hx17_0); have hf17_0 := hfr17 0; (try simp only [show ((Kd.slice 3 (Kd.int .i64))).sz = 1 from rfl, Nat.mul_one, Nat.add_zero] at hf17_0); (try clear hcl17 hcc17 hfr17 hM17 hoki17 hH17); (try simp only [show ((Kd.slice 3 (Kd.int .i64))).sz = 1 from rfl, Nat.mul_one, Nat.add_zero] at HP17)) | ((with_reducible refine gate_store (t := 28) (p := 21) rfl ?_); refine store_event (t := 28) (p := 21) (v := ?vo_w18) (w1 := (w15.setCell ⟨go14, (x14_1 : Int).toNat, none⟩ (.slice Ao19 y104.length co19))) ?hg ?ho ?hn ?hr ?_; (case ho => rfl); (case hg => rfl); (case hn => rfl); (case hr => exact tc27_); intro w18 hw; have hg : w15.grownBy w18 (some go14) := (by rw [hw]; exact HP17.2); have hp_ : Kd.S (Kd.slice 3 (Kd.int .i64)) 28 w18 w.heap.size (fun _ => True) (.slice (some ⟨go14, 0, none⟩) x7_1.length co8) y107 := (by rw [hw, Ny107.out]; exact HP17.1); clear HP17; have n0_ := am_ (hp_); have n1_ := am_ ((by rw [hw]; exact below_set (HB.out) GB14.out : Below w.heap.size w w18)); clear HO_7 HB HO106; have HO_7 := n0_; have HB := n1_; clear n0_ n1_; clear hg hw hp_; have p108 : 0 ≤ (x14_1 : Int) := of_decide_eq_true tc2_; have q108 : x14_1 < (y107.length : Int) := (by have h_ : (x14_1 : Int) < ((x7_1.length : Int) : Int) := of_decide_eq_true tc2_; first | (have e_ := (Kd.S_reads' HO_7.out).1; omega) | simpa only [Ny107.out, List.length_set] using h_); have ql108 : ((x14_1 : Int) < ((x7_1.length : Int) : Int)) = True := eq_true (of_decide_eq_true tc2_); obtain ⟨ad108, A108_0, c108_0, e108, hx108_0, hl108_0, hi108_0⟩ := at_L3 (Kd.S_reads' HO_7.out).2.2 x14_1 p108 q108; obtain rfl : (⟨go14, 0, none⟩ : Addr) = ad108 := (by injection e108); obtain ⟨ce108, hce108, hMe108, hcc108⟩ := Kd.S_get HO_7.out [] x14_1 p108 (by first | exact q108 | exact of_decide_eq_true tc2_ | (have e_ := (Kd.S_reads' HO_7.out).1; omega)); obtain ⟨ve108_0, rfl, ge108_0⟩ := hMe108; have hv108_0 := hcc108 0 _ rfl; rw [Nat.add_zero, show ((Kd.slice 3 (Kd.int .i64))).sz = 1 from rfl, Nat.mul_one] at hv108_0; replace hv108_0 := Option.some.inj (hv108_0.symm.trans hx108_0); rw [hv108_0] at ge108_0; have HL108_0 := am_ (show Kd.R (Kd.int .i64) 3 _ _ _ _ (rd_L3 y107 x14_1) from ge108_0); clear hv108_0 ge108_0; have HX108_0 := am_ hx108_0; clear hcc108 hce108; (first | simp only [add_plain] at hx108_0 | simp only [add_at] at hx108_0 | simp only [Addr.add, Nat.zero_add] at hx108_0 | skip); have HR108_0 := am_ hi108_0; have HC108_0 := am_ hl108_0; clear hi108_0 hl108_0; replace p108 := eq_true p108; replace q108 := eq_true q108))
          go_loopg [27] k1 (fun kq v27 w' => ∃ (x7_2 : List (List Int)) (x27_2 : Int), v27 = .int .i64 x27_2 ∧ Aside0 (impl_table.l1 kq a1 a2 x7_2 x14_1 (y101.length : Int) x14_1 ((rd_L3 y107 x14_1).length : Int) x27_2 = some r) ∧ Aside0 (kq ≤ k1) ∧ Aside0 (Kd.S (Kd.slice 3 (Kd.int .i64)) 28 w' w.heap.size (fun _ => True) (.slice (some ⟨go14, 0, none⟩) x7_1.length co8) x7_2) ∧ Aside0 (Below w.heap.size w w'))
          case atStart => exact ⟨(y107), (0), tc6_, H', ⟨Nat.le_refl _⟩, ⟨by (try simp only [hl7_1]); (with_reducible repeat (first | apply Kd.S_alloc | apply Kd.S_drewN | apply Kd.S_drew)); exact HO_7.out⟩, ⟨by repeat (first | (with_reducible first | exact HB.out | apply below_alloc | apply pw_below_drewN | apply below_drew1) | exact HB.out)⟩⟩
          case round =>
           clear H'
           try clear c1
           try clear p1
           try clear q1
           try clear hx1
           try clear p2
           try clear c4
           try clear c4b0
           try clear c4b1
           try clear c5
           try clear c5b0
           try clear c5b1
           try clear c9
           try clear c9b0
           try clear c10
           try clear c10b0
           try clear c10b1
           try clear p10
           try clear q10
           try clear hx10
           try clear c11
           try clear c11b0
           try clear c11b1
           try clear c12
           try clear c12b0
           try clear c13
           try clear c13b0
           try clear c14
           try clear p14
           try clear q14
           try clear hx14
           try clear hf14
           try clear c17
           try clear hx17
           try clear hf17
           try clear hx108_0
           try clear hx14_0
           try clear hx17_0
           try clear p108
           try clear p14
           try clear p2
           try clear q108
           try clear q14
           obtain ⟨x7_2, x27_2, rfl, HA, HK2, HO_7, HB⟩ := hrel
           have hl7_2 := (Kd.S_reads' HO_7.out).1
           rw [hl7_2] at HO_7
           (try simp only [hl7_2])
           cases gk with
           | zero => exact absurd HA.out (by simp [impl_table.l1])
           | succ k2 =>
            have H := HA.out
            clear HA
            simp only [impl_table.l1] at H
            by_cases c20 : x27_2 < ((rd_L3 y107 x14_1).length : Int)
            ·rw [if_pos c20] at H
             have c20b0 : decide (x27_2 < ((rd_L3 y107 x14_1).length : Int)) = true := decide_eq_true c20
             (try simp only [hl7_1, hl7_2] at c20b0)
             clear c20
             by_cases c21 : 0 ≤ x14_1
             ·rw [if_pos c21] at H
              have c21b0 : decide (0 ≤ x14_1) = true := decide_eq_true c21
              clear c21
              by_cases c22 : x14_1 < (x7_2.length : Int)
              ·rw [if_pos c22] at H
               have c22b0 : decide (x14_1 < (x7_2.length : Int)) = true := decide_eq_true c22
               (try simp only [hl7_1, hl7_2] at c22b0)
               clear c22
               replace H := Option.bind_eq_some_iff.mp H
               obtain ⟨t110, A230, H⟩ := H
               replace H : (if 0 ≤ x27_2 then (if x27_2 < ((rd_L3 x7_2 x14_1).length : Int) then (impl_table.l1 k2 a1 a2 (x7_2.set (x14_1 : Int).toNat ((rd_L3 x7_2 x14_1).set (x27_2 : Int).toNat t110)) x14_1 (y101.length : Int) x14_1 ((rd_L3 y107 x14_1).length : Int) (wrap64 (x27_2 + 1))) else (none)) else (none)) = some r := H
               have A23 := am_ A230
               clear A230
               by_cases c24 : 0 ≤ x27_2
               ·rw [if_pos c24] at H
                have c24b0 : decide (0 ≤ x27_2) = true := decide_eq_true c24
                clear c24
                by_cases c25 : x27_2 < ((rd_L3 x7_2 x14_1).length : Int)
                ·rw [if_pos c25] at H
                 have c25b0 : decide (x27_2 < ((rd_L3 x7_2 x14_1).length : Int)) = true := decide_eq_true c25
                 (try simp only [hl7_1, hl7_2] at c25b0)
                 clear c25
                 obtain ⟨y111, hy111⟩ : ∃ y_ : List Int, y_ = ((rd_L3 x7_2 x14_1).set (x27_2 : Int).toNat t110) := ⟨_, rfl⟩
                 replace H : (impl_table.l1 k2 a1 a2 (x7_2.set (x14_1 : Int).toNat y111) x14_1 (y101.length : Int) x14_1 ((rd_L3 y107 x14_1).length : Int) (wrap64 (x27_2 + 1))) = some r := by first | (rw [hy111]; with_reducible exact H) | (have H2_ := (Option.bind_some _ _).symm.trans H; rw [hy111]; with_reducible exact H2_) | (have H2_ := (Option.bind_some _ _).symm.trans H; with_reducible exact H2_) | with_reducible exact H | (rw [hy111]; exact H) | exact H
                 have Ny111 := am_ hy111
                 clear hy111
                 obtain ⟨y113, hy113⟩ : ∃ y_ : List (List Int), y_ = (x7_2.set (x14_1 : Int).toNat y111) := ⟨_, rfl⟩
                 replace H : (impl_table.l1 k2 a1 a2 y113 x14_1 (y101.length : Int) x14_1 ((rd_L3 y107 x14_1).length : Int) (wrap64 (x27_2 + 1))) = some r := by first | (rw [hy113]; with_reducible exact H) | (have H2_ := (Option.bind_some _ _).symm.trans H; rw [hy113]; with_reducible exact H2_) | (have H2_ := (Option.bind_some _ _).symm.trans H; with_reducible exact H2_) | with_reducible exact H | (rw [hy113]; exact H) | exact H
                 have Ny113 := am_ hy113
                 clear hy113
                 have H' := am_ H
                 clear H
                 try go_wp2
                 have n0_ := am_ (Kd.S_drew HO_7.out)
                 have n1_ := am_ (below_drew1 HB.out)
                 clear HO_7
                 clear HB
                 have HO_7 := n0_
                 have HB := n1_
                 clear n0_ n1_
                 have p109 : 0 ≤ (x14_1 : Int) := of_decide_eq_true tc2_
                 have q109 : x14_1 < (x7_2.length : Int) := of_decide_eq_true tc2_
                 obtain ⟨ad109, A109_0, c109_0, e109, hx109_0, hl109_0, hi109_0⟩ := at_L3 (Kd.S_reads' HO_7.out).2.2 x14_1 p109 q109
                 obtain rfl : (⟨go14, 0, none⟩ : Addr) = ad109 := (by injection e109)
                 obtain ⟨ce109, hce109, hMe109, hcc109⟩ := Kd.S_get HO_7.out [] x14_1 p109 (by first | exact q109 | exact of_decide_eq_true tc2_ | (have e_ := (Kd.S_reads' HO_7.out).1; omega))
                 obtain ⟨ve109_0, rfl, ge109_0⟩ := hMe109
                 have hv109_0 := hcc109 0 _ rfl
                 rw [Nat.add_zero, show ((Kd.slice 3 (Kd.int .i64))).sz = 1 from rfl, Nat.mul_one] at hv109_0
                 replace hv109_0 := Option.some.inj (hv109_0.symm.trans hx109_0)
                 rw [hv109_0] at ge109_0
                 have HL109_0 := am_ (show Kd.R (Kd.int .i64) 3 _ _ _ _ (rd_L3 x7_2 x14_1) from ge109_0)
                 clear hv109_0 ge109_0
                 have HX109_0 := am_ hx109_0
                 clear hcc109 hce109
                 (first | simp only [add_plain] at hx109_0 | simp only [add_at] at hx109_0 | simp only [Addr.add, Nat.zero_add] at hx109_0 | skip)
                 have HR109_0 := am_ hi109_0
                 have HC109_0 := am_ hl109_0
                 clear hi109_0 hl109_0
                 replace p109 := eq_true p109
                 replace q109 := eq_true q109
                 refine start_ (n := 11) (S := fun w' => w'.cell? ⟨go14, (x14_1).toNat, none⟩ = some (.slice A109_0 (rd_L3 x7_2 x14_1).length c109_0)) (ds := [10]) #[false, false, false, false, false, false, false, false, false, false, false] (by kernel_rfl) rfl rfl (hx109_0) (fun hHeld => ?_); refine with_tabW impl_table.tab9 impl_table.bits9 (fun HT_ HW_ => ?_)
                 generalize wr.drew = w27 at HO_7 HB HL109_0 HR109_0 HX109_0 hx109_0 hHeld ⊢
                 refine pure_ (i := 0) (N := some 30) (v := ?_) (a' := ?_) #[true, false, false, false, false, false, false, false, false, false, false] rfl rfl (any_of HT_.out (by kernel_rfl)) (fun _ _ _ h => h) (Or.inl ⟨by rfl, ?_⟩) ?_ ?_
                 rotate_left
                 ·intro w'
                  go_simp
                  with_reducible rfl
                 rotate_left
                 ·simp only [Act.put, List.setIfInBounds_toArray, List.set_cons_zero, List.set_cons_succ, i64_w, i32_w]
                  rfl
                 refine pure_ (i := 1) (N := some 31) (v := ?_) (a' := ?_) #[true, true, false, false, false, false, false, false, false, false, false] rfl rfl (any_of HT_.out (by kernel_rfl)) (fun _ _ _ h => h) (Or.inl ⟨by rfl, ?_⟩) ?_ ?_
                 rotate_left
                 ·intro w'
                  go_simp
                  with_reducible rfl
                 rotate_left
                 ·simp only [Act.put, List.setIfInBounds_toArray, List.set_cons_zero, List.set_cons_succ, i64_w, i32_w]
                  rfl
                 refine pure_ (i := 2) (N := some 32) (v := ?_) (a' := ?_) #[true, true, true, false, false, false, false, false, false, false, false] rfl rfl (any_of HT_.out (by kernel_rfl)) (fun _ _ _ h => h) (Or.inl ⟨by rfl, ?_⟩) ?_ ?_
                 rotate_left
                 ·intro w'
                  go_simp
                  with_reducible rfl
                 rotate_left
                 ·simp only [Act.put, List.setIfInBounds_toArray, List.set_cons_zero, List.set_cons_succ, i64_w, i32_w]
                  rfl
                 refine pure_ (i := 4) (N := some 34) (v := ?_) (a' := ?_) #[true, true, true, false, true, false, false, false, false, false, false] rfl rfl (any_of HT_.out (by kernel_rfl)) (fun _ _ _ h => h) (Or.inl ⟨by rfl, ?_⟩) ?_ ?_
                 rotate_left
                 ·intro w'
                  go_simp
                  with_reducible rfl
                 rotate_left
                 ·simp only [Act.put, List.setIfInBounds_toArray, List.set_cons_zero, List.set_cons_succ, i64_w, i32_w]
                  rfl
                 refine pure_ (i := 5) (N := some 35) (v := ?_) (a' := ?_) #[true, true, true, false, true, true, false, false, false, false, false] rfl rfl (any_of HT_.out (by kernel_rfl)) (fun _ _ _ h => h) (Or.inl ⟨by rfl, ?_⟩) ?_ ?_
                 rotate_left
                 ·intro w'
                  go_simp
                  with_reducible rfl
                 rotate_left
                 ·simp only [Act.put, List.setIfInBounds_toArray, List.set_cons_zero, List.set_cons_succ, i64_w, i32_w]
                  rfl
                 refine pure_ (i := 6) (N := some 36) (v := ?_) (a' := ?_) #[true, true, true, false, true, true, true, false, false, false, false] rfl rfl (any_of HT_.out (by kernel_rfl)) (fun _ _ _ h => h) (Or.inl ⟨by rfl, ?_⟩) ?_ ?_
                 rotate_left
                 ·intro w'
                  go_simp
                  with_reducible rfl
                 rotate_left
                 ·simp only [Act.put, List.setIfInBounds_toArray, List.set_cons_zero, List.set_cons_succ, i64_w, i32_w]
                  rfl
                 refine pure_ (i := 7) (N := some 37) (v := ?_) (a' := ?_) #[true, true, true, false, true, true, true, true, false, false, false] rfl rfl (any_of HT_.out (by kernel_rfl)) (fun _ _ _ h => h) (Or.inl ⟨by rfl, ?_⟩) ?_ ?_
                 rotate_left
                 ·intro w'
                  go_simp
                  with_reducible rfl
                 rotate_left
                 ·simp only [Act.put, List.setIfInBounds_toArray, List.set_cons_zero, List.set_cons_succ, i64_w, i32_w]
                  rfl
                 refine take_ (i := 3) (N := some 33) (v := ?_) (a' := ?_) #[true, true, true, true, true, true, true, true, false, false, false] rfl rfl (take_ofW HT_.out HW_.out (by kernel_rfl)) (fun _ _ _ h => h) (Or.inl ⟨by rfl, ?_⟩) hHeld ?_ ?_
                 rotate_left
                 ·intro w' s0
                  go_simp
                  with_reducible rfl
                 rotate_left
                 ·simp only [Act.put, List.setIfInBounds_toArray, List.set_cons_zero, List.set_cons_succ, i64_w, i32_w]
                  rfl
                 refine one_ (i := 8) (N := some 38) #[true, true, true, true, true, true, true, true, true, false, false] rfl rfl (one_of HT_.out (by kernel_rfl)) (by decide) (fun K hK => ?_)
                 refine goesF_ eg2 #[.int .i64 x14_1, .int .i64 x27_2] (by rfl) rfl rfl (by first | rfl | (simp [Act.eval]; done)) tc37_ ?_
                 refine (HF2.out _ ?side1 x14_1 _ K_int x27_2 _ K_int t110 A23.out).mono ?_
                 (case side1 => exact tc16_)
                 rintro e w28 ⟨rfl, hb⟩
                 have HS0_ := (hb.cell (World.block_lt_of_cell? _ _ (hHeld))).trans (hHeld)
                 refine ⟨_, rfl, ?_⟩
                 have n0_ := am_ (Kd.S_below (by (with_reducible repeat (first | apply Kd.S_alloc | apply Kd.S_drewN | apply Kd.S_drew)); exact HO_7.out) hb)
                 have n1_ := am_ (Kd.R_below (by (with_reducible repeat (first | apply Kd.R_alloc | apply Kd.R_drewN | apply Kd.R_drew)); exact HL109_0.out) hb)
                 have n2_ := am_ (Kd.C_below (by repeat (first | (with_reducible exact HR109_0.out) | (with_reducible refine Kd.C_alloc ?_ _) | (with_reducible refine Kd.C_drewN ?_ _) | (with_reducible refine Kd.C_drew ?_) | exact HR109_0.out)) hb)
                 have n3_ := am_ (pw_cell_below hb HX109_0.out)
                 have n4_ := am_ (below_step tc1_ hb)
                 clear HO_7
                 clear HL109_0
                 clear HR109_0
                 clear HX109_0
                 clear HB
                 have HO_7 := n0_
                 have HL109_0 := n1_
                 have HR109_0 := n2_
                 have HX109_0 := n3_
                 have HB := n4_
                 clear n0_ n1_ n2_ n3_ n4_
                 (try clear hb)
                 (try clear hb2)
                 (try clear hk)
                 (try clear hi)
                 have p26 : 0 ≤ (x27_2 : Int) := of_decide_eq_true tc2_
                 have q26 : (x27_2 : Int) < (((rd_L3 x7_2 x14_1).length : Int) : Int) := of_decide_eq_true tc2_
                 obtain ⟨go26, co26, eo26, gb26, gl26, cl26, HG26⟩ := Kd.R_form HL109_0.out (by omega)
                 (first | cases eo26 | (injection eo26 with ea_ en_ ec_; (first | subst ea_ | (injection ea_ with ea_; subst ea_)); subst ec_; clear en_))
                 have GB26 := am_ gb26
                 have GG26 := am_ HG26
                 clear gb26 gl26 HG26
                 obtain ⟨hx26_0, hf26_0⟩ := Kd.R_celln 0 HL109_0.out (x27_2 : Int) p26 q26
                 replace p26 := eq_true p26
                 replace q26 := eq_true q26
                 have hq29 : (x14_1 : Int) < (x7_2.length : Int) := (by have h_ : (x14_1 : Int) < ((x7_2.length : Int) : Int) := of_decide_eq_true tc2_; first | exact h_ | (have e_ := (Kd.S_reads' HO_7.out).1; omega) | simpa only [List.length_set, List.length_set] using h_)
                 obtain ⟨oki29, ce29, hcl29, hM29, hcc29, hok29, hbk29⟩ := Kd.S_borrow HO_7.out [] (x14_1 : Int) (of_decide_eq_true tc2_) hq29
                 obtain ⟨ve29_0, rfl, ge29_0⟩ := hM29
                 have hv29 := hcc29 0 _ rfl
                 rw [Nat.add_zero, show ((Kd.slice 3 (Kd.int .i64))).sz = 1 from rfl, Nat.mul_one] at hv29
                 replace hv29 := Option.some.inj (hv29.symm.trans HX109_0.out)
                 subst hv29
                 clear hcc29 hcl29
                 replace ge29_0 := (show Kd.R (Kd.int .i64) 3 _ _ _ _ (rd_L3 x7_2 x14_1) from ge29_0)
                 have HP29 := Kd.R_putg ge29_0 (x27_2 : Int) t110
                 rw [← Ny111.out] at HP29
                 have HS29 := hbk29 HP29.2 (fun k_ e_ => by injection e_ with e_; subst e_; exact ge29_0.1 _ rfl) (x' := y111) (Kd.M_row HP29.1)
                 rw [← Ny113.out] at HS29
                 have HQ29 := am_ HS29
                 clear HP29 HS29 hbk29 hok29
                 refine hK.out _ _ (HS0_) (fun hHeld => ?_)
                 clear hK K
                 refine norm_ (a' := ?_) ?_ ?_
                 rotate_left
                 ·show Act.put _ (some 38) _ = _
                  simp only [Act.put, List.setIfInBounds_toArray, List.set_cons_zero, List.set_cons_succ, i64_w, i32_w]
                  rfl
                 refine pure_ (i := 9) (N := some 39) (v := ?_) (a' := ?_) #[true, true, true, true, true, true, true, true, true, true, false] rfl rfl (any_of HT_.out (by kernel_rfl)) (fun _ _ _ h => h) (Or.inl ⟨by rfl, ?_⟩) ?_ ?_
                 rotate_left
                 ·intro w'
                  go_simp
                  with_reducible rfl
                 rotate_left
                 ·simp only [Act.put, List.setIfInBounds_toArray, List.set_cons_zero, List.set_cons_succ, i64_w, i32_w]
                  rfl
                 refine last_ (i := 10) (N := none) #[true, true, true, true, true, true, true, true, true, true, true] rfl rfl (one_of HT_.out (by kernel_rfl)) (by decide) (fun K hK => ?_)
                 refine skip_ (w1 := ?_) (by rfl) rfl ?_ ?_
                 rotate_left
                 ·go_simp
                  rfl
                 refine hK.out _ _ ?_
                 clear hK K
                 refine done_ (done_of HT_.out (by kernel_rfl)) ?_
                 try go_wp2
                 (try simp only [← hl7_2])
                 go_roundg k2
                 case measure => have := HK1.out; have := HK2.out; omega
                 case rel => exact ⟨(y113), (wrap64 (x27_2 + 1)), tc6_, H', ⟨by have := HK1.out; have := HK2.out; omega⟩, ⟨by (try simp only [hl7_1]); (try simp only [hl7_2]); (with_reducible repeat (first | apply Kd.S_alloc | apply Kd.S_drewN | apply Kd.S_drew)); exact HQ29.out⟩, ⟨by repeat (first | (with_reducible first | exact HB.out | apply below_alloc | apply pw_below_drewN | apply below_drew1 | refine below_set ?_ GB26.out) | exact HB.out)⟩⟩
                ·rw [if_neg c25] at H
                 exact absurd H (by simp)
               ·rw [if_neg c24] at H
                exact absurd H (by simp)
              ·rw [if_neg c22] at H
               exact absurd H (by simp)
             ·rw [if_neg c21] at H
              exact absurd H (by simp)
            ·rw [if_neg c20] at H
             have c20b0 : decide (x27_2 < ((rd_L3 y107 x14_1).length : Int)) = false := decide_eq_false c20
             (try simp only [hl7_1, hl7_2] at c20b0)
             clear c20
             have H' := am_ H
             clear H
             go_wp2
             (try simp only [← hl7_1, ← hl7_2])
             go_roundg k2
             case measure => have := HK1.out; have := HK2.out; omega
             case rel => exact ⟨(x7_2), (wrap64 (x14_1 + 1)), tc6_, H', ⟨by have := HK1.out; have := HK2.out; omega⟩, ⟨by (try simp only [hl7_1]); (try simp only [hl7_2]); (with_reducible repeat (first | apply Kd.S_alloc | apply Kd.S_drewN | apply Kd.S_drew)); exact HO_7.out⟩, ⟨by repeat (first | (with_reducible first | exact HB.out | apply below_alloc | apply pw_below_drewN | apply below_drew1) | exact HB.out)⟩⟩
         ·rw [if_neg c13] at H
          exact absurd H (by simp)
        ·rw [if_neg c12] at H
         exact absurd H (by simp)
       ·rw [if_neg c11] at H
        exact absurd H (by simp)
      ·rw [if_neg c10] at H
       exact absurd H (by simp)
     ·rw [if_neg c9] at H
      have c9b0 : decide (x14_1 < (y101.length : Int)) = false := decide_eq_false c9
      (try simp only [hl7_1] at c9b0)
      clear c9
      obtain rfl := Option.some.inj H
      go_wp2
      go_ret
      exact ⟨_, by first | rfl | (simp [errW_none, errW_some] <;> rfl) | (simp [*, errW_none, errW_some] <;> rfl), by (with_reducible repeat (first | apply Kd.S_alloc | apply Kd.S_drewN | apply Kd.S_drew)); exact HO_7.out, by repeat (first | (with_reducible first | exact HB.out | apply below_alloc | apply pw_below_drewN | apply below_drew1) | exact HB.out)⟩
  ·rw [if_neg c5] at H
   exact absurd H (by simp)
 ·rw [if_neg c4] at H
  exact absurd H (by simp)

/-! ### impl_sum: function 78 -/
def impl_sum.l0 : Nat → Int → List Int → Int → Int → Option (Int)
 | 0, _, _, _, _ => none
 | k + 1, x3, x6, x7, x8 => if x8 < x7 then (if 0 ≤ x8 then (if x8 < (x6.length : Int) then (impl_sum.l0 k (wrap64 (x3 + (rd x6 x8))) x6 x7 (wrap64 (x8 + 1))) else (none)) else (none)) else (some x3)
def impl_sum.f (k : Nat) (l0 : List Int) : Option (Int) := impl_sum.l0 k 0 l0 (l0.length : Int) 0
set_option maxHeartbeats 8000000 in
set_option maxRecDepth 100000 in
theorem impl_sum.calls (k : Nat) (A0 : Option Addr) (c0 : Nat) (l0 : List Int) (r : Int) (w : World) (hr0 : Kd.C (Kd.int .i64) w A0 l0.length l0) (hc0 : l0.length ≤ c0) (h : impl_sum.f k l0 = some r) :
  Calls Try.prog 78 #[.slice A0 l0.length c0] w fun e w' => e = .returned (.int .i64 r) ∧ Drawn0 w w' := by
 have HR0 := am_ hr0
 have HC0 := am_ hc0
 clear hr0 hc0
 have H : (impl_sum.l0 k 0 l0 (l0.length : Int) 0) = some r := h
 clear h
 have H' := am_ H
 clear H
 go_enter Try.func78, Try.ntmps78
 go_wp2
 go_loopg [3, 8] k (fun kq v3 v8 w' => ∃ (x3_1 : Int) (x8_1 : Int), v3 = .int .i64 x3_1 ∧ v8 = .int .i64 x8_1 ∧ Aside0 (impl_sum.l0 kq x3_1 l0 (l0.length : Int) x8_1 = some r) ∧ Aside0 (kq ≤ k) ∧ Drawn0 w w')
 case atStart => exact ⟨(0), (0), tc6_, tc6_, H', ⟨Nat.le_refl _⟩, by repeat (first | exact Drawn0.refl _ | apply Drawn0.step)⟩
 case round =>
  clear H'
  obtain ⟨x3_1, x8_1, rfl, rfl, HA, HK1, ⟨m1, rfl⟩⟩ := hrel
  cases gk with
  | zero => exact absurd HA.out (by simp [impl_sum.l0])
  | succ k1 =>
   have H := HA.out
   clear HA
   simp only [impl_sum.l0] at H
   by_cases c2 : x8_1 < (l0.length : Int)
   ·rw [if_pos c2] at H
    have c2b0 : decide (x8_1 < (l0.length : Int)) = true := decide_eq_true c2
    clear c2
    by_cases c3 : 0 ≤ x8_1
    ·rw [if_pos c3] at H
     have c3b0 : decide (0 ≤ x8_1) = true := decide_eq_true c3
     clear c3
     by_cases c4 : x8_1 < (l0.length : Int)
     ·rw [if_pos c4] at H
      have c4b0 : decide (x8_1 < (l0.length : Int)) = true := decide_eq_true c4
      clear c4
      have H' := am_ H
      clear H
      have p101 : 0 ≤ (x8_1 : Int) := of_decide_eq_true tc2_
      have q101 : x8_1 < (l0.length : Int) := of_decide_eq_true tc2_
      obtain ⟨ad101, e101, hx101_0⟩ := Kd.at_int HR0.out x8_1 p101 q101
      cases e101
      replace p101 := eq_true p101
      replace q101 := eq_true q101
      go_wp2
      go_roundg k1
      case measure => have := HK1.out; omega
      case rel => exact ⟨(wrap64 (x3_1 + (rd l0 x8_1))), (wrap64 (x8_1 + 1)), tc6_, tc6_, H', ⟨by have := HK1.out; omega⟩, by repeat (first | exact Drawn0.refl _ | apply Drawn0.step)⟩
     ·rw [if_neg c4] at H
      exact absurd H (by simp)
    ·rw [if_neg c3] at H
     exact absurd H (by simp)
   ·rw [if_neg c2] at H
    have c2b0 : decide (x8_1 < (l0.length : Int)) = false := decide_eq_false c2
    clear c2
    obtain rfl := Option.some.inj H
    go_wp2
    go_ret
    exact ⟨by first | rfl | (simp; done) | (simp [*]; done), by repeat (first | exact Drawn0.refl _ | apply Drawn0.step)⟩

/-! ### impl_kinds_1: function 77 -/
def impl_kinds_1.f (k : Nat) (a0 : Int) (a1 : Int) (l2_0 : List (List Int)) : Option (Int) := if 0 ≤ a0 then (if a0 < (l2_0.length : Int) then (if 0 ≤ a1 then (if a1 < ((rd_L3 l2_0 a0).length : Int) then (if (rd (rd_L3 l2_0 a0) a1) = 1 then (some 4) else (if (rd (rd_L3 l2_0 a0) a1) = (-1) then (some 5) else (if a1 ≤ ((rd_L3 l2_0 a0).length : Int) then ((impl_sum.f k ((rd_L3 l2_0 a0).take (a1 : Int).toNat)).bind fun t105 => ((impl_column.f k l2_0 a1).bind fun t106 => (if a0 ≤ (t106.length : Int) then ((impl_sum.f k (t106.take (a0 : Int).toNat)).bind fun t113 => (some (wrap64 ((wrap64 (2 * t105)) + t113)))) else (none)))) else (none)))) else (none)) else (none)) else (none)) else (none)
def impl_kinds_1.T6 : Bool × List (List Nat × List Nat) := (true, [([], []), ([], []), ([0, 1], [0, 1]), ([2], [2]), ([], []), ([3, 4], [3, 4]), ([5], [5]), ([6], [6]), ([], []), ([], []), ([8, 9, 6], [8, 9]), ([], []), ([10, 11], [10, 11]), ([12, 10], [12]), ([7, 13], [7, 13]), ([14, 13, 0, 1, 2, 3, 4, 5, 6, 7, 8, 9, 10, 11, 12, 13, 14], [14])])
def impl_kinds_1.B6 : List Nat := [0, 0, 3, 7, 0, 31, 63, 127, 0, 0, 895, 0, 3967, 8063, 16383, 32767]
theorem impl_kinds_1.tab6 : rtab .any (opsOf Try.f77 6) = impl_kinds_1.T6 := by kernel_rfl
theorem impl_kinds_1.bits6 : waitsOk impl_kinds_1.T6.2 impl_kinds_1.B6 = true := by kernel_rfl
set_option maxHeartbeats 8000000 in
set_option maxRecDepth 100000 in
theorem impl_kinds_1.calls (k : Nat) (a0 : Int) (a1 : Int) (B2 : Nat) (A2_0 : Option Addr) (c2_0 : Nat) (l2_0 : List (List Int)) (r : Int) (w : World) (hb2 : w.heap[B2]? = some (.cells #[.slice A2_0 l2_0.length c2_0] 24 (0, 0))) (hr2_0 : Kd.C (Kd.slice 3 (Kd.int .i64)) w A2_0 l2_0.length l2_0) (hc2_0 : l2_0.length ≤ c2_0) (h : impl_kinds_1.f k a0 a1 l2_0 = some r) :
  Calls Try.prog 77 #[.int .i64 a0, .int .i64 a1, .pointer (some ⟨B2, 0, none⟩)] w fun e w' => e = .returned (.int .i64 r) ∧ Below w.heap.size w w' := by
 have HR2_0 := am_ hr2_0
 have HC2_0 := am_ hc2_0
 clear hr2_0 hc2_0
 have BK62 := am_ hb2
 clear hb2
 have HB := am_ (Below.refl w.heap.size w)
 have H : (if 0 ≤ a0 then (if a0 < (l2_0.length : Int) then (if 0 ≤ a1 then (if a1 < ((rd_L3 l2_0 a0).length : Int) then (if (rd (rd_L3 l2_0 a0) a1) = 1 then (some 4) else (if (rd (rd_L3 l2_0 a0) a1) = (-1) then (some 5) else (if a1 ≤ ((rd_L3 l2_0 a0).length : Int) then ((impl_sum.f k ((rd_L3 l2_0 a0).take (a1 : Int).toNat)).bind fun t105 => ((impl_column.f k l2_0 a1).bind fun t106 => (if a0 ≤ (t106.length : Int) then ((impl_sum.f k (t106.take (a0 : Int).toNat)).bind fun t113 => (some (wrap64 ((wrap64 (2 * t105)) + t113)))) else (none)))) else (none)))) else (none)) else (none)) else (none)) else (none)) = some r := h
 clear h
 by_cases c4 : 0 ≤ a0
 ·rw [if_pos c4] at H
  have c4b0 : decide (0 ≤ a0) = true := decide_eq_true c4
  clear c4
  by_cases c5 : a0 < (l2_0.length : Int)
  ·rw [if_pos c5] at H
   have c5b0 : decide (a0 < (l2_0.length : Int)) = true := decide_eq_true c5
   clear c5
   by_cases c6 : 0 ≤ a1
   ·rw [if_pos c6] at H
    have c6b0 : decide (0 ≤ a1) = true := decide_eq_true c6
    clear c6
    by_cases c7 : a1 < ((rd_L3 l2_0 a0).length : Int)
    ·rw [if_pos c7] at H
     have c7b0 : decide (a1 < ((rd_L3 l2_0 a0).length : Int)) = true := decide_eq_true c7
     clear c7
     by_cases c8 : (rd (rd_L3 l2_0 a0) a1) = 1
     ·rw [if_pos c8] at H
      have c8b0 : ((rd (rd_L3 l2_0 a0) a1) == 1) = true := beq_iff_eq.mpr c8
      have c8b1 : ((rd (rd_L3 l2_0 a0) a1) != 1) = false := bne_eq_false_iff_eq.mpr c8
      clear c8
      obtain rfl := Option.some.inj H
      have hcz9_0 : w.cell? ⟨B2, 0, none⟩ = some (.slice A2_0 l2_0.length c2_0) := (blk_cell BK62.out 0).trans rfl
      have hfz9_0 := blk_frozen BK62.out 0
      have p101 : 0 ≤ (a0 : Int) := of_decide_eq_true tc2_
      have q101 : a0 < (l2_0.length : Int) := of_decide_eq_true tc2_
      obtain ⟨ad101, A101_0, c101_0, e101, hx101_0, hl101_0, hi101_0⟩ := at_L3 HR2_0.out a0 p101 q101
      cases e101
      have HR101_0 := am_ hi101_0
      have HC101_0 := am_ hl101_0
      clear hi101_0 hl101_0
      replace p101 := eq_true p101
      replace q101 := eq_true q101
      have p102 : 0 ≤ (a1 : Int) := of_decide_eq_true tc2_
      have q102 : a1 < ((rd_L3 l2_0 a0).length : Int) := of_decide_eq_true tc2_
      obtain ⟨ad102, e102, hx102_0⟩ := Kd.at_int HR101_0.out a1 p102 q102
      cases e102
      replace p102 := eq_true p102
      replace q102 := eq_true q102
      go_enter Try.func77, Try.ntmps77
      go_wp2
      go_ret
      exact ⟨by first | rfl | (simp [errW_none, errW_some] <;> rfl) | (simp [*, errW_none, errW_some] <;> rfl), by repeat (first | (with_reducible first | exact HB.out | apply below_alloc | apply pw_below_drewN | apply below_drew1 | refine below_set ?_ GE62.out) | exact HB.out)⟩
     ·rw [if_neg c8] at H
      have c8b0 : ((rd (rd_L3 l2_0 a0) a1) == 1) = false := beq_eq_false_iff_ne.mpr c8
      have c8b1 : ((rd (rd_L3 l2_0 a0) a1) != 1) = true := bne_iff_ne.mpr c8
      by_cases c10 : (rd (rd_L3 l2_0 a0) a1) = (-1)
      ·rw [if_pos c10] at H
       have c10b0 : ((rd (rd_L3 l2_0 a0) a1) == (-1)) = true := beq_iff_eq.mpr c10
       have c10b1 : ((rd (rd_L3 l2_0 a0) a1) != (-1)) = false := bne_eq_false_iff_eq.mpr c10
       clear c10
       obtain rfl := Option.some.inj H
       have hcz11_0 : w.cell? ⟨B2, 0, none⟩ = some (.slice A2_0 l2_0.length c2_0) := (blk_cell BK62.out 0).trans rfl
       have hfz11_0 := blk_frozen BK62.out 0
       have p101 : 0 ≤ (a0 : Int) := of_decide_eq_true tc2_
       have q101 : a0 < (l2_0.length : Int) := of_decide_eq_true tc2_
       obtain ⟨ad101, A101_0, c101_0, e101, hx101_0, hl101_0, hi101_0⟩ := at_L3 HR2_0.out a0 p101 q101
       cases e101
       have HR101_0 := am_ hi101_0
       have HC101_0 := am_ hl101_0
       clear hi101_0 hl101_0
       replace p101 := eq_true p101
       replace q101 := eq_true q101
       have p102 : 0 ≤ (a1 : Int) := of_decide_eq_true tc2_
       have q102 : a1 < ((rd_L3 l2_0 a0).length : Int) := of_decide_eq_true tc2_
       obtain ⟨ad102, e102, hx102_0⟩ := Kd.at_int HR101_0.out a1 p102 q102
       cases e102
       replace p102 := eq_true p102
       replace q102 := eq_true q102
       go_enter Try.func77, Try.ntmps77
       go_wp2
       go_ret
       exact ⟨by first | rfl | (simp [errW_none, errW_some] <;> rfl) | (simp [*, errW_none, errW_some] <;> rfl), by repeat (first | (with_reducible first | exact HB.out | apply below_alloc | apply pw_below_drewN | apply below_drew1 | refine below_set ?_ GE62.out) | exact HB.out)⟩
      ·rw [if_neg c10] at H
       have c10b0 : ((rd (rd_L3 l2_0 a0) a1) == (-1)) = false := beq_eq_false_iff_ne.mpr c10
       have c10b1 : ((rd (rd_L3 l2_0 a0) a1) != (-1)) = true := bne_iff_ne.mpr c10
       have c12b0 := eq_true (of_decide_eq_true tc2_ : 0 ≤ a1)
       by_cases c13 : a1 ≤ ((rd_L3 l2_0 a0).length : Int)
       ·rw [if_pos c13] at H
        have c13b0 := eq_true c13
        have c13b1 : decide (a1 ≤ ((rd_L3 l2_0 a0).length : Int)) = true := decide_eq_true c13
        clear c13
        replace H := Option.bind_eq_some_iff.mp H
        obtain ⟨t105, A140, H⟩ := H
        replace H : ((impl_column.f k l2_0 a1).bind fun t106 => (if a0 ≤ (t106.length : Int) then ((impl_sum.f k (t106.take (a0 : Int).toNat)).bind fun t113 => (some (wrap64 ((wrap64 (2 * t105)) + t113)))) else (none))) = some r := H
        have A14 := am_ A140
        clear A140
        replace H := Option.bind_eq_some_iff.mp H
        obtain ⟨t106, A150, H⟩ := H
        replace H : (if a0 ≤ (t106.length : Int) then ((impl_sum.f k (t106.take (a0 : Int).toNat)).bind fun t113 => (some (wrap64 ((wrap64 (2 * t105)) + t113)))) else (none)) = some r := H
        have A15 := am_ A150
        clear A150
        have c16b0 := eq_true (of_decide_eq_true tc2_ : 0 ≤ a0)
        by_cases c17 : a0 ≤ (t106.length : Int)
        ·rw [if_pos c17] at H
         have c17b0 := eq_true c17
         have c17b1 : decide (a0 ≤ (t106.length : Int)) = true := decide_eq_true c17
         clear c17
         obtain ⟨y109, hy109⟩ : ∃ y_ : List Int, y_ = (t106.take (a0 : Int).toNat) := ⟨_, rfl⟩
         replace H : ((impl_sum.f k y109).bind fun t113 => (some (wrap64 ((wrap64 (2 * t105)) + t113)))) = some r := by first | (rw [hy109]; with_reducible exact H) | (have H2_ := (Option.bind_some _ _).symm.trans H; rw [hy109]; with_reducible exact H2_) | (have H2_ := (Option.bind_some _ _).symm.trans H; with_reducible exact H2_) | with_reducible exact H | (rw [hy109]; exact H) | exact H
         have Ny109 := am_ hy109
         clear hy109
         replace H := Option.bind_eq_some_iff.mp H
         obtain ⟨t113, A180, H⟩ := H
         replace H : (some (wrap64 ((wrap64 (2 * t105)) + t113))) = some r := H
         have A18 := am_ A180
         clear A180
         obtain rfl := Option.some.inj H
         have hcz19_0 : w.cell? ⟨B2, 0, none⟩ = some (.slice A2_0 l2_0.length c2_0) := (blk_cell BK62.out 0).trans rfl
         have hfz19_0 := blk_frozen BK62.out 0
         have p101 : 0 ≤ (a0 : Int) := of_decide_eq_true tc2_
         have q101 : a0 < (l2_0.length : Int) := of_decide_eq_true tc2_
         obtain ⟨ad101, A101_0, c101_0, e101, hx101_0, hl101_0, hi101_0⟩ := at_L3 HR2_0.out a0 p101 q101
         cases e101
         have HR101_0 := am_ hi101_0
         have HC101_0 := am_ hl101_0
         clear hi101_0 hl101_0
         replace p101 := eq_true p101
         replace q101 := eq_true q101
         have p102 : 0 ≤ (a1 : Int) := of_decide_eq_true tc2_
         have q102 : a1 < ((rd_L3 l2_0 a0).length : Int) := of_decide_eq_true tc2_
         obtain ⟨ad102, e102, hx102_0⟩ := Kd.at_int HR101_0.out a1 p102 q102
         cases e102
         replace p102 := eq_true p102
         replace q102 := eq_true q102
         go_enter Try.func77, Try.ntmps77
         try go_wp2
         have n0_ := am_ (blk_drew BK62.out)
         have n1_ := am_ (below_drew1 HB.out)
         clear BK62
         clear HB
         have BK62 := n0_
         have HB := n1_
         clear n0_ n1_
         have p103 : 0 ≤ (a0 : Int) := of_decide_eq_true tc2_
         have q103 : a0 < (l2_0.length : Int) := of_decide_eq_true tc2_
         obtain ⟨ad103, A103_0, c103_0, e103, hx103_0, hl103_0, hi103_0⟩ := at_L3 HR2_0.out a0 p103 q103
         have hw103_0 := hx103_0
         obtain rfl : ad101 = ad103 := (by injection e103)
         replace hx103_0 := (HB.out.cell (World.block_lt_of_cell? w _ hx103_0)).trans hx103_0
         have HR103_0 := am_ hi103_0
         have HC103_0 := am_ hl103_0
         clear hi103_0 hl103_0
         replace p103 := eq_true p103
         replace q103 := eq_true q103
         obtain ⟨i021, hi021, _, hsz21, _⟩ := info_parts info3
         obtain ⟨hcut21, hA21, hC21⟩ := print_take_of (P := Try.prog) (Value.int .i64) 0 28 3 .i64 Try.underlying28 hi021 hsz21 A103_0 c103_0 (rd_L3 l2_0 a0) a1 (of_decide_eq_true tc2_) (of_decide_eq_true tc2_) HC103_0.out
         have HR104 := am_ (Kd.C_of_reads (h1 := fun _ => rfl) (hA21 _ (Kd.reads_of_C HR103_0.out)))
         have HC104 := am_ hC21
         clear hA21 hC21 hi021 hsz21
         refine start_ (n := 16) (S := fun w' => w'.cell? ⟨B2, 0, none⟩ = some (.slice (some ad101) l2_0.length c2_0) ∧ w'.cell? (ad101.add (a0).toNat) = some (.slice A103_0 (rd_L3 l2_0 a0).length c103_0)) (ds := []) #[false, false, false, false, false, false, false, false, false, false, false, false, false, false, false, false] (by kernel_rfl) rfl rfl ⟨(blk_cell BK62.out 0).trans rfl, ((HB.out.cell (World.block_lt_of_cell? w _ hw103_0)).trans hw103_0)⟩ (fun hHeld => ?_); refine with_tabW impl_kinds_1.tab6 impl_kinds_1.bits6 (fun HT_ HW_ => ?_)
         generalize w.drew = w20 at BK62 HB HR103_0 HR104 hx103_0 hHeld ⊢
         refine pure_ (i := 1) (N := some 18) (v := ?_) (a' := ?_) #[false, true, false, false, false, false, false, false, false, false, false, false, false, false, false, false] rfl rfl (any_of HT_.out (by kernel_rfl)) (fun _ _ _ h => h) (Or.inl ⟨by rfl, ?_⟩) ?_ ?_
         rotate_left
         ·intro w'
          go_simp
          with_reducible rfl
         rotate_left
         ·simp only [Act.put, List.setIfInBounds_toArray, List.set_cons_zero, List.set_cons_succ, i64_w, i32_w]
          rfl
         refine pure_ (i := 4) (N := some 21) (v := ?_) (a' := ?_) #[false, true, false, false, true, false, false, false, false, false, false, false, false, false, false, false] rfl rfl (any_of HT_.out (by kernel_rfl)) (fun _ _ _ h => h) (Or.inl ⟨by rfl, ?_⟩) ?_ ?_
         rotate_left
         ·intro w'
          go_simp
          with_reducible rfl
         rotate_left
         ·simp only [Act.put, List.setIfInBounds_toArray, List.set_cons_zero, List.set_cons_succ, i64_w, i32_w]
          rfl
         refine pure_ (i := 9) (N := some 26) (v := ?_) (a' := ?_) #[false, true, false, false, true, false, false, false, false, true, false, false, false, false, false, false] rfl rfl (any_of HT_.out (by kernel_rfl)) (fun _ _ _ h => h) (Or.inl ⟨by rfl, ?_⟩) ?_ ?_
         rotate_left
         ·intro w'
          go_simp
          with_reducible rfl
         rotate_left
         ·simp only [Act.put, List.setIfInBounds_toArray, List.set_cons_zero, List.set_cons_succ, i64_w, i32_w]
          rfl
         refine pure_ (i := 11) (N := some 28) (v := ?_) (a' := ?_) #[false, true, false, false, true, false, false, false, false, true, false, true, false, false, false, false] rfl rfl (any_of HT_.out (by kernel_rfl)) (fun _ _ _ h => h) (Or.inl ⟨by rfl, ?_⟩) ?_ ?_
         rotate_left
         ·intro w'
          go_simp
          with_reducible rfl
         rotate_left
         ·simp only [Act.put, List.setIfInBounds_toArray, List.set_cons_zero, List.set_cons_succ, i64_w, i32_w]
          rfl
         refine take_ (i := 0) (N := some 17) (v := ?_) (a' := ?_) #[true, true, false, false, true, false, false, false, false, true, false, true, false, false, false, false] rfl rfl (take_ofW HT_.out HW_.out (by kernel_rfl)) (fun _ _ _ h => h) (Or.inl ⟨by rfl, ?_⟩) hHeld ?_ ?_
         rotate_left
         ·rintro w' ⟨s0, s1⟩
          go_simp
          with_reducible rfl
         rotate_left
         ·simp only [Act.put, List.setIfInBounds_toArray, List.set_cons_zero, List.set_cons_succ, i64_w, i32_w]
          rfl
         refine pure_ (i := 2) (N := some 19) (v := ?_) (a' := ?_) #[true, true, true, false, true, false, false, false, false, true, false, true, false, false, false, false] rfl rfl (any_of HT_.out (by kernel_rfl)) (fun _ _ _ h => h) (Or.inl ⟨by rfl, ?_⟩) ?_ ?_
         rotate_left
         ·intro w'
          go_simp
          with_reducible rfl
         rotate_left
         ·simp only [Act.put, List.setIfInBounds_toArray, List.set_cons_zero, List.set_cons_succ, i64_w, i32_w]
          rfl
         refine take_ (i := 3) (N := some 20) (v := ?_) (a' := ?_) #[true, true, true, true, true, false, false, false, false, true, false, true, false, false, false, false] rfl rfl (take_ofW HT_.out HW_.out (by kernel_rfl)) (fun _ _ _ h => h) (Or.inl ⟨by rfl, ?_⟩) hHeld ?_ ?_
         rotate_left
         ·rintro w' ⟨s0, s1⟩
          go_simp
          with_reducible rfl
         rotate_left
         ·simp only [Act.put, List.setIfInBounds_toArray, List.set_cons_zero, List.set_cons_succ, i64_w, i32_w]
          rfl
         refine pure_ (i := 5) (N := some 22) (v := ?_) (a' := ?_) #[true, true, true, true, true, true, false, false, false, true, false, true, false, false, false, false] rfl rfl (any_of HT_.out (by kernel_rfl)) (fun _ _ _ h => h) (Or.inl ⟨by rfl, ?_⟩) ?_ ?_
         rotate_left
         ·intro w'
          go_simp
          with_reducible rfl
         rotate_left
         ·simp only [Act.put, List.setIfInBounds_toArray, List.set_cons_zero, List.set_cons_succ, i64_w, i32_w]
          rfl
         refine take_ (i := 8) (N := some 25) (v := ?_) (a' := ?_) #[true, true, true, true, true, true, false, false, true, true, false, true, false, false, false, false] rfl rfl (take_ofW HT_.out HW_.out (by kernel_rfl)) (fun _ _ _ h => h) (Or.inl ⟨by rfl, ?_⟩) hHeld ?_ ?_
         rotate_left
         ·rintro w' ⟨s0, s1⟩
          go_simp
          with_reducible rfl
         rotate_left
         ·simp only [Act.put, List.setIfInBounds_toArray, List.set_cons_zero, List.set_cons_succ, i64_w, i32_w]
          rfl
         refine one_ (i := 6) (N := some 23) #[true, true, true, true, true, true, true, false, true, true, false, true, false, false, false, false] rfl rfl (one_of HT_.out (by kernel_rfl)) (by decide) (fun K hK => ?_)
         refine goes_ Try.func78 (by kernel_rfl) rfl #[.slice A103_0 ((rd_L3 l2_0 a0).take (a1 : Int).toNat).length c103_0] (by rfl) rfl rfl (by (try simp only [List.map_toArray, List.map_cons, List.map_nil]); first | done | (rw [show ((rd_L3 l2_0 a0).take (a1 : Int).toNat).length = a1.toNat from (by rw [List.length_take]; have h_ : (a1 : Int) ≤ ((rd_L3 l2_0 a0).length : Int) := of_decide_eq_true tc2_; omega)] <;> rfl) | rfl | (simp only [List.length_drop, List.length_take]; rfl)) ?_
         with_reducible refine (impl_sum.calls k _ _ ((rd_L3 l2_0 a0).take (a1 : Int).toNat) t105 _ ?side1 ?side2 A14.out).mono ?_
         (case side1 => repeat (first | exact (Kd.C_below HR104.out HB.out) | (with_reducible refine Kd.C_alloc ?_ _) | (with_reducible refine Kd.C_drewN ?_ _) | (with_reducible refine Kd.C_drew ?_)))
         (case side2 => exact HC104.out)
         rintro e w' ⟨rfl, ⟨nd, rfl⟩⟩
         refine ⟨_, rfl, ?_⟩
         refine hK.out _ _ ⟨(blk_cell BK62.out 0).trans rfl, ((HB.out.cell (World.block_lt_of_cell? w _ hw103_0)).trans hw103_0)⟩ (fun hHeld => ?_)
         clear hK K
         refine norm_ (a' := ?_) ?_ ?_
         rotate_left
         ·show Act.put _ (some 23) _ = _
          simp only [Act.put, List.setIfInBounds_toArray, List.set_cons_zero, List.set_cons_succ, i64_w, i32_w]
          rfl
         refine pure_ (i := 7) (N := some 24) (v := ?_) (a' := ?_) #[true, true, true, true, true, true, true, true, true, true, false, true, false, false, false, false] rfl rfl (any_of HT_.out (by kernel_rfl)) (fun _ _ _ h => h) (Or.inl ⟨by rfl, ?_⟩) ?_ ?_
         rotate_left
         ·intro w'
          go_simp
          with_reducible rfl
         rotate_left
         ·simp only [Act.put, List.setIfInBounds_toArray, List.set_cons_zero, List.set_cons_succ, i64_w, i32_w]
          rfl
         refine one_ (i := 10) (N := some 27) #[true, true, true, true, true, true, true, true, true, true, true, true, false, false, false, false] rfl rfl (one_of HT_.out (by kernel_rfl)) (by decide) (fun K hK => ?_)
         refine goes_ Try.func45 (by kernel_rfl) rfl #[.slice (some ad101) l2_0.length c2_0, .int .i64 a1] (by rfl) rfl rfl tc0_ ?_
         with_reducible refine (impl_column.calls k _ _ l2_0 a1 t106 _ ?side1 ?side2 A15.out).mono ?_
         (case side1 => repeat (first | exact (Kd.C_below HR2_0.out tc43_) | (with_reducible refine Kd.C_alloc ?_ _) | (with_reducible refine Kd.C_drewN ?_ _) | (with_reducible refine Kd.C_drew ?_)))
         (case side2 => exact HC2_0.out)
         rintro e w22 ⟨v107, rfl, ho0, hb⟩
         refine ⟨_, rfl, ?_⟩
         have n0_ := am_ (Kd.R_lower ho0 (below_size tc43_))
         have n1_ := am_ (blk_below (g := B2) (o := .cells #[.slice (some ad101) l2_0.length c2_0] 24 (0, 0)) (by (with_reducible repeat (first | refine blk_drewN ?_ _ | refine blk_drew ?_ | refine blk_alloc ?_ _)); exact BK62.out) hb)
         have n2_ := am_ (below_step tc43_ hb)
         clear BK62
         clear HB
         have HO108 := n0_
         have BK62 := n1_
         have HB := n2_
         clear n0_ n1_ n2_
         (try clear hb)
         (try clear hb2)
         (try clear hk)
         (try clear hi)
         (try clear ho0)
         obtain ⟨Ao24, co24, eo24⟩ := Kd.R_slice HO108.out
         (first | subst eo24 | (injection eo24 with f1_ f2_ f3_; have f4_ := f1_.symm; have f5_ := f3_.symm; clear f1_ f2_ f3_; subst f4_; subst f5_))
         have q23 : (a0 : Int) ≤ ((t106.length : Int) : Int) := of_decide_eq_true tc2_
         obtain ⟨i023, hi023, _, hsz23, _⟩ := info_parts info3
         have hroom23 : t106.length ≤ co24 := (Kd.R_reads' HO108.out).2.1
         have hC23 : Kd.C (Kd.int .i64) _ Ao24 t106.length t106 := (Kd.R_reads' HO108.out).2.2
         have hcut23 := cut_to (P := Try.prog) 28 3 .i64 Try.underlying28 hi023 Ao24 t106.length co24 a0 (of_decide_eq_true tc2_) q23 hroom23
         have hr23 := Kd.C_take (m := (a0 : Int).toNat) hC23 (by omega)
         have hy23 : y109.length = (a0 : Int).toNat := (by rw [Ny109.out, List.length_take]; omega)
         rw [← Ny109.out] at hr23
         rw [← hy23] at hcut23
         have HR112 := am_ hr23
         have HC112 := am_ (show y109.length ≤ co24 from (by omega))
         clear hr23 hC23 hroom23 hi023 hsz23
         have KY23 := am_ hy23
         clear hy23
         have KL23 := am_ (show (a0 : Int).toNat ≤ t106.length from (by omega))
         replace q23 := eq_true q23
         refine hK.out _ _ ⟨(blk_cell BK62.out 0).trans rfl, ((HB.out.cell (World.block_lt_of_cell? w _ hw103_0)).trans hw103_0)⟩ (fun hHeld => ?_)
         clear hK K
         refine norm_ (a' := ?_) ?_ ?_
         rotate_left
         ·show Act.put _ (some 27) _ = _
          simp only [Act.put, List.setIfInBounds_toArray, List.set_cons_zero, List.set_cons_succ, i64_w, i32_w]
          rfl
         refine pure_ (i := 12) (N := some 29) (v := ?_) (a' := ?_) #[true, true, true, true, true, true, true, true, true, true, true, true, true, false, false, false] rfl rfl (any_of HT_.out (by kernel_rfl)) (fun _ _ _ h => h) (Or.inl ⟨by rfl, ?_⟩) ?_ ?_
         rotate_left
         ·intro w'
          go_simp
          with_reducible rfl
         rotate_left
         ·simp only [Act.put, List.setIfInBounds_toArray, List.set_cons_zero, List.set_cons_succ, i64_w, i32_w]
          rfl
         refine one_ (i := 13) (N := some 30) #[true, true, true, true, true, true, true, true, true, true, true, true, true, true, false, false] rfl rfl (one_of HT_.out (by kernel_rfl)) (by decide) (fun K hK => ?_)
         refine goes_ Try.func78 (by kernel_rfl) rfl #[.slice Ao24 y109.length co24] (by rfl) rfl rfl tc0_ ?_
         with_reducible refine (impl_sum.calls k _ _ y109 t113 _ ?side1 ?side2 A18.out).mono ?_
         (case side1 => repeat (first | exact (by repeat (first | (with_reducible exact HR112.out) | (with_reducible refine Kd.C_alloc ?_ _) | (with_reducible refine Kd.C_drewN ?_ _) | (with_reducible refine Kd.C_drew ?_) | exact HR112.out)) | (with_reducible refine Kd.C_alloc ?_ _) | (with_reducible refine Kd.C_drewN ?_ _) | (with_reducible refine Kd.C_drew ?_)))
         (case side2 => exact HC112.out)
         rintro e w' ⟨rfl, ⟨nd, rfl⟩⟩
         refine ⟨_, rfl, ?_⟩
         refine hK.out _ _ ⟨(blk_cell BK62.out 0).trans rfl, ((HB.out.cell (World.block_lt_of_cell? w _ hw103_0)).trans hw103_0)⟩ (fun hHeld => ?_)
         clear hK K
         refine norm_ (a' := ?_) ?_ ?_
         rotate_left
         ·show Act.put _ (some 30) _ = _
          simp only [Act.put, List.setIfInBounds_toArray, List.set_cons_zero, List.set_cons_succ, i64_w, i32_w]
          rfl
         refine pure_ (i := 14) (N := some 31) (v := ?_) (a' := ?_) #[true, true, true, true, true, true, true, true, true, true, true, true, true, true, true, false] rfl rfl (any_of HT_.out (by kernel_rfl)) (fun _ _ _ h => h) (Or.inl ⟨by rfl, ?_⟩) ?_ ?_
         rotate_left
         ·intro w'
          go_simp
          with_reducible rfl
         rotate_left
         ·simp only [Act.put, List.setIfInBounds_toArray, List.set_cons_zero, List.set_cons_succ, i64_w, i32_w]
          rfl
         refine pure_ (i := 15) (N := some 5) (v := ?_) (a' := ?_) #[true, true, true, true, true, true, true, true, true, true, true, true, true, true, true, true] rfl rfl (any_of HT_.out (by kernel_rfl)) (fun _ _ _ h => h) (Or.inl ⟨by rfl, ?_⟩) ?_ ?_
         rotate_left
         ·intro w'
          go_simp
          with_reducible rfl
         rotate_left
         ·simp only [Act.put, List.setIfInBounds_toArray, List.set_cons_zero, List.set_cons_succ, i64_w, i32_w]
          rfl
         refine done_ (done_of HT_.out (by kernel_rfl)) ?_
         try go_wp2
         go_ret
         exact ⟨by first | rfl | (simp [errW_none, errW_some] <;> rfl) | (simp [*, errW_none, errW_some] <;> rfl), by repeat (first | (with_reducible first | exact HB.out | apply below_alloc | apply pw_below_drewN | apply below_drew1 | refine below_set ?_ GE62.out) | exact HB.out)⟩
        ·rw [if_neg c17] at H
         exact absurd H (by simp)
       ·rw [if_neg c13] at H
        exact absurd H (by simp)
    ·rw [if_neg c7] at H
     exact absurd H (by simp)
   ·rw [if_neg c6] at H
    exact absurd H (by simp)
  ·rw [if_neg c5] at H
   exact absurd H (by simp)
 ·rw [if_neg c4] at H
  exact absurd H (by simp)

/-! ### impl_kinds: function 37 -/
def impl_kinds.f (k : Nat) (l0 : List (List Int)) : Option ((List (List Int))) := (impl_table.f k (l0.length : Int) (l0.length : Int) (fun x0_ x1_ => impl_kinds_1.f k x0_ x1_ l0)).bind fun t102 => (some t102)
set_option maxHeartbeats 8000000 in
set_option maxRecDepth 100000 in
theorem impl_kinds.calls (k : Nat) (A0 : Option Addr) (c0 : Nat) (l0 : List (List Int)) (r : List (List Int)) (w : World) (hr0 : Kd.C (Kd.slice 3 (Kd.int .i64)) w A0 l0.length l0) (hc0 : l0.length ≤ c0) (h : impl_kinds.f k l0 = some r) :
  Calls Try.prog 37 #[.slice A0 l0.length c0] w fun e w' => ∃ v0_ : Value, e = .returned (v0_) ∧ Kd.S (Kd.slice 3 (Kd.int .i64)) 28 w' w.heap.size (fun _ => True) v0_ r ∧ Below w.heap.size w w' := by
 have HR0 := am_ hr0
 have HC0 := am_ hc0
 clear hr0 hc0
 have HB := am_ (Below.refl w.heap.size w)
 have H : ((impl_table.f k (l0.length : Int) (l0.length : Int) (fun x0_ x1_ => impl_kinds_1.f k x0_ x1_ l0)).bind fun t102 => (some t102)) = some r := h
 clear h
 replace H := Option.bind_eq_some_iff.mp H
 obtain ⟨t102, A20, H⟩ := H
 replace H : (some t102) = some r := H
 have A2 := am_ A20
 clear A20
 obtain rfl := Option.some.inj H
 go_enter Try.func37, Try.ntmps37
 go_wp2_with (first | ((with_reducible refine gate_dst (N := 1) rfl ?_); refine box_event ?hg (N := 1) ?hd (cs := #[.slice A0 l0.length c0]) (t := 24) ?hr ?_; (case hd => rfl); (case hg => rfl); (case hr => exact tc27_); intro gb101 hg w3 hbox hb; have n0_ := am_ (below_step tc1_ hb); have n1_ := am_ (hbox); have n2_ := am_ ((by rw [hg]; exact (below_size tc1_) : w.heap.size ≤ gb101)); have n3_ := am_ ((by rw [hg]; exact (below_size tc1_) : w.heap.size ≤ gb101)); clear HB; have HB := n0_; have BK101 := n1_; have GW101 := n2_; have GE101 := n3_; clear n0_ n1_ n2_ n3_; clear hb hbox hg; have hcz4_0 : w3.cell? ⟨gb101, 0, none⟩ = some (.slice A0 l0.length c0) := (blk_cell BK101.out 0).trans rfl; have hfz4_0 := blk_frozen BK101.out 0) | ((with_reducible refine gate_callee (f := 48) rfl ?_); refine goesL_ (some 8) rfl rfl Try.func48 (by kernel_rfl) rfl #[.int .i64 (l0.length : Int), .int .i64 (l0.length : Int), .func (.func 77) #[] #[.pointer (some ⟨gb101, 0, none⟩)]] rfl tc0_ ?_; (with_reducible refine (impl_table.calls k (l0.length : Int) (l0.length : Int) _ _ (fun x0_ x1_ => impl_kinds_1.f k x0_ x1_ l0) t102 _ ?side1 A2.out).mono ?_); (case side1 => refine ⟨enters_of Try.func77 (by kernel_rfl) rfl, fun W_ hW_ x0_ v0_ hK0_ x1_ v1_ hK1_ r_ hr_ => ?_⟩; cases (show v0_ = .int .i64 x0_ from (by simpa [Kd.int, Kd.bool, Kd.string, Kd.scalar] using hK0_)); cases (show v1_ = .int .i64 x1_ from (by simpa [Kd.int, Kd.bool, Kd.string, Kd.scalar] using hK1_)); refine (impl_kinds_1.calls k x0_ x1_ _ A0 c0 l0 r_ W_ ?cb1 ?cb2 ?cb3 hr_).mono ?_; (case cb1 => exact tc33_); (case cb2 => exact tc26_); (case cb3 => exact HC0.out); exact fun _ _ h_ => ⟨h_.1, h_.2⟩); rintro e w5 ⟨v103, rfl, ho0, hb⟩; refine ⟨_, rfl, ?_⟩; have n0_ := am_ (Kd.S_lower ho0 (below_size tc10_)); have n1_ := am_ (blk_below (g := gb101) (o := .cells #[.slice A0 l0.length c0] 24 (0, 0)) tc14_ hb); have n2_ := am_ (below_step tc10_ hb); clear BK101 HB; have HO104 := n0_; have BK101 := n1_; have HB := n2_; clear n0_ n1_ n2_; (try clear hb ho0)))
 go_ret
 exact ⟨_, by first | rfl | (simp [errW_none, errW_some] <;> rfl) | (simp [*, errW_none, errW_some] <;> rfl), by (with_reducible repeat (first | apply Kd.S_alloc | apply Kd.S_drewN | apply Kd.S_drew)); exact HO104.out, by repeat (first | (with_reducible first | exact HB.out | apply below_alloc | apply pw_below_drewN | apply below_drew1 | refine below_set ?_ GE101.out) | exact HB.out)⟩

/-! ### impl_KindsOf: function 7 (by hand) -/
def impl_KindsOf.f (k : Nat) (l0 : List (List Int)) : Option (List (List Int) × Bool) := impl_changed.f k l0 (fun x => impl_kinds.f k x)
set_option maxHeartbeats 4000000 in
set_option maxRecDepth 100000 in
theorem impl_KindsOf.calls (k : Nat) (A0 : Option Addr) (c0 : Nat) (l0 : List (List Int)) (r1 : List (List Int)) (r2 : Bool) (w : World) (hr0 : Kd.C (Kd.slice 3 (Kd.int .i64)) w A0 l0.length l0) (hc0 : l0.length ≤ c0) (h : impl_KindsOf.f k l0 = some (r1, r2)) :
    Calls Try.prog 7 #[.slice A0 l0.length c0] w fun e w' => ∃ v0_ : Value, e = .returned (.tuple #[v0_, .bool r2]) ∧ Kd.S (Kd.slice 3 (Kd.int .i64)) 28 w' w.heap.size (fun _ => True) v0_ r1 ∧ Below w.heap.size w w' := by
  have HR0 := am_ hr0
  have HC0 := am_ hc0
  have H := am_ h
  clear hr0 hc0 h
  go_enter Try.func7, Try.ntmps7
  go_wp2_with (go_at_call 36; (refine (impl_changed.calls k A0 c0 l0 37 #[] (fun x => impl_kinds.f k x) r1 r2 w HR0.out HC0.out ?fn H.out).mono ?_); (case fn => exact ⟨enters_of Try.func37 (by kernel_rfl) rfl, fun W hW A c x hr hc r hx => by (refine (impl_kinds.calls k A c x r W hr hc hx).mono ?_; rintro e W' ⟨v, rfl, ho, hb⟩; exact ⟨v, rfl, ho, hb⟩)⟩); rintro e w1 ⟨v1, rfl, ho1, hb1⟩; have HO := am_ ho1; have HB := am_ hb1; clear ho1 hb1)
  go_ret2
  exact ⟨_, rfl, HO.out, HB.out⟩

end Go.Proofs.Ytkfoockclldieaa.X
