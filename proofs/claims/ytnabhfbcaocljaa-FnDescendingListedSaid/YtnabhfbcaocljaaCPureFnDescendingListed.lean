
import Derived.Test.YtnabhfbcaocljaaCFnDescendingListedx4
import Derived.Test.YtnabhfbcaocljaaQTwo
import Derived.Test.YtnabhfbcaocljaaQByte
import Derived.Test.YtnabhfbcaocljaaQByte
namespace Go.Proofs.Ytnabhfbcaocljaa.Pure
open Go.RowKit Go.Proofs.Ytnabhfbcaocljaa.X Go.Proofs.YtnabhfbcaocljaaW.PrintWords Go.Proofs.YtnabhfbcaocljaaW.PrintLast Go.Proofs.Ytnabhfbcaocljaa.Q
set_option linter.unusedVariables false
set_option linter.unusedSimpArgs false
theorem o_ {p : Prop} (h : p := by omega) : p := h
theorem LeO.far {α : Type} {g : Nat → Option α} {r : α} (h : ∀ k, LeO (g k) (g (k + 1))) (m : Nat) (e : g m = some r) : Ans g r :=
 ⟨m, fun k hk => by
  obtain ⟨j, rfl⟩ : ∃ j, k = m + j := ⟨k - m, by omega⟩
  clear hk
  induction j with
  | zero => exact e
  | succ j ih => exact h _ r ih⟩
theorem draw_next (c : List Int) (hc : ∀ x ∈ c, (Lit.int .u8 x).wf = true) (a s : Int) (h0 : 0 ≤ a) (h1 : a ≤ 2305843009213693952) : ∃ b s', spec_l1Cur_next.f c a s = some (b, a + 1, s') ∧ 0 ≤ b ∧ b ≤ 255 := by
 have hw : wrap64 (a + 1) = a + 1 := wrap64_in _ ⟨o_, o_⟩
 simp only [spec_l1Cur_next.f, hw]
 by_cases c1 : a < (c.length : Int)
 ·have hr := byte_wf (hc (rd c a) (getD_mem 0 o_))
  have hw2 : wrap64 (rd c a) = rd c a := wrap64_in _ ⟨o_, o_⟩
  rw [if_pos c1, if_pos h0, if_pos o_]
  exact ⟨_, _, rfl, by rw [hw2]; exact hr.1, by rw [hw2]; exact hr.2⟩
 ·rw [if_neg c1, if_neg o_]
  exact ⟨_, _, rfl, (byte_and _).1, (byte_and _).2⟩
theorem tmod_in {x n : Int} (h : 0 ≤ x) (hn : 1 < n) : 0 ≤ Int.tmod x n ∧ Int.tmod x n < n := ⟨Int.tmod_nonneg _ h, Int.tmod_lt_of_pos _ o_⟩
theorem draw_pick (c : List Int) (hc : ∀ x ∈ c, (Lit.int .u8 x).wf = true) (a s n : Int) (h0 : 0 ≤ a) (h1 : a ≤ 1152921504606846976) : ∃ v a' s', spec_l1Cur_pick.f c a s n = some (v, a', s') ∧ a ≤ a' ∧ a' ≤ a + 2 ∧ 0 ≤ v ∧ (v < n ∨ v = 0) := by
 simp only [spec_l1Cur_pick.f]
 by_cases c1 : n ≤ 1
 ·rw [if_pos c1]; exact ⟨_, _, _, rfl, by omega, by omega, by omega, by omega⟩
 ·rw [if_neg c1]
  obtain ⟨b, s1, e1, b0, b1⟩ := draw_next c hc a s h0 o_
  rw [e1]; simp only [Option.bind_some]
  by_cases c2 : n > 200
  ·rw [if_pos c2]
   obtain ⟨b', s2, e2, b0', b1'⟩ := draw_next c hc (a + 1) s1 o_ o_
   rw [e2]; simp only [Option.bind_some]
   rw [if_neg o_, wrap64_in (b * 256) ⟨o_, o_⟩, wrap64_in (b * 256 + b') ⟨o_, o_⟩]
   have := tmod_in (x := b * 256 + b') (n := n) o_ o_
   exact ⟨_, _, _, rfl, by omega, by omega, this.1, .inl this.2⟩
  ·rw [if_neg c2, if_neg o_]
   have := tmod_in (x := b) (n := n) o_ o_
   exact ⟨_, _, _, rfl, by omega, by omega, this.1, .inl this.2⟩
theorem draw_one (c : List Int) (hc : ∀ x ∈ c, (Lit.int .u8 x).wf = true) (a s n : Int) (h0 : 0 ≤ a) (h1 : a ≤ 1152921504606846976) : ∃ v a' s', spec_l1Cur_one.f c a s n = some (v, a', s') ∧ a ≤ a' ∧ a' ≤ a + 2 := by
 obtain ⟨v, a', s', e, h2, h3, _⟩ := draw_pick c hc a s n h0 h1
 simp only [spec_l1Cur_one.f, e, Option.bind_some]
 exact ⟨_, _, _, rfl, h2, h3⟩
theorem draw_among (c : List Int) (hc : ∀ x ∈ c, (Lit.int .u8 x).wf = true) (a s : Int) (l : List Int) (hl : 0 < l.length) (h0 : 0 ≤ a) (h1 : a ≤ 1152921504606846976) : ∃ v a' s', spec_l1Cur_among.f c a s l = some (v, a', s') ∧ a ≤ a' ∧ a' ≤ a + 2 ∧ v ∈ l := by
 obtain ⟨v, a', s', e, h2, h3, h4, h5⟩ := draw_pick c hc a s (l.length : Int) h0 h1
 simp only [spec_l1Cur_among.f, e, Option.bind_some]
 rw [if_pos h4, if_pos o_]
 exact ⟨_, _, _, rfl, h2, h3, getD_mem 0 o_⟩
theorem draw_side (c : List Int) (hc : ∀ x ∈ c, (Lit.int .u8 x).wf = true) (a s n : Int) (hn : 1 ≤ n) (hn2 : n ≤ 100) (h0 : 0 ≤ a) (h1 : a ≤ 1000000000000000) : ∃ v a' s', spec_l1Cur_side.f c a s n = some (v, a', s') ∧ a ≤ a' ∧ a' ≤ a + 4 ∧ -1 ≤ v ∧ v ≤ n + 1 := by
 have w : wrap64 (n + 1) = n + 1 := wrap64_in _ ⟨o_, o_⟩
 obtain ⟨v, a1, s1, e1, p1, q1⟩ := draw_one c hc a s 8 h0 o_
 simp only [spec_l1Cur_side.f, e1, Option.bind_some, w]
 cases v with
 | true =>
  obtain ⟨u, a2, s2, e2, p2, q2, hu⟩ := draw_among c hc a1 s1 [(-1), 0, 1, n, n + 1] (by simp) o_ o_
  rw [if_pos rfl, e2]
  refine ⟨u, a2, s2, rfl, by omega, by omega, ?_⟩
  simp only [List.mem_cons, List.mem_nil_iff, or_false] at hu
  omega
 | false =>
  obtain ⟨u, a2, s2, e2, p2, q2, u0, u1⟩ := draw_pick c hc a1 s1 n o_ o_
  rw [if_neg (by simp), e2]
  simp only [Option.bind_some, wrap64_in (1 + u) ⟨o_, o_⟩]
  exact ⟨_, a2, s2, rfl, by omega, by omega, by omega, by omega⟩
theorem big_ans (c m : List Int) : ∃ b, laws_big.f c m = some b := by
 simp only [laws_big.f]
 split
 ·exact ⟨_, rfl⟩
 ·exact ⟨_, rfl⟩
theorem LeO.up {α : Type} {g : Nat → Option α} (h : ∀ k, LeO (g k) (g (k + 1))) (j : Nat) : ∀ k, LeO (g k) (g (k + j)) := fun k => by
 induction j with
 | zero => exact LeO.refl _
 | succ j ih => exact LeO.trans ih (h _)
def LT (a b : Option Bool) : Prop := a = some true → b = some true
theorem LT.ite {p : Prop} [Decidable p] {a b c d : Option Bool} (h : LT a c) (k : LT b d) : LT (if p then a else b) (if p then c else d) := by
 split
 ·exact h
 ·exact k
theorem LT.bind {α : Type} {a b : Option α} {f g : α → Option Bool} (h : LeO a b) (k : ∀ x, LT (f x) (g x)) : LT (a.bind f) (b.bind g) := by
 intro e
 obtain ⟨x, hx, hf⟩ := Option.bind_eq_some_iff.mp e
 rw [h x hx]
 exact k x hf
theorem LT.none (b : Option Bool) : LT Option.none b := fun h => by cases h
theorem LT.no (b : Option Bool) : LT (some false) b := fun h => by cases h
theorem LT.yes {a b : Option Bool} (h : b = some true) : LT a b := fun _ => h
def tail (k : Nat) (x1 : List Int) (x5 x6 : Int) (x7 : Tb_) (x10 : Bool) : Option Bool :=
 (spec_DrawCountByDeterminant.f x1).bind fun t133 => ((impl_CountByDeterminant.f k t133).bind fun bt134 => ((spec_CountByDeterminant.f k t133).bind fun bt136 => (if (bt134.2 != bt136.2) = true then (laws_FnDescendingListed.j3 k x5 x6 x7 x10 t133 bt134.1 bt134.2 true) else (laws_FnDescendingListed.j3 k x5 x6 x7 x10 t133 bt134.1 bt134.2 (bt134.1 != bt136.1)))))
theorem shift {y' y : List Int} {x5 x6 : Int} {x7 : Tb_} {x10 : Bool} {k0 : Nat} (hm : spec_DrawAllDescending.f y' = spec_DrawAllDescending.f y) (hT : ∀ k, tail (k + k0) y x5 x6 x7 x10 = some true) :
  ∀ k, (∀ z, LT (laws_FnDescendingListed.j0 k y' 0 0 [] false z) (laws_FnDescendingListed.j0 (k + k0) y x5 x6 x7 x10 z)) ∧ (∀ a b c z, LT (laws_FnDescendingListed.j1 k y' 0 0 [] false a b c z) (laws_FnDescendingListed.j1 (k + k0) y x5 x6 x7 x10 a b c z)) ∧ (∀ a b c d e i, LT (laws_FnDescendingListed.l0 k y' 0 0 [] false a b c d e i) (laws_FnDescendingListed.l0 (k + k0) y x5 x6 x7 x10 a b c d e i))
 | 0 => ⟨fun _ h => by simp [laws_FnDescendingListed.j0] at h, fun _ _ _ _ h => by simp [laws_FnDescendingListed.j1] at h, fun _ _ _ _ _ _ h => by simp [laws_FnDescendingListed.l0] at h⟩
 | k + 1 => by
  obtain ⟨ih0, ih1, ih2⟩ := shift hm hT k
  rw [show k + 1 + k0 = (k + k0) + 1 by omega]
  refine ⟨fun z => ?_, fun a b c z => ?_, fun a b c d e i => ?_⟩
  ·unfold laws_FnDescendingListed.j0
   refine LT.ite (LT.no _) (LT.bind (show LeO (spec_DrawAllDescending.f y') (spec_DrawAllDescending.f y) from hm ▸ LeO.refl _) fun _ => LT.bind (LeO.up (impl_AllDescending.mono _) k0 k) fun _ => LT.bind (LeO.up (spec_AllDescending.mono _) k0 k) fun _ => LT.bind (LeO.up (impl_CountDescending.mono _) k0 k) fun _ => LT.bind (LeO.up (spec_CountDescending.mono _) k0 k) fun _ => ?_)
   repeat' first
   | exact ih1 _ _ _ _
   | refine LT.ite ?_ ?_
  ·unfold laws_FnDescendingListed.j1
   exact LT.ite (LT.no _) (ih2 _ _ _ _ _ _)
  ·unfold laws_FnDescendingListed.l0
   refine LT.ite ?_ (LT.yes (hT k))
   repeat' first
   | exact ih2 _ _ _ _ _ _
   | exact LT.none _
   | exact LT.no _
   | refine LT.ite ?_ ?_
   | refine LT.bind (LeO.up (impl_IsDescending.mono _ _) k0 k) fun _ => ?_
   | refine LT.bind (LeO.up (laws_uSameRows.mono _ _) k0 k) fun _ => ?_
def chkN (n rank : Int) : Bool := match impl_DescendingWith.f 100 n rank, spec_DescendingWith.f 100 n rank with
 | some (a, x), some (b, y) => x == y && (laws_uSameRows.f 100 a b == some true) && (!x || impl_RankDescending.f 100 a n == some (rank, true))
 | _, _ => false
theorem chkN_says {n rank : Int} (h : chkN n rank = true) : ∃ a b x, impl_DescendingWith.f 100 n rank = some (a, x) ∧ spec_DescendingWith.f 100 n rank = some (b, x) ∧ laws_uSameRows.f 100 a b = some true ∧ (x = true → impl_RankDescending.f 100 a n = some (rank, true)) := by
 unfold chkN at h
 split at h
 ·rename_i a x b y h1 h2
  simp only [Bool.and_eq_true, Bool.or_eq_true, Bool.not_eq_true', beq_iff_eq] at h
  obtain ⟨⟨rfl, h4⟩, h5⟩ := h
  exact ⟨a, b, x, h1, h2, h4, fun e => h5.resolve_left (by simp [e])⟩
 ·cases h
def ranks : List Int := [-1, 0, 1, 2, 3, 4, 5, 6, 7, 8, 9, 10, 11, 12, 13, 14, 15, 16, 17, 18, 19, 20, 21, 22, 23, 24, 25, 26, 27, 28, 29, 30, 31, 32, 33, 34, 35, 36, 37, 38, 39, 40, 41, 42]
theorem few : ∀ n ∈ [(-1 : Int), 0, 1, 2, 3, 5], ∀ r ∈ ranks, chkN n r = true := by decide +kernel
theorem four : ∀ r ∈ ranks, chkN 4 r = true := by decide +kernel
def chkK (n : Int) : Bool := match impl_CountByDeterminant.f 300 n, spec_CountByDeterminant.f 300 n with
 | some (a, x), some (b, y) => x == y && a == b && (!x || (impl_CountSigns.f 300 n == some (a, true) && (match impl_CountDescending.f 300 n with | some (q, z) => !z || q == a | none => false)))
 | _, _ => false
theorem chkK_says {n : Int} (h : chkK n = true) : ∃ a x, impl_CountByDeterminant.f 300 n = some (a, x) ∧ spec_CountByDeterminant.f 300 n = some (a, x) ∧ (x = true → impl_CountSigns.f 300 n = some (a, true) ∧ ∃ q z, impl_CountDescending.f 300 n = some (q, z) ∧ (z = true → q = a)) := by
 unfold chkK at h
 split at h
 ·rename_i a x b y h1 h2
  simp only [Bool.and_eq_true, Bool.or_eq_true, Bool.not_eq_true', beq_iff_eq] at h
  obtain ⟨⟨rfl, rfl⟩, h5⟩ := h
  refine ⟨a, x, h1, h2, fun e => ?_⟩
  obtain ⟨h6, h7⟩ := h5.resolve_left (by simp [e])
  split at h7
  ·rename_i q z h8
   simp only [Bool.or_eq_true, Bool.not_eq_true', beq_iff_eq] at h7
   exact ⟨h6, q, z, h8, fun e => h7.resolve_left (by simp [e])⟩
  ·cases h7
 ·cases h
theorem seven : ∀ n ∈ [(-1 : Int), 0, 1, 2, 3, 4, 5, 6, 7], chkK n = true := by decide +kernel
theorem listed : ∀ n ∈ [(-1 : Int), 0, 1, 2, 3, 4, 5], ∃ y, spec_DrawAllDescending.f y = some n ∧ laws_FnDescendingListed.j0 200 y 0 0 [] false false = some true := by
 intro v hv
 simp only [List.mem_cons, List.mem_nil_iff, or_false] at hv
 rcases hv with rfl | rfl | rfl | rfl | rfl | rfl | rfl
 ·exact ⟨[0, 0], by decide +kernel, by decide +kernel⟩
 ·exact ⟨[0, 1], by decide +kernel, by decide +kernel⟩
 ·exact ⟨[0, 2], by decide +kernel, by decide +kernel⟩
 ·exact ⟨[1, 1], by decide +kernel, by decide +kernel⟩
 ·exact ⟨[1, 2], by decide +kernel, by decide +kernel⟩
 ·exact ⟨[1, 3], by decide +kernel, by decide +kernel⟩
 ·exact ⟨[0, 4], by decide +kernel, by decide +kernel⟩
theorem tail_says {y : List Int} {n kk rank : Int} {a : Tb_} {x : Bool} (hd : spec_DrawCountByDeterminant.f y = some kk) (hk : kk ∈ [(-1 : Int), 0, 1, 2, 3, 4, 5, 6, 7]) (hr : x = true → impl_RankDescending.f 100 a n = some (rank, true)) (k : Nat) : tail (k + 303) y n rank a x = some true := by
 obtain ⟨v, ok, h1, h2, h3⟩ := chkK_says (seven kk hk)
 have e1 := LeO.up (impl_CountByDeterminant.mono kk) (k + 3) 300 _ h1
 have e2 := LeO.up (spec_CountByDeterminant.mono kk) (k + 3) 300 _ h2
 rw [show 300 + (k + 3) = k + 303 by omega] at e1 e2
 have er : ∀ j, x = true → impl_RankDescending.f (100 + j) a n = some (rank, true) := fun j e => LeO.up (impl_RankDescending.mono a n) j 100 _ (hr e)
 have fin : ∀ j, laws_FnDescendingListed.j5 (100 + j + 1) n rank a x false = some true := by
  intro j
  simp only [laws_FnDescendingListed.j5]
  rw [if_neg (by simp)]
  by_cases hx : x = true
  ·rw [if_pos hx, er j hx]
   simp
  ·rw [if_neg hx]
 unfold tail
 rw [hd]
 simp only [Option.bind_some, e1, e2, bne_self_eq_false]
 rw [if_neg (by simp), show k + 303 = (k + 302) + 1 by omega]
 simp only [laws_FnDescendingListed.j3]
 rw [if_neg (by simp)]
 by_cases ho : ok = true
 ·obtain ⟨h4, q, z, h5, h6⟩ := h3 ho
  have e4 := LeO.up (impl_CountSigns.mono kk) (k + 2) 300 _ h4
  have e5 := LeO.up (impl_CountDescending.mono kk) (k + 1) 300 _ h5
  rw [show 300 + (k + 2) = k + 302 by omega] at e4
  rw [show 300 + (k + 1) = k + 301 by omega] at e5
  rw [if_pos ho, e4]
  simp only [Option.bind_some, bne_self_eq_false]
  rw [if_pos trivial, show k + 302 = (k + 301) + 1 by omega]
  simp only [laws_FnDescendingListed.j4]
  rw [if_neg (by simp), e5]
  simp only [Option.bind_some]
  rw [show k + 301 = 100 + (k + 200) + 1 by omega]
  by_cases hz : z = true
  ·rw [if_pos hz, h6 hz]
   simp only [bne_self_eq_false]
   exact fin _
  ·rw [if_neg hz]
   exact fin _
 ·rw [if_neg ho]
  by_cases hx : x = true
  ·rw [if_pos hx, show k + 302 = 100 + (k + 202) by omega, er _ hx]
   simp
  ·rw [if_neg hx]
theorem FnDescendingListed : laws_FnDescendingListed.Pure := by
 intro c m _ _ hc _ _ hm
 obtain ⟨b, hb⟩ := big_ans c m
 cases b with
 | true =>
  refine ⟨0, ?_⟩
  simp only [laws_FnDescendingListed.f, hb, Option.bind_some]
  rfl
 | false =>
  obtain ⟨n, a1, s1, e1, p1, q1, n0, n1⟩ := draw_side c hc 0 0 4 o_ o_ o_ o_
  obtain ⟨v, a2, s2, e2, p2, q2⟩ := draw_one c hc a1 s1 4 o_ o_
  have hd : ∃ r, spec_DrawDescendingWith.f c = some (n, r) ∧ r ∈ ranks := by
   simp only [spec_DrawDescendingWith.f, e1, e2, Option.bind_some]
   cases v with
   | true =>
    obtain ⟨u, a3, s3, e3, _, _, hu⟩ := draw_among c hc a2 s2 [-1, 0, 1, 2, 6, 7, 41, 42] (by simp) o_ o_
    rw [if_pos rfl, e3]
    refine ⟨u, rfl, ?_⟩
    simp only [List.mem_cons, List.mem_nil_iff, or_false] at hu
    simp only [ranks, List.mem_cons, List.mem_nil_iff, or_false]
    omega
   | false =>
    obtain ⟨u, a3, s3, e3, _, _, u0, u1⟩ := draw_pick c hc a2 s2 42 o_ o_
    rw [if_neg (by simp), e3]
    refine ⟨u, rfl, ?_⟩
    simp only [ranks, List.mem_cons, List.mem_nil_iff, or_false]
    omega
  obtain ⟨r, hd, hr⟩ := hd
  have hn : chkN n r = true := by
   by_cases h4 : n = 4
   ·subst h4; exact four r hr
   ·exact few n (by simp only [List.mem_cons, List.mem_nil_iff, or_false]; omega) r hr
  obtain ⟨ra, rb, x, f1, f2, f3, f4⟩ := chkN_says hn
  obtain ⟨mm, b1, t1, g1, _, _, m0, m1⟩ := draw_side m hm 0 0 4 o_ o_ o_ o_
  obtain ⟨kk, b2, t2, g2, _, _, k0, k1⟩ := draw_side m hm 0 0 6 o_ o_ o_ o_
  have dm : spec_DrawAllDescending.f m = some mm := by simp only [spec_DrawAllDescending.f, g1, Option.bind_some]
  have dk : spec_DrawCountByDeterminant.f m = some kk := by simp only [spec_DrawCountByDeterminant.f, g2, Option.bind_some]
  obtain ⟨y, dy, jy⟩ := listed mm (by simp only [List.mem_cons, List.mem_nil_iff, or_false]; omega)
  have J := (shift (k0 := 303) (dy.trans dm.symm) (fun k => tail_says (n := n) (rank := r) (a := ra) (x := x) dk (by simp only [List.mem_cons, List.mem_nil_iff, or_false]; omega) f4 k) 200).1 false jy
  refine ⟨503, ?_⟩
  have e1 := LeO.up (impl_DescendingWith.mono n r) 403 100 _ f1
  have e2 := LeO.up (spec_DescendingWith.mono n r) 403 100 _ f2
  have e3 := LeO.up (laws_uSameRows.mono ra rb) 403 100 _ f3
  simp only [laws_FnDescendingListed.f, hb, Option.bind_some, hd, e1, e2, e3, bne_self_eq_false]
  exact J
end Go.Proofs.Ytnabhfbcaocljaa.Pure
