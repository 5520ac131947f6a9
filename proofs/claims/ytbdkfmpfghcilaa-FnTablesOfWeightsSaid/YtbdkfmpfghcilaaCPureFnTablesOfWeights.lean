
import Derived.Test.YtbdkfmpfghcilaaCFnTablesOfWeightsx3
import Derived.Test.YtbdkfmpfghcilaaQTwo
import Derived.Test.YtbdkfmpfghcilaaQByte
import Derived.Test.YtbdkfmpfghcilaaQByte
namespace Go.Proofs.Ytbdkfmpfghcilaa.Pure
open Go.RowKit Go.Proofs.Ytbdkfmpfghcilaa.X Go.Proofs.YtbdkfmpfghcilaaW.PrintWords Go.Proofs.YtbdkfmpfghcilaaW.PrintLast Go.Proofs.Ytbdkfmpfghcilaa.Q
set_option linter.unusedVariables false
set_option linter.unusedSimpArgs false
theorem o_ {p : Prop} (h : p := by omega) : p := h
theorem LeO.far {α : Type} {g : Nat → Option α} {r : α} (h : ∀ k, LeO (g k) (g (k + 1))) (m : Nat) (e : g m = some r) : Ans g r :=
 ⟨m, fun k hk => by
  obtain ⟨j, rfl⟩ : ∃ j, k = m + j := ⟨k - m, by omega⟩
  clear hk
  induction j with
  | zero => exact e
  | succ j ih => exact h _ r ih⟩
theorem draw_next (c : List Int) (hc : ∀ x ∈ c, (Lit.int .u8 x).wf = true) (a s : Int) (h0 : 0 ≤ a) (h1 : a ≤ 2305843009213693952) : ∃ b s', spec_l1Cur_next.f c a s = some (b, a + 1, s') ∧ 0 ≤ b ∧ b ≤ 255 := by
 have hw : wrap64 (a + 1) = a + 1 := wrap64_in _ ⟨o_, o_⟩
 simp only [spec_l1Cur_next.f, hw]
 by_cases c1 : a < (c.length : Int)
 ·have hr := byte_wf (hc (rd c a) (getD_mem 0 o_))
  have hw2 : wrap64 (rd c a) = rd c a := wrap64_in _ ⟨o_, o_⟩
  rw [if_pos c1, if_pos h0, if_pos o_]
  exact ⟨_, _, rfl, by rw [hw2]; exact hr.1, by rw [hw2]; exact hr.2⟩
 ·rw [if_neg c1, if_neg o_]
  exact ⟨_, _, rfl, (byte_and _).1, (byte_and _).2⟩
theorem tmod_in {x n : Int} (h : 0 ≤ x) (hn : 1 < n) : 0 ≤ Int.tmod x n ∧ Int.tmod x n < n := ⟨Int.tmod_nonneg _ h, Int.tmod_lt_of_pos _ o_⟩
theorem draw_pick (c : List Int) (hc : ∀ x ∈ c, (Lit.int .u8 x).wf = true) (a s n : Int) (h0 : 0 ≤ a) (h1 : a ≤ 1152921504606846976) : ∃ v a' s', spec_l1Cur_pick.f c a s n = some (v, a', s') ∧ a ≤ a' ∧ a' ≤ a + 2 ∧ 0 ≤ v ∧ (v < n ∨ v = 0) := by
 simp only [spec_l1Cur_pick.f]
 by_cases c1 : n ≤ 1
 ·rw [if_pos c1]; exact ⟨_, _, _, rfl, by omega, by omega, by omega, by omega⟩
 ·rw [if_neg c1]
  obtain ⟨b, s1, e1, b0, b1⟩ := draw_next c hc a s h0 o_
  rw [e1]; simp only [Option.bind_some]
  by_cases c2 : n > 200
  ·rw [if_pos c2]
   obtain ⟨b', s2, e2, b0', b1'⟩ := draw_next c hc (a + 1) s1 o_ o_
   rw [e2]; simp only [Option.bind_some]
   rw [if_neg o_, wrap64_in (b * 256) ⟨o_, o_⟩, wrap64_in (b * 256 + b') ⟨o_, o_⟩]
   have := tmod_in (x := b * 256 + b') (n := n) o_ o_
   exact ⟨_, _, _, rfl, by omega, by omega, this.1, .inl this.2⟩
  ·rw [if_neg c2, if_neg o_]
   have := tmod_in (x := b) (n := n) o_ o_
   exact ⟨_, _, _, rfl, by omega, by omega, this.1, .inl this.2⟩
theorem draw_one (c : List Int) (hc : ∀ x ∈ c, (Lit.int .u8 x).wf = true) (a s n : Int) (h0 : 0 ≤ a) (h1 : a ≤ 1152921504606846976) : ∃ v a' s', spec_l1Cur_one.f c a s n = some (v, a', s') ∧ a ≤ a' ∧ a' ≤ a + 2 := by
 obtain ⟨v, a', s', e, h2, h3, _⟩ := draw_pick c hc a s n h0 h1
 simp only [spec_l1Cur_one.f, e, Option.bind_some]
 exact ⟨_, _, _, rfl, h2, h3⟩
theorem draw_among (c : List Int) (hc : ∀ x ∈ c, (Lit.int .u8 x).wf = true) (a s : Int) (l : List Int) (hl : 0 < l.length) (h0 : 0 ≤ a) (h1 : a ≤ 1152921504606846976) : ∃ v a' s', spec_l1Cur_among.f c a s l = some (v, a', s') ∧ a ≤ a' ∧ a' ≤ a + 2 ∧ v ∈ l := by
 obtain ⟨v, a', s', e, h2, h3, h4, h5⟩ := draw_pick c hc a s (l.length : Int) h0 h1
 simp only [spec_l1Cur_among.f, e, Option.bind_some]
 rw [if_pos h4, if_pos o_]
 exact ⟨_, _, _, rfl, h2, h3, getD_mem 0 o_⟩
theorem draw_side (c : List Int) (hc : ∀ x ∈ c, (Lit.int .u8 x).wf = true) (a s n : Int) (hn : 1 ≤ n) (hn2 : n ≤ 100) (h0 : 0 ≤ a) (h1 : a ≤ 1000000000000000) : ∃ v a' s', spec_l1Cur_side.f c a s n = some (v, a', s') ∧ a ≤ a' ∧ a' ≤ a + 4 ∧ -1 ≤ v ∧ v ≤ n + 1 := by
 have w : wrap64 (n + 1) = n + 1 := wrap64_in _ ⟨o_, o_⟩
 obtain ⟨v, a1, s1, e1, p1, q1⟩ := draw_one c hc a s 8 h0 o_
 simp only [spec_l1Cur_side.f, e1, Option.bind_some, w]
 cases v with
 | true =>
  obtain ⟨u, a2, s2, e2, p2, q2, hu⟩ := draw_among c hc a1 s1 [(-1), 0, 1, n, n + 1] (by simp) o_ o_
  rw [if_pos rfl, e2]
  refine ⟨u, a2, s2, rfl, by omega, by omega, ?_⟩
  simp only [List.mem_cons, List.mem_nil_iff, or_false] at hu
  omega
 | false =>
  obtain ⟨u, a2, s2, e2, p2, q2, u0, u1⟩ := draw_pick c hc a1 s1 n o_ o_
  rw [if_neg (by simp), e2]
  simp only [Option.bind_some, wrap64_in (1 + u) ⟨o_, o_⟩]
  exact ⟨_, a2, s2, rfl, by omega, by omega, by omega, by omega⟩
theorem big_ans (c m : List Int) : ∃ b, laws_big.f c m = some b := by
 simp only [laws_big.f]
 split
 ·exact ⟨_, rfl⟩
 ·exact ⟨_, rfl⟩
theorem ok1 : laws_FnTablesOfWeights.f 200 [0, 0] [] = some true := by decide +kernel
theorem ok2 : laws_FnTablesOfWeights.f 200 [0, 1] [] = some true := by decide +kernel
theorem ok3 : laws_FnTablesOfWeights.f 200 [0, 2] [] = some true := by decide +kernel
theorem ok4 : laws_FnTablesOfWeights.f 200 [1, 1] [] = some true := by decide +kernel
theorem ok5 : laws_FnTablesOfWeights.f 200 [1, 2] [] = some true := by decide +kernel
theorem ok6 : laws_FnTablesOfWeights.f 200 [0, 3] [] = some true := by decide +kernel
theorem ok7 : laws_FnTablesOfWeights.f 200 [0, 4] [] = some true := by decide +kernel
theorem draws : ∀ v ∈ [(-1 : Int), 0, 1, 2, 3, 4, 5], ∃ c0, spec_DrawJointTable.f c0 = some v ∧ laws_big.f c0 [] = some false ∧ laws_FnTablesOfWeights.f 200 c0 [] = some true := by
 intro v hv
 simp only [List.mem_cons, List.mem_nil_iff, or_false] at hv
 rcases hv with rfl | rfl | rfl | rfl | rfl | rfl | rfl
 ·exact ⟨[0, 0], by decide +kernel, by decide +kernel, ok1⟩
 ·exact ⟨[0, 1], by decide +kernel, by decide +kernel, ok2⟩
 ·exact ⟨[0, 2], by decide +kernel, by decide +kernel, ok3⟩
 ·exact ⟨[1, 1], by decide +kernel, by decide +kernel, ok4⟩
 ·exact ⟨[1, 2], by decide +kernel, by decide +kernel, ok5⟩
 ·exact ⟨[0, 3], by decide +kernel, by decide +kernel, ok6⟩
 ·exact ⟨[0, 4], by decide +kernel, by decide +kernel, ok7⟩
theorem FnTablesOfWeights : laws_FnTablesOfWeights.Pure := by
 intro c m _ _ hc _ _ _
 obtain ⟨b, hb⟩ := big_ans c m
 cases b with
 | true =>
  refine ⟨0, ?_⟩
  simp only [laws_FnTablesOfWeights.f, hb, Option.bind_some]
  rfl
 | false =>
  obtain ⟨v, a, s, e, _, _, v0, v1⟩ := draw_side c hc 0 0 4 o_ o_ o_ o_
  have hd : spec_DrawJointTable.f c = some v := by
   simp only [spec_DrawJointTable.f, spec_DrawMinusTable.f, e, Option.bind_some]
  have hv : v ∈ [(-1 : Int), 0, 1, 2, 3, 4, 5] := by simp only [List.mem_cons, List.mem_nil_iff, or_false]; omega
  obtain ⟨c0, d0, b0, r0⟩ := draws v hv
  refine ⟨200, ?_⟩
  rw [← r0]
  simp only [laws_FnTablesOfWeights.f, hb, b0, hd, d0, Option.bind_some]
end Go.Proofs.Ytbdkfmpfghcilaa.Pure
