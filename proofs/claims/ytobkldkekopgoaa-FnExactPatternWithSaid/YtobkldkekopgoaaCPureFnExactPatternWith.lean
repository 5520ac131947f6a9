/- For all numbers and ranks the program's PatternWith returns what the reference's returns: no condition. -/
import Derived.Test.YtobkldkekopgoaaCFnExactPatternWithx2
import Derived.Test.YtobkldkekopgoaaQTwo
namespace Go.Proofs.Ytobkldkekopgoaa.Pure
open Go.RowKit Go.Proofs.Ytobkldkekopgoaa.X Go.Proofs.YtobkldkekopgoaaW.PrintWords Go.Proofs.YtobkldkekopgoaaW.PrintLast Go.Proofs.Ytobkldkekopgoaa.Q
set_option linter.unusedVariables false
set_option linter.unusedSimpArgs false
theorem rd_L1_mem {x : List (List Int)} {i : Int} (h0 : 0 ≤ i) (h1 : i < x.length) : rd_L1 x i ∈ x := by unfold rd_L1; exact getD_mem _ (by omega)
theorem len_le {x : List Int} (h : x.length ≤ 17592186044416) : (x.length : Int) ≤ 17592186044416 := by omega
theorem eqIntS_l0 (x : List Int) (hx : x.length ≤ 17592186044416) : ∀ (d : Nat) (i : Int), 0 ≤ i → i + d = x.length → ∀ k, d < k → laws_eqIntS.l0 k x x i = some true := by
  intro d
  induction d with
  | zero => intro i h0 h1 k hk; obtain ⟨j, rfl⟩ : ∃ j, k = j + 1 := ⟨k - 1, by omega⟩; unfold laws_eqIntS.l0; rw [if_neg (by omega)]
  | succ d ih =>
    intro i h0 h1 k hk; obtain ⟨j, rfl⟩ : ∃ j, k = j + 1 := ⟨k - 1, by omega⟩; unfold laws_eqIntS.l0
    rw [if_pos (by omega), if_pos h0, if_pos (by omega), if_pos rfl, wrap64_up h0 (by omega)]
    exact ih _ (by omega) (by omega) _ (by omega)
theorem eqIntS (x : List Int) (hx : x.length ≤ 17592186044416) : Ans (fun k => laws_eqIntS.f k x x) true :=
  Ans.from (x.length + 1) fun k hk => by unfold laws_eqIntS.f; rw [if_pos rfl]; exact eqIntS_l0 x hx x.length 0 (by omega) (by omega) _ (by omega)
/-- The row after marking from `n`: `n, n+1, ..`. -/
def upFrom (n : Int) (m : Nat) : List Int := (List.range m).map fun (i : Nat) => n + (i : Int)
theorem markIntS_l0 (x : List Int) (n : Int) (hn : 0 ≤ n) (hx : n + x.length ≤ 17592186044416) : ∀ (d : Nat) (y : List Int) (i : Int), y.length = x.length → (∀ j : Nat, j < i → y.getD j 0 = n + j) → 0 ≤ i → i + d = x.length → ∀ k, d < k →
    laws_markIntS.l0 k y (n + i) i = some (n + x.length, upFrom n x.length) := by
  intro d
  induction d with
  | zero =>
    intro y i hl hy h0 h1 k hk; obtain ⟨j, rfl⟩ : ∃ j, k = j + 1 := ⟨k - 1, by omega⟩; unfold laws_markIntS.l0; rw [if_neg (by omega)]
    have : y = upFrom n x.length := by
      refine List.ext_getElem (by simp [upFrom, hl]) fun m h2 h3 => ?_
      have := hy m (by omega)
      rw [getD_at _ _ h2] at this
      rw [this]; simp [upFrom]
    rw [this, show n + i = n + x.length by omega]
  | succ d ih =>
    intro y i hl hy h0 h1 k hk; obtain ⟨j, rfl⟩ : ∃ j, k = j + 1 := ⟨k - 1, by omega⟩; unfold laws_markIntS.l0
    rw [if_pos (by omega), if_pos h0, wrap64_up h0 (by omega), wrap64_up (by omega) (by omega), show n + i + 1 = n + (i + 1) by omega]
    refine ih _ _ (by simp [hl]) ?_ (by omega) (by omega) _ (by omega)
    intro m hm
    obtain ⟨a, rfl⟩ : ∃ a : Nat, i = a := ⟨i.toNat, by omega⟩
    by_cases e : m = a
    · subst e
      have h2 : m < (y.set ((m : Int)).toNat (n + (m : Int))).length := by simp only [List.length_set]; omega
      rw [getD_at _ _ h2]
      simp
    · have h2 : m < y.length := by omega
      have h3 : m < (y.set ((a : Int)).toNat (n + (a : Int))).length := by simp only [List.length_set]; omega
      rw [← hy m (by omega), getD_at _ _ h3, getD_at _ _ h2, List.getElem_set_ne (by omega)]
theorem markIntS (x : List Int) (n : Int) (hn : 0 ≤ n) (hx : n + x.length ≤ 17592186044416) : Ans (fun k => laws_markIntS.f k x n) (n + x.length, upFrom n x.length) :=
  Ans.from (x.length + 1) fun k hk => by
    unfold laws_markIntS.f
    have := markIntS_l0 x n hn hx x.length x 0 rfl (by intro j hj; omega) (by omega) (by omega) k (by omega)
    rwa [show n + 0 = n by omega] at this
theorem heldIntS_l0 (m : Nat) (n : Int) (hn : 0 ≤ n) (hx : n + m ≤ 17592186044416) : ∀ (d : Nat) (i : Int), 0 ≤ i → i + d = m → ∀ k, d < k →
    laws_heldIntS.l0 k (upFrom n m) (n + i) i = some (n + m) := by
  intro d
  have hl : (upFrom n m).length = m := by simp [upFrom]
  induction d with
  | zero =>
    intro i h0 h1 k hk; obtain ⟨j, rfl⟩ : ∃ j, k = j + 1 := ⟨k - 1, by omega⟩; unfold laws_heldIntS.l0; rw [if_neg (by omega), show n + i = n + m by omega]
  | succ d ih =>
    intro i h0 h1 k hk; obtain ⟨j, rfl⟩ : ∃ j, k = j + 1 := ⟨k - 1, by omega⟩; unfold laws_heldIntS.l0
    have : rd (upFrom n m) i = n + i := by
      unfold rd; rw [getD_at _ _ (by omega)]; simp only [upFrom, List.getElem_map, List.getElem_range]; omega
    rw [if_pos (by omega), if_pos h0, if_pos this, wrap64_up h0 (by omega), wrap64_up (by omega) (by omega), show n + i + 1 = n + (i + 1) by omega]
    exact ih _ (by omega) (by omega) _ (by omega)
theorem heldIntS (m : Nat) (n : Int) (hn : 0 ≤ n) (hx : n + m ≤ 17592186044416) : Ans (fun k => laws_heldIntS.f k (upFrom n m) n) (n + m) :=
  Ans.from (m + 1) fun k hk => by
    unfold laws_heldIntS.f
    have := heldIntS_l0 m n hn hx m 0 (by omega) (by omega) k (by omega)
    rwa [show n + 0 = n by omega] at this
theorem l1In (a b c : Int) : spec_l1In.f a b c = some (decide (b ≤ a ∧ a ≤ c)) := by
  unfold spec_l1In.f
  by_cases h : a ≥ b
  · rw [if_pos h]; refine congrArg some (decide_eq_decide.mpr ⟨fun q => ⟨h, q⟩, fun q => q.2⟩)
  · rw [if_neg h, decide_eq_false (by omega)]
theorem within (a b c : Int) : impl_within.f a b c = some (decide (b ≤ a ∧ a ≤ c)) := by
  unfold impl_within.f
  by_cases h : b ≤ a
  · rw [if_pos h]; refine congrArg some (decide_eq_decide.mpr ⟨fun q => ⟨h, q⟩, fun q => q.2⟩)
  · rw [if_neg h, decide_eq_false (by omega)]
/-- All lists of numbers under m whose beginnings all pass a test. -/
def levels (m : Nat) (ok : List Int → Bool) : Nat → List (List Int)
  | 0 => [[]]
  | d + 1 => (levels m ok d).flatMap fun q => ((List.range m).map fun v : Nat => q ++ [(v : Int)]).filter ok
/-- What a beginning of a pattern tells of itself. -/
def okHead (q : List Int) : Bool :=
  (List.range q.length).all fun i => decide (q.getD i 0 ≠ i) && (decide ((q.length : Int) ≤ q.getD i 0) || decide (q.getD (q.getD i 0).toNat 0 = i)) &&
    (List.range i).all fun j => decide (q.getD j 0 ≠ q.getD i 0) && (decide (q.getD j 0 ≤ i) || (decide ((j : Int) + 1 ≤ q.getD i 0) && decide (q.getD i 0 ≤ q.getD j 0 - 1)))
/-- The patterns, as the reference lists them. -/
def pats (n : Nat) : List (List Int) := (spec_loAll.f 300 n 0).getD []
theorem pats_all : ∀ n : Nat, 1 ≤ n → n ≤ 4 → spec_loAll.f 300 n 0 = some (pats n) ∧ impl_patterns.f 300 n = some (pats n) ∧ (levels (2 * n) okHead (2 * n)).all (fun q => decide (q ∈ pats n)) = true ∧ (pats n).all (fun q => decide (q.length = 2 * n)) = true ∧ (pats n).length ≤ 14 := by
  intro n h1 h2
  rcases (show n = 1 ∨ n = 2 ∨ n = 3 ∨ n = 4 by omega) with rfl | rfl | rfl | rfl
  · decide +kernel
  · decide +kernel
  · decide +kernel
  · decide +kernel
theorem LeO.far {α : Type} {g : Nat → Option α} {r : α} (h : ∀ k, LeO (g k) (g (k + 1))) (m : Nat) (e : g m = some r) : Ans g r :=
  ⟨m, fun k hk => by
    obtain ⟨j, rfl⟩ : ∃ j, k = m + j := ⟨k - m, by omega⟩
    clear hk
    induction j with
    | zero => exact e
    | succ j ih => exact h _ r ih⟩
theorem loAll_at (n : Nat) (h1 : 1 ≤ n) (h2 : n ≤ 4) : Ans (fun k => spec_loAll.f k n 0) (pats n) := LeO.far (fun k => spec_loAll.mono _ _ k) 300 (pats_all n h1 h2).1
theorem patterns_at (n : Nat) (h1 : 1 ≤ n) (h2 : n ≤ 4) : Ans (fun k => impl_patterns.f k n) (pats n) := LeO.far (fun k => impl_patterns.mono _ k) 300 (pats_all n h1 h2).2.1
theorem patternWith (n rank : Int) : Two (fun k => spec_PatternWith.f k n rank) (fun k => impl_PatternWith.f k n rank) (fun r => r.1.length ≤ 12) := by
  simp only [spec_PatternWith.f, impl_PatternWith.f, spec_syPairs.f, impl_arePairs.f, l1In, within, Option.bind_some]
  by_cases c : 1 ≤ n ∧ n ≤ 4
  · obtain ⟨m, rfl⟩ : ∃ m : Nat, n = m := ⟨n.toNat, by omega⟩
    have hq := pats_all m (by omega) (by omega)
    have hw : wrap64 (((pats m).length : Int) - 1) = ((pats m).length : Int) - 1 := wrap64_in _ ⟨by omega, by have := hq.2.2.2.2; omega⟩
    have e1 := loAll_at m (by omega) (by omega)
    have e2 := patterns_at m (by omega) (by omega)
    rw [decide_eq_true c]
    by_cases d : 0 ≤ rank ∧ rank ≤ ((pats m).length : Int) - 1
    · refine ⟨(rd_L1 (pats m) rank, true), ?_, Ans.yes rfl (e1.bind ?_), Ans.yes rfl (e2.bind ?_)⟩
      · have := of_decide_eq_true (List.all_eq_true.mp hq.2.2.2.1 _ (rd_L1_mem d.1 (show rank < (pats m).length by omega)))
        show (rd_L1 (pats m) rank).length ≤ 12
        omega
      · rw [hw, decide_eq_true d]; exact Ans.yes rfl (e1.bind (Ans.yes d.1 (Ans.yes (by omega) (Ans.pure _))))
      · rw [hw, decide_eq_true d]; exact Ans.yes rfl (Ans.yes d.1 (Ans.yes (by omega) (Ans.pure _)))
    · refine ⟨([], false), by simp, Ans.yes rfl (e1.bind ?_), Ans.yes rfl (e2.bind ?_)⟩
      · rw [hw, decide_eq_false d]; exact Ans.not (by simp) (Ans.pure _)
      · rw [hw, decide_eq_false d]; exact Ans.not (by simp) (Ans.pure _)
  · rw [decide_eq_false c]
    exact ⟨([], false), by simp, Ans.not (by simp) (Ans.pure _), Ans.not (by simp) (Ans.pure _)⟩
theorem FnExactPatternWith : laws_FnExactPatternWith.Pure := by
  intro n rank _ _
  obtain ⟨⟨z, b⟩, hz, e1, e2⟩ := patternWith n rank
  have hz : z.length ≤ 12 := hz
  refine Ans.at (g := fun k => laws_FnExactPatternWith.f k n rank) ?_
  simp only [laws_FnExactPatternWith.f]
  refine e1.bind (e2.bind ((eqIntS z (by omega)).bind (Ans.yes (by simp) (Ans.step ?_))))
  simp only [laws_FnExactPatternWith.j0]
  refine Ans.not (by simp) ((markIntS z 1 (by omega) (by omega)).bind ((heldIntS z.length 1 (by omega) (by omega)).bind (Ans.not (by omega) (Ans.yes (by simp) ?_))))
  refine e2.bind ((eqIntS z (by omega)).bind (Ans.yes (by simp) (Ans.step ?_)))
  simp only [laws_FnExactPatternWith.j1]
  exact Ans.not (by simp) ((heldIntS z.length 1 (by omega) (by omega)).bind (Ans.not (by omega) (Ans.yes (by simp) (Ans.pure _))))

end Go.Proofs.Ytobkldkekopgoaa.Pure
