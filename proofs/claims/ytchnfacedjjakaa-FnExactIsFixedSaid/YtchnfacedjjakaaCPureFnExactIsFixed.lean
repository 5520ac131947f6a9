/- For all numbers of links and vectors the program's IsFixed returns what the reference's returns: no condition. -/
import Derived.Test.YtchnfacedjjakaaCFnExactIsFixedx3
import Derived.Test.YtchnfacedjjakaaQTwo
namespace Go.Proofs.Ytchnfacedjjakaa.Pure
open Go.RowKit Go.Proofs.Ytchnfacedjjakaa.X Go.Proofs.YtchnfacedjjakaaW.PrintWords Go.Proofs.YtchnfacedjjakaaW.PrintLast Go.Proofs.Ytchnfacedjjakaa.Q
set_option linter.unusedVariables false
set_option linter.unusedSimpArgs false
theorem rd_L1_mem {x : List (List Int)} {i : Int} (h0 : 0 ≤ i) (h1 : i < x.length) : rd_L1 x i ∈ x := by unfold rd_L1; exact getD_mem _ (by omega)
theorem len_le {x : List Int} (h : x.length ≤ 17592186044416) : (x.length : Int) ≤ 17592186044416 := by omega
theorem eqIntS_l0 (x : List Int) (hx : x.length ≤ 17592186044416) : ∀ (d : Nat) (i : Int), 0 ≤ i → i + d = x.length → ∀ k, d < k → laws_eqIntS.l0 k x x i = some true := by
  intro d
  induction d with
  | zero => intro i h0 h1 k hk; obtain ⟨j, rfl⟩ : ∃ j, k = j + 1 := ⟨k - 1, by omega⟩; unfold laws_eqIntS.l0; rw [if_neg (by omega)]
  | succ d ih =>
    intro i h0 h1 k hk; obtain ⟨j, rfl⟩ : ∃ j, k = j + 1 := ⟨k - 1, by omega⟩; unfold laws_eqIntS.l0
    rw [if_pos (by omega), if_pos h0, if_pos (by omega), if_pos rfl, wrap64_up h0 (by omega)]
    exact ih _ (by omega) (by omega) _ (by omega)
theorem eqIntS (x : List Int) (hx : x.length ≤ 17592186044416) : Ans (fun k => laws_eqIntS.f k x x) true :=
  Ans.from (x.length + 1) fun k hk => by unfold laws_eqIntS.f; rw [if_pos rfl]; exact eqIntS_l0 x hx x.length 0 (by omega) (by omega) _ (by omega)
theorem toIntS_l0 (x : List Int) (hx : x.length ≤ 17592186044416) : ∀ (d : Nat) (y : List Int) (i : Int), y.length = x.length → (∀ j : Nat, j < i → y.getD j 0 = x.getD j 0) → 0 ≤ i → i + d = x.length → ∀ k, d < k → laws_toIntS.l0 k x y i = some x := by
  intro d
  induction d with
  | zero =>
    intro y i hl hy h0 h1 k hk; obtain ⟨j, rfl⟩ : ∃ j, k = j + 1 := ⟨k - 1, by omega⟩; unfold laws_toIntS.l0; rw [if_neg (by omega)]
    refine congrArg some (List.ext_getElem hl fun n h2 h3 => ?_)
    have := hy n (by omega)
    rw [getD_at _ _ h2, getD_at _ _ h3] at this
    exact this
  | succ d ih =>
    intro y i hl hy h0 h1 k hk; obtain ⟨j, rfl⟩ : ∃ j, k = j + 1 := ⟨k - 1, by omega⟩; unfold laws_toIntS.l0
    rw [if_pos (by omega), if_pos h0, if_pos (by omega), wrap64_up h0 (by omega)]
    refine ih _ _ (by simp [hl]) ?_ (by omega) (by omega) _ (by omega)
    intro n hn
    obtain ⟨a, rfl⟩ : ∃ a : Nat, i = a := ⟨i.toNat, by omega⟩
    by_cases e : n = a
    · subst e
      have h2 : n < (y.set ((n : Int)).toNat (rd x n)).length := by simp only [List.length_set]; omega
      rw [getD_at _ _ h2]
      simp [rd]
    · have h2 : n < y.length := by omega
      have h3 : n < (y.set ((a : Int)).toNat (rd x a)).length := by simp only [List.length_set]; omega
      rw [← hy n (by omega), getD_at _ _ h3, getD_at _ _ h2, List.getElem_set_ne (by omega)]
theorem toIntS (x : List Int) (hx : x.length ≤ 17592186044416) : Ans (fun k => laws_toIntS.f k x) x :=
  Ans.from (x.length + 1) fun k hk => by
    unfold laws_toIntS.f; rw [if_pos (by omega), if_pos (by omega)]
    exact toIntS_l0 x hx x.length _ 0 (by simp) (by intro j hj; omega) (by omega) (by omega) _ (by omega)
theorem l1In (a b c : Int) : spec_l1In.f a b c = some (decide (b ≤ a ∧ a ≤ c)) := by
  unfold spec_l1In.f
  by_cases h : a ≥ b
  · rw [if_pos h]; refine congrArg some (decide_eq_decide.mpr ⟨fun q => ⟨h, q⟩, fun q => q.2⟩)
  · rw [if_neg h, decide_eq_false (by omega)]
theorem within (a b c : Int) : impl_within.f a b c = some (decide (b ≤ a ∧ a ≤ c)) := by
  unfold impl_within.f
  by_cases h : b ≤ a
  · rw [if_pos h]; refine congrArg some (decide_eq_decide.mpr ⟨fun q => ⟨h, q⟩, fun q => q.2⟩)
  · rw [if_neg h, decide_eq_false (by omega)]
/-- Where every element's test answers, 'ContainsFunc' tells whether one passes. -/
theorem containsI (x : List Int) (hx : x.length ≤ 17592186044416) (g : Int → Option Bool) (p : Int → Bool) (hg : ∀ a, g a = some (p a)) : Ans (fun k => slices_ContainsFunc_int_int_157.f k x g) (x.any p) := by
  have key : ∀ (d : Nat) (i : Int), 0 ≤ i → i + d = x.length → ∃ z : Int, Ans (fun k => slices_IndexFunc_int_int_181.l0 k x g (x.length : Int) i) z ∧ decide (z ≥ 0) = (x.drop i.toNat).any p := by
    intro d
    induction d with
    | zero =>
      intro i h0 h1
      refine ⟨-1, Ans.step ?_, by rw [List.drop_eq_nil_of_le (by omega)]; rfl⟩
      simp only [slices_IndexFunc_int_int_181.l0]; exact Ans.not (by omega) (Ans.pure _)
    | succ d ih =>
      intro i h0 h1
      have hd := drop_at x 0 (show i.toNat < x.length by omega)
      by_cases c : p (rd x i) = true
      · refine ⟨i, Ans.step ?_, by rw [hd, List.any_cons, show p (x.getD i.toNat 0) = true from c]; simp [h0]⟩
        simp only [slices_IndexFunc_int_int_181.l0, hg, Option.bind_some]
        exact Ans.yes (by omega) (Ans.yes h0 (Ans.yes (by omega) (Ans.yes c (Ans.pure _))))
      · obtain ⟨z, e, hz⟩ := ih (i + 1) (by omega) (by omega)
        refine ⟨z, Ans.step ?_, by rw [hz, hd, List.any_cons, show p (x.getD i.toNat 0) = false from Bool.eq_false_iff.mpr c, show (i + 1).toNat = i.toNat + 1 by omega]; simp⟩
        simp only [slices_IndexFunc_int_int_181.l0, hg, Option.bind_some, wrap64_up h0 (by omega : i ≤ 4611686018427387904)]
        exact Ans.yes (by omega) (Ans.yes h0 (Ans.yes (by omega) (Ans.not c e)))
  obtain ⟨z, e, hz⟩ := key x.length 0 (by omega) (by omega)
  simp only [slices_ContainsFunc_int_int_157.f, slices_IndexFunc_int_int_181.f]
  have := e.bind (h := fun _ t => some (decide (t ≥ 0))) (Ans.pure (decide (z ≥ 0)))
  rwa [hz] at this
theorem containsL (x : List (List Int)) (hx : x.length ≤ 17592186044416) (g : List Int → Option Bool) (p : List Int → Bool) (hg : ∀ a, g a = some (p a)) : Ans (fun k => slices_ContainsFunc_int_int_164.f k x g) (x.any p) := by
  have key : ∀ (d : Nat) (i : Int), 0 ≤ i → i + d = x.length → ∃ z : Int, Ans (fun k => slices_IndexFunc_int_int_148.l0 k x g (x.length : Int) i) z ∧ decide (z ≥ 0) = (x.drop i.toNat).any p := by
    intro d
    induction d with
    | zero =>
      intro i h0 h1
      refine ⟨-1, Ans.step ?_, by rw [List.drop_eq_nil_of_le (by omega)]; rfl⟩
      simp only [slices_IndexFunc_int_int_148.l0]; exact Ans.not (by omega) (Ans.pure _)
    | succ d ih =>
      intro i h0 h1
      have hd := drop_at x [] (show i.toNat < x.length by omega)
      by_cases c : p (rd_L1 x i) = true
      · refine ⟨i, Ans.step ?_, by rw [hd, List.any_cons, show p (x.getD i.toNat []) = true from c]; simp [h0]⟩
        simp only [slices_IndexFunc_int_int_148.l0, hg, Option.bind_some]
        exact Ans.yes (by omega) (Ans.yes h0 (Ans.yes (by omega) (Ans.yes c (Ans.pure _))))
      · obtain ⟨z, e, hz⟩ := ih (i + 1) (by omega) (by omega)
        refine ⟨z, Ans.step ?_, by rw [hz, hd, List.any_cons, show p (x.getD i.toNat []) = false from Bool.eq_false_iff.mpr c, show (i + 1).toNat = i.toNat + 1 by omega]; simp⟩
        simp only [slices_IndexFunc_int_int_148.l0, hg, Option.bind_some, wrap64_up h0 (by omega : i ≤ 4611686018427387904)]
        exact Ans.yes (by omega) (Ans.yes h0 (Ans.yes (by omega) (Ans.not c e)))
  obtain ⟨z, e, hz⟩ := key x.length 0 (by omega) (by omega)
  simp only [slices_ContainsFunc_int_int_164.f, slices_IndexFunc_int_int_148.f]
  have := e.bind (h := fun _ t => some (decide (t ≥ 0))) (Ans.pure (decide (z ≥ 0)))
  rwa [hz] at this
def allIn (x : List Int) (lo hi : Int) : Bool := x.all fun a => decide (lo ≤ a ∧ a ≤ hi)
theorem l1All (x : List Int) (hx : x.length ≤ 17592186044416) (lo hi : Int) : Ans (fun k => spec_l1All.f k x lo hi) (allIn x lo hi) := by
  have key : ∀ (d : Nat) (i : Int), 0 ≤ i → i + d = x.length → Ans (fun k => spec_l1All.l0 k lo hi x (x.length : Int) i) (allIn (x.drop i.toNat) lo hi) := by
    intro d
    induction d with
    | zero =>
      intro i h0 h1
      rw [List.drop_eq_nil_of_le (by omega)]; refine Ans.step ?_
      simp only [spec_l1All.l0]; exact Ans.not (by omega) (Ans.pure _)
    | succ d ih =>
      intro i h0 h1
      have hd := drop_at x 0 (show i.toNat < x.length by omega)
      have e := ih (i + 1) (by omega) (by omega)
      rw [hd, allIn, List.all_cons, show decide (lo ≤ x.getD i.toNat 0 ∧ x.getD i.toNat 0 ≤ hi) = decide (lo ≤ rd x i ∧ rd x i ≤ hi) from rfl]
      refine Ans.step ?_
      simp only [spec_l1All.l0, l1In, Option.bind_some, wrap64_up h0 (by omega : i ≤ 4611686018427387904)]
      refine Ans.yes (by omega) (Ans.yes h0 (Ans.yes (by omega) ?_))
      by_cases c : decide (lo ≤ rd x i ∧ rd x i ≤ hi) = true
      · rw [c, Bool.true_and]; rw [show (i + 1).toNat = i.toNat + 1 by omega] at e; exact Ans.yes rfl e
      · rw [Bool.eq_false_iff.mpr c, Bool.false_and]; exact Ans.not (by simp) (Ans.pure _)
  exact key x.length 0 (by omega) (by omega)
theorem areWithin (x : List Int) (hx : x.length ≤ 17592186044416) (lo hi : Int) : Ans (fun k => impl_areWithin.f k x lo hi) (allIn x lo hi) := by
  have e := containsI x hx (fun x0_ => impl_areWithin_1.f x0_ lo hi) (fun a => !decide (lo ≤ a ∧ a ≤ hi)) (fun a => by simp only [impl_areWithin_1.f, within, Option.bind_some])
  have := e.bind (h := fun _ t => some (!t)) (Ans.pure _)
  rw [List.not_any_eq_all_not] at this
  simp only [Bool.not_not] at this
  exact this
theorem LeO.far {α : Type} {g : Nat → Option α} {r : α} (h : ∀ k, LeO (g k) (g (k + 1))) (m : Nat) (e : g m = some r) : Ans g r :=
  ⟨m, fun k hk => by
    obtain ⟨j, rfl⟩ : ∃ j, k = m + j := ⟨k - m, by omega⟩
    clear hk
    induction j with
    | zero => exact e
    | succ j ih => exact h _ r ih⟩
/-- All lists of numbers under m whose beginnings all pass a test. -/
def levels (m : Nat) (ok : List Int → Bool) : Nat → List (List Int)
  | 0 => [[]]
  | d + 1 => (levels m ok d).flatMap fun q => ((List.range m).map fun v : Nat => q ++ [(v : Int)]).filter ok
/-- What a beginning of a pattern tells of itself. -/
def okHead (q : List Int) : Bool :=
  (List.range q.length).all fun i => decide (q.getD i 0 ≠ i) && (decide ((q.length : Int) ≤ q.getD i 0) || decide (q.getD (q.getD i 0).toNat 0 = i)) &&
    (List.range i).all fun j => decide (q.getD j 0 ≠ q.getD i 0) && (decide (q.getD j 0 ≤ i) || (decide ((j : Int) + 1 ≤ q.getD i 0) && decide (q.getD i 0 ≤ q.getD j 0 - 1)))
/-- The patterns, as the reference lists them. -/
def pats (n : Nat) : List (List Int) := (spec_loAll.f 300 n 0).getD []
theorem pats_all : ∀ n : Nat, 1 ≤ n → n ≤ 4 → spec_loAll.f 300 n 0 = some (pats n) ∧ impl_patterns.f 300 n = some (pats n) ∧ (levels (2 * n) okHead (2 * n)).all (fun q => decide (q ∈ pats n)) = true ∧ (pats n).all (fun q => decide (q.length = 2 * n)) = true ∧ (pats n).length ≤ 14 := by
  intro n h1 h2
  rcases (show n = 1 ∨ n = 2 ∨ n = 3 ∨ n = 4 by omega) with rfl | rfl | rfl | rfl
  · decide +kernel
  · decide +kernel
  · decide +kernel
  · decide +kernel
theorem loAll_at (n : Nat) (h1 : 1 ≤ n) (h2 : n ≤ 4) : Ans (fun k => spec_loAll.f k n 0) (pats n) := LeO.far (fun k => spec_loAll.mono _ _ k) 300 (pats_all n h1 h2).1
theorem patterns_at (n : Nat) (h1 : 1 ≤ n) (h2 : n ≤ 4) : Ans (fun k => impl_patterns.f k n) (pats n) := LeO.far (fun k => impl_patterns.mono _ k) 300 (pats_all n h1 h2).2.1
/-- The sums of the operators of few links, as the reference makes them. -/
def sumOf (n : Nat) : List (List Int) := (spec_sySum.f 400 n).getD []
theorem sums_all : ∀ n : Nat, 1 ≤ n → n ≤ 4 → spec_sySum.f 400 n = some (sumOf n) ∧ impl_SumOperator.f 400 n = some (sumOf n, true) ∧ (sumOf n).length ≤ 14 ∧ ∀ r ∈ sumOf n, r.length ≤ 14 := by
  intro n h1 h2
  rcases (show n = 1 ∨ n = 2 ∨ n = 3 ∨ n = 4 by omega) with rfl | rfl | rfl | rfl
  · decide +kernel
  · decide +kernel
  · decide +kernel
  · decide +kernel
theorem sySum_at (n : Nat) (h1 : 1 ≤ n) (h2 : n ≤ 4) : Ans (fun k => spec_sySum.f k n) (sumOf n) := LeO.far (fun k => spec_sySum.mono _ k) 400 (sums_all n h1 h2).1
theorem sumOperator_at (n : Nat) (h1 : 1 ≤ n) (h2 : n ≤ 4) : Ans (fun k => impl_SumOperator.f k n) (sumOf n, true) := LeO.far (fun k => impl_SumOperator.mono _ k) 400 (sums_all n h1 h2).2.1
theorem sumOperator_no (n : Int) (h : ¬ (1 ≤ n ∧ n ≤ 4)) : Ans (fun k => impl_SumOperator.f k n) ([], false) := by
  simp only [impl_SumOperator.f, impl_arePairs.f, within, Option.bind_some]
  rw [decide_eq_false h]
  exact Ans.not (by simp) (Ans.pure _)
theorem isSquare (x : List (List Int)) (hx : x.length ≤ 17592186044416) : Ans (fun k => impl_isSquare.f k x) (x.all fun r => decide (r.length = x.length)) := by
  have e := containsL x hx (fun x0_ => impl_isSquare_1.f x0_ x) (fun r => (r.length : Int) != (x.length : Int)) (fun a => rfl)
  have := e.bind (h := fun _ t => some (!t)) (Ans.pure _)
  rw [List.not_any_eq_all_not] at this
  rwa [show (fun r : List Int => !((r.length : Int) != (x.length : Int))) = fun r => decide (r.length = x.length) from funext fun r => by by_cases h : r.length = x.length <;> simp [bne, h]; omega] at this
/-- The sum of the products, added up as the program adds. -/
def dotW : Int → List Int → List Int → Int
  | s, a :: x, b :: y => dotW (wrap64 (s + wrap64 (a * b))) x y
  | s, _, _ => s
theorem dot_step (s : Int) (row v : List Int) (i : Int) (h0 : 0 ≤ i) (h1 : i < row.length) (h2 : i < v.length) : dotW s (row.drop i.toNat) (v.drop i.toNat) = dotW (wrap64 (s + wrap64 (rd row i * rd v i))) (row.drop (i + 1).toNat) (v.drop (i + 1).toNat) := by
  rw [drop_at row 0 (show i.toNat < row.length by omega), drop_at v 0 (show i.toNat < v.length by omega), show (i + 1).toNat = i.toNat + 1 by omega]; rfl
theorem dot_end (s : Int) (row v : List Int) (i : Int) (h1 : i = row.length) : dotW s (row.drop i.toNat) (v.drop i.toNat) = s := by
  rw [List.drop_eq_nil_of_le (by omega)]; rfl
theorem spec_sum {R : List Int} (v acc row : List Int) (rows : List (List Int)) (n m : Int) (hl : row.length = v.length) (hv : v.length ≤ 14) (ha : acc.length < 17592186044416) (hm : 0 ≤ m) (hm' : m ≤ 100) : ∀ (d : Nat) (i s : Int), 0 ≤ i → i + d = row.length →
    Ans (fun k => spec_syApply.l0 k v (acc ++ [dotW s (row.drop i.toNat) (v.drop i.toNat)]) rows n (m + 1)) R → Ans (fun k => spec_syApply.l1 k v acc s rows n m row (row.length : Int) i) R := by
  intro d
  induction d with
  | zero =>
    intro i s h0 h1 h; refine Ans.step ?_
    rw [dot_end s row v i (by omega)] at h
    simp only [spec_syApply.l1, wrap64_up hm (by omega : m ≤ 4611686018427387904)]
    exact Ans.not (by omega) (Ans.yes ha h)
  | succ d ih =>
    intro i s h0 h1 h; refine Ans.step ?_
    rw [dot_step s row v i h0 (by omega) (by omega)] at h
    simp only [spec_syApply.l1, wrap64_up h0 (by omega : i ≤ 4611686018427387904)]
    exact Ans.yes (by omega) (Ans.yes h0 (Ans.yes (by omega) (Ans.yes (by omega) (ih _ _ (by omega) (by omega) h))))
theorem impl_sum {R : List Int × Bool} (v acc row : List Int) (rows : List (List Int)) (n m : Int) (hl : row.length = v.length) (hv : v.length ≤ 14) (ha : acc.length < 17592186044416) (hm : 0 ≤ m) (hm' : m ≤ 100) : ∀ (d : Nat) (i s : Int), 0 ≤ i → i + d = row.length →
    Ans (fun k => impl_ApplyOperator.l0 k v (acc ++ [dotW s (row.drop i.toNat) (v.drop i.toNat)]) rows n (m + 1)) R → Ans (fun k => impl_ApplyOperator.l1 k v acc s rows n m row (row.length : Int) i) R := by
  intro d
  induction d with
  | zero =>
    intro i s h0 h1 h; refine Ans.step ?_
    rw [dot_end s row v i (by omega)] at h
    simp only [impl_ApplyOperator.l1, wrap64_up hm (by omega : m ≤ 4611686018427387904)]
    exact Ans.not (by omega) (Ans.yes ha h)
  | succ d ih =>
    intro i s h0 h1 h; refine Ans.step ?_
    rw [dot_step s row v i h0 (by omega) (by omega)] at h
    simp only [impl_ApplyOperator.l1, wrap64_up h0 (by omega : i ≤ 4611686018427387904)]
    exact Ans.yes (by omega) (Ans.yes h0 (Ans.yes (by omega) (Ans.yes (by omega) (ih _ _ (by omega) (by omega) h))))
theorem syApply (v : List Int) (rows : List (List Int)) (hv : v.length ≤ 14) (hr : ∀ r ∈ rows, r.length = v.length) (hn : rows.length ≤ 14) : ∀ (d : Nat) (i : Int) (acc : List Int), 0 ≤ i → i + d = rows.length → acc.length ≤ 14 - d →
    Ans (fun k => spec_syApply.l0 k v acc rows (rows.length : Int) i) (acc ++ (rows.drop i.toNat).map fun r => dotW 0 r v) := by
  intro d
  induction d with
  | zero =>
    intro i acc h0 h1 h2; refine Ans.step ?_
    rw [List.drop_eq_nil_of_le (by omega), List.map_nil, List.append_nil]
    simp only [spec_syApply.l0]; exact Ans.not (by omega) (Ans.pure _)
  | succ d ih =>
    intro i acc h0 h1 h2; refine Ans.step ?_
    have hd := drop_at rows [] (show i.toNat < rows.length by omega)
    have e := ih (i + 1) (acc ++ [dotW 0 (rd_L1 rows i) v]) (by omega) (by omega) (by simp only [List.length_append, List.length_singleton]; omega)
    rw [hd, List.map_cons, show rows.getD i.toNat [] = rd_L1 rows i from rfl]
    rw [show (i + 1).toNat = i.toNat + 1 by omega, List.append_assoc, List.singleton_append] at e
    simp only [spec_syApply.l0]
    exact Ans.yes (by omega) (Ans.yes h0 (Ans.yes (by omega) (spec_sum v acc _ rows _ i (hr _ (rd_L1_mem h0 (by omega))) hv (by omega) h0 (by omega) _ 0 0 (by omega) (show (0 : Int) + ((rd_L1 rows i).length : Nat) = _ by omega) e)))
theorem implRows (v : List Int) (rows : List (List Int)) (hv : v.length ≤ 14) (hr : ∀ r ∈ rows, r.length = v.length) (hn : rows.length ≤ 14) : ∀ (d : Nat) (i : Int) (acc : List Int), 0 ≤ i → i + d = rows.length → acc.length ≤ 14 - d →
    Ans (fun k => impl_ApplyOperator.l0 k v acc rows (rows.length : Int) i) (if (rows.drop i.toNat).all (fun r => allIn r 0 100) then (acc ++ (rows.drop i.toNat).map fun r => dotW 0 r v, true) else ([], false)) := by
  intro d
  induction d with
  | zero =>
    intro i acc h0 h1 h2; refine Ans.step ?_
    rw [List.drop_eq_nil_of_le (by omega), List.map_nil, List.append_nil]
    simp only [impl_ApplyOperator.l0]; exact Ans.not (by omega) (Ans.pure _)
  | succ d ih =>
    intro i acc h0 h1 h2; refine Ans.step ?_
    have hd := drop_at rows [] (show i.toNat < rows.length by omega)
    have hm := rd_L1_mem h0 (show i < rows.length by omega)
    have e := ih (i + 1) (acc ++ [dotW 0 (rd_L1 rows i) v]) (by omega) (by omega) (by simp only [List.length_append, List.length_singleton]; omega)
    rw [hd, List.map_cons, List.all_cons, show rows.getD i.toNat [] = rd_L1 rows i from rfl]
    rw [show (i + 1).toNat = i.toNat + 1 by omega, List.append_assoc, List.singleton_append] at e
    simp only [impl_ApplyOperator.l0]
    refine Ans.yes (by omega) (Ans.yes h0 (Ans.yes (by omega) ((areWithin _ (by have := hr _ hm; omega) 0 100).bind ?_)))
    by_cases c : allIn (rd_L1 rows i) 0 100 = true
    · rw [c, Bool.true_and]
      exact Ans.yes rfl (impl_sum v acc _ rows _ i (hr _ hm) hv (by omega) h0 (by omega) _ 0 0 (by omega) (show (0 : Int) + ((rd_L1 rows i).length : Nat) = _ by omega) e)
    · rw [Bool.eq_false_iff.mpr c, Bool.false_and]
      exact Ans.not (by simp) (Ans.pure _)
theorem sums_sq : ∀ n : Nat, 1 ≤ n → n ≤ 4 → (sumOf n).length = (pats n).length ∧ 1 ≤ (sumOf n).length ∧ (sumOf n).all (fun r => decide (r.length = (sumOf n).length)) = true ∧ (sumOf n).all (fun r => allIn r 0 100) = true := by
  intro n h1 h2
  rcases (show n = 1 ∨ n = 2 ∨ n = 3 ∨ n = 4 by omega) with rfl | rfl | rfl | rfl
  · decide +kernel
  · decide +kernel
  · decide +kernel
  · decide +kernel
theorem implApply (M : List (List Int)) (v : List Int) (hv : v.length ≤ 17592186044416) (h1 : 1 ≤ M.length) (h14 : M.length ≤ 14) (hsq : M.all (fun r => decide (r.length = M.length)) = true) (hin : M.all (fun r => allIn r 0 100) = true) :
    Ans (fun k => impl_ApplyOperator.f k M v) (if v.length = M.length then (if allIn v 0 1000000 = true then (M.map fun r => dotW 0 r v, true) else ([], false)) else ([], false)) := by
  have no : Ans (fun k => impl_ApplyOperator.j0 k M v true) (([] : List Int), false) := by
    refine Ans.step ?_
    simp only [impl_ApplyOperator.j0]
    exact Ans.yes (by simp) (Ans.pure _)
  have hs := isSquare M (by omega)
  rw [hsq] at hs
  simp only [impl_ApplyOperator.f, within, Option.bind_some]
  refine Ans.yes (by simp; omega) (hs.bind (Ans.yes rfl ?_))
  by_cases c : v.length = M.length
  · rw [if_pos c]
    refine Ans.yes (by omega) ((areWithin v hv 0 1000000).bind ?_)
    by_cases d : allIn v 0 1000000 = true
    · rw [if_pos d, d]
      refine Ans.step ?_
      simp only [impl_ApplyOperator.j0]
      have hr : ∀ r ∈ M, r.length = v.length := fun r h => by have := of_decide_eq_true (List.all_eq_true.mp hsq r h); omega
      have e := implRows v M (by omega) hr h14 M.length 0 [] (by omega) (by omega) (by simp)
      rw [show (0 : Int).toNat = 0 from rfl, List.drop_zero, if_pos hin, List.nil_append] at e
      exact Ans.not (by simp) e
    · rw [if_neg d, Bool.eq_false_iff.mpr d]
      exact no
  · rw [if_neg c]
    exact Ans.not (by omega) no
theorem fixedLoop (n : Int) (v made : List Int) (hv : v.length ≤ 14) (hm : made.length = v.length) : ∀ (d : Nat) (i : Int), 0 ≤ i → i + d = v.length →
    ∃ b : Bool, Ans (fun k => spec_syFixed.l0 k n v made (made.length : Int) i) b ∧ Ans (fun k => impl_IsFixed.l0 k n made v (v.length : Int) i) (b, true) := by
  intro d
  induction d with
  | zero =>
    intro i h0 h1
    refine ⟨true, Ans.step ?_, Ans.step ?_⟩
    · simp only [spec_syFixed.l0]; exact Ans.not (by omega) (Ans.pure _)
    · simp only [impl_IsFixed.l0]; exact Ans.not (by omega) (Ans.pure _)
  | succ d ih =>
    intro i h0 h1
    by_cases c : rd made i = wrap64 (wrap64 (2 * n) * rd v i)
    · obtain ⟨b, e1, e2⟩ := ih (i + 1) (by omega) (by omega)
      refine ⟨b, Ans.step ?_, Ans.step ?_⟩
      · simp only [spec_syFixed.l0, wrap64_up h0 (by omega : i ≤ 4611686018427387904)]
        exact Ans.yes (by omega) (Ans.yes h0 (Ans.yes (by omega) (Ans.yes (by omega) (Ans.yes c e1))))
      · simp only [impl_IsFixed.l0, wrap64_up h0 (by omega : i ≤ 4611686018427387904)]
        exact Ans.yes (by omega) (Ans.yes h0 (Ans.yes (by omega) (Ans.yes (by omega) (Ans.yes c e2))))
    · refine ⟨false, Ans.step ?_, Ans.step ?_⟩
      · simp only [spec_syFixed.l0]
        exact Ans.yes (by omega) (Ans.yes h0 (Ans.yes (by omega) (Ans.yes (by omega) (Ans.not c (Ans.pure _)))))
      · simp only [impl_IsFixed.l0]
        exact Ans.yes (by omega) (Ans.yes h0 (Ans.yes (by omega) (Ans.yes (by omega) (Ans.not c (Ans.pure _)))))
theorem isFixed (n : Int) (v : List Int) (hv : v.length ≤ 17592186044416) : Two (fun k => spec_IsFixed.f k n v) (fun k => impl_IsFixed.f k n v) (fun _ => True) := by
  by_cases c : 1 ≤ n ∧ n ≤ 4
  · obtain ⟨m, rfl⟩ : ∃ m : Nat, n = m := ⟨n.toNat, by omega⟩
    have hq := sums_sq m (by omega) (by omega)
    have hp := pats_all m (by omega) (by omega)
    have e1 := loAll_at m (by omega) (by omega)
    have e2 := sumOperator_at m (by omega) (by omega)
    have e3 := sySum_at m (by omega) (by omega)
    have h14 : (sumOf m).length ≤ 14 := (sums_all m (by omega) (by omega)).2.2.1
    have ea := implApply (sumOf m) v hv hq.2.1 h14 hq.2.2.1 hq.2.2.2
    simp only [spec_IsFixed.f, impl_IsFixed.f, spec_syPairs.f, l1In, Option.bind_some]
    rw [decide_eq_true c]
    by_cases d : v.length = (sumOf m).length
    · rw [if_pos d] at ea
      by_cases f : allIn v 0 1000000 = true
      · rw [if_pos f] at ea
        have hr : ∀ r ∈ sumOf m, r.length = v.length := fun r h => by have := of_decide_eq_true (List.all_eq_true.mp hq.2.2.1 r h); omega
        obtain ⟨b, l1, l2⟩ := fixedLoop m v ((sumOf m).map fun r => dotW 0 r v) (by omega) (by simp; omega) v.length 0 (by omega) (by omega)
        have es := syApply v (sumOf m) (by omega) hr h14 (sumOf m).length 0 [] (by omega) (by omega) (by simp)
        rw [show (0 : Int).toNat = 0 from rfl, List.drop_zero, List.nil_append] at es
        refine ⟨(b, true), trivial, Ans.yes rfl (e1.bind (Ans.yes (by omega) ((l1All v hv 0 1000000).bind ?_))), e2.bind (ea.bind (Ans.yes rfl l2))⟩
        rw [f]
        refine Ans.yes rfl (Ans.bind (g := fun k => spec_syFixed.f k m v) (h := fun _ t => some (t, true)) ?_ (Ans.pure _))
        simp only [spec_syFixed.f]
        exact e3.bind (Ans.bind (g := fun k => spec_syApply.f k (sumOf m) v) es l1)
      · rw [if_neg f] at ea
        refine ⟨(false, false), trivial, Ans.yes rfl (e1.bind (Ans.yes (by omega) ((l1All v hv 0 1000000).bind ?_))), e2.bind (ea.bind (Ans.not (by simp) (Ans.pure _)))⟩
        rw [Bool.eq_false_iff.mpr f]
        exact Ans.not (by simp) (Ans.pure _)
    · rw [if_neg d] at ea
      exact ⟨(false, false), trivial, Ans.yes rfl (e1.bind (Ans.not (by omega) (Ans.pure _))), e2.bind (ea.bind (Ans.not (by simp) (Ans.pure _)))⟩
  · simp only [spec_IsFixed.f, impl_IsFixed.f, spec_syPairs.f, l1In, Option.bind_some]
    rw [decide_eq_false c]
    refine ⟨(false, false), trivial, Ans.not (by simp) (Ans.pure _), (sumOperator_no n c).bind (Ans.bind (a := (([] : List Int), false)) ?_ (Ans.not (by simp) (Ans.pure _)))⟩
    simp only [impl_ApplyOperator.f, within, Option.bind_some]
    refine Ans.not (by simp) (Ans.step ?_)
    simp only [impl_ApplyOperator.j0]
    exact Ans.yes (by simp) (Ans.pure _)
theorem FnExactIsFixed : laws_FnExactIsFixed.Pure := by
  intro n v _ m0 y0 _
  have hv : v.length ≤ 17592186044416 := by omega
  refine Ans.at (g := fun k => laws_FnExactIsFixed.f k n v) ?_
  simp only [laws_FnExactIsFixed.f]
  by_cases cx : (v.length : Int) > 1048576
  · exact Ans.yes cx (Ans.pure _)
  obtain ⟨⟨z, b⟩, _, e1, e2⟩ := isFixed n v hv
  refine Ans.not cx ((toIntS v hv).bind (e1.bind ((toIntS v hv).bind (e2.bind (Ans.not (by simp) (Ans.step ?_))))))
  simp only [laws_FnExactIsFixed.j0]
  exact Ans.not (by simp) ((toIntS v hv).bind ((eqIntS v hv).bind (Ans.yes (by simp) (Ans.pure _))))

end Go.Proofs.Ytchnfacedjjakaa.Pure
