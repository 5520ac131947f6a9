/- For all bytes the statement on the kinds of places answers true: no condition. -/
import Derived.Test.YtkfoockclldieaaCFnKindsOfPlacesx5
import Derived.Test.YtkfoockclldieaaQTwo
import Derived.Test.YtkfoockclldieaaQByte
import Derived.Test.YtkfoockclldieaaQByte
namespace Go.Proofs.Ytkfoockclldieaa.Pure
open Go.RowKit Go.Proofs.Ytkfoockclldieaa.X Go.Proofs.YtkfoockclldieaaW.PrintWords Go.Proofs.YtkfoockclldieaaW.PrintLast Go.Proofs.Ytkfoockclldieaa.Q
set_option linter.unusedVariables false
set_option linter.unusedSimpArgs false
theorem rd_L1_mem {x : List (List Int)} {i : Int} (h0 : 0 ≤ i) (h1 : i < x.length) : rd_L3 x i ∈ x := by unfold rd_L3; exact getD_mem _ (by omega)
theorem LeO.far {α : Type} {g : Nat → Option α} {r : α} (h : ∀ k, LeO (g k) (g (k + 1))) (m : Nat) (e : g m = some r) : Ans g r :=
  ⟨m, fun k hk => by
    obtain ⟨j, rfl⟩ : ∃ j, k = m + j := ⟨k - m, by omega⟩
    clear hk
    induction j with
    | zero => exact e
    | succ j ih => exact h _ r ih⟩
theorem l1In (a b c : Int) : spec_l1In.f a b c = some (decide (b ≤ a ∧ a ≤ c)) := by
  unfold spec_l1In.f
  by_cases h : a ≥ b
  · rw [if_pos h]; refine congrArg some (decide_eq_decide.mpr ⟨fun q => ⟨h, q⟩, fun q => q.2⟩)
  · rw [if_neg h, decide_eq_false (by omega)]
theorem within (a b c : Int) : impl_within.f a b c = some (decide (b ≤ a ∧ a ≤ c)) := by
  unfold impl_within.f
  by_cases h : b ≤ a
  · rw [if_pos h]; refine congrArg some (decide_eq_decide.mpr ⟨fun q => ⟨h, q⟩, fun q => q.2⟩)
  · rw [if_neg h, decide_eq_false (by omega)]
theorem containsL (x : List (List Int)) (hx : x.length ≤ 17592186044416) (g : List Int → Option Bool) (p : List Int → Bool) (hg : ∀ a, g a = some (p a)) : Ans (fun k => slices_ContainsFunc_int_int.f k x g) (x.any p) := by
  have key : ∀ (d : Nat) (i : Int), 0 ≤ i → i + d = x.length → ∃ z : Int, Ans (fun k => slices_IndexFunc_int_int.l0 k x g (x.length : Int) i) z ∧ decide (z ≥ 0) = (x.drop i.toNat).any p := by
    intro d
    induction d with
    | zero =>
      intro i h0 h1
      refine ⟨-1, Ans.step ?_, by rw [List.drop_eq_nil_of_le (by omega)]; rfl⟩
      simp only [slices_IndexFunc_int_int.l0]; exact Ans.not (by omega) (Ans.pure _)
    | succ d ih =>
      intro i h0 h1
      have hd := drop_at x [] (show i.toNat < x.length by omega)
      by_cases c : p (rd_L3 x i) = true
      · refine ⟨i, Ans.step ?_, by rw [hd, List.any_cons, show p (x.getD i.toNat []) = true from c]; simp [h0]⟩
        simp only [slices_IndexFunc_int_int.l0, hg, Option.bind_some]
        exact Ans.yes (by omega) (Ans.yes h0 (Ans.yes (by omega) (Ans.yes c (Ans.pure _))))
      · obtain ⟨z, e, hz⟩ := ih (i + 1) (by omega) (by omega)
        refine ⟨z, Ans.step ?_, by rw [hz, hd, List.any_cons, show p (x.getD i.toNat []) = false from Bool.eq_false_iff.mpr c, show (i + 1).toNat = i.toNat + 1 by omega]; simp⟩
        simp only [slices_IndexFunc_int_int.l0, hg, Option.bind_some, wrap64_up h0 (by omega : i ≤ 4611686018427387904)]
        exact Ans.yes (by omega) (Ans.yes h0 (Ans.yes (by omega) (Ans.not c e)))
  obtain ⟨z, e, hz⟩ := key x.length 0 (by omega) (by omega)
  simp only [slices_ContainsFunc_int_int.f, slices_IndexFunc_int_int.f]
  have := e.bind (h := fun _ t => some (decide (t ≥ 0))) (Ans.pure (decide (z ≥ 0)))
  rwa [hz] at this
theorem isSquare (x : List (List Int)) (hx : x.length ≤ 17592186044416) : Ans (fun k => impl_isSquare.f k x) (x.all fun r => decide (r.length = x.length)) := by
  have e := containsL x hx (fun x0_ => impl_isSquare_1.f x0_ x) (fun r => (r.length : Int) != (x.length : Int)) (fun a => rfl)
  have := e.bind (h := fun _ t => some (!t)) (Ans.pure _)
  rw [List.not_any_eq_all_not] at this
  rwa [show (fun r : List Int => !((r.length : Int) != (x.length : Int))) = fun r => decide (r.length = x.length) from funext fun r => by by_cases h : r.length = x.length <;> simp [bne, h]; omega] at this
def colOf (x : List (List Int)) (j : Int) : List Int := x.map fun r => rd r j
theorem range_drop {n i : Nat} (h : i < n) : (List.range n).drop i = i :: (List.range n).drop (i + 1) := by
  rw [drop_at (List.range n) 0 (by simpa using h), getD_at _ _ (by simpa using h), List.getElem_range]
theorem sgTurn (x : List (List Int)) (h : x.length ≤ 1048576) (hr : ∀ r ∈ x, r.length = x.length) : Ans (fun k => spec_sgTurn.f k x) ((List.range x.length).map fun (j : Nat) => colOf x j) := by
  have inner : ∀ (out : List (List Int)) (j : Int) (R : List (List Int)), 0 ≤ j → j < x.length → out.length ≤ 1048576 → ∀ (d : Nat) (i : Int) (acc : List Int), 0 ≤ i → i + d = x.length → acc.length + d ≤ 1048576 →
      Ans (fun k => spec_sgTurn.l0 k x (out ++ [acc ++ colOf (x.drop i.toNat) j]) (x.length : Int) (j + 1)) R → Ans (fun k => spec_sgTurn.l1 k x out j acc (x.length : Int) j x (x.length : Int) i) R := by
    intro out j R hj hj' ho d
    induction d with
    | zero =>
      intro i acc h0 h1 h2 e
      rw [List.drop_eq_nil_of_le (by omega), colOf, List.map_nil, List.append_nil] at e; refine Ans.step ?_
      simp only [spec_sgTurn.l1, wrap64_up hj (by omega : j ≤ 4611686018427387904)]; exact Ans.not (by omega) (Ans.yes (by omega) e)
    | succ d ih =>
      intro i acc h0 h1 h2 e
      have hm := rd_L1_mem h0 (show i < x.length by omega)
      rw [drop_at x [] (show i.toNat < x.length by omega), show x.getD i.toNat [] = rd_L3 x i from rfl] at e
      refine Ans.step ?_
      simp only [spec_sgTurn.l1, wrap64_up h0 (by omega : i ≤ 4611686018427387904)]
      refine Ans.yes (by omega) (Ans.yes h0 (Ans.yes (by omega) (Ans.yes hj (Ans.yes (by have := hr _ hm; omega) (Ans.yes (by omega) (ih (i + 1) _ (by omega) (by omega) (by simp only [List.length_append, List.length_singleton]; omega) ?_))))))
      rw [show (i + 1).toNat = i.toNat + 1 by omega, List.append_assoc, List.singleton_append]
      exact e
  have key : ∀ (d : Nat) (j : Int) (out : List (List Int)), 0 ≤ j → j + d = x.length → out.length + d ≤ 1048576 → Ans (fun k => spec_sgTurn.l0 k x out (x.length : Int) j) (out ++ ((List.range x.length).drop j.toNat).map fun (j : Nat) => colOf x j) := by
    intro d
    induction d with
    | zero =>
      intro j out h0 h1 h2
      rw [List.drop_eq_nil_of_le (by simp only [List.length_range]; omega), List.map_nil, List.append_nil]; refine Ans.step ?_
      simp only [spec_sgTurn.l0]; exact Ans.not (by omega) (Ans.pure _)
    | succ d ih =>
      intro j out h0 h1 h2
      have e := ih (j + 1) (out ++ [colOf x j]) (by omega) (by omega) (by simp only [List.length_append, List.length_singleton]; omega)
      rw [show (j + 1).toNat = j.toNat + 1 by omega, List.append_assoc, List.singleton_append] at e
      rw [range_drop (show j.toNat < x.length by omega), List.map_cons, show ((j.toNat : Nat) : Int) = j by omega]
      refine Ans.step ?_
      simp only [spec_sgTurn.l0]
      exact Ans.yes (by omega) (inner out j _ h0 (by omega) (by omega) x.length 0 [] (by omega) (by omega) (by simp only [List.length_nil]; omega) e)
  exact key x.length 0 [] (by omega) (by omega) (by simp only [List.length_nil]; omega)
/-- The numbers are -1, 0, 1, and their sums from s on are 0 or 1, the last one 1. -/
def walkOk : Int → List Int → Bool
  | s, [] => s == 1
  | s, a :: x => decide (-1 ≤ a ∧ a ≤ 1) && (decide (0 ≤ s + a ∧ s + a ≤ 1) && walkOk (s + a) x)
theorem alternate (x : List Int) (hx : x.length ≤ 17592186044416) : Ans (fun k => impl_alternate.f k x) (walkOk 0 x) := by
  have key : ∀ (d : Nat) (i s : Int), 0 ≤ i → i + d = x.length → 0 ≤ s → s ≤ 1 → Ans (fun k => impl_alternate.l0 k s x (x.length : Int) i) (walkOk s (x.drop i.toNat)) := by
    intro d
    induction d with
    | zero =>
      intro i s h0 h1 s0 s1
      rw [List.drop_eq_nil_of_le (by omega)]; refine Ans.step ?_
      simp only [impl_alternate.l0]; exact Ans.not (by omega) (Ans.pure _)
    | succ d ih =>
      intro i s h0 h1 s0 s1
      rw [drop_at x 0 (show i.toNat < x.length by omega), show x.getD i.toNat 0 = rd x i from rfl, walkOk]
      refine Ans.step ?_
      simp only [impl_alternate.l0, within, Option.bind_some, wrap64_up h0 (by omega : i ≤ 4611686018427387904)]
      refine Ans.yes (by omega) (Ans.yes h0 (Ans.yes (by omega) ?_))
      by_cases c1 : decide (-1 ≤ rd x i ∧ rd x i ≤ 1) = true
      · have b1 := of_decide_eq_true c1
        have hw : wrap64 (s + rd x i) = s + rd x i := wrap64_in _ ⟨by omega, by omega⟩
        simp only [hw]
        rw [c1, Bool.true_and]
        refine Ans.yes rfl ?_
        by_cases c2 : decide (0 ≤ s + rd x i ∧ s + rd x i ≤ 1) = true
        · have b2 := of_decide_eq_true c2
          have e := ih (i + 1) (s + rd x i) (by omega) (by omega) b2.1 b2.2
          rw [show (i + 1).toNat = i.toNat + 1 by omega] at e
          rw [c2, Bool.true_and]; exact Ans.yes rfl e
        · rw [Bool.eq_false_iff.mpr c2, Bool.false_and]; exact Ans.not (by simp) (Ans.pure _)
      · rw [Bool.eq_false_iff.mpr c1, Bool.false_and]; exact Ans.not (by simp) (Ans.pure _)
  exact key x.length 0 0 (by omega) (by omega) (by omega) (by omega)
theorem sgRows (x : List (List Int)) (hx : x.length ≤ 17592186044416) (hr : ∀ r ∈ x, r.length ≤ 17592186044416) : Ans (fun k => spec_sgRows.f k x) (x.all (walkOk 0)) := by
  have inner : ∀ (row : List Int) (m : Int) (R : Bool), row.length ≤ 17592186044416 → 0 ≤ m → m ≤ 17592186044416 → Ans (fun k => spec_sgRows.l0 k x (x.length : Int) (m + 1)) R →
      ∀ (d : Nat) (i s : Int), 0 ≤ i → i + d = row.length → 0 ≤ s → s ≤ 1 → Ans (fun k => spec_sgRows.l1 k s x (x.length : Int) m row (row.length : Int) i) (walkOk s (row.drop i.toNat) && R) := by
    intro row m R hrow hm hm' e d
    induction d with
    | zero =>
      intro i s h0 h1 s0 s1
      rw [List.drop_eq_nil_of_le (by omega), walkOk]; refine Ans.step ?_
      simp only [spec_sgRows.l1, wrap64_up hm (by omega : m ≤ 4611686018427387904)]
      refine Ans.not (by omega) ?_
      by_cases c : s = 1
      · rw [show (s == 1) = true by simp [c], Bool.true_and]; exact Ans.yes c e
      · rw [show (s == 1) = false by simp [c], Bool.false_and]; exact Ans.not c (Ans.pure _)
    | succ d ih =>
      intro i s h0 h1 s0 s1
      rw [drop_at row 0 (show i.toNat < row.length by omega), show row.getD i.toNat 0 = rd row i from rfl, walkOk]
      refine Ans.step ?_
      simp only [spec_sgRows.l1, l1In, Option.bind_some, wrap64_up h0 (by omega : i ≤ 4611686018427387904)]
      refine Ans.yes (by omega) (Ans.yes h0 (Ans.yes (by omega) ?_))
      by_cases c1 : decide (-1 ≤ rd row i ∧ rd row i ≤ 1) = true
      · have b1 := of_decide_eq_true c1
        have hw : wrap64 (s + rd row i) = s + rd row i := wrap64_in _ ⟨by omega, by omega⟩
        simp only [hw]
        rw [c1, Bool.true_and]
        refine Ans.yes rfl ?_
        by_cases c2 : decide (0 ≤ s + rd row i ∧ s + rd row i ≤ 1) = true
        · have b2 := of_decide_eq_true c2
          have e := ih (i + 1) (s + rd row i) (by omega) (by omega) b2.1 b2.2
          rw [show (i + 1).toNat = i.toNat + 1 by omega] at e
          rw [c2, Bool.true_and]; exact Ans.yes rfl e
        · rw [Bool.eq_false_iff.mpr c2, Bool.false_and, Bool.false_and]; exact Ans.not (by simp) (Ans.pure _)
      · rw [Bool.eq_false_iff.mpr c1, Bool.false_and, Bool.false_and]; exact Ans.not (by simp) (Ans.pure _)
  have key : ∀ (d : Nat) (i : Int), 0 ≤ i → i + d = x.length → Ans (fun k => spec_sgRows.l0 k x (x.length : Int) i) ((x.drop i.toNat).all (walkOk 0)) := by
    intro d
    induction d with
    | zero =>
      intro i h0 h1
      rw [List.drop_eq_nil_of_le (by omega)]; refine Ans.step ?_
      simp only [spec_sgRows.l0]; exact Ans.not (by omega) (Ans.pure _)
    | succ d ih =>
      intro i h0 h1
      have hm := rd_L1_mem h0 (show i < x.length by omega)
      rw [drop_at x [] (show i.toNat < x.length by omega), show x.getD i.toNat [] = rd_L3 x i from rfl, List.all_cons]
      have e := ih (i + 1) (by omega) (by omega)
      rw [show (i + 1).toNat = i.toNat + 1 by omega] at e
      refine Ans.step ?_
      simp only [spec_sgRows.l0]
      exact Ans.yes (by omega) (Ans.yes h0 (Ans.yes (by omega) (inner _ i _ (hr _ hm) h0 (by omega) e _ 0 0 (by omega) (show (0 : Int) + ((rd_L3 x i).length : Nat) = _ by omega) (by omega) (by omega))))
  exact key x.length 0 (by omega) (by omega)
theorem column (x : List (List Int)) (j : Int) (h : x.length ≤ 1048576) (hj : 0 ≤ j) (hr : ∀ r ∈ x, j < r.length) : Ans (fun k => impl_column.f k x j) (colOf x j) := by
  have key : ∀ (d : Nat) (i : Int) (acc : List Int), 0 ≤ i → i + d = x.length → acc.length + d ≤ 1048576 → Ans (fun k => impl_column.l0 k j acc x (x.length : Int) i) (acc ++ colOf (x.drop i.toNat) j) := by
    intro d
    induction d with
    | zero =>
      intro i acc h0 h1 h2
      rw [List.drop_eq_nil_of_le (by omega), colOf, List.map_nil, List.append_nil]; refine Ans.step ?_
      simp only [impl_column.l0]; exact Ans.not (by omega) (Ans.pure _)
    | succ d ih =>
      intro i acc h0 h1 h2
      have hm := rd_L1_mem h0 (show i < x.length by omega)
      have e := ih (i + 1) (acc ++ [rd (rd_L3 x i) j]) (by omega) (by omega) (by simp only [List.length_append, List.length_singleton]; omega)
      rw [show (i + 1).toNat = i.toNat + 1 by omega, List.append_assoc, List.singleton_append] at e
      rw [drop_at x [] (show i.toNat < x.length by omega), show x.getD i.toNat [] = rd_L3 x i from rfl]
      refine Ans.step ?_
      simp only [impl_column.l0, wrap64_up h0 (by omega : i ≤ 4611686018427387904)]
      exact Ans.yes (by omega) (Ans.yes h0 (Ans.yes (by omega) (Ans.yes hj (Ans.yes (hr _ hm) (Ans.yes (by omega) e)))))
  exact key x.length 0 [] (by omega) (by omega) (by simp only [List.length_nil]; omega)
theorem sgSquare (x : List (List Int)) (h : x.length ≤ 1048576) : Ans (fun k => spec_sgSquare.f k x) (decide (1 ≤ x.length ∧ x.length ≤ 6) && x.all fun r => decide (r.length = x.length)) := by
  have key : ∀ (d : Nat) (i : Int), 0 ≤ i → i + d = x.length → Ans (fun k => spec_sgSquare.l0 k x x (x.length : Int) i) ((x.drop i.toNat).all fun r => decide (r.length = x.length)) := by
    intro d
    induction d with
    | zero =>
      intro i h0 h1
      rw [List.drop_eq_nil_of_le (by omega)]; refine Ans.step ?_
      simp only [spec_sgSquare.l0]; exact Ans.not (by omega) (Ans.pure _)
    | succ d ih =>
      intro i h0 h1
      rw [drop_at x [] (show i.toNat < x.length by omega), show x.getD i.toNat [] = rd_L3 x i from rfl, List.all_cons]
      have e := ih (i + 1) (by omega) (by omega)
      rw [show (i + 1).toNat = i.toNat + 1 by omega] at e
      refine Ans.step ?_
      simp only [spec_sgSquare.l0, wrap64_up h0 (by omega : i ≤ 4611686018427387904)]
      refine Ans.yes (by omega) (Ans.yes h0 (Ans.yes (by omega) ?_))
      by_cases c : (rd_L3 x i).length = x.length
      · rw [decide_eq_true c, Bool.true_and]; exact Ans.yes (by omega) e
      · rw [decide_eq_false c, Bool.false_and]; exact Ans.not (by omega) (Ans.pure _)
  simp only [spec_sgSquare.f, l1In, Option.bind_some]
  by_cases c : decide ((1 : Int) ≤ (x.length : Int) ∧ (x.length : Int) ≤ 6) = true
  · have b := of_decide_eq_true c
    rw [show decide (1 ≤ x.length ∧ x.length ≤ 6) = true from decide_eq_true ⟨by omega, by omega⟩, Bool.true_and]
    exact Ans.yes c (key x.length 0 (by omega) (by omega))
  · have b : ¬ ((1 : Int) ≤ (x.length : Int) ∧ (x.length : Int) ≤ 6) := fun h => c (decide_eq_true h)
    rw [show decide (1 ≤ x.length ∧ x.length ≤ 6) = false from decide_eq_false (by omega), Bool.false_and]
    exact Ans.not c (Ans.pure _)
/-- What a sign matrix is, in plain words: square, up to six rows, rows and columns that alternate. -/
def sign (x : List (List Int)) : Bool :=
  (decide (1 ≤ x.length ∧ x.length ≤ 6) && x.all fun r => decide (r.length = x.length)) && (x.all (walkOk 0) && (List.range x.length).all fun (j : Nat) => walkOk 0 (colOf x j))
theorem square_of {x : List (List Int)} (h : (decide (1 ≤ x.length ∧ x.length ≤ 6) && x.all fun r => decide (r.length = x.length)) = true) : 1 ≤ x.length ∧ x.length ≤ 6 ∧ ∀ r ∈ x, r.length = x.length := by
  rw [Bool.and_eq_true] at h
  have b := of_decide_eq_true h.1
  exact ⟨b.1, b.2, fun r hr => of_decide_eq_true (List.all_eq_true.mp h.2 r hr)⟩
theorem sgGood (x : List (List Int)) (h : x.length ≤ 1048576) : Ans (fun k => spec_sgGood.f k x) (sign x) := by
  simp only [spec_sgGood.f]
  refine (sgSquare x h).bind ?_
  unfold sign
  by_cases c : (decide (1 ≤ x.length ∧ x.length ≤ 6) && x.all fun r => decide (r.length = x.length)) = true
  · obtain ⟨b1, b2, b3⟩ := square_of c
    rw [c, Bool.true_and]
    refine Ans.yes rfl ((sgRows x (by omega) (fun r hr => by have := b3 r hr; omega)).bind ?_)
    by_cases c2 : x.all (walkOk 0) = true
    · rw [c2, Bool.true_and]
      have e := sgRows ((List.range x.length).map fun (j : Nat) => colOf x j) (by simp only [List.length_map, List.length_range]; omega) (fun r hr => by
        obtain ⟨j, _, rfl⟩ := List.mem_map.1 hr
        simp only [colOf, List.length_map]; omega)
      rw [List.all_map] at e
      exact Ans.yes rfl ((sgTurn x h b3).bind (e.bind (Ans.pure _)))
    · rw [Bool.eq_false_iff.mpr c2, Bool.false_and]; exact Ans.not (by simp) (Ans.pure _)
  · rw [Bool.eq_false_iff.mpr c, Bool.false_and]; exact Ans.not (by simp) (Ans.pure _)
theorem isSign (x : List (List Int)) (h : x.length ≤ 1048576) : Ans (fun k => impl_IsSignMatrix.f k x) (sign x) := by
  have no : Ans (fun k => impl_IsSignMatrix.j0 k x true) false := by
    refine Ans.step ?_; simp only [impl_IsSignMatrix.j0]; exact Ans.yes (by simp) (Ans.pure _)
  simp only [impl_IsSignMatrix.f, impl_isSide.f, within, Option.bind_some]
  by_cases c : decide ((1 : Int) ≤ (x.length : Int) ∧ (x.length : Int) ≤ 6) = true
  · have b := of_decide_eq_true c
    refine Ans.yes c ((isSquare x (by omega)).bind ?_)
    unfold sign
    rw [show decide (1 ≤ x.length ∧ x.length ≤ 6) = true from decide_eq_true ⟨by omega, by omega⟩, Bool.true_and]
    by_cases c2 : (x.all fun r => decide (r.length = x.length)) = true
    · rw [c2, Bool.true_and]
      have b3 : ∀ r ∈ x, r.length = x.length := fun r hr => of_decide_eq_true (List.all_eq_true.mp c2 r hr)
      have key : ∀ (d : Nat) (i : Int), 0 ≤ i → i + d = x.length → Ans (fun k => impl_IsSignMatrix.l0 k x (x.length : Int) i) ((x.drop i.toNat).all (walkOk 0) && ((List.range x.length).drop i.toNat).all fun (j : Nat) => walkOk 0 (colOf x j)) := by
        intro d
        induction d with
        | zero =>
          intro i h0 h1
          rw [List.drop_eq_nil_of_le (by omega), List.drop_eq_nil_of_le (by simp only [List.length_range]; omega)]; refine Ans.step ?_
          simp only [impl_IsSignMatrix.l0]; exact Ans.not (by omega) (Ans.pure _)
        | succ d ih =>
          intro i h0 h1
          have hm := rd_L1_mem h0 (show i < x.length by omega)
          have e := ih (i + 1) (by omega) (by omega)
          rw [show (i + 1).toNat = i.toNat + 1 by omega] at e
          rw [drop_at x [] (show i.toNat < x.length by omega), show x.getD i.toNat [] = rd_L3 x i from rfl, range_drop (show i.toNat < x.length by omega), List.all_cons, List.all_cons, show ((i.toNat : Nat) : Int) = i by omega]
          refine Ans.step ?_
          simp only [impl_IsSignMatrix.l0, wrap64_up h0 (by omega : i ≤ 4611686018427387904)]
          refine Ans.yes (by omega) (Ans.yes h0 (Ans.yes (by omega) ((alternate _ (by have := b3 _ hm; omega)).bind ?_)))
          by_cases q1 : walkOk 0 (rd_L3 x i) = true
          · rw [q1, Bool.true_and]
            refine Ans.yes rfl ((column x i h h0 (fun r hr => by have := b3 r hr; omega)).bind ((alternate _ (by simp only [colOf, List.length_map]; omega)).bind ?_))
            by_cases q2 : walkOk 0 (colOf x i) = true
            · rw [q2, Bool.true_and]; exact Ans.yes rfl e
            · rw [Bool.eq_false_iff.mpr q2, Bool.false_and, Bool.and_false]; exact Ans.not (by simp) (Ans.pure _)
          · rw [Bool.eq_false_iff.mpr q1, Bool.false_and, Bool.false_and]; exact Ans.not (by simp) (Ans.pure _)
      refine Ans.step ?_
      simp only [impl_IsSignMatrix.j0]
      exact Ans.not (by simp) (key x.length 0 (by omega) (by omega))
    · rw [Bool.eq_false_iff.mpr c2, Bool.false_and]; exact no
  · have b : ¬ ((1 : Int) ≤ (x.length : Int) ∧ (x.length : Int) ≤ 6) := fun h => c (decide_eq_true h)
    unfold sign
    rw [show decide (1 ≤ x.length ∧ x.length ≤ 6) = false from decide_eq_false (by omega), Bool.false_and, Bool.false_and]
    exact Ans.not c no
def tab (r c : Nat) (v : Nat → Nat → Int) : List (List Int) := (List.range r).map fun i => (List.range c).map fun j => v i j
theorem table_row (c : Nat) (hc : c ≤ 1048576) (g : Int → Int → Option Int) (v : Nat → Int) (n : Int) (i : Nat) (hi : i ≤ 1048576) (hg : ∀ j : Nat, j < c → g i j = some (v j)) {R : List (List Int)} :
    ∀ (d j : Nat) (y : List (List Int)), j + d = c → i < y.length → (y.getD i []).length = c → Ans (fun k => impl_table.l0 k c g (y.set i ((y.getD i []).take j ++ ((List.range c).drop j).map v)) n ((i + 1 : Nat) : Int)) R →
      Ans (fun k => impl_table.l1 k c g y i n i (c : Int) j) R := by
  intro d
  induction d with
  | zero =>
    intro j y h1 h2 h3 e
    rw [List.drop_eq_nil_of_le (by simp only [List.length_range]; omega), List.map_nil, List.append_nil, List.take_of_length_le (by omega), set_same y [] i h2] at e
    refine Ans.step ?_
    simp only [impl_table.l1, wrap64_up (show (0 : Int) ≤ (i : Int) by omega) (by omega : (i : Int) ≤ 4611686018427387904)]
    refine Ans.not (by omega) ?_
    rw [show ((i + 1 : Nat) : Int) = (i : Int) + 1 by omega] at e
    exact e
  | succ d ih =>
    intro j y h1 h2 h3 e
    have hrow : rd_L3 y (i : Int) = y.getD i [] := by unfold rd_L3; rw [Int.toNat_natCast]
    refine Ans.step ?_
    simp only [impl_table.l1, hg j (by omega), Option.bind_some, wrap64_up (show (0 : Int) ≤ (j : Int) by omega) (by omega : (j : Int) ≤ 4611686018427387904), hrow, Int.toNat_natCast]
    refine Ans.yes (by omega) (Ans.yes (by omega) (Ans.yes (by omega) (Ans.yes (by omega) (Ans.yes (by omega) ?_))))
    have hj : j < (y.getD i []).length := by omega
    obtain ⟨t1, _⟩ := take_set_drop (y.getD i []) j (v j) hj
    have hget : (y.set i ((y.getD i []).set j (v j))).getD i [] = (y.getD i []).set j (v j) := by
      rw [getD_at _ _ (by simpa using h2)]; simp
    have := ih (j + 1) (y.set i ((y.getD i []).set j (v j))) (by omega) (by simpa using h2) (by rw [hget]; simpa using h3) (by
      rw [hget, List.set_set, t1, List.append_assoc]
      rw [range_drop (show j < c by omega), List.map_cons] at e
      exact e)
    rwa [show ((j + 1 : Nat) : Int) = (j : Int) + 1 by omega] at this
theorem table (r c : Nat) (hr : r ≤ 1048576) (hc : c ≤ 1048576) (g : Int → Int → Option Int) (v : Nat → Nat → Int) (hg : ∀ i j : Nat, i < r → j < c → g i j = some (v i j)) : Ans (fun k => impl_table.f k r c g) (tab r c v) := by
  have key : ∀ (d i : Nat) (y : List (List Int)), i + d = r → y.length = r → Ans (fun k => impl_table.l0 k c g y (r : Int) i) (y.take i ++ ((List.range r).drop i).map fun i => (List.range c).map fun j => v i j) := by
    intro d
    induction d with
    | zero =>
      intro i y h1 h2
      rw [List.drop_eq_nil_of_le (by simp only [List.length_range]; omega), List.map_nil, List.append_nil, List.take_of_length_le (by omega)]; refine Ans.step ?_
      simp only [impl_table.l0]; exact Ans.not (by omega) (Ans.pure _)
    | succ d ih =>
      intro i y h1 h2
      have hi : i < y.length := by omega
      have hget : (y.set i (List.replicate c 0)).getD i [] = List.replicate c 0 := by rw [getD_at _ _ (by simpa using hi)]; simp
      obtain ⟨t1, _⟩ := take_set_drop y i ((List.range c).map fun j => v i j) hi
      have e := ih (i + 1) (y.set i ((List.range c).map fun j => v i j)) (by omega) (by simpa using h2)
      rw [t1, List.append_assoc, List.singleton_append] at e
      rw [range_drop (show i < r by omega), List.map_cons]
      have hrow : rd_L3 (y.set i (List.replicate c 0)) (i : Int) = List.replicate c 0 := by unfold rd_L3; rw [Int.toNat_natCast]; exact hget
      refine Ans.step ?_
      simp only [impl_table.l0, Option.bind_some, Int.toNat_natCast, hrow, List.length_replicate]
      refine Ans.yes (by omega) (Ans.yes (by omega) (Ans.yes (by omega) (Ans.yes (by omega) (Ans.yes (by omega) ?_))))
      have := table_row c hc g (v i) (r : Int) i (by omega) (fun j hj => hg i j (by omega) hj) c 0 (y.set i (List.replicate c 0)) (by omega) (by simpa using hi) (by rw [hget]; simp) (by
        rw [List.set_set, List.take_zero, List.drop_zero, List.nil_append]; exact e)
      exact this
  simp only [impl_table.f, Option.bind_some, Int.toNat_natCast, List.length_replicate]
  refine Ans.yes (by omega) (Ans.yes (by omega) ?_)
  have := key r 0 (List.replicate r []) (by omega) (by simp)
  simpa [tab] using this
/-- A table whose numbers ask for rounds of their own. -/
theorem table_row2 (c : Nat) (hc : c ≤ 1048576) (g : Nat → Int → Int → Option Int) (v : Nat → Int) (n : Int) (i : Nat) (hi : i ≤ 1048576) (hg : ∀ j : Nat, j < c → Ans (fun q => g q i j) (v j)) {R : List (List Int)} :
    ∀ (d j : Nat) (y : List (List Int)), j + d = c → i < y.length → (y.getD i []).length = c → Ans2 (fun k q => impl_table.l0 k c (g q) (y.set i ((y.getD i []).take j ++ ((List.range c).drop j).map v)) n ((i + 1 : Nat) : Int)) R →
      Ans2 (fun k q => impl_table.l1 k c (g q) y i n i (c : Int) j) R := by
  intro d
  induction d with
  | zero =>
    intro j y h1 h2 h3 e
    rw [List.drop_eq_nil_of_le (by simp only [List.length_range]; omega), List.map_nil, List.append_nil, List.take_of_length_le (by omega), set_same y [] i h2] at e
    refine Ans2.step ?_
    simp only [impl_table.l1, wrap64_up (show (0 : Int) ≤ (i : Int) by omega) (by omega : (i : Int) ≤ 4611686018427387904)]
    refine Ans2.not (by omega) ?_
    rw [show ((i + 1 : Nat) : Int) = (i : Int) + 1 by omega] at e
    exact e
  | succ d ih =>
    intro j y h1 h2 h3 e
    have hrow : rd_L3 y (i : Int) = y.getD i [] := by unfold rd_L3; rw [Int.toNat_natCast]
    refine Ans2.step ?_
    simp only [impl_table.l1, wrap64_up (show (0 : Int) ≤ (j : Int) by omega) (by omega : (j : Int) ≤ 4611686018427387904), hrow, Int.toNat_natCast]
    refine Ans2.yes (by omega) (Ans2.yes (by omega) (Ans2.yes (by omega) ((Ans2.two (hg j (by omega))).bind (Ans2.yes (by omega) (Ans2.yes (by omega) ?_)))))
    have hj : j < (y.getD i []).length := by omega
    obtain ⟨t1, _⟩ := take_set_drop (y.getD i []) j (v j) hj
    have hget : (y.set i ((y.getD i []).set j (v j))).getD i [] = (y.getD i []).set j (v j) := by
      rw [getD_at _ _ (by simpa using h2)]; simp
    have := ih (j + 1) (y.set i ((y.getD i []).set j (v j))) (by omega) (by simpa using h2) (by rw [hget]; simpa using h3) (by
      rw [hget, List.set_set, t1, List.append_assoc]
      rw [range_drop (show j < c by omega), List.map_cons] at e
      exact e)
    rwa [show ((j + 1 : Nat) : Int) = (j : Int) + 1 by omega] at this
theorem table2 (r c : Nat) (hr : r ≤ 1048576) (hc : c ≤ 1048576) (g : Nat → Int → Int → Option Int) (v : Nat → Nat → Int) (hg : ∀ i j : Nat, i < r → j < c → Ans (fun q => g q i j) (v i j)) : Ans (fun k => impl_table.f k r c (g k)) (tab r c v) := by
  have key : ∀ (d i : Nat) (y : List (List Int)), i + d = r → y.length = r → Ans2 (fun k q => impl_table.l0 k c (g q) y (r : Int) i) (y.take i ++ ((List.range r).drop i).map fun i => (List.range c).map fun j => v i j) := by
    intro d
    induction d with
    | zero =>
      intro i y h1 h2
      rw [List.drop_eq_nil_of_le (by simp only [List.length_range]; omega), List.map_nil, List.append_nil, List.take_of_length_le (by omega)]; refine Ans2.step ?_
      simp only [impl_table.l0]; exact Ans2.not (by omega) (Ans2.pure _)
    | succ d ih =>
      intro i y h1 h2
      have hi : i < y.length := by omega
      have hget : (y.set i (List.replicate c 0)).getD i [] = List.replicate c 0 := by rw [getD_at _ _ (by simpa using hi)]; simp
      obtain ⟨t1, _⟩ := take_set_drop y i ((List.range c).map fun j => v i j) hi
      have e := ih (i + 1) (y.set i ((List.range c).map fun j => v i j)) (by omega) (by simpa using h2)
      rw [t1, List.append_assoc, List.singleton_append] at e
      rw [range_drop (show i < r by omega), List.map_cons]
      have hrow : rd_L3 (y.set i (List.replicate c 0)) (i : Int) = List.replicate c 0 := by unfold rd_L3; rw [Int.toNat_natCast]; exact hget
      refine Ans2.step ?_
      simp only [impl_table.l0, Option.bind_some, Int.toNat_natCast, hrow, List.length_replicate]
      refine Ans2.yes (by omega) (Ans2.yes (by omega) (Ans2.yes (by omega) (Ans2.yes (by omega) (Ans2.yes (by omega) ?_))))
      have := table_row2 c hc g (v i) (r : Int) i (by omega) (fun j hj => hg i j (by omega) hj) c 0 (y.set i (List.replicate c 0)) (by omega) (by simpa using hi) (by rw [hget]; simp) (by
        rw [List.set_set, List.take_zero, List.drop_zero, List.nil_append]; exact e)
      exact this
  simp only [impl_table.f, Option.bind_some, Int.toNat_natCast, List.length_replicate]
  refine Ans.yes (by omega) (Ans.yes (by omega) ?_)
  have := (key r 0 (List.replicate r []) (by omega) (by simp)).join
  simpa [tab] using this
def cmpI (a b : Int) : Int := if a < b then -1 else if a > b then 1 else 0
theorem cmpI_zero {a b : Int} : cmpI a b = 0 ↔ a = b := by
  unfold cmpI; split
  · constructor <;> intro h <;> omega
  · split
    · constructor <;> intro h <;> omega
    · constructor <;> intro h <;> omega
def lexBy {α : Type} (c : α → α → Int) : List α → List α → Int
  | [], [] => 0
  | [], _ :: _ => -1
  | _ :: _, [] => 1
  | a :: x, b :: y => if c a b = 0 then lexBy c x y else c a b
theorem lexBy_zero {α : Type} {c : α → α → Int} (hc : ∀ a b, c a b = 0 ↔ a = b) : ∀ (x y : List α), lexBy c x y = 0 ↔ x = y
  | [], [] => by simp [lexBy]
  | [], _ :: _ => by simp [lexBy]
  | _ :: _, [] => by simp [lexBy]
  | a :: x, b :: y => by
    rw [lexBy]
    by_cases h : c a b = 0
    · rw [if_pos h, lexBy_zero hc x y, (hc a b).mp h]; simp
    · rw [if_neg h]; constructor
      · intro e; exact absurd e h
      · intro e; exact absurd ((hc a b).mpr (List.cons.inj e).1) h
def cmpL : List Int → List Int → Int := lexBy cmpI
def cmpLL : List (List Int) → List (List Int) → Int := lexBy cmpL
theorem cmpL_zero (x y : List Int) : cmpL x y = 0 ↔ x = y := lexBy_zero (fun _ _ => cmpI_zero) x y
theorem cmpLL_zero (x y : List (List Int)) : cmpLL x y = 0 ↔ x = y := lexBy_zero cmpL_zero x y
theorem cmpInt (a b : Int) : cmp_Compare_int.f a b = some (cmpI a b) := by
  simp only [cmp_Compare_int.f, cmp_isNaN_int.f, Option.bind_some, cmpI]
  simp
  repeat' split
  all_goals rfl
theorem compare (x y : List Int) (hx : x.length ≤ 17592186044416) (hy : y.length ≤ 17592186044416) (k : Nat) (hk : x.length < k) : slices_Compare_int_int.f k x y = some (cmpL x y) := by
  have key : ∀ (d : Nat) (i : Int), 0 ≤ i → i + d = x.length → i ≤ y.length → ∀ k, d < k → slices_Compare_int_int.l0 k x y x (x.length : Int) i = some (cmpL (x.drop i.toNat) (y.drop i.toNat)) := by
    intro d
    induction d with
    | zero =>
      intro i h0 h1 h2 k hk; obtain ⟨j, rfl⟩ : ∃ j, k = j + 1 := ⟨k - 1, by omega⟩
      unfold slices_Compare_int_int.l0
      rw [if_neg (by omega), drop_all x (by omega)]
      by_cases c : (x.length : Int) < (y.length : Int)
      · rw [if_pos c, drop_at y 0 (show i.toNat < y.length by omega)]; rfl
      · rw [if_neg c, drop_all y (by omega)]; rfl
    | succ d ih =>
      intro i h0 h1 h2 k hk; obtain ⟨j, rfl⟩ : ∃ j, k = j + 1 := ⟨k - 1, by omega⟩
      unfold slices_Compare_int_int.l0
      rw [if_pos (by omega), if_pos h0, if_pos (by omega), drop_at x 0 (show i.toNat < x.length by omega)]
      by_cases c : i ≥ (y.length : Int)
      · rw [if_pos c, drop_all y (by omega)]; rfl
      · rw [if_neg c, if_pos (by omega), cmpInt, Option.bind_some, drop_at y 0 (show i.toNat < y.length by omega), wrap64_up h0 (by omega)]
        show (if cmpI (rd x i) (rd y i) = 0 then _ else _) = some (if cmpI (rd x i) (rd y i) = 0 then lexBy cmpI (x.drop (i.toNat + 1)) (y.drop (i.toNat + 1)) else cmpI (rd x i) (rd y i))
        by_cases q : cmpI (rd x i) (rd y i) = 0
        · rw [if_pos q, if_pos q, ih (i + 1) (by omega) (by omega) (by omega) j (by omega), show (i + 1).toNat = i.toNat + 1 by omega]; rfl
        · rw [if_neg q, if_neg q]
  exact key x.length 0 (by omega) (by omega) (by omega) k (by omega)
theorem compareTables (x y : List (List Int)) (hx : x.length ≤ 1048576) (hy : y.length ≤ 1048576) (hrx : ∀ r ∈ x, r.length ≤ 1048576) (hry : ∀ r ∈ y, r.length ≤ 1048576) : Ans (fun k => impl_compareTables.f k x y) (cmpLL x y) := by
  refine Ans.from 1048577 fun k0 hk0 => ?_
  unfold impl_compareTables.f slices_CompareFunc_int_int_int_int.f
  have key : ∀ (d : Nat) (i : Int), 0 ≤ i → i + d = x.length → i ≤ y.length → ∀ k, d < k → slices_CompareFunc_int_int_int_int.l0 k x y (fun x0_ x1_ => impl_compareTables_1.f k0 x0_ x1_) x (x.length : Int) i = some (cmpLL (x.drop i.toNat) (y.drop i.toNat)) := by
    intro d
    induction d with
    | zero =>
      intro i h0 h1 h2 k hk; obtain ⟨j, rfl⟩ : ∃ j, k = j + 1 := ⟨k - 1, by omega⟩
      unfold slices_CompareFunc_int_int_int_int.l0
      rw [if_neg (by omega), drop_all x (by omega)]
      by_cases c : (x.length : Int) < (y.length : Int)
      · rw [if_pos c, drop_at y [] (show i.toNat < y.length by omega)]; rfl
      · rw [if_neg c, drop_all y (by omega)]; rfl
    | succ d ih =>
      intro i h0 h1 h2 k hk; obtain ⟨j, rfl⟩ : ∃ j, k = j + 1 := ⟨k - 1, by omega⟩
      unfold slices_CompareFunc_int_int_int_int.l0
      rw [if_pos (by omega), if_pos h0, if_pos (by omega), drop_at x [] (show i.toNat < x.length by omega)]
      by_cases c : i ≥ (y.length : Int)
      · rw [if_pos c, drop_all y (by omega)]; rfl
      · have m1 := hrx _ (rd_L1_mem h0 (show i < x.length by omega))
        have m2 := hry _ (rd_L1_mem h0 (show i < y.length by omega))
        rw [if_neg c, if_pos (by omega)]
        simp only [impl_compareTables_1.f]
        rw [compare _ _ (by omega) (by omega) k0 (by omega), Option.bind_some, Option.bind_some, drop_at y [] (show i.toNat < y.length by omega), wrap64_up h0 (by omega)]
        show (if cmpL (rd_L3 x i) (rd_L3 y i) = 0 then _ else _) = some (if cmpL (rd_L3 x i) (rd_L3 y i) = 0 then lexBy cmpL (x.drop (i.toNat + 1)) (y.drop (i.toNat + 1)) else cmpL (rd_L3 x i) (rd_L3 y i))
        by_cases q : cmpL (rd_L3 x i) (rd_L3 y i) = 0
        · rw [if_pos q, if_pos q]
          have := ih (i + 1) (by omega) (by omega) (by omega) j (by omega)
          simp only [impl_compareTables_1.f] at this
          rw [this, show (i + 1).toNat = i.toNat + 1 by omega]; rfl
        · rw [if_neg q, if_neg q]
  have := key x.length 0 (by omega) (by omega) (by omega) k0 (by omega)
  rw [this]; rfl
theorem l1Same (x y : List Int) (hx : x.length ≤ 17592186044416) : Ans (fun k => spec_l1Same.f k x y) (decide (x = y)) := by
  simp only [spec_l1Same.f]
  by_cases hl : (x.length : Int) = (y.length : Int)
  case neg => rw [decide_eq_false (fun h => hl (by rw [h]))]; exact Ans.not hl (Ans.pure _)
  have key : ∀ (d : Nat) (i : Int), 0 ≤ i → i + d = x.length → Ans (fun k => spec_l1Same.l0 k x y (x.length : Int) i) (decide (x.drop i.toNat = y.drop i.toNat)) := by
    intro d
    induction d with
    | zero =>
      intro i h0 h1
      rw [List.drop_eq_nil_of_le (by omega), List.drop_eq_nil_of_le (by omega)]; refine Ans.step ?_
      simp only [spec_l1Same.l0]; exact Ans.not (by omega) (Ans.pure _)
    | succ d ih =>
      intro i h0 h1
      have e := ih (i + 1) (by omega) (by omega)
      rw [show (i + 1).toNat = i.toNat + 1 by omega] at e
      rw [drop_at x 0 (show i.toNat < x.length by omega), drop_at y 0 (show i.toNat < y.length by omega), show x.getD i.toNat 0 = rd x i from rfl, show y.getD i.toNat 0 = rd y i from rfl]
      refine Ans.step ?_
      simp only [spec_l1Same.l0, wrap64_up h0 (by omega : i ≤ 4611686018427387904)]
      refine Ans.yes (by omega) (Ans.yes h0 (Ans.yes (by omega) (Ans.yes (by omega) ?_)))
      by_cases c : rd x i = rd y i
      · rw [show decide (rd x i :: x.drop (i.toNat + 1) = rd y i :: y.drop (i.toNat + 1)) = decide (x.drop (i.toNat + 1) = y.drop (i.toNat + 1)) from decide_eq_decide.mpr ⟨fun h => (List.cons.inj h).2, fun h => by rw [c, h]⟩]; exact Ans.yes c e
      · rw [decide_eq_false (fun h => c (List.cons.inj h).1)]; exact Ans.not c (Ans.pure _)
  exact Ans.yes hl (key x.length 0 (by omega) (by omega))
theorem weSame (x y : List (List Int)) (hx : x.length ≤ 17592186044416) (hr : ∀ r ∈ x, r.length ≤ 17592186044416) : Ans (fun k => spec_weSame.f k x y) (decide (x = y)) := by
  simp only [spec_weSame.f]
  by_cases hl : (x.length : Int) = (y.length : Int)
  case neg => rw [decide_eq_false (fun h => hl (by rw [h]))]; exact Ans.not hl (Ans.pure _)
  have key : ∀ (d : Nat) (i : Int), 0 ≤ i → i + d = x.length → Ans (fun k => spec_weSame.l0 k y x (x.length : Int) i) (decide (x.drop i.toNat = y.drop i.toNat)) := by
    intro d
    induction d with
    | zero =>
      intro i h0 h1
      rw [List.drop_eq_nil_of_le (by omega), List.drop_eq_nil_of_le (by omega)]; refine Ans.step ?_
      simp only [spec_weSame.l0]; exact Ans.not (by omega) (Ans.pure _)
    | succ d ih =>
      intro i h0 h1
      have e := ih (i + 1) (by omega) (by omega)
      rw [show (i + 1).toNat = i.toNat + 1 by omega] at e
      have hm := hr _ (rd_L1_mem h0 (show i < x.length by omega))
      rw [drop_at x [] (show i.toNat < x.length by omega), drop_at y [] (show i.toNat < y.length by omega), show x.getD i.toNat [] = rd_L3 x i from rfl, show y.getD i.toNat [] = rd_L3 y i from rfl]
      refine Ans.step ?_
      simp only [spec_weSame.l0, wrap64_up h0 (by omega : i ≤ 4611686018427387904)]
      refine Ans.yes (by omega) (Ans.yes h0 (Ans.yes (by omega) (Ans.yes (by omega) ((l1Same _ _ hm).bind ?_))))
      by_cases c : rd_L3 x i = rd_L3 y i
      · rw [decide_eq_true c, show decide (rd_L3 x i :: x.drop (i.toNat + 1) = rd_L3 y i :: y.drop (i.toNat + 1)) = decide (x.drop (i.toNat + 1) = y.drop (i.toNat + 1)) from decide_eq_decide.mpr ⟨fun h => (List.cons.inj h).2, fun h => by rw [c, h]⟩]; exact Ans.yes rfl e
      · rw [decide_eq_false c, decide_eq_false (fun h => c (List.cons.inj h).1)]; exact Ans.not (by simp) (Ans.pure _)
  exact Ans.yes hl (key x.length 0 (by omega) (by omega))
/-- Square, with n rows. -/
def Sq (n : Nat) (x : List (List Int)) : Prop := x.length = n ∧ ∀ r ∈ x, r.length = n
theorem Sq.row {n : Nat} {x : List (List Int)} (h : Sq n x) {i : Nat} (hi : i < n) : (x.getD i []).length = n := h.2 _ (getD_mem [] (by rw [h.1]; exact hi))
theorem tab_is {n : Nat} {y : List (List Int)} (h : Sq n y) (v : Nat → Nat → Int) (hv : ∀ i j : Nat, i < n → j < n → v i j = (y.getD i []).getD j 0) : tab n n v = y := by
  refine List.ext_getElem (by simp [tab, h.1]) fun i h1 h2 => ?_
  have hi : i < n := by rw [← h.1]; exact h2
  have hr := h.row hi
  rw [show (tab n n v)[i] = (List.range n).map (fun j => v i j) by simp [tab], ← getD_at y [] h2]
  refine List.ext_getElem (by simp only [List.length_map, List.length_range]; exact hr.symm) fun j g1 g2 => ?_
  rw [List.getElem_map, List.getElem_range, hv i j hi (by rw [← hr]; exact g2), getD_at _ _ g2]
theorem ext_sq {n : Nat} {x y : List (List Int)} (hx : Sq n x) (hy : Sq n y) (h : ∀ i j : Nat, i < n → j < n → (x.getD i []).getD j 0 = (y.getD i []).getD j 0) : x = y := by
  rw [← tab_is hx (fun i j => (x.getD i []).getD j 0) (fun _ _ _ _ => rfl), tab_is hy _ h]
def mir (x : List (List Int)) : List (List Int) := x.map List.reverse
def tr (x : List (List Int)) : List (List Int) := (List.range x.length).map fun (j : Nat) => colOf x j
def cw (x : List (List Int)) : List (List Int) := mir (tr x)
theorem sign_sq {x : List (List Int)} (s : sign x = true) : Sq x.length x ∧ x.length ≤ 6 := by
  unfold sign at s
  rw [Bool.and_eq_true] at s
  obtain ⟨b1, b2, b3⟩ := square_of s.1
  exact ⟨⟨rfl, b3⟩, b2⟩
/-! sums over indices -/
def S : Nat → (Nat → Int) → Int
  | 0, _ => 0
  | n + 1, f => S n f + f n
theorem S_congr {f g : Nat → Int} : ∀ {n : Nat}, (∀ i, i < n → f i = g i) → S n f = S n g
  | 0, _ => rfl
  | n + 1, h => by rw [S, S, S_congr (fun i hi => h i (by omega)), h n (by omega)]
theorem S_add (f g : Nat → Int) : ∀ n, S n (fun i => f i + g i) = S n f + S n g
  | 0 => rfl
  | n + 1 => by rw [S, S, S, S_add f g n]; omega
theorem S_zero : ∀ n, S n (fun _ => 0) = 0
  | 0 => rfl
  | n + 1 => by rw [S, S_zero n]; rfl
theorem S_mul (c : Int) (f : Nat → Int) : ∀ n, S n (fun i => c * f i) = c * S n f
  | 0 => by simp [S]
  | n + 1 => by rw [S, S, S_mul c f n, Int.mul_add]
theorem S_comm (F : Nat → Nat → Int) (m : Nat) : ∀ n, S n (fun i => S m (fun j => F i j)) = S m (fun j => S n (fun i => F i j))
  | 0 => by simp only [S]; rw [S_zero]
  | n + 1 => by rw [S, S_comm F m n, ← S_add]; rfl
theorem S_front (f : Nat → Int) : ∀ n, S (n + 1) f = f 0 + S n (fun i => f (i + 1))
  | 0 => by simp [S]
  | n + 1 => by rw [S, S_front f n, S]; omega
/-- The sum over all pairs k < i. -/
def T (n : Nat) (F : Nat → Nat → Int) : Int := S n (fun i => S i (fun k => F i k))
/-- All pairs. -/
theorem T_one : ∀ n : Nat, 2 * T n (fun _ _ => 1) = (n : Int) * ((n : Int) - 1)
  | 0 => by simp [T, S]
  | n + 1 => by
    have e : ∀ k : Nat, S k (fun _ => 1) = (k : Int) := fun k => by
      induction k with
      | zero => rfl
      | succ k ih => rw [S, ih]; omega
    have h := T_one n
    unfold T at h ⊢
    rw [S, Int.mul_add, h, e]
    rw [Int.natCast_add, Int.natCast_one, Int.add_sub_cancel, Int.add_mul, Int.mul_sub, Int.mul_one]; omega
theorem T_up (G : Nat → Nat → Int) : ∀ n, S n (fun i => S (n - 1 - i) (fun t => G i (i + 1 + t))) = T n (fun k i => G i k)
  | 0 => rfl
  | n + 1 => by
    have h := T_up G n
    simp only [T, S] at h ⊢
    rw [show n + 1 - 1 - n = 0 by omega, S, Int.add_zero, ← h, ← S_add]
    refine S_congr fun i hi => ?_
    rw [show n + 1 - 1 - i = (n - 1 - i) + 1 by omega, S, show i + 1 + (n - 1 - i) = n by omega]
theorem S_bound {f : Nat → Int} {B : Int} : ∀ {n : Nat}, (∀ i, i < n → -B ≤ f i ∧ f i ≤ B) → -(B * n) ≤ S n f ∧ S n f ≤ B * n
  | 0, _ => by simp [S]
  | n + 1, h => by
    have a := S_bound (fun i hi => h i (by omega : i < n + 1)) (n := n)
    have b := h n (by omega)
    rw [S, Int.natCast_add, Int.natCast_one, Int.mul_add, Int.mul_one]; omega
/-- An entry. -/
def en (x : List (List Int)) (i j : Nat) : Int := (x.getD i []).getD j 0
def inv (x : List (List Int)) : Int := T x.length (fun i k => T x.length (fun j l => en x k j * en x i l))
def minus (x : List (List Int)) : Int := S x.length (fun i => S x.length (fun j => if en x i j = -1 then 1 else 0))
theorem walk_pre : ∀ (c : List Int) (s : Int), 0 ≤ s → s ≤ 1 → walkOk s c = true → (∀ i, i < c.length → (-1 ≤ c.getD i 0 ∧ c.getD i 0 ≤ 1) ∧ 0 ≤ s + S i (fun k => c.getD k 0) ∧ s + S i (fun k => c.getD k 0) ≤ 1 ∧ 0 ≤ s + S i (fun k => c.getD k 0) + c.getD i 0 ∧ s + S i (fun k => c.getD k 0) + c.getD i 0 ≤ 1) ∧ s + S c.length (fun k => c.getD k 0) = 1
  | [], s, _, _, h => ⟨fun i hi => absurd hi (by simp), by simp only [walkOk, beq_iff_eq] at h; simp [S, h]⟩
  | a :: c, s, h0, h1, h => by
    simp only [walkOk, Bool.and_eq_true, decide_eq_true_eq] at h
    obtain ⟨b1, b2, b3⟩ := h
    have ih := walk_pre c (s + a) b2.1 b2.2 b3
    have fr : ∀ m, S (m + 1) (fun k => (a :: c).getD k 0) = a + S m (fun k => c.getD k 0) := fun m => S_front _ m
    refine ⟨fun i hi => ?_, by rw [List.length_cons, fr]; omega⟩
    cases i with
    | zero => simp only [S, List.getD_cons_zero]; omega
    | succ i =>
      have := ih.1 i (by simpa using hi)
      rw [fr, List.getD_cons_succ]; omega
/-- What rows and columns of a sign matrix are. -/
theorem sign_en {x : List (List Int)} (s : sign x = true) {n : Nat} (hn : x.length = n) : Sq n x ∧ 1 ≤ n ∧ n ≤ 6 ∧
    (∀ i j, i < n → j < n → (-1 ≤ en x i j ∧ en x i j ≤ 1) ∧ (0 ≤ S j (en x i) ∧ S j (en x i) ≤ 1 ∧ 0 ≤ S j (en x i) + en x i j ∧ S j (en x i) + en x i j ≤ 1) ∧ (0 ≤ S i (fun k => en x k j) ∧ S i (fun k => en x k j) ≤ 1 ∧ 0 ≤ S i (fun k => en x k j) + en x i j ∧ S i (fun k => en x k j) + en x i j ≤ 1)) ∧
    (∀ i, i < n → S n (en x i) = 1) ∧ ∀ j, j < n → S n (fun k => en x k j) = 1 := by
  subst hn
  have s' := s
  unfold sign at s'
  simp only [Bool.and_eq_true] at s'
  obtain ⟨h1, h2, q⟩ := square_of (show (decide (1 ≤ x.length ∧ x.length ≤ 6) && x.all fun r => decide (r.length = x.length)) = true by simp only [Bool.and_eq_true]; exact s'.1)
  have sq : Sq x.length x := ⟨rfl, q⟩
  have R : ∀ i, i < x.length → walkOk 0 (x.getD i []) = true := fun i hi => List.all_eq_true.mp s'.2.1 _ (getD_mem [] hi)
  have C : ∀ j, j < x.length → walkOk 0 (colOf x j) = true := fun j hj => List.all_eq_true.mp s'.2.2 j (List.mem_range.mpr hj)
  have ce : ∀ i j, i < x.length → (colOf x (j : Nat)).getD i 0 = en x i j := fun i j hi => by
    rw [getD_at _ _ (by simpa [colOf] using hi)]
    simp only [colOf, List.getElem_map, rd, Int.toNat_natCast, en]
    rw [getD_at x [] hi]
  have cl : ∀ j : Nat, (colOf x j).length = x.length := fun j => by simp [colOf]
  refine ⟨sq, h1, h2, fun i j hi hj => ?_, fun i hi => ?_, fun j hj => ?_⟩
  · have a := (walk_pre _ 0 (by omega) (by omega) (R i hi)).1 j (by rw [sq.row hi]; exact hj)
    have b := (walk_pre _ 0 (by omega) (by omega) (C j hj)).1 i (by rw [cl]; exact hi)
    rw [S_congr (fun k hk => ce k j (by omega : k < x.length)), ce i j hi] at b
    have e : S j (en x i) = S j (fun k => (x.getD i []).getD k 0) := rfl
    rw [e]
    have e2 : en x i j = (x.getD i []).getD j 0 := rfl
    rw [← e2] at a
    omega
  · have a := (walk_pre _ 0 (by omega) (by omega) (R i hi)).2
    rw [sq.row hi] at a
    have e : S x.length (en x i) = S x.length (fun k => (x.getD i []).getD k 0) := rfl
    omega
  · have b := (walk_pre _ 0 (by omega) (by omega) (C j hj)).2
    rw [cl, S_congr (fun k hk => ce k j hk)] at b
    omega
theorem ext_en {n : Nat} {x y : List (List Int)} (hx : Sq n x) (hy : Sq n y) (h : ∀ i j : Nat, i < n → j < n → en x i j = en y i j) : x = y := ext_sq hx hy h
theorem sign_parts {x : List (List Int)} (s : sign x = true) {n : Nat} (hn : x.length = n) : Sq n x ∧ 1 ≤ n ∧ n ≤ 6 ∧ (∀ r ∈ x, walkOk 0 r = true) ∧ ∀ j : Nat, j < n → walkOk 0 (colOf x j) = true := by
  subst hn
  obtain ⟨q, h1, h2, _⟩ := sign_en s rfl
  unfold sign at s
  simp only [Bool.and_eq_true, List.all_eq_true, List.mem_range] at s
  exact ⟨q, h1, h2, s.2.1, s.2.2⟩
theorem col_at (x : List (List Int)) (j i : Nat) (hi : i < x.length) : (colOf x (j : Nat)).getD i 0 = en x i j := by
  rw [getD_at _ _ (by simpa [colOf] using hi)]
  simp only [colOf, List.getElem_map, rd, Int.toNat_natCast, en]
  rw [getD_at x [] hi]
theorem wrap_add (a b : Int) : wrap64 (wrap64 a + b) = wrap64 (a + b) := by unfold wrap64; omega
theorem wrap_add2 (a b : Int) : wrap64 (wrap64 a + wrap64 b) = wrap64 (a + b) := by unfold wrap64; omega
theorem sumOf (r : List Int) (hr : r.length ≤ 1048576) : Ans (fun k => impl_sum.f k r) (wrap64 (S r.length (fun t => r.getD t 0))) := by
  have key : ∀ (d i : Nat) (a : Int), i + d = r.length → Ans (fun k => impl_sum.l0 k (wrap64 a) r (r.length : Int) (i : Int)) (wrap64 (a + S d (fun t => r.getD (i + t) 0))) := by
    intro d
    induction d with
    | zero =>
      intro i a h
      refine Ans.step ?_
      simp only [impl_sum.l0, S, Int.add_zero]
      exact Ans.not (by omega) (Ans.pure _)
    | succ d ih =>
      intro i a h
      have e := ih (i + 1) (a + r.getD i 0) (by omega)
      rw [S_front, Nat.add_zero, ← Int.add_assoc, S_congr (f := fun t => r.getD (i + (t + 1)) 0) (g := fun t => r.getD (i + 1 + t) 0) (fun t _ => by congr 1; omega)]
      rw [show ((i + 1 : Nat) : Int) = (i : Int) + 1 by omega] at e
      refine Ans.step ?_
      simp only [impl_sum.l0, wrap64_up (show (0 : Int) ≤ i by omega) (by omega)]
      refine Ans.yes (by omega) (Ans.yes (by omega) (Ans.yes (by omega) ?_))
      rw [show rd r (i : Int) = r.getD i 0 by simp only [rd, Int.toNat_natCast], wrap_add]
      exact e
  have := key r.length 0 0 (by omega)
  rw [show wrap64 0 = 0 from wrap64_in 0 ⟨by omega, by omega⟩, Int.zero_add, S_congr (g := fun t => r.getD t 0) (fun t _ => by rw [Nat.zero_add])] at this
  exact this
def invRes (x : List (List Int)) : Int × Bool := if sign x = true then (inv x, true) else (0, false)
theorem invRes_of {x : List (List Int)} (s : sign x = true) : invRes x = (inv x, true) := if_pos s
theorem inv_bound {x : List (List Int)} (s : sign x = true) : -1296 ≤ inv x ∧ inv x ≤ 1296 := by
  obtain ⟨h, h1, h2, E, _, _⟩ := sign_en s rfl
  have b1 : ∀ i k, i < x.length → k < i → -36 ≤ T x.length (fun j l => en x k j * en x i l) ∧ T x.length (fun j l => en x k j * en x i l) ≤ 36 := fun i k hi hk => by
    have a : ∀ j l, j < x.length → l < j → -1 ≤ en x k j * en x i l ∧ en x k j * en x i l ≤ 1 := fun j l hj hl => by
      have p := (E k j (by omega) hj).1
      have q := (E i l hi (by omega)).1
      rcases (show en x k j = -1 ∨ en x k j = 0 ∨ en x k j = 1 by omega) with c | c | c <;> rw [c] <;> omega
    have := S_bound (n := x.length) (f := fun j => S j (fun l => en x k j * en x i l)) (B := 6) (fun j hj => by
      have := S_bound (n := j) (f := fun l => en x k j * en x i l) (B := 1) (fun l hl => a j l hj hl)
      omega)
    rw [show T x.length (fun j l => en x k j * en x i l) = S x.length (fun j => S j (fun l => en x k j * en x i l)) from rfl]
    omega
  have := S_bound (n := x.length) (f := fun i => S i (fun k => T x.length (fun j l => en x k j * en x i l))) (B := 216) (fun i hi => by
    have := S_bound (n := i) (f := fun k => T x.length (fun j l => en x k j * en x i l)) (B := 36) (fun k hk => b1 i k hi hk)
    omega)
  unfold inv
  rw [show T x.length (fun i k => T x.length (fun j l => en x k j * en x i l)) = S x.length (fun i => S i (fun k => T x.length (fun j l => en x k j * en x i l))) from rfl]
  omega
theorem minus_bound {x : List (List Int)} (s : sign x = true) : -36 ≤ minus x ∧ minus x ≤ 36 := by
  obtain ⟨h, h1, h2, E, _, _⟩ := sign_en s rfl
  unfold minus
  have := S_bound (n := x.length) (f := fun i => S x.length (fun j => if en x i j = -1 then 1 else 0)) (B := 6) (fun i hi => by
    have := S_bound (n := x.length) (f := fun j => if en x i j = -1 then 1 else 0) (B := 1) (fun j hj => by split <;> omega)
    omega)
  omega
theorem implInv {n : Nat} {x : List (List Int)} (s : sign x = true) (hl : x.length = n) : Ans (fun k => impl_inversions.f k x) (wrap64 (inv x)) := by
  obtain ⟨h, _, hn, E, _, _⟩ := sign_en s hl
  have row : ∀ i : Nat, i < n → (rd_L3 x (i : Int)).length = n := fun i hi => by unfold rd_L3; rw [Int.toNat_natCast]; exact h.row hi
  have rde : ∀ i j : Nat, rd (rd_L3 x (i : Int)) (j : Int) = en x i j := fun i j => by simp only [rd, rd_L3, Int.toNat_natCast, en]
  have l2 : ∀ (i j : Nat) (R : Int), i < n → j < n → ∀ (d u : Nat) (a : Int), u + d = n - 1 - i →
      Ans (fun k => impl_inversions.l1 k x (wrap64 (a + S d (fun t => S j (fun l => en x i j * en x (i + 1 + (u + t)) l)))) i x n i (rd_L3 x (i : Int)) n ((j + 1 : Nat) : Int)) R →
      Ans (fun k => impl_inversions.l2 k x (wrap64 a) i j (en x i j) x n i (rd_L3 x (i : Int)) n j (x.drop (i + 1)) ((n - 1 - i : Nat) : Int) u) R := by
    intro i j R hi hj d
    induction d with
    | zero =>
      intro u a hd e
      simp only [S, Int.add_zero] at e
      refine Ans.step ?_
      simp only [impl_inversions.l2, wrap64_up (show (0 : Int) ≤ j by omega) (by omega)]
      rw [show ((j + 1 : Nat) : Int) = (j : Int) + 1 by omega] at e
      exact Ans.not (by omega) e
    | succ d ih =>
      intro u a hd e
      rw [S_front, Nat.add_zero, ← Int.add_assoc, S_congr (f := fun t => S j (fun l => en x i j * en x (i + 1 + (u + (t + 1))) l)) (g := fun t => S j (fun l => en x i j * en x (i + 1 + (u + 1 + t)) l)) (fun t _ => by rw [show u + (t + 1) = u + 1 + t by omega])] at e
      have e1 := ih (u + 1) _ (by omega) e
      have rr : rd_L3 (x.drop (i + 1)) (u : Int) = x.getD (i + 1 + u) [] := by
        simp only [rd_L3, Int.toNat_natCast]
        rw [getD_at _ _ (by rw [List.length_drop, hl]; omega), getD_at _ _ (by rw [hl]; omega), List.getElem_drop]
      have rl := h.row (show i + 1 + u < n by omega)
      have dl : (x.drop (i + 1)).length = n - 1 - i := by rw [List.length_drop, hl]; omega
      have sm := sumOf ((x.getD (i + 1 + u) []).take j) (by rw [List.length_take]; omega)
      have tl : ((x.getD (i + 1 + u) []).take j).length = j := by rw [List.length_take]; omega
      rw [tl, S_congr (g := en x (i + 1 + u)) (fun t ht => by rw [getD_at _ _ (by rw [tl]; exact ht), List.getElem_take]; simp only [en]; rw [getD_at _ 0 (by omega)])] at sm
      have b := (E (i + 1 + u) j (by omega) hj).2.1
      rw [wrap64_in _ ⟨by omega, by omega⟩] at sm
      refine Ans.step ?_
      simp only [impl_inversions.l2, rr, rl, dl, Int.toNat_natCast, wrap64_up (show (0 : Int) ≤ u by omega) (by omega)]
      refine Ans.yes (by omega) (Ans.yes (by omega) (Ans.yes (by omega) (Ans.yes (by omega) (Ans.yes (by omega) (sm.bind ?_)))))
      rw [wrap_add2, ← S_mul]
      rw [show ((u + 1 : Nat) : Int) = (u : Int) + 1 by omega] at e1
      exact e1
  have l1 : ∀ (i : Nat) (R : Int), i < n → ∀ (d j : Nat) (a : Int), j + d = n →
      Ans (fun k => impl_inversions.l0 k x (wrap64 (a + S d (fun t => S (n - 1 - i) (fun u => S (j + t) (fun l => en x i (j + t) * en x (i + 1 + u) l))))) x n ((i + 1 : Nat) : Int)) R →
      Ans (fun k => impl_inversions.l1 k x (wrap64 a) i x n i (rd_L3 x (i : Int)) n j) R := by
    intro i R hi d
    induction d with
    | zero =>
      intro j a hd e
      simp only [S, Int.add_zero] at e
      refine Ans.step ?_
      simp only [impl_inversions.l1, wrap64_up (show (0 : Int) ≤ i by omega) (by omega)]
      rw [show ((i + 1 : Nat) : Int) = (i : Int) + 1 by omega] at e
      exact Ans.not (by omega) e
    | succ d ih =>
      intro j a hd e
      rw [S_front, Nat.add_zero, ← Int.add_assoc, S_congr (f := fun t => S (n - 1 - i) (fun u => S (j + (t + 1)) (fun l => en x i (j + (t + 1)) * en x (i + 1 + u) l))) (g := fun t => S (n - 1 - i) (fun u => S (j + 1 + t) (fun l => en x i (j + 1 + t) * en x (i + 1 + u) l))) (fun t _ => by rw [show j + (t + 1) = j + 1 + t by omega])] at e
      have e1 := ih (j + 1) _ (by omega) e
      have e2 := l2 i j R hi (by omega) (n - 1 - i) 0 a (by omega) (by
        rw [S_congr (g := fun u => S j (fun l => en x i j * en x (i + 1 + u) l)) (fun t _ => by rw [Nat.zero_add])]; exact e1)
      refine Ans.step ?_
      simp only [impl_inversions.l1, wrap64_up (show (0 : Int) ≤ i by omega) (by omega), Option.bind_some]
      have r := row i hi
      have dl : (x.drop (i + 1)).length = n - 1 - i := by rw [List.length_drop, hl]; omega
      refine Ans.yes (by omega) (Ans.yes (by omega) (Ans.yes (by omega) (Ans.yes (by omega) (Ans.yes (by omega) ?_))))
      rw [show ((i : Int) + 1).toNat = i + 1 by omega, rde, dl]
      exact e2
  have l0 : ∀ (d i : Nat) (a : Int), i + d = n → Ans (fun k => impl_inversions.l0 k x (wrap64 a) x n i) (wrap64 (a + S d (fun t => S (n - 1 - (i + t)) (fun u => T n (fun j l => en x (i + t) j * en x (i + t + 1 + u) l))))) := by
    intro d
    induction d with
    | zero =>
      intro i a hd
      refine Ans.step ?_
      simp only [impl_inversions.l0, S, Int.add_zero]
      exact Ans.not (by omega) (Ans.pure _)
    | succ d ih =>
      intro i a hd
      have e := ih (i + 1) (a + S (n - 1 - i) (fun u => T n (fun j l => en x i j * en x (i + 1 + u) l))) (by omega)
      rw [S_front, Nat.add_zero, ← Int.add_assoc, S_congr (f := fun t => S (n - 1 - (i + (t + 1))) (fun u => T n (fun j l => en x (i + (t + 1)) j * en x (i + (t + 1) + 1 + u) l))) (g := fun t => S (n - 1 - (i + 1 + t)) (fun u => T n (fun j l => en x (i + 1 + t) j * en x (i + 1 + t + 1 + u) l))) (fun t _ => by rw [show i + (t + 1) = i + 1 + t by omega])]
      have e2 := l1 i _ (by omega) n 0 a (by omega) (by
        rw [S_congr (g := fun t => S (n - 1 - i) (fun u => S t (fun l => en x i t * en x (i + 1 + u) l))) (fun t _ => by rw [Nat.zero_add]), S_comm]; exact e)
      refine Ans.step ?_
      simp only [impl_inversions.l0, row i (by omega)]
      exact Ans.yes (by omega) (Ans.yes (by omega) (Ans.yes (by omega) e2))
  have := l0 n 0 0 (by omega)
  have w := T_up (fun i k => T n (fun j l => en x i j * en x k l)) n
  rw [Int.zero_add, S_congr (g := fun t => S (n - 1 - t) (fun u => T n (fun j l => en x t j * en x (t + 1 + u) l))) (fun t _ => by rw [Nat.zero_add]), w] at this
  rw [show inv x = T n (fun i k => T n (fun j l => en x k j * en x i l)) by unfold inv; rw [hl]]
  simp only [impl_inversions.f, hl]
  rw [show wrap64 0 = 0 from wrap64_in 0 ⟨by omega, by omega⟩] at this
  exact this
theorem invOfI (x : List (List Int)) (hx : x.length ≤ 1048576) : Ans (fun k => impl_InversionsOf.f k x) (invRes x) := by
  simp only [impl_InversionsOf.f, invRes]
  by_cases s : sign x = true
  · have b := inv_bound s
    have w : wrap64 (inv x) = inv x := wrap64_in _ ⟨by omega, by omega⟩
    have e1 := implInv s rfl
    rw [w] at e1
    rw [if_pos s]
    exact (isSign x hx).bind (Ans.yes s (e1.bind (Ans.pure _)))
  · rw [if_neg s]
    exact (isSign x hx).bind (Ans.not s (Ans.pure _))
theorem countOf {n : Nat} {x : List (List Int)} (h : Sq n x) (hn : n ≤ 100) (v : Int) : Ans (fun k => impl_countOf.f k x v) (wrap64 (S n (fun i => S n (fun j => if en x i j = v then 1 else 0)))) := by
  have hl := h.1
  have row : ∀ i : Nat, i < n → (rd_L3 x (i : Int)).length = n := fun i hi => by unfold rd_L3; rw [Int.toNat_natCast]; exact h.row hi
  have rde : ∀ i j : Nat, rd (rd_L3 x (i : Int)) (j : Int) = en x i j := fun i j => by simp only [rd, rd_L3, Int.toNat_natCast, en]
  have l1 : ∀ (i : Nat) (R : Int), i < n → ∀ (d j : Nat) (a : Int), j + d = n →
      Ans (fun k => impl_countOf.l0 k v (wrap64 (a + S d (fun t => if en x i (j + t) = v then 1 else 0))) x n ((i + 1 : Nat) : Int)) R →
      Ans (fun k => impl_countOf.l1 k v (wrap64 a) x n i (rd_L3 x (i : Int)) n j) R := by
    intro i R hi d
    induction d with
    | zero =>
      intro j a hd e
      simp only [S, Int.add_zero] at e
      refine Ans.step ?_
      simp only [impl_countOf.l1, wrap64_up (show (0 : Int) ≤ i by omega) (by omega)]
      rw [show ((i + 1 : Nat) : Int) = (i : Int) + 1 by omega] at e
      exact Ans.not (by omega) e
    | succ d ih =>
      intro j a hd e
      rw [S_front, Nat.add_zero, ← Int.add_assoc, S_congr (g := fun t => if en x i (j + 1 + t) = v then 1 else 0) (fun t _ => by rw [show j + (t + 1) = j + 1 + t by omega])] at e
      have e1 := ih (j + 1) _ (by omega) e
      rw [show ((j + 1 : Nat) : Int) = (j : Int) + 1 by omega] at e1
      refine Ans.step ?_
      simp only [impl_countOf.l1, impl_bit.f, wrap64_up (show (0 : Int) ≤ j by omega) (by omega), rde]
      have r := row i hi
      refine Ans.yes (by omega) (Ans.yes (by omega) (Ans.yes (by omega) ?_))
      by_cases c : en x i j = v
      · rw [if_pos c] at e1; rw [show (en x i j == v) = true by simp [c], if_pos rfl]; simp only [Option.bind_some, wrap_add]; exact e1
      · rw [if_neg c] at e1; rw [show (en x i j == v) = false by simp [c], if_neg (by simp)]; simp only [Option.bind_some, wrap_add]; exact e1
  have l0 : ∀ (d i : Nat) (a : Int), i + d = n → Ans (fun k => impl_countOf.l0 k v (wrap64 a) x n i) (wrap64 (a + S d (fun t => S n (fun j => if en x (i + t) j = v then 1 else 0)))) := by
    intro d
    induction d with
    | zero =>
      intro i a hd
      refine Ans.step ?_
      simp only [impl_countOf.l0, S, Int.add_zero]
      exact Ans.not (by omega) (Ans.pure _)
    | succ d ih =>
      intro i a hd
      have e := ih (i + 1) (a + S n (fun j => if en x i j = v then 1 else 0)) (by omega)
      rw [S_front, Nat.add_zero, ← Int.add_assoc, S_congr (f := fun t => S n (fun j => if en x (i + (t + 1)) j = v then 1 else 0)) (g := fun t => S n (fun j => if en x (i + 1 + t) j = v then 1 else 0)) (fun t _ => by rw [show i + (t + 1) = i + 1 + t by omega])]
      have e2 := l1 i _ (by omega) n 0 a (by omega) (by
        rw [S_congr (g := fun j => if en x i j = v then 1 else 0) (fun t _ => by rw [Nat.zero_add])]; exact e)
      refine Ans.step ?_
      simp only [impl_countOf.l0, row i (by omega)]
      exact Ans.yes (by omega) (Ans.yes (by omega) (Ans.yes (by omega) e2))
  have := l0 n 0 0 (by omega)
  rw [Int.zero_add, S_congr (g := fun t => S n (fun j => if en x t j = v then 1 else 0)) (fun t _ => by rw [Nat.zero_add]), show wrap64 0 = 0 from wrap64_in 0 ⟨by omega, by omega⟩] at this
  simp only [impl_countOf.f, hl]
  exact this
theorem minusOf (x : List (List Int)) (s : sign x = true) : Ans (fun k => impl_MinusOnes.f k x) (minus x, true) := by
  obtain ⟨q, h6⟩ := sign_sq s
  have b := minus_bound s
  have e := countOf q (by omega) (-1)
  rw [show S x.length (fun i => S x.length (fun j => if en x i j = -1 then 1 else 0)) = minus x from rfl, wrap64_in _ ⟨by omega, by omega⟩] at e
  simp only [impl_MinusOnes.f]
  exact (isSign x (by omega)).bind (Ans.yes s (e.bind (Ans.pure _)))
/-- The reader of draws: from place a on, at most n places on. -/
theorem draw_next (c : List Int) (hc : ∀ x ∈ c, (Lit.int .u8 x).wf = true) (a s : Int) (h0 : 0 ≤ a) (h1 : a ≤ 2305843009213693952) : ∃ b s', spec_l1Cur_next.f c a s = some (b, a + 1, s') ∧ 0 ≤ b ∧ b ≤ 255 := by
  have hw : wrap64 (a + 1) = a + 1 := wrap64_in _ ⟨by omega, by omega⟩
  simp only [spec_l1Cur_next.f, hw]
  by_cases c1 : a < (c.length : Int)
  · have hr := byte_wf (hc (rd c a) (getD_mem 0 (by omega)))
    have hw2 : wrap64 (rd c a) = rd c a := wrap64_in _ ⟨by omega, by omega⟩
    rw [if_pos c1, if_pos h0, if_pos (by omega)]
    exact ⟨_, _, rfl, by rw [hw2]; exact hr.1, by rw [hw2]; exact hr.2⟩
  · rw [if_neg c1, if_neg (by omega)]
    exact ⟨_, _, rfl, (byte_and _).1, (byte_and _).2⟩
theorem tmod_in {x n : Int} (h : 0 ≤ x) (hn : 1 < n) : 0 ≤ Int.tmod x n ∧ Int.tmod x n < n := ⟨Int.tmod_nonneg _ h, Int.tmod_lt_of_pos _ (by omega)⟩
theorem draw_pick (c : List Int) (hc : ∀ x ∈ c, (Lit.int .u8 x).wf = true) (a s n : Int) (h0 : 0 ≤ a) (h1 : a ≤ 1152921504606846976) : ∃ v a' s', spec_l1Cur_pick.f c a s n = some (v, a', s') ∧ a ≤ a' ∧ a' ≤ a + 2 ∧ 0 ≤ v ∧ (v < n ∨ v = 0) := by
  simp only [spec_l1Cur_pick.f]
  by_cases c1 : n ≤ 1
  · rw [if_pos c1]; exact ⟨_, _, _, rfl, by omega, by omega, by omega, by omega⟩
  · rw [if_neg c1]
    obtain ⟨b, s1, e1, b0, b1⟩ := draw_next c hc a s h0 (by omega)
    rw [e1]; simp only [Option.bind_some]
    by_cases c2 : n > 200
    · rw [if_pos c2]
      obtain ⟨b', s2, e2, b0', b1'⟩ := draw_next c hc (a + 1) s1 (by omega) (by omega)
      rw [e2]; simp only [Option.bind_some]
      rw [if_neg (by omega), wrap64_in (b * 256) ⟨by omega, by omega⟩, wrap64_in (b * 256 + b') ⟨by omega, by omega⟩]
      have := tmod_in (x := b * 256 + b') (n := n) (by omega) (by omega)
      exact ⟨_, _, _, rfl, by omega, by omega, this.1, .inl this.2⟩
    · rw [if_neg c2, if_neg (by omega)]
      have := tmod_in (x := b) (n := n) (by omega) (by omega)
      exact ⟨_, _, _, rfl, by omega, by omega, this.1, .inl this.2⟩
theorem draw_one (c : List Int) (hc : ∀ x ∈ c, (Lit.int .u8 x).wf = true) (a s n : Int) (h0 : 0 ≤ a) (h1 : a ≤ 1152921504606846976) : ∃ v a' s', spec_l1Cur_one.f c a s n = some (v, a', s') ∧ a ≤ a' ∧ a' ≤ a + 2 := by
  obtain ⟨v, a', s', e, h2, h3, _⟩ := draw_pick c hc a s n h0 h1
  simp only [spec_l1Cur_one.f, e, Option.bind_some]
  exact ⟨_, _, _, rfl, h2, h3⟩
theorem draw_among (c : List Int) (hc : ∀ x ∈ c, (Lit.int .u8 x).wf = true) (a s : Int) (l : List Int) (hl : 0 < l.length) (h0 : 0 ≤ a) (h1 : a ≤ 1152921504606846976) : ∃ v a' s', spec_l1Cur_among.f c a s l = some (v, a', s') ∧ a ≤ a' ∧ a' ≤ a + 2 ∧ v ∈ l := by
  obtain ⟨v, a', s', e, h2, h3, h4, h5⟩ := draw_pick c hc a s (l.length : Int) h0 h1
  simp only [spec_l1Cur_among.f, e, Option.bind_some]
  rw [if_pos h4, if_pos (by omega)]
  exact ⟨_, _, _, rfl, h2, h3, getD_mem 0 (by omega)⟩
/-- A number of a square table is put. -/
theorem put_sq {n : Nat} {y : List (List Int)} (h : Sq n y) (i j : Nat) (hi : i < n) (hj : j < n) (v : Int) : Sq n (y.set i ((y.getD i []).set j v)) ∧
    ∀ a b : Nat, a < n → b < n → ((y.set i ((y.getD i []).set j v)).getD a []).getD b 0 = if a = i ∧ b = j then v else (y.getD a []).getD b 0 := by
  have hr := h.row hi
  refine ⟨⟨by rw [List.length_set]; exact h.1, fun r hr' => ?_⟩, fun a b ha hb => ?_⟩
  · rcases List.mem_or_eq_of_mem_set hr' with h1 | h1
    · exact h.2 r h1
    · rw [h1, List.length_set]; exact hr
  · have ra := h.row ha
    by_cases e : i = a
    · subst e
      rw [show (y.set i ((y.getD i []).set j v)).getD i [] = (y.getD i []).set j v from by rw [getD_at (y.set i _) [] (by rw [List.length_set, h.1]; exact hi), List.getElem_set_self]]
      by_cases e2 : j = b
      · subst e2; rw [if_pos ⟨rfl, rfl⟩, getD_at _ _ (by rw [List.length_set, hr]; exact hj), List.getElem_set_self]
      · rw [if_neg (fun h => e2 h.2.symm), getD_at _ _ (by rw [List.length_set, hr]; exact hb), List.getElem_set_ne e2, ← getD_at _ 0 (by rw [hr]; exact hb)]
    · rw [if_neg (fun h => e h.1.symm), getD_at _ [] (by rw [List.length_set, h.1]; exact ha), List.getElem_set_ne e, ← getD_at y [] (by rw [h.1]; exact ha)]
theorem rep_sq (n : Nat) (v : Int) : Sq n (List.replicate n (List.replicate n v)) := ⟨by simp, fun r hr => by rw [List.eq_of_mem_replicate hr]; simp⟩
theorem sgZero (n : Nat) (hn : n ≤ 1000) : Ans (fun k => spec_sgZero.f k n) (List.replicate n (List.replicate n 0)) := by
  have key : ∀ (d i : Nat), i + d = n → Ans (fun k => spec_sgZero.l0 k n (List.replicate i (List.replicate n 0)) (i : Int)) (List.replicate n (List.replicate n 0)) := by
    intro d
    induction d with
    | zero =>
      intro i h
      obtain rfl : i = n := by omega
      exact Ans.step (by simp only [spec_sgZero.l0]; exact Ans.not (by omega) (Ans.pure _))
    | succ d ih =>
      intro i h
      have e := ih (i + 1) (by omega)
      refine Ans.step ?_
      simp only [spec_sgZero.l0, wrap64_up (show (0 : Int) ≤ i by omega) (by omega), Int.toNat_natCast]
      rw [List.replicate_succ', show ((i + 1 : Nat) : Int) = (i : Int) + 1 by omega] at e
      exact Ans.yes (by omega) (Ans.yes (by omega) (Ans.yes (by omega) (Ans.yes (by rw [List.length_replicate]; omega) e)))
  exact key n 0 (by omega)
/-- A corner sum, 0 beside the table. -/
def sgat (x : List (List Int)) (i j : Int) : Int := if i < 0 then 0 else if j < 0 then 0 else rd (rd_L3 x i) j
theorem sgAt {n : Nat} {x : List (List Int)} (h : Sq n x) (i j : Int) (hi : i < n) (hj : j < n) : spec_sgAt.f x i j = some (sgat x i j) := by
  simp only [spec_sgAt.f, sgat]
  by_cases c1 : i < 0
  · rw [if_pos c1, if_pos c1]
  · by_cases c2 : j < 0
    · rw [if_neg c1, if_neg c1, if_pos c2, if_pos c2]
    · have hr : (rd_L3 x i).length = n := h.row (by omega)
      rw [if_neg c1, if_neg c1, if_neg c2, if_neg c2, if_pos (by omega), if_pos (by have := h.1; omega), if_pos (by omega), if_pos (by omega)]
/-- The number that corner sums leave. -/
def diff (x : List (List Int)) (i j : Int) : Int := wrap64 (wrap64 (wrap64 (sgat x i j - sgat x (i - 1) j) - sgat x i (j - 1)) + sgat x (i - 1) (j - 1))
def frm (x : List (List Int)) : List (List Int) := tab x.length x.length (fun i j => diff x i j)
theorem tab_sq (n : Nat) (v : Nat → Nat → Int) : Sq n (tab n n v) := ⟨by simp [tab], fun r hr => by obtain ⟨a, _, rfl⟩ := List.mem_map.1 hr; simp⟩
theorem sgFrom (n : Nat) (x : List (List Int)) (h : Sq n x) (hn : n ≤ 1000) : Ans (fun k => spec_sgFrom.f k x) (frm x) := by
  have hx := h.1
  have inner : ∀ (i : Nat), i < n → ∀ (d j : Nat) (y : List (List Int)), j + d = n → Sq n y → (∀ a b : Nat, a < n → b < n → (a < i ∨ a = i ∧ b < j) → (y.getD a []).getD b 0 = diff x a b) →
      (∀ y', Sq n y' → (∀ a b : Nat, a < n → b < n → a < i + 1 → (y'.getD a []).getD b 0 = diff x a b) → Ans (fun k => spec_sgFrom.l0 k x y' (n : Int) ((i + 1 : Nat) : Int)) (frm x)) →
      Ans (fun k => spec_sgFrom.l1 k x y (i : Int) (n : Int) (i : Int) (n : Int) (j : Int)) (frm x) := by
    intro i hi d
    induction d with
    | zero =>
      intro j y hj hy hv nx
      refine Ans.step ?_
      simp only [spec_sgFrom.l1, wrap64_up (show (0 : Int) ≤ i by omega) (by omega)]
      have := nx y hy (fun a b ha hb hlt => hv a b ha hb (by omega))
      rw [show ((i + 1 : Nat) : Int) = (i : Int) + 1 by omega] at this
      exact Ans.not (by omega) this
    | succ d ih =>
      intro j y hj hy hv nx
      obtain ⟨q1, q2⟩ := put_sq hy i j hi (by omega) (diff x i j)
      have e := ih (j + 1) _ (by omega) q1 (fun a b ha hb hlt => by
        rw [q2 a b ha hb]
        by_cases c : a = i ∧ b = j
        · rw [if_pos c, c.1, c.2]
        · rw [if_neg c]; exact hv a b ha hb (by omega)) nx
      have hr : (rd_L3 y (i : Int)).length = n := by unfold rd_L3; rw [Int.toNat_natCast]; exact hy.row hi
      have w1 : wrap64 ((i : Int) - 1) = (i : Int) - 1 := wrap64_in _ ⟨by omega, by omega⟩
      have w2 : wrap64 ((j : Int) - 1) = (j : Int) - 1 := wrap64_in _ ⟨by omega, by omega⟩
      refine Ans.step ?_
      simp only [spec_sgFrom.l1, w1, w2, wrap64_up (show (0 : Int) ≤ j by omega) (by omega), sgAt h i j (by omega) (by omega), sgAt h ((i : Int) - 1) j (by omega) (by omega), sgAt h i ((j : Int) - 1) (by omega) (by omega), sgAt h ((i : Int) - 1) ((j : Int) - 1) (by omega) (by omega), Option.bind_some, Int.toNat_natCast]
      rw [show ((j + 1 : Nat) : Int) = (j : Int) + 1 by omega] at e
      exact Ans.yes (by omega) (Ans.yes (by omega) (Ans.yes (by have := hy.1; omega) (Ans.yes (by omega) (Ans.yes (by omega) e))))
  have key : ∀ (d i : Nat) (y : List (List Int)), i + d = n → Sq n y → (∀ a b : Nat, a < n → b < n → a < i → (y.getD a []).getD b 0 = diff x a b) → Ans (fun k => spec_sgFrom.l0 k x y (n : Int) (i : Int)) (frm x) := by
    intro d
    induction d with
    | zero =>
      intro i y h1 hy hv
      have : y = frm x := by unfold frm; rw [hx]; exact (tab_is hy _ (fun a b ha hb => (hv a b ha hb (by omega)).symm)).symm
      rw [this]
      exact Ans.step (by simp only [spec_sgFrom.l0]; exact Ans.not (by omega) (Ans.pure _))
    | succ d ih =>
      intro i y h1 hy hv
      refine Ans.step ?_
      simp only [spec_sgFrom.l0, hx]
      exact Ans.yes (by omega) (inner i (by omega) n 0 y (by omega) hy (fun a b ha hb hlt => hv a b ha hb (by omega)) (fun y' hy' hv' => ih (i + 1) y' (by omega) hy' hv'))
  simp only [spec_sgFrom.f, hx]
  exact (sgZero n hn).bind (by
    have := key n 0 (List.replicate n (List.replicate n 0)) (by omega) (rep_sq n 0) (fun a b ha hb hlt => by omega)
    simpa [rep_sq] using this)
theorem frm_sq {n : Nat} {x : List (List Int)} (h : Sq n x) : Sq n (frm x) := by unfold frm; rw [h.1]; exact tab_sq n _
/-- The corner sums of the least sign matrix. -/
def corn (n : Nat) : List (List Int) := tab n n (fun i j => ((min i j : Nat) : Int) + 1)
theorem corn_sign : ∀ n : Nat, 1 ≤ n → n ≤ 6 → sign (frm (corn n)) = true := by
  intro n h1 h2
  rcases (show n = 1 ∨ n = 2 ∨ n = 3 ∨ n = 4 ∨ n = 5 ∨ n = 6 by omega) with rfl | rfl | rfl | rfl | rfl | rfl
  all_goals decide +kernel
/-- All numbers are in range. -/
def InZ (x : List (List Int)) : Prop := ∀ r ∈ x, ∀ v ∈ r, -9223372036854775808 ≤ v ∧ v ≤ 9223372036854775807
theorem wrap64_range (n : Int) : -9223372036854775808 ≤ wrap64 n ∧ wrap64 n ≤ 9223372036854775807 := by unfold wrap64; omega
theorem InZ.put {x : List (List Int)} (h : InZ x) (i j : Nat) (hi : i < x.length) (n : Int) : InZ (x.set i ((x.getD i []).set j (wrap64 n))) := by
  intro r hr v hv
  rcases List.mem_or_eq_of_mem_set hr with h1 | h1
  · exact h r h1 v hv
  · subst h1
    rcases List.mem_or_eq_of_mem_set hv with h2 | h2
    · exact h _ (getD_mem [] hi) v h2
    · rw [h2]; exact wrap64_range n
theorem draw_sure (c : List Int) (hc : ∀ x ∈ c, (Lit.int .u8 x).wf = true) (a s : Int) (n : Nat) (hn : 1 ≤ n) (hn2 : n ≤ 6) (h0 : 0 ≤ a) (h1 : a ≤ 1000000000000) :
    ∃ m a' s', Ans (fun k => spec_l1Cur_sure.f k c a s n) (m, a', s') ∧ a ≤ a' ∧ a' ≤ a + 1000 ∧ Sq n m ∧ sign m = true := by
  -- the flips
  have flips : ∀ (d : Nat) (x : List (List Int)) (a s : Int), Sq n x → InZ x → sign (frm x) = true → 0 ≤ a → a + 6 * d ≤ 1000000002000 →
      ∃ m a' s', Ans (fun k => spec_l1Cur_sure.l2 k n x (d : Int) c a s) (m, a', s') ∧ a ≤ a' ∧ a' ≤ a + 6 * d ∧ Sq n m ∧ sign m = true := by
    intro d
    induction d with
    | zero =>
      intro x a s hx hz hs h0 h1
      refine ⟨frm x, a, s, Ans.step ?_, by omega, by omega, frm_sq hx, hs⟩
      simp only [spec_l1Cur_sure.l2]
      refine Ans.not (by omega) (Ans.step ?_)
      simp only [spec_l1Cur_sure.j3]
      exact Ans.not (by simp) ((sgFrom n x hx (by omega)).bind (Ans.pure _))
    | succ d ih =>
      intro x a s hx hz hs h0 h1
      by_cases c1 : (n : Int) > 1
      · have wn : wrap64 ((n : Int) - 1) = (n : Int) - 1 := wrap64_in _ ⟨by omega, by omega⟩
        obtain ⟨i, a1, s1, e1, p1, q1, i0, i1⟩ := draw_pick c hc a s ((n : Int) - 1) h0 (by omega)
        obtain ⟨j, a2, s2, e2, p2, q2, j0, j1⟩ := draw_pick c hc a1 s1 ((n : Int) - 1) (by omega) (by omega)
        obtain ⟨v, a3, s3, e3, p3, q3, v0, v1⟩ := draw_pick c hc a2 s2 2 (by omega) (by omega)
        have hr : (rd_L3 x i).length = n := hx.row (by omega)
        have hl := hx.1
        obtain ⟨y, hy⟩ : ∃ y, y = x.set i.toNat ((rd_L3 x i).set j.toNat (wrap64 ((rd (rd_L3 x i) j) + (wrap64 ((wrap64 (2 * v)) - 1))))) := ⟨_, rfl⟩
        have ys : Sq n y := by rw [hy]; exact (put_sq hx i.toNat j.toNat (by omega) (by omega) _).1
        have yz : InZ y := by rw [hy]; exact hz.put i.toNat j.toNat (by omega) _
        have wd : wrap64 (((d + 1 : Nat) : Int) - 1) = d := by rw [wrap64_in _ ⟨by omega, by omega⟩]; omega
        by_cases c2 : sign (frm y) = true
        · obtain ⟨m, a', s', e, g1, g2, g3, g4⟩ := ih y a3 s3 ys yz c2 (by omega) (by omega)
          refine ⟨m, a', s', Ans.step ?_, by omega, by omega, g3, g4⟩
          simp only [spec_l1Cur_sure.l2]
          refine Ans.yes (by omega) (Ans.step ?_)
          simp only [spec_l1Cur_sure.j3, wn, wd, e1, e2, e3, Option.bind_some, ← hy]
          have gg := sgGood (frm y) (by rw [(frm_sq ys).1]; omega)
          rw [c2] at gg
          exact Ans.yes (by simp; omega) (Ans.yes i0 (Ans.yes (by omega) (Ans.yes j0 (Ans.yes (by omega) ((sgFrom n y ys (by omega)).bind (gg.bind (Ans.yes rfl e)))))))
        · have back : y.set i.toNat ((rd_L3 y i).set j.toNat (wrap64 ((rd (rd_L3 y i) j) - (wrap64 ((wrap64 (2 * v)) - 1))))) = x := by
            have hq := put_sq hx i.toNat j.toNat (by omega) (by omega) (wrap64 ((rd (rd_L3 x i) j) + (wrap64 ((wrap64 (2 * v)) - 1))))
            have hq2 := put_sq ys i.toNat j.toNat (by omega) (by omega) (wrap64 ((rd (rd_L3 y i) j) - (wrap64 ((wrap64 (2 * v)) - 1))))
            refine ext_sq hq2.1 hx (fun a b ha hb => ?_)
            have e1 := hq2.2 a b ha hb
            rw [show y.getD i.toNat [] = rd_L3 y i from rfl] at e1
            rw [e1]
            have hyv := hq.2 a b ha hb
            rw [show x.getD i.toNat [] = rd_L3 x i from rfl, ← hy] at hyv
            by_cases c3 : a = i.toNat ∧ b = j.toNat
            · rw [if_pos c3]
              rw [if_pos c3] at hyv
              have e4 : rd (rd_L3 y i) j = wrap64 ((rd (rd_L3 x i) j) + (wrap64 ((wrap64 (2 * v)) - 1))) := by rw [← hyv, c3.1, c3.2]; rfl
              rw [e4, c3.1, c3.2, show (x.getD i.toNat []).getD j.toNat 0 = rd (rd_L3 x i) j from rfl]
              have hz1 := hz (rd_L3 x i) (getD_mem [] (by omega)) (rd (rd_L3 x i) j) (getD_mem 0 (by omega))
              unfold wrap64
              omega
            · rw [if_neg c3]; rw [if_neg c3] at hyv; exact hyv
          have hry : (rd_L3 y i).length = n := ys.row (by omega)
          obtain ⟨m, a', s', e, g1, g2, g3, g4⟩ := ih x a3 s3 hx hz hs (by omega) (by omega)
          refine ⟨m, a', s', Ans.step ?_, by omega, by omega, g3, g4⟩
          simp only [spec_l1Cur_sure.l2]
          refine Ans.yes (by omega) (Ans.step ?_)
          simp only [spec_l1Cur_sure.j3, wn, wd, e1, e2, e3, Option.bind_some, ← hy, back]
          have gg := sgGood (frm y) (by rw [(frm_sq ys).1]; omega)
          rw [Bool.eq_false_iff.mpr c2] at gg
          exact Ans.yes (by simp; omega) (Ans.yes i0 (Ans.yes (by omega) (Ans.yes j0 (Ans.yes (by omega) ((sgFrom n y ys (by omega)).bind (gg.bind (Ans.not (by simp) (Ans.yes (by omega) e))))))))
      · refine ⟨frm x, a, s, Ans.step ?_, by omega, by omega, frm_sq hx, hs⟩
        simp only [spec_l1Cur_sure.l2]
        refine Ans.yes (by omega) (Ans.step ?_)
        simp only [spec_l1Cur_sure.j3]
        exact Ans.not (by simp; omega) ((sgFrom n x hx (by omega)).bind (Ans.pure _))
  -- the corner sums at first
  have w3 : wrap64 ((wrap64 (3 * (n : Int))) * n) = 3 * (n : Int) * n := by
    have : (3 * (n : Int)) * n ≤ 18 * 6 := Int.mul_le_mul (by omega) (by omega) (by omega) (by omega)
    have h0 : 0 ≤ 3 * (n : Int) * n := Int.mul_nonneg (by omega) (by omega)
    rw [wrap64_in (3 * (n : Int)) ⟨by omega, by omega⟩, wrap64_in _ ⟨by omega, by omega⟩]
  obtain ⟨t, a1, s1, e1, p1, q1, t0, t1⟩ := draw_pick c hc a s (3 * (n : Int) * n) h0 (by omega)
  have ht : t ≤ 108 := by
    have : (3 * (n : Int)) * n ≤ 18 * 6 := Int.mul_le_mul (by omega) (by omega) (by omega) (by omega)
    omega
  obtain ⟨m, a', s', e2, p2, q2, g3, g4⟩ := flips t.toNat (corn n) a1 s1 (tab_sq n _) (by
    intro r hr v hv
    obtain ⟨i, hi, rfl⟩ := List.mem_map.1 hr
    obtain ⟨j, hj, rfl⟩ := List.mem_map.1 hv
    rw [List.mem_range] at hi hj
    show -9223372036854775808 ≤ ((min i j : Nat) : Int) + 1 ∧ ((min i j : Nat) : Int) + 1 ≤ 9223372036854775807
    have := Nat.min_le_left i j
    omega) (corn_sign n hn hn2) (by omega) (by omega)
  rw [Int.toNat_of_nonneg t0] at e2
  refine ⟨m, a', s', ?_, by omega, by omega, g3, g4⟩
  have inner : ∀ (i : Nat), i < n → ∀ (d j : Nat) (y : List (List Int)), j + d = n → Sq n y → (∀ a b : Nat, a < n → b < n → (a < i ∨ a = i ∧ b < j) → (y.getD a []).getD b 0 = ((min a b : Nat) : Int) + 1) →
      (∀ y', Sq n y' → (∀ a b : Nat, a < n → b < n → a < i + 1 → (y'.getD a []).getD b 0 = ((min a b : Nat) : Int) + 1) → Ans (fun k => spec_l1Cur_sure.l0 k n y' (n : Int) ((i + 1 : Nat) : Int) c a s) (m, a', s')) →
      Ans (fun k => spec_l1Cur_sure.l1 k n y (i : Int) (n : Int) (i : Int) (n : Int) (j : Int) c a s) (m, a', s') := by
    intro i hi d
    induction d with
    | zero =>
      intro j y hj hy hv nx
      refine Ans.step ?_
      simp only [spec_l1Cur_sure.l1, wrap64_up (show (0 : Int) ≤ i by omega) (by omega)]
      have := nx y hy (fun a b ha hb hlt => hv a b ha hb (by omega))
      rw [show ((i + 1 : Nat) : Int) = (i : Int) + 1 by omega] at this
      exact Ans.not (by omega) this
    | succ d ih =>
      intro j y hj hy hv nx
      obtain ⟨q1, q2⟩ := put_sq hy i j hi (by omega) (((min i j : Nat) : Int) + 1)
      have e := ih (j + 1) _ (by omega) q1 (fun a b ha hb hlt => by
        rw [q2 a b ha hb]
        by_cases c : a = i ∧ b = j
        · rw [if_pos c, c.1, c.2]
        · rw [if_neg c]; exact hv a b ha hb (by omega)) nx
      have hr : (rd_L3 y (i : Int)).length = n := by unfold rd_L3; rw [Int.toNat_natCast]; exact hy.row hi
      have hl : spec_l1Least.f (i : Int) (j : Int) = some ((min i j : Nat) : Int) := by
        simp only [spec_l1Least.f]
        by_cases c : (i : Int) < j
        · rw [if_pos c, Nat.min_eq_left (by omega)]
        · rw [if_neg c, Nat.min_eq_right (by omega)]
      have w1 : wrap64 (((min i j : Nat) : Int) + 1) = ((min i j : Nat) : Int) + 1 := wrap64_in _ ⟨by omega, by omega⟩
      refine Ans.step ?_
      simp only [spec_l1Cur_sure.l1, hl, Option.bind_some, w1, wrap64_up (show (0 : Int) ≤ j by omega) (by omega), Int.toNat_natCast]
      rw [show ((j + 1 : Nat) : Int) = (j : Int) + 1 by omega] at e
      exact Ans.yes (by omega) (Ans.yes (by omega) (Ans.yes (by have := hy.1; omega) (Ans.yes (by omega) (Ans.yes (by omega) e))))
  have key : ∀ (d i : Nat) (y : List (List Int)), i + d = n → Sq n y → (∀ a b : Nat, a < n → b < n → a < i → (y.getD a []).getD b 0 = ((min a b : Nat) : Int) + 1) → Ans (fun k => spec_l1Cur_sure.l0 k n y (n : Int) (i : Int) c a s) (m, a', s') := by
    intro d
    induction d with
    | zero =>
      intro i y h1 hy hv
      have : y = corn n := (tab_is hy _ (fun a b ha hb => (hv a b ha hb (by omega)).symm)).symm
      rw [this]
      refine Ans.step ?_
      simp only [spec_l1Cur_sure.l0, w3, e1, Option.bind_some]
      exact Ans.not (by omega) e2
    | succ d ih =>
      intro i y h1 hy hv
      have hl := hy.1
      refine Ans.step ?_
      simp only [spec_l1Cur_sure.l0, hl]
      exact Ans.yes (by omega) (inner i (by omega) n 0 y (by omega) hy (fun a b ha hb hlt => hv a b ha hb (by omega)) (fun y' hy' hv' => ih (i + 1) y' (by omega) hy' hv'))
  simp only [spec_l1Cur_sure.f]
  refine (sgZero n (by omega)).bind ?_
  simp only [List.length_replicate]
  exact key n 0 _ (by omega) (rep_sq n 0) (fun a b ha hb hlt => by omega)
/-- What signs draws: a table of few rows of few numbers. -/
theorem draw_signs (c : List Int) (hc : ∀ x ∈ c, (Lit.int .u8 x).wf = true) (a s : Int) (most : Nat) (hm : 1 ≤ most) (hm2 : most ≤ 6) (h0 : 0 ≤ a) (h1 : a ≤ 100000000000) :
    ∃ m a' s', Ans (fun k => spec_l1Cur_signs.f k c a s most) (m, a', s') ∧ a ≤ a' ∧ a' ≤ a + 3000 ∧ m.length ≤ 7 ∧ ∀ r ∈ m, r.length ≤ 7 := by
  obtain ⟨t, a1, s1, e1, p1, q1, t0, t1⟩ := draw_pick c hc a s most h0 (by omega)
  have wt : wrap64 (1 + t) = ((t.toNat + 1 : Nat) : Int) := by rw [wrap64_in _ ⟨by omega, by omega⟩]; omega
  obtain ⟨n, hn⟩ : ∃ n, n = t.toNat + 1 := ⟨_, rfl⟩
  rw [← hn] at wt
  obtain ⟨m, a2, s2, e2, p2, q2, hs, _⟩ := draw_sure c hc a1 s1 n (by omega) (by omega) (by omega) (by omega)
  obtain ⟨z, a3, s3, e3, p3, q3, z0, z1⟩ := draw_pick c hc a2 s2 20 (by omega) (by omega)
  have hl := hs.1
  by_cases c0 : z = 0
  · obtain ⟨i, a4, s4, e4, p4, q4, i0, i1⟩ := draw_pick c hc a3 s3 n (by omega) (by omega)
    obtain ⟨j, a5, s5, e5, p5, q5, j0, j1⟩ := draw_pick c hc a4 s4 n (by omega) (by omega)
    obtain ⟨v, a6, s6, e6, p6, q6, _⟩ := draw_among c hc a5 s5 [(-2), (-1), 0, 1, 2, 4611686018427387904] (by simp) (by omega) (by omega)
    have hr : (rd_L3 m i).length = n := hs.row (by omega)
    refine ⟨m.set i.toNat ((rd_L3 m i).set j.toNat v), a6, s6, ?_, by omega, by omega, by rw [List.length_set]; omega, fun r hr' => ?_⟩
    · simp only [spec_l1Cur_signs.f, e1, Option.bind_some, wt]
      refine e2.bind ?_
      simp only [e3, Option.bind_some]
      refine Ans.yes c0 ?_
      simp only [e4, Option.bind_some]
      refine Ans.yes i0 (Ans.yes (by omega) ?_)
      simp only [e5, e6, Option.bind_some]
      exact Ans.yes j0 (Ans.yes (by omega) (Ans.pure _))
    · rcases List.mem_or_eq_of_mem_set hr' with h | h
      · rw [hs.2 r h]; omega
      · rw [h, List.length_set, hr]; omega
  by_cases c1 : z = 1
  · refine ⟨m ++ [List.replicate n 0], a3, s3, ?_, by omega, by omega, by simp; omega, fun r hr' => ?_⟩
    · simp only [spec_l1Cur_signs.f, e1, Option.bind_some, wt]
      refine e2.bind ?_
      simp only [e3, Option.bind_some, Int.toNat_natCast]
      exact Ans.not c0 (Ans.yes c1 (Ans.yes (by omega) (Ans.yes (by omega) (Ans.yes (by omega) (Ans.pure _)))))
    · rcases List.mem_append.1 hr' with h | h
      · rw [hs.2 r h]; omega
      · simp only [List.mem_singleton] at h; rw [h, List.length_replicate]; omega
  by_cases c2 : z = 2
  · have hr : (rd_L3 m 0).length = n := hs.row (by omega)
    refine ⟨m.set (0 : Int).toNat (rd_L3 m 0 ++ [0]), a3, s3, ?_, by omega, by omega, by rw [List.length_set]; omega, fun r hr' => ?_⟩
    · simp only [spec_l1Cur_signs.f, e1, Option.bind_some, wt]
      refine e2.bind ?_
      simp only [e3, Option.bind_some]
      exact Ans.not c0 (Ans.not c1 (Ans.yes c2 (Ans.yes (by omega) (Ans.yes (by omega) (Ans.pure _)))))
    · rcases List.mem_or_eq_of_mem_set hr' with h | h
      · rw [hs.2 r h]; omega
      · rw [h, List.length_append, hr]; simp; omega
  by_cases c3 : z = 3
  · obtain ⟨m2, a4, s4, e4, p4, q4, hs2, _⟩ := draw_sure c hc a3 s3 6 (by omega) (by omega) (by omega) (by omega)
    obtain ⟨u, a5, s5, e5, p5, q5⟩ := draw_one c hc a4 s4 2 (by omega) (by omega)
    cases u with
    | true =>
      refine ⟨[], a5, s5, ?_, by omega, by omega, by simp, by simp⟩
      simp only [spec_l1Cur_signs.f, e1, Option.bind_some, wt]
      refine e2.bind ?_
      simp only [e3, Option.bind_some]
      refine Ans.not c0 (Ans.not c1 (Ans.not c2 (Ans.yes c3 (e4.bind ?_))))
      simp only [e5, Option.bind_some]
      exact Ans.yes trivial (Ans.pure _)
    | false =>
      refine ⟨m2, a5, s5, ?_, by omega, by omega, by rw [hs2.1]; omega, fun r hr => by rw [hs2.2 r hr]; omega⟩
      simp only [spec_l1Cur_signs.f, e1, Option.bind_some, wt]
      refine e2.bind ?_
      simp only [e3, Option.bind_some]
      refine Ans.not c0 (Ans.not c1 (Ans.not c2 (Ans.yes c3 (e4.bind ?_))))
      simp only [e5, Option.bind_some]
      exact Ans.not (by simp) (Ans.pure _)
  · refine ⟨m, a3, s3, ?_, by omega, by omega, by omega, fun r hr => by rw [hs.2 r hr]; omega⟩
    simp only [spec_l1Cur_signs.f, e1, Option.bind_some, wt]
    refine e2.bind ?_
    simp only [e3, Option.bind_some]
    exact Ans.not c0 (Ans.not c1 (Ans.not c2 (Ans.not c3 (Ans.pure _))))
theorem tab_en {r c : Nat} (v : Nat → Nat → Int) {i j : Nat} (hi : i < r) (hj : j < c) : en (tab r c v) i j = v i j := by
  unfold en
  rw [show (tab r c v).getD i [] = (List.range c).map (fun j => v i j) by rw [getD_at _ _ (by simpa [tab] using hi)]; simp [tab]]
  rw [getD_at _ _ (by simpa using hj)]; simp
/-- The kind of a place. -/
def kd (x : List (List Int)) (i j : Nat) : Int := if en x i j = 1 then 4 else if en x i j = -1 then 5 else 2 * S j (en x i) + S i (fun k => en x k j)
def kindT (x : List (List Int)) : List (List Int) := tab x.length x.length (kd x)
theorem kindT_sq (x : List (List Int)) : Sq x.length (kindT x) := tab_sq _ _
theorem kd_in {x : List (List Int)} (s : sign x = true) {i j : Nat} (hi : i < x.length) (hj : j < x.length) : 0 ≤ kd x i j ∧ kd x i j ≤ 5 := by
  obtain ⟨_, _, _, E, _, _⟩ := sign_en s rfl
  have e := E i j hi hj
  unfold kd
  split
  · omega
  · split <;> omega
theorem colSum {x : List (List Int)} (h : x.length ≤ 1048576) (i j : Nat) (hi : i ≤ x.length) : Ans (fun k => impl_sum.f k ((colOf x (j : Nat)).take i)) (wrap64 (S i (fun k => en x k j))) := by
  have cl : (colOf x (j : Nat)).length = x.length := by simp [colOf]
  have tl : ((colOf x (j : Nat)).take i).length = i := by rw [List.length_take]; omega
  have sm := sumOf ((colOf x (j : Nat)).take i) (by omega)
  rw [tl, S_congr (g := fun k => en x k j) (fun t ht => by rw [getD_at _ _ (by rw [tl]; exact ht), List.getElem_take, ← getD_at _ 0 (by omega), col_at x j t (by omega)])] at sm
  exact sm
theorem rowSum {x : List (List Int)} {n : Nat} (h : Sq n x) (hn : n ≤ 1048576) (i j : Nat) (hi : i < n) (hj : j ≤ n) : Ans (fun k => impl_sum.f k ((x.getD i []).take j)) (wrap64 (S j (en x i))) := by
  have rl := h.row hi
  have tl : ((x.getD i []).take j).length = j := by rw [List.length_take]; omega
  have sm := sumOf ((x.getD i []).take j) (by omega)
  rw [tl, S_congr (g := en x i) (fun t ht => by rw [getD_at _ _ (by rw [tl]; exact ht), List.getElem_take, ← getD_at _ 0 (by omega)]; rfl)] at sm
  exact sm
theorem implKinds {x : List (List Int)} (s : sign x = true) : Ans (fun k => impl_kinds.f k x) (kindT x) := by
  obtain ⟨q, h1, h6, E, _, _⟩ := sign_en s rfl
  simp only [impl_kinds.f]
  have e := table2 x.length x.length (by omega) (by omega) (fun k x0_ x1_ => impl_kinds_1.f k x0_ x1_ x) (kd x) (fun i j hi hj => by
    have rl : (rd_L3 x (i : Int)).length = x.length := by unfold rd_L3; rw [Int.toNat_natCast]; exact q.row hi
    have rde : rd (rd_L3 x (i : Int)) (j : Int) = en x i j := by simp only [rd, rd_L3, Int.toNat_natCast, en]
    have er : rd_L3 x (i : Int) = x.getD i [] := by simp only [rd_L3, Int.toNat_natCast]
    have b := E i j hi hj
    simp only [impl_kinds_1.f, rde, rl, kd]
    refine Ans.yes (by omega) (Ans.yes (by omega) (Ans.yes (by omega) (Ans.yes (by omega) ?_)))
    by_cases c1 : en x i j = 1
    · rw [if_pos c1]; exact Ans.yes c1 (Ans.pure _)
    rw [if_neg c1]
    by_cases c2 : en x i j = -1
    · rw [if_pos c2]; exact Ans.not c1 (Ans.yes c2 (Ans.pure _))
    rw [if_neg c2]
    have s1 := rowSum q (by omega) i j hi (by omega)
    have s2 := colSum (x := x) (by omega) i j (by omega)
    rw [wrap64_in _ ⟨by omega, by omega⟩] at s1 s2
    rw [er, Int.toNat_natCast, Int.toNat_natCast]
    refine Ans.not c1 (Ans.not c2 (Ans.yes (by omega) (s1.bind ((column x (j : Nat) (by omega) (by omega) (fun r hr => by rw [q.2 r hr]; omega)).bind (Ans.yes (by simp [colOf]; omega) (s2.bind ?_))))))
    rw [wrap64_in (2 * _) ⟨by omega, by omega⟩, wrap64_in _ ⟨by omega, by omega⟩]
    exact Ans.pure _)
  exact e.bind (Ans.pure _)
theorem specKinds {x : List (List Int)} (s : sign x = true) : Ans (fun k => spec_weKinds.f k x) (kindT x) := by
  obtain ⟨q, h1, h6, E, _, _⟩ := sign_en s rfl
  obtain ⟨n, hn⟩ : ∃ n, n = x.length := ⟨_, rfl⟩
  rw [← hn] at q h1 h6 E
  have rl : ∀ i : Nat, i < n → (rd_L3 x (i : Int)).length = n := fun i hi => by unfold rd_L3; rw [Int.toNat_natCast]; exact q.row hi
  have rde : ∀ i j : Nat, rd (rd_L3 x (i : Int)) (j : Int) = en x i j := fun i j => by simp only [rd, rd_L3, Int.toNat_natCast, en]
  -- above: the sums of columns, row by row
  have inner : ∀ (i : Nat) (out : List (List Int)) (R : List (List Int)), i < n → out.length ≤ 100 → ∀ (d j : Nat) (ab : List Int), j + d = n → ab.length = n → (∀ t, t < n → ab.getD t 0 = S (if t < j then i + 1 else i) (fun k => en x k t)) →
      (∀ ab' : List Int, ab'.length = n → (∀ t, t < n → ab'.getD t 0 = S (i + 1) (fun k => en x k t)) → Ans (fun k => spec_weKinds.l0 k (out ++ [(List.range n).map (fun j => kd x i j)]) ab' x n ((i + 1 : Nat) : Int)) R) →
      Ans (fun k => spec_weKinds.l1 k out ab ((List.range j).map (fun j => kd x i j)) (S j (en x i)) x n i (rd_L3 x (i : Int)) n j) R := by
    intro i out R hi ho d
    induction d with
    | zero =>
      intro j ab hj hab hv nx
      obtain rfl : j = n := by omega
      have := nx ab hab (fun t ht => by rw [hv t ht, if_pos ht])
      refine Ans.step ?_
      simp only [spec_weKinds.l1, wrap64_up (show (0 : Int) ≤ i by omega) (by omega)]
      rw [show ((i + 1 : Nat) : Int) = (i : Int) + 1 by omega] at this
      exact Ans.not (by omega) (Ans.yes (by omega) this)
    | succ d ih =>
      intro j ab hj hab hv nx
      have b := E i j hi (by omega)
      have aj := hv j (by omega)
      rw [if_neg (by omega)] at aj
      have rd' : rd ab (j : Int) = S i (fun k => en x k j) := by rw [← aj]; simp only [rd, Int.toNat_natCast]
      have w1 : wrap64 (S i (fun k => en x k j) + en x i j) = S (i + 1) (fun k => en x k j) := by rw [S]; exact wrap64_in _ ⟨by omega, by omega⟩
      have w2 : wrap64 (S j (en x i) + en x i j) = S (j + 1) (en x i) := by rw [S]; exact wrap64_in _ ⟨by omega, by omega⟩
      have go := ih (j + 1) (ab.set j (S (i + 1) (fun k => en x k j))) (by omega) (by rw [List.length_set]; exact hab) (fun t ht => by
        by_cases c : t = j
        · subst c; rw [getD_at _ _ (by rw [List.length_set, hab]; exact ht), List.getElem_set_self, if_pos (by omega)]
        · rw [getD_at _ _ (by rw [List.length_set, hab]; exact ht), List.getElem_set_ne (by omega), ← getD_at _ 0, hv t ht]
          by_cases c2 : t < j
          · rw [if_pos c2, if_pos (by omega)]
          · rw [if_neg c2, if_neg (by omega)]) nx
      rw [List.range_succ, List.map_append, List.map_singleton, show ((j + 1 : Nat) : Int) = (j : Int) + 1 by omega] at go
      have ll : ((List.range j).map (fun j => kd x i j)).length = j := by simp
      have rli := rl i hi
      refine Ans.step ?_
      simp only [spec_weKinds.l1, rde, rd', w1, w2, Int.toNat_natCast, wrap64_up (show (0 : Int) ≤ j by omega) (by omega)]
      refine Ans.yes (by omega) (Ans.yes (by omega) (Ans.yes (by omega) ?_))
      by_cases c1 : en x i j = 1
      · rw [show kd x i j = 4 from if_pos c1] at go
        exact Ans.yes c1 (Ans.yes (by omega) (Ans.yes (by omega) go))
      by_cases c2 : en x i j = -1
      · rw [show kd x i j = 5 by unfold kd; rw [if_neg c1, if_pos c2]] at go
        exact Ans.not c1 (Ans.yes c2 (Ans.yes (by omega) (Ans.yes (by omega) go)))
      · rw [show kd x i j = 2 * S j (en x i) + S i (fun k => en x k j) by unfold kd; rw [if_neg c1, if_neg c2]] at go
        refine Ans.not c1 (Ans.not c2 (Ans.yes (by omega) (Ans.yes (by omega) ?_)))
        rw [wrap64_in (2 * _) ⟨by omega, by omega⟩, wrap64_in (2 * S j (en x i) + _) ⟨by omega, by omega⟩]
        exact go
  have outer : ∀ (d i : Nat) (ab : List Int), i + d = n → ab.length = n → (∀ t, t < n → ab.getD t 0 = S i (fun k => en x k t)) → Ans (fun k => spec_weKinds.l0 k ((List.range i).map fun i => (List.range n).map (fun j => kd x i j)) ab x n i) (tab n n (kd x)) := by
    intro d
    induction d with
    | zero =>
      intro i ab hi hab hv
      obtain rfl : i = n := by omega
      refine Ans.step ?_
      simp only [spec_weKinds.l0]
      exact Ans.not (by omega) (Ans.pure _)
    | succ d ih =>
      intro i ab hi hab hv
      have := inner i ((List.range i).map fun i => (List.range n).map (fun j => kd x i j)) _ (by omega) (by simp; omega) n 0 ab (by omega) hab (fun t ht => by rw [if_neg (by omega)]; exact hv t ht) (fun ab' h1 h2 => by
        have e := ih (i + 1) ab' (by omega) h1 h2
        rw [List.range_succ, List.map_append, List.map_singleton] at e
        exact e)
      have rli := rl i (by omega)
      refine Ans.step ?_
      simp only [spec_weKinds.l0, rli]
      exact Ans.yes (by omega) (Ans.yes (by omega) (Ans.yes (by omega) this))
  simp only [spec_weKinds.f, ← hn, Int.toNat_natCast]
  have := outer n 0 (List.replicate n 0) (by omega) (by simp) (fun t ht => by rw [getD_at _ _ (by simpa using ht)]; simp [S])
  rw [show kindT x = tab n n (kd x) by rw [kindT, ← hn]]
  exact Ans.yes (by omega) (Ans.yes (by omega) this)
/-- How many places are of a kind. -/
def nk (x : List (List Int)) (v : Int) : Int := S x.length (fun i => S x.length (fun j => if kd x i j = v then 1 else 0))
def cntL (x : List (List Int)) : List Int := (List.range 6).map fun (v : Nat) => nk x v
theorem uSame (x y : List Int) (hx : x.length ≤ 17592186044416) : Ans (fun k => laws_uSame.f k x y) (decide (x = y)) := by
  simp only [laws_uSame.f]
  by_cases hl : (x.length : Int) = (y.length : Int)
  · refine Ans.yes hl ?_
    have key : ∀ (d : Nat) (i : Int), 0 ≤ i → i + d = x.length → Ans (fun k => laws_uSame.l0 k x y (x.length : Int) i) (decide (x.drop i.toNat = y.drop i.toNat)) := by
      intro d
      induction d with
      | zero =>
        intro i h0 h1
        refine Ans.step ?_
        simp only [laws_uSame.l0]
        rw [drop_all x (by omega), drop_all y (by omega)]
        exact Ans.not (by omega) (Ans.pure _)
      | succ d ih =>
        intro i h0 h1
        refine Ans.step ?_
        simp only [laws_uSame.l0]
        refine Ans.yes (by omega) (Ans.yes h0 (Ans.yes (by omega) (Ans.yes (by omega) ?_)))
        rw [drop_at x 0 (show i.toNat < x.length by omega), drop_at y 0 (show i.toNat < y.length by omega)]
        by_cases c : rd x i = rd y i
        · have e := ih (i + 1) (by omega) (by omega)
          rw [wrap64_in (i + 1) ⟨by omega, by omega⟩]
          rw [show (i + 1).toNat = i.toNat + 1 by omega] at e
          refine Ans.yes c ?_
          rw [show x.getD i.toNat 0 = y.getD i.toNat 0 from c]
          simpa using e
        · refine Ans.not c ?_
          rw [show decide (x.getD i.toNat 0 :: x.drop (i.toNat + 1) = y.getD i.toNat 0 :: y.drop (i.toNat + 1)) = false from decide_eq_false (fun h => c (by injection h))]
          exact Ans.pure _
    exact key x.length 0 (by omega) (by omega)
  · refine Ans.not hl ?_
    rw [decide_eq_false (fun h => hl (by rw [h]))]
    exact Ans.pure _
theorem uSameRows (x : List (List Int)) (hx : x.length ≤ 1000000) (hr : ∀ r ∈ x, r.length ≤ 1000000) : Ans (fun k => laws_uSameRows.f k x x) true := by
  simp only [laws_uSameRows.f]
  refine Ans.yes trivial ?_
  have key : ∀ (d : Nat) (i : Int), 0 ≤ i → i + d = x.length → Ans (fun k => laws_uSameRows.l0 k x x (x.length : Int) i) true := by
    intro d
    induction d with
    | zero => intro i h0 h1; exact Ans.step (by simp only [laws_uSameRows.l0]; exact Ans.not (by omega) (Ans.pure _))
    | succ d ih =>
      intro i h0 h1
      have hm := hr _ (rd_L1_mem h0 (show i < x.length by omega))
      refine Ans.step ?_
      simp only [laws_uSameRows.l0, wrap64_in (i + 1) ⟨by omega, by omega⟩]
      exact Ans.yes (by omega) (Ans.yes h0 (Ans.yes (by omega) (Ans.yes (by omega) ((uSame _ _ (by omega)).bind (Ans.yes (by simp) (ih (i + 1) (by omega) (by omega)))))))
  exact key x.length 0 (by omega) (by omega)
theorem big_ans (c m : List Int) : ∃ b, laws_big.f c m = some b := by
  simp only [laws_big.f]
  split
  · exact ⟨_, rfl⟩
  · exact ⟨_, rfl⟩
/-- A list of six numbers. -/
def lst (A : Int → Int) : List Int := (List.range 6).map fun (v : Nat) => A v
theorem lst_len (A : Int → Int) : (lst A).length = 6 := by simp [lst]
theorem lst_rd (A : Int → Int) {v : Int} (h0 : 0 ≤ v) (h1 : v ≤ 5) : rd (lst A) v = A v := by
  unfold rd
  rw [getD_at _ _ (by rw [lst_len]; omega)]
  simp only [lst, List.getElem_map, List.getElem_range]
  rw [Int.toNat_of_nonneg h0]
theorem lst_set (A : Int → Int) {v : Int} (h0 : 0 ≤ v) (h1 : v ≤ 5) (c : Int) : (lst A).set v.toNat c = lst (fun u => if v = u then c else A u) := by
  refine List.ext_getElem (by simp [lst]) fun i a b => ?_
  rw [lst_len] at b
  simp only [lst, List.getElem_map, List.getElem_range]
  by_cases e : v.toNat = i
  · subst e
    rw [List.getElem_set_self, if_pos (by omega)]
  · rw [List.getElem_set_ne e, if_neg (by omega)]; simp
theorem lst_congr {A B : Int → Int} (h : ∀ v : Int, 0 ≤ v → v ≤ 5 → A v = B v) : lst A = lst B := by
  refine List.ext_getElem (by simp [lst]) fun i a b => ?_
  rw [lst_len] at b
  simp only [lst, List.getElem_map, List.getElem_range]
  exact h _ (by omega) (by omega)
/-- The counting loops. -/
theorem counting {x : List (List Int)} (s : sign x = true) (l0 : Nat → List Int → List (List Int) → Int → Int → Option (List Int)) (l1 : Nat → List Int → List (List Int) → Int → Int → List Int → Int → Int → Option (List Int))
    (h0 : ∀ k c t n i, l0 (k + 1) c t n i = if i < n then (if 0 ≤ i then (if i < (t.length : Int) then (l1 k c t n i (rd_L3 t i) ((rd_L3 t i).length : Int) 0) else (none)) else (none)) else (some c))
    (h1 : ∀ k c t n i r m j, l1 (k + 1) c t n i r m j = if j < m then (if 0 ≤ j then (if j < (r.length : Int) then (if 0 ≤ (rd r j) then (if (rd r j) < (c.length : Int) then (l1 k (c.set ((rd r j) : Int).toNat (wrap64 ((rd c (rd r j)) + 1))) t n i r m (wrap64 (j + 1))) else (none)) else (none)) else (none)) else (none)) else (l0 k c t n (wrap64 (i + 1)))) :
    Ans (fun k => l0 k (List.replicate 6 0) (kindT x) (x.length : Int) 0) (cntL x) := by
  obtain ⟨q, h1', h6, E, _, _⟩ := sign_en s rfl
  obtain ⟨n, hn⟩ : ∃ n, n = x.length := ⟨_, rfl⟩
  have ks := kindT_sq x
  rw [← hn] at q h1' h6 ks ⊢
  have rl : ∀ i : Nat, i < n → (rd_L3 (kindT x) (i : Int)).length = n := fun i hi => by unfold rd_L3; rw [Int.toNat_natCast]; exact ks.row hi
  have rde : ∀ i j : Nat, i < n → j < n → rd (rd_L3 (kindT x) (i : Int)) (j : Int) = kd x i j := fun i j hi hj => by
    have e : rd (rd_L3 (kindT x) (i : Int)) (j : Int) = en (kindT x) i j := by simp only [rd, rd_L3, Int.toNat_natCast, en]
    rw [e, kindT, ← hn, tab_en _ hi hj]
  have inner : ∀ (i : Nat) (R : List Int), i < n → ∀ (d j : Nat) (A : Int → Int), j + d = n →
      Ans (fun k => l0 k (lst (fun v => wrap64 (A v + S d (fun t => if kd x i (j + t) = v then 1 else 0)))) (kindT x) n ((i + 1 : Nat) : Int)) R →
      Ans (fun k => l1 k (lst (fun v => wrap64 (A v))) (kindT x) n i (rd_L3 (kindT x) (i : Int)) n j) R := by
    intro i R hi d
    induction d with
    | zero =>
      intro j A hj e
      simp only [S, Int.add_zero] at e
      refine Ans.step ?_
      simp only [h1, wrap64_up (show (0 : Int) ≤ i by omega) (by omega)]
      rw [show ((i + 1 : Nat) : Int) = (i : Int) + 1 by omega] at e
      exact Ans.not (by omega) e
    | succ d ih =>
      intro j A hj e
      have kb := kd_in s (show i < x.length by omega) (show j < x.length by omega)
      rw [lst_congr (B := fun v => wrap64 ((A v + if kd x i j = v then 1 else 0) + S d (fun t => if kd x i (j + 1 + t) = v then 1 else 0))) (fun v _ _ => by
        rw [S_front, Nat.add_zero, ← Int.add_assoc, S_congr (f := fun t => if kd x i (j + (t + 1)) = v then 1 else 0) (g := fun t => if kd x i (j + 1 + t) = v then 1 else 0) (fun t _ => by rw [show j + (t + 1) = j + 1 + t by omega])])] at e
      have go := ih (j + 1) (fun v => A v + if kd x i j = v then 1 else 0) (by omega) e
      rw [show ((j + 1 : Nat) : Int) = (j : Int) + 1 by omega] at go
      have rli := rl i hi
      refine Ans.step ?_
      simp only [h1, rde i j hi (by omega), lst_rd _ kb.1 kb.2, lst_len, wrap64_up (show (0 : Int) ≤ j by omega) (by omega)]
      refine Ans.yes (by omega) (Ans.yes (by omega) (Ans.yes (by omega) (Ans.yes kb.1 (Ans.yes (by omega) ?_))))
      rw [lst_set _ kb.1 kb.2, lst_congr (B := fun v => wrap64 (A v + if kd x i j = v then 1 else 0)) (fun v _ _ => by
        by_cases c : kd x i j = v
        · rw [if_pos c, if_pos c, wrap_add, c]
        · rw [if_neg c, if_neg c, Int.add_zero])]
      exact go
  have outer : ∀ (d i : Nat) (A : Int → Int), i + d = n → Ans (fun k => l0 k (lst (fun v => wrap64 (A v))) (kindT x) n i) (lst (fun v => wrap64 (A v + S d (fun t => S n (fun j => if kd x (i + t) j = v then 1 else 0))))) := by
    intro d
    induction d with
    | zero =>
      intro i A hi
      refine Ans.step ?_
      simp only [h0, S, Int.add_zero]
      exact Ans.not (by omega) (Ans.pure _)
    | succ d ih =>
      intro i A hi
      have go := ih (i + 1) (fun v => A v + S n (fun t => if kd x i (0 + t) = v then 1 else 0)) (by omega)
      have e1 : lst (fun v => wrap64 ((A v + S n (fun t => if kd x i (0 + t) = v then 1 else 0)) + S d (fun t => S n (fun j => if kd x (i + 1 + t) j = v then 1 else 0)))) = lst (fun v => wrap64 (A v + S (d + 1) (fun t => S n (fun j => if kd x (i + t) j = v then 1 else 0)))) := lst_congr (fun v _ _ => by
        rw [S_front]
        simp only [Nat.add_zero]
        rw [← Int.add_assoc, S_congr (f := fun t => S n (fun j => if kd x (i + (t + 1)) j = v then 1 else 0)) (g := fun t => S n (fun j => if kd x (i + 1 + t) j = v then 1 else 0)) (fun t _ => by rw [show i + (t + 1) = i + 1 + t by omega]),
          S_congr (f := fun t => if kd x i (0 + t) = v then 1 else 0) (g := fun t => if kd x i t = v then 1 else 0) (fun t _ => by rw [Nat.zero_add])])
      rw [e1] at go
      have := inner i _ (by omega) n 0 A (by omega) go
      refine Ans.step ?_
      have kl := ks.1
      simp only [h0, rl i (by omega)]
      exact Ans.yes (by omega) (Ans.yes (by omega) (Ans.yes (by omega) this))
  have this : Ans (fun k => l0 k (lst (fun _ => wrap64 0)) (kindT x) n ((0 : Nat) : Int)) (lst (fun v => wrap64 (0 + S n (fun t => S n (fun j => if kd x (0 + t) j = v then 1 else 0))))) := outer n 0 (fun _ => 0) (by omega)
  have e2 : lst (fun v => wrap64 (0 + S n (fun t => S n (fun j => if kd x (0 + t) j = v then 1 else 0)))) = cntL x := lst_congr (B := nk x) (fun v _ _ => by
    rw [Int.zero_add, S_congr (g := fun t => S n (fun j => if kd x t j = v then 1 else 0)) (fun t _ => by rw [Nat.zero_add])]
    unfold nk
    rw [← hn]
    have b := S_bound (n := n) (f := fun i => S n (fun j => if kd x i j = v then 1 else 0)) (B := 6) (fun i hi => by
      have := S_bound (n := n) (f := fun j => if kd x i j = v then 1 else 0) (B := 1) (fun j hj => by split <;> omega)
      omega)
    exact wrap64_in _ ⟨by omega, by omega⟩)
  have e3 : lst (fun _ => wrap64 0) = List.replicate 6 0 := by rw [wrap64_in 0 ⟨by omega, by omega⟩]; rfl
  rw [e2, e3] at this
  exact this
def cntRes (x : List (List Int)) : List Int × Bool := if sign x = true then (cntL x, true) else ([], false)
theorem kindCounts {x : List (List Int)} (hx : x.length ≤ 1048576) : Ans (fun k => impl_KindCounts.f k x) (cntRes x) ∧ Ans (fun k => spec_KindCounts.f k x) (cntRes x) := by
  simp only [impl_KindCounts.f, spec_KindCounts.f, cntRes]
  by_cases s : sign x = true
  · have kl := (kindT_sq x).1
    have e1 := counting s impl_kindCounts.l0 impl_kindCounts.l1 (fun _ _ _ _ _ => by simp only [impl_kindCounts.l0]) (fun _ _ _ _ _ _ _ _ => by simp only [impl_kindCounts.l1])
    have e2 := counting s spec_weCounts.l0 spec_weCounts.l1 (fun _ _ _ _ _ => by simp only [spec_weCounts.l0]) (fun _ _ _ _ _ _ _ _ => by simp only [spec_weCounts.l1])
    have f1 : Ans (fun k => impl_kindCounts.f k x) (cntL x) := by
      simp only [impl_kindCounts.f]
      exact Ans.yes (by omega) ((implKinds s).bind (by rw [kl]; exact e1))
    have f2 : Ans (fun k => spec_weCounts.f k x) (cntL x) := by
      simp only [spec_weCounts.f]
      exact Ans.yes (by omega) ((specKinds s).bind (by rw [kl]; exact e2))
    rw [if_pos s]
    exact ⟨(isSign x hx).bind (Ans.yes s (f1.bind (Ans.pure _))), (sgGood x hx).bind (Ans.yes s (f2.bind (Ans.pure _)))⟩
  · rw [if_neg s]
    exact ⟨(isSign x hx).bind (Ans.not s (Ans.pure _)), (sgGood x hx).bind (Ans.not s (Ans.pure _))⟩
def kofRes (x : List (List Int)) : List (List Int) × Bool := if sign x = true then (kindT x, true) else ([], false)
theorem kindsOf {x : List (List Int)} (hx : x.length ≤ 1048576) : Ans (fun k => impl_KindsOf.f k x) (kofRes x) ∧ Ans (fun k => spec_KindsOf.f k x) (kofRes x) := by
  simp only [impl_KindsOf.f, impl_changed.f, spec_KindsOf.f, kofRes]
  by_cases s : sign x = true
  · rw [if_pos s]
    exact ⟨(isSign x hx).bind (Ans.yes s ((implKinds s).bind (Ans.pure _))), (sgGood x hx).bind (Ans.yes s ((specKinds s).bind (Ans.pure _)))⟩
  · rw [if_neg s]
    exact ⟨(isSign x hx).bind (Ans.not s (Ans.pure _)), (sgGood x hx).bind (Ans.not s (Ans.pure _))⟩
/-- The matrix that kinds tell. -/
def ok4 (t : List (List Int)) (i j : Nat) : Int := if en t i j = 4 then 1 else if en t i j = 5 then -1 else 0
def outK (t : List (List Int)) : List (List Int) := tab t.length t.length (ok4 t)
def isSq (t : List (List Int)) : Bool := decide (1 ≤ t.length ∧ t.length ≤ 6) && t.all fun r => decide (r.length = t.length)
def frkRes (t : List (List Int)) : List (List Int) × Bool := if isSq t = true then (if sign (outK t) = true then (if kindT (outK t) = t then (outK t, true) else ([], false)) else ([], false)) else ([], false)
theorem fromKinds {t : List (List Int)} (ht : t.length ≤ 1048576) : Ans (fun k => impl_FromKinds.f k t) (frkRes t) ∧ Ans (fun k => spec_FromKinds.f k t) (frkRes t) := by
  obtain ⟨n, hn⟩ : ∃ n, n = t.length := ⟨_, rfl⟩
  have no : Ans (fun k => impl_FromKinds.j0 k true t) ([], false) := by
    refine Ans.step ?_; simp only [impl_FromKinds.j0]; exact Ans.yes (by simp) (Ans.pure _)
  by_cases c : isSq t = true
  case neg =>
    rw [show frkRes t = ([], false) from if_neg c]
    refine ⟨?_, ?_⟩
    · simp only [impl_FromKinds.f, impl_isSide.f, within, Option.bind_some]
      unfold isSq at c
      by_cases c1 : decide ((1 : Int) ≤ (t.length : Int) ∧ (t.length : Int) ≤ 6) = true
      · have b := of_decide_eq_true c1
        rw [show decide (1 ≤ t.length ∧ t.length ≤ 6) = true from decide_eq_true ⟨by omega, by omega⟩, Bool.true_and] at c
        have e := isSquare t (by omega)
        rw [Bool.eq_false_iff.mpr c] at e
        exact Ans.yes c1 (e.bind no)
      · exact Ans.not c1 no
    · simp only [spec_FromKinds.f]
      have e := sgSquare t ht
      rw [show (decide (1 ≤ t.length ∧ t.length ≤ 6) && t.all fun r => decide (r.length = t.length)) = isSq t from rfl, Bool.eq_false_iff.mpr c] at e
      exact e.bind (Ans.not (by simp) (Ans.pure _))
  obtain ⟨h1, h6, hr⟩ := square_of (show (decide (1 ≤ t.length ∧ t.length ≤ 6) && t.all fun r => decide (r.length = t.length)) = true from c)
  have q : Sq n t := ⟨hn.symm, fun r h => by rw [hr r h, hn]⟩
  rw [show frkRes t = if sign (outK t) = true then (if kindT (outK t) = t then (outK t, true) else ([], false)) else ([], false) from if_pos c]
  have oq : Sq n (outK t) := by rw [hn]; exact tab_sq _ _
  have kq : Sq n (kindT (outK t)) := by have := kindT_sq (outK t); rwa [oq.1] at this
  have rl : ∀ i : Nat, i < n → (rd_L3 t (i : Int)).length = n := fun i hi => by unfold rd_L3; rw [Int.toNat_natCast]; exact q.row hi
  have rde : ∀ i j : Nat, rd (rd_L3 t (i : Int)) (j : Int) = en t i j := fun i j => by simp only [rd, rd_L3, Int.toNat_natCast, en]
  refine ⟨?_, ?_⟩
  · have T := table n n (by omega) (by omega) (fun x0_ x1_ => impl_FromKinds_1.f x0_ x1_ t) (ok4 t) (fun i j hi hj => by
      simp only [impl_FromKinds_1.f, impl_bit.f, rde, rl i hi, ← hn]
      rw [if_pos (by omega), if_pos (by omega), if_pos (by omega), if_pos (by omega)]
      unfold ok4
      by_cases c1 : en t i j = 4
      · rw [c1]; simp [wrap64]
      · by_cases c2 : en t i j = 5
        · rw [c2]; simp [wrap64]
        · simp [c1, c2, wrap64])
    rw [show tab n n (ok4 t) = outK t by rw [outK, hn]] at T
    simp only [impl_FromKinds.f, impl_isSide.f, within, Option.bind_some]
    have e := isSquare t (by omega)
    unfold isSq at c
    rw [Bool.and_eq_true] at c
    rw [c.2] at e
    refine Ans.yes (decide_eq_true ⟨by omega, by omega⟩) (e.bind (Ans.step ?_))
    simp only [impl_FromKinds.j0, ← hn]
    refine Ans.not (by simp) (T.bind ((isSign _ (by rw [oq.1]; omega)).bind ?_))
    by_cases s : sign (outK t) = true
    · rw [if_pos s]
      refine Ans.yes s ((implKinds s).bind ((compareTables _ t (by rw [kq.1]; omega) (by omega) (fun r h => by rw [kq.2 r h]; omega) (fun r h => by rw [q.2 r h]; omega)).bind ?_))
      by_cases z : kindT (outK t) = t
      · rw [if_pos z]; exact Ans.yes ((cmpLL_zero _ _).mpr z) (Ans.pure _)
      · rw [if_neg z]; exact Ans.not (fun h => z ((cmpLL_zero _ _).mp h)) (Ans.pure _)
    · rw [if_neg s]; exact Ans.not s (Ans.pure _)
  · simp only [spec_FromKinds.f]
    have e := sgSquare t ht
    rw [show (decide (1 ≤ t.length ∧ t.length ≤ 6) && t.all fun r => decide (r.length = t.length)) = true from c] at e
    refine e.bind (Ans.yes rfl ?_)
    rw [← hn]
    refine (sgZero n (by omega)).bind ?_
    have fin : Ans (fun k => (spec_sgGood.f k (outK t)).bind fun t115 => (if t115 = true then ((spec_weKinds.f k (outK t)).bind fun t116 => ((spec_weSame.f k t116 t).bind fun t119 => (if t119 = true then (some (outK t, true)) else (some (([] : List (List Int)), false))))) else (some (([] : List (List Int)), false)))) (if sign (outK t) = true then (if kindT (outK t) = t then (outK t, true) else ([], false)) else ([], false)) := by
      refine (sgGood _ (by rw [oq.1]; omega)).bind ?_
      by_cases s : sign (outK t) = true
      · rw [if_pos s]
        refine Ans.yes s ((specKinds s).bind ((weSame _ t (by rw [kq.1]; omega) (fun r h => by rw [kq.2 r h]; omega)).bind ?_))
        by_cases z : kindT (outK t) = t
        · rw [if_pos z]; exact Ans.yes (decide_eq_true z) (Ans.pure _)
        · rw [if_neg z]; exact Ans.not (by simpa using z) (Ans.pure _)
      · rw [if_neg s]; exact Ans.not s (Ans.pure _)
    generalize (if sign (outK t) = true then (if kindT (outK t) = t then (outK t, true) else ([], false)) else ([], false)) = R at *
    have inner : ∀ (i : Nat), i < n → ∀ (d j : Nat) (y : List (List Int)), j + d = n → Sq n y → (∀ a b : Nat, a < n → b < n → en y a b = if a < i ∨ a = i ∧ b < j then ok4 t a b else 0) →
        (∀ y', Sq n y' → (∀ a b : Nat, a < n → b < n → en y' a b = if a < i + 1 then ok4 t a b else 0) → Ans (fun k => spec_FromKinds.l0 k t y' t (n : Int) ((i + 1 : Nat) : Int)) R) →
        Ans (fun k => spec_FromKinds.l1 k t y (i : Int) t (n : Int) (i : Int) (rd_L3 t (i : Int)) (n : Int) (j : Int)) R := by
      intro i hi d
      induction d with
      | zero =>
        intro j y hj hy hv nx
        have := nx y hy (fun a b ha hb => by
          rw [hv a b ha hb]
          by_cases z : a < i + 1
          · rw [if_pos z, if_pos (by omega)]
          · rw [if_neg z, if_neg (by omega)])
        rw [show ((i + 1 : Nat) : Int) = (i : Int) + 1 by omega] at this
        refine Ans.step ?_
        simp only [spec_FromKinds.l1, wrap64_up (show (0 : Int) ≤ i by omega) (by omega)]
        exact Ans.not (by omega) this
      | succ d ih =>
        intro j y hj hy hv nx
        have ry : (rd_L3 y (i : Int)).length = n := by unfold rd_L3; rw [Int.toNat_natCast]; exact hy.row hi
        have er : rd_L3 y (i : Int) = y.getD i [] := by simp only [rd_L3, Int.toNat_natCast]
        have hl := hy.1
        have rli := rl i hi
        have put : ∀ v : Int, ok4 t i j = v → Ans (fun k => spec_FromKinds.l1 k t (y.set i ((y.getD i []).set j v)) (i : Int) t (n : Int) (i : Int) (rd_L3 t (i : Int)) (n : Int) ((j : Int) + 1)) R := fun v hv' => by
          obtain ⟨p1, p2⟩ := put_sq hy i j hi (by omega) v
          have := ih (j + 1) _ (by omega) p1 (fun a b ha hb => by
            have e2 := p2 a b ha hb
            rw [show en (y.set i ((y.getD i []).set j v)) a b = ((y.set i ((y.getD i []).set j v)).getD a []).getD b 0 from rfl, e2]
            by_cases z : a = i ∧ b = j
            · rw [if_pos z, if_pos (by omega), z.1, z.2, hv']
            · rw [if_neg z, show (y.getD a []).getD b 0 = en y a b from rfl, hv a b ha hb]
              by_cases z2 : a < i ∨ a = i ∧ b < j
              · rw [if_pos z2, if_pos (by omega)]
              · rw [if_neg z2, if_neg (by omega)]) nx
          rwa [show ((j + 1 : Nat) : Int) = (j : Int) + 1 by omega] at this
        refine Ans.step ?_
        simp only [spec_FromKinds.l1, rde, er, Int.toNat_natCast, wrap64_up (show (0 : Int) ≤ j by omega) (by omega)]
        refine Ans.yes (by omega) (Ans.yes (by omega) (Ans.yes (by omega) ?_))
        rw [er] at ry
        by_cases c4 : en t i j = 4
        · exact Ans.yes c4 (Ans.yes (by omega) (Ans.yes (by omega) (Ans.yes (by omega) (put 1 (if_pos c4)))))
        by_cases c5 : en t i j = 5
        · exact Ans.not c4 (Ans.yes c5 (Ans.yes (by omega) (Ans.yes (by omega) (Ans.yes (by omega) (put (-1) (by unfold ok4; rw [if_neg c4, if_pos c5]))))))
        · have := ih (j + 1) y (by omega) hy (fun a b ha hb => by
            rw [hv a b ha hb]
            by_cases z2 : a < i ∨ a = i ∧ b < j
            · rw [if_pos z2, if_pos (by omega)]
            · rw [if_neg z2]
              by_cases z3 : a = i ∧ b = j
              · rw [if_pos (by omega), z3.1, z3.2]; unfold ok4; rw [if_neg c4, if_neg c5]
              · rw [if_neg (by omega)]) nx
          rw [show ((j + 1 : Nat) : Int) = (j : Int) + 1 by omega] at this
          exact Ans.not c4 (Ans.not c5 this)
    have outer : ∀ (d i : Nat) (y : List (List Int)), i + d = n → Sq n y → (∀ a b : Nat, a < n → b < n → en y a b = if a < i then ok4 t a b else 0) → Ans (fun k => spec_FromKinds.l0 k t y t (n : Int) (i : Int)) R := by
      intro d
      induction d with
      | zero =>
        intro i y hi hy hv
        have : y = outK t := ext_en hy oq (fun a b ha hb => by rw [hv a b ha hb, if_pos (by omega), outK, ← hn, tab_en _ ha hb])
        subst this
        refine Ans.step ?_
        simp only [spec_FromKinds.l0]
        exact Ans.not (by omega) fin
      | succ d ih =>
        intro i y hi hy hv
        have := inner i (by omega) n 0 y (by omega) hy (fun a b ha hb => by
          rw [hv a b ha hb]
          by_cases z : a < i
          · rw [if_pos z, if_pos (by omega)]
          · rw [if_neg z, if_neg (by omega)]) (fun y' h1 h2 => ih (i + 1) y' (by omega) h1 h2)
        refine Ans.step ?_
        simp only [spec_FromKinds.l0, rl i (by omega)]
        exact Ans.yes (by omega) (Ans.yes (by omega) (Ans.yes (by omega) this))
    have z0 : Sq n (List.replicate n (List.replicate n 0) : List (List Int)) := rep_sq n 0
    have := outer n 0 _ (by omega) z0 (fun a b ha hb => by
      rw [if_neg (by omega)]; unfold en
      rw [show ((List.replicate n (List.replicate n 0) : List (List Int)).getD a []) = List.replicate n 0 by rw [getD_at _ _ (by simpa using ha)]; simp, getD_at _ _ (by simpa using hb)]; simp)
    exact this
/-- What the kinds' numbers are. -/
theorem kinds_told {x : List (List Int)} (s : sign x = true) : nk x 0 = inv x - minus x ∧ nk x 3 = inv x - minus x ∧ nk x 5 = minus x ∧ nk x 4 = x.length + minus x ∧ 2 * nk x 1 = (x.length : Int) * ((x.length : Int) - 1) - 2 * inv x ∧ nk x 2 = nk x 1 := by
  obtain ⟨q, h1, h6, E, R, C⟩ := sign_en s rfl
  obtain ⟨n, hn⟩ : ∃ n, n = x.length := ⟨_, rfl⟩
  rw [← hn] at q h1 h6 E R C
  have D_add : ∀ f g : Nat → Nat → Int, S n (fun i => S n (fun j => f i j + g i j)) = S n (fun i => S n (fun j => f i j)) + S n (fun i => S n (fun j => g i j)) := fun f g => by
    rw [← S_add]; exact S_congr fun i _ => S_add _ _ n
  have D_congr : ∀ f g : Nat → Nat → Int, (∀ i j, i < n → j < n → f i j = g i j) → S n (fun i => S n (fun j => f i j)) = S n (fun i => S n (fun j => g i j)) := fun f g h => S_congr fun i hi => S_congr fun j hj => h i j hi hj
  have one : ∀ m : Nat, S m (fun _ => 1) = (m : Int) := fun m => by
    induction m with
    | zero => rfl
    | succ m ih => rw [S, ih]; omega
  have Drc : S n (fun i => S n (fun j => S j (en x i) * S i (fun k => en x k j))) = inv x := by
    unfold inv; rw [← hn]
    refine S_congr fun i hi => ?_
    show _ = S i (fun k => S n (fun j => S j (fun l => en x k j * en x i l)))
    rw [S_comm]
    refine S_congr fun j hj => ?_
    rw [← S_mul]
    refine S_congr fun k hk => ?_
    rw [S_mul, Int.mul_comm]
  have Dr : 2 * S n (fun i => S n (fun j => S j (en x i))) = (n : Int) * ((n : Int) - 1) := by
    rw [S_comm, ← T_one n]
    congr 1
    refine S_congr fun j hj => ?_
    rw [S_comm]
    exact S_congr fun l hl => C l (by omega)
  have Dc : 2 * S n (fun i => S n (fun j => S i (fun k => en x k j))) = (n : Int) * ((n : Int) - 1) := by
    rw [← T_one n]
    congr 1
    refine S_congr fun i hi => ?_
    rw [S_comm]
    exact S_congr fun k hk => R k (by omega)
  have Da : S n (fun i => S n (fun j => en x i j)) = n := by rw [S_congr R, one]
  have D1 : S n (fun i => S n (fun j => 1)) = (n : Int) * n := by
    rw [S_congr (g := fun _ => (n : Int) * 1) (fun i _ => by rw [one]; omega), S_mul, one]
  have P : ∀ i j, i < n → j < n → ((if kd x i j = 5 then (1 : Int) else 0) = if en x i j = -1 then 1 else 0) ∧ ((if kd x i j = 4 then (1 : Int) else 0) = en x i j + if kd x i j = 5 then 1 else 0) ∧
      ((if kd x i j = 3 then (1 : Int) else 0) + (if kd x i j = 5 then 1 else 0) = S j (en x i) * S i (fun k => en x k j)) ∧
      ((if kd x i j = 0 then (1 : Int) else 0) + (if kd x i j = 4 then 1 else 0) + S j (en x i) + S i (fun k => en x k j) = 1 + S j (en x i) * S i (fun k => en x k j)) ∧
      ((if kd x i j = 2 then (1 : Int) else 0) + S j (en x i) * S i (fun k => en x k j) = S j (en x i)) ∧ ((if kd x i j = 1 then (1 : Int) else 0) + S j (en x i) * S i (fun k => en x k j) = S i (fun k => en x k j)) := fun i j hi hj => by
    obtain ⟨a, b, c⟩ := E i j hi hj
    unfold kd
    generalize S j (en x i) = r at *
    generalize S i (fun k => en x k j) = u at *
    generalize en x i j = e at *
    rcases (show e = -1 ∨ e = 0 ∨ e = 1 by omega) with rfl | rfl | rfl
    · obtain rfl : r = 1 := by omega
      obtain rfl : u = 1 := by omega
      decide
    · rcases (show r = 0 ∨ r = 1 by omega) with rfl | rfl
      · rcases (show u = 0 ∨ u = 1 by omega) with rfl | rfl <;> decide
      · rcases (show u = 0 ∨ u = 1 by omega) with rfl | rfl <;> decide
    · obtain rfl : r = 0 := by omega
      obtain rfl : u = 0 := by omega
      decide
  have n5 : nk x 5 = minus x := by unfold nk minus; rw [← hn]; exact D_congr _ _ (fun i j hi hj => (P i j hi hj).1)
  have nv : ∀ v, nk x v = S n (fun i => S n (fun j => if kd x i j = v then 1 else 0)) := fun v => by unfold nk; rw [← hn]
  have n4 : nk x 4 = n + nk x 5 := by
    rw [nv 4, nv 5, ← Da, ← D_add]
    exact D_congr _ _ (fun i j hi hj => (P i j hi hj).2.1)
  have n3 : nk x 3 + nk x 5 = inv x := by
    rw [nv 3, nv 5, ← Drc, ← D_add]
    exact D_congr _ _ (fun i j hi hj => (P i j hi hj).2.2.1)
  have n0 : nk x 0 + nk x 4 + S n (fun i => S n (fun j => S j (en x i))) + S n (fun i => S n (fun j => S i (fun k => en x k j))) = (n : Int) * n + inv x := by
    rw [nv 0, nv 4, ← Drc, ← D1, ← D_add, ← D_add, ← D_add, ← D_add]
    exact D_congr _ _ (fun i j hi hj => (P i j hi hj).2.2.2.1)
  have n2 : nk x 2 + inv x = S n (fun i => S n (fun j => S j (en x i))) := by
    rw [nv 2, ← Drc, ← D_add]
    exact D_congr _ _ (fun i j hi hj => (P i j hi hj).2.2.2.2.1)
  have n1 : nk x 1 + inv x = S n (fun i => S n (fun j => S i (fun k => en x k j))) := by
    rw [nv 1, ← Drc, ← D_add]
    exact D_congr _ _ (fun i j hi hj => (P i j hi hj).2.2.2.2.2)
  rw [← hn]
  rw [Int.mul_sub, Int.mul_one] at Dr Dc ⊢
  refine ⟨by omega, by omega, n5, by omega, by omega, by omega⟩
/-- Kinds tell their matrix. -/
theorem from_kinds {x : List (List Int)} (s : sign x = true) : frkRes (kindT x) = (x, true) := by
  obtain ⟨q, h1, h6, E, _, _⟩ := sign_en s rfl
  have kq := kindT_sq x
  have sq : isSq (kindT x) = true := by
    unfold isSq
    rw [Bool.and_eq_true, List.all_eq_true]
    exact ⟨decide_eq_true (by rw [kq.1]; omega), fun r hr => decide_eq_true (by rw [kq.2 r hr, kq.1])⟩
  have o : outK (kindT x) = x := by
    refine ext_en (n := x.length) (by unfold outK; rw [kq.1]; exact tab_sq _ _) q (fun i j hi hj => ?_)
    unfold outK
    rw [kq.1, tab_en _ hi hj]
    unfold ok4
    rw [show en (kindT x) i j = kd x i j from tab_en _ hi hj]
    have e := E i j hi hj
    unfold kd
    by_cases c1 : en x i j = 1
    · rw [if_pos c1, if_pos rfl, c1]
    · by_cases c2 : en x i j = -1
      · rw [if_neg c1, if_pos c2, if_neg (by omega), if_pos rfl, c2]
      · rw [if_neg c1, if_neg c2, if_neg (by omega), if_neg (by omega)]; omega
  unfold frkRes
  rw [if_pos sq, o, if_pos s, if_pos rfl]
def Sm (x : List (List Int)) : Prop := x.length ≤ 7 ∧ ∀ r ∈ x, r.length ≤ 7
theorem sm_sq {n : Nat} {x : List (List Int)} (h : Sq n x) (hn : n ≤ 6) : Sm x := ⟨by rw [h.1]; omega, fun r hr => by rw [h.2 r hr]; omega⟩
theorem sameRows {x : List (List Int)} (h : Sm x) : Ans (fun k => laws_uSameRows.f k x x) true := uSameRows x (by have := h.1; omega) (fun r hr => by have := h.2 r hr; omega)
theorem frk_small (t : List (List Int)) : Sm (frkRes t).1 := by
  unfold frkRes
  split
  · split
    · split
      · obtain ⟨q, h6⟩ := sign_sq (by assumption : sign (outK t) = true); exact sm_sq q h6
      · simp [Sm]
    · simp [Sm]
  · simp [Sm]
theorem drawFrom (c : List Int) (hc : ∀ x ∈ c, (Lit.int .u8 x).wf = true) : ∃ t, Ans (fun k => spec_DrawFromKinds.f k c) t ∧ Sm t := by
  obtain ⟨m, a, s, f, p1, q1, h1, h2⟩ := draw_signs c hc 0 0 5 (by omega) (by omega) (by omega) (by omega)
  simp only [spec_DrawFromKinds.f]
  by_cases sg : sign m = true
  case neg =>
    exact ⟨m, f.bind ((sgGood m (by omega)).bind (Ans.not sg (Ans.pure _))), h1, h2⟩
  obtain ⟨q, g1, g6⟩ := sign_parts sg rfl
  have kq := kindT_sq m
  have kl := kq.1
  obtain ⟨v, a1, s1, f1, p2, q2⟩ := draw_one c hc a s 4 (by omega) (by omega)
  cases v with
  | false =>
    refine ⟨kindT m, f.bind ((sgGood m (by omega)).bind (Ans.yes sg ((specKinds sg).bind ?_))), sm_sq kq g6.1⟩
    simp only [f1, Option.bind_some]
    exact Ans.not (by simp) (Ans.pure _)
  | true =>
    obtain ⟨i, a2, s2, f2, p3, q3, i0, i1⟩ := draw_pick c hc a1 s1 (m.length : Int) (by omega) (by omega)
    obtain ⟨j, a3, s3, f3, p4, q4, j0, j1⟩ := draw_pick c hc a2 s2 (m.length : Int) (by omega) (by omega)
    obtain ⟨u, a4, s4, f4, p5, q5, u0, u1⟩ := draw_pick c hc a3 s3 8 (by omega) (by omega)
    have rl : (rd_L3 (kindT m) i).length = m.length := kq.row (by omega)
    refine ⟨(kindT m).set i.toNat ((rd_L3 (kindT m) i).set j.toNat (wrap64 (u - 1))), f.bind ((sgGood m (by omega)).bind (Ans.yes sg ((specKinds sg).bind ?_))), by rw [List.length_set]; omega, fun r hr => ?_⟩
    · simp only [f1, Option.bind_some, kl, f2]
      refine Ans.yes (by simp) (Ans.yes i0 (Ans.yes (by omega) ?_))
      simp only [f3, f4, Option.bind_some, rl]
      exact Ans.yes j0 (Ans.yes (by omega) (Ans.pure _))
    · rcases List.mem_or_eq_of_mem_set hr with h | h
      · rw [kq.2 r h]; omega
      · rw [h, List.length_set, rl]; omega
theorem uSumOf (A : Int → Int) (h : ∀ v : Int, 0 ≤ v → v ≤ 5 → -10000 ≤ A v ∧ A v ≤ 10000) : Ans (fun k => laws_uSum.f k (lst A)) (A 0 + A 1 + A 2 + A 3 + A 4 + A 5) := by
  have b0 := h 0 (by omega) (by omega); have b1 := h 1 (by omega) (by omega); have b2 := h 2 (by omega) (by omega)
  have b3 := h 3 (by omega) (by omega); have b4 := h 4 (by omega) (by omega); have b5 := h 5 (by omega) (by omega)
  have step : ∀ (a v : Int) (R : Int), 0 ≤ v → v ≤ 5 → Ans (fun k => laws_uSum.l0 k (wrap64 (a + A v)) (lst A) 6 (v + 1)) R → Ans (fun k => laws_uSum.l0 k a (lst A) 6 v) R := by
    intro a v R v0 v5 e
    refine Ans.step ?_
    simp only [laws_uSum.l0, lst_rd _ v0 v5, lst_len, wrap64_up v0 (by omega)]
    exact Ans.yes (by omega) (Ans.yes v0 (Ans.yes (by omega) e))
  simp only [laws_uSum.f, lst_len]
  refine step 0 0 _ (by omega) (by omega) (step _ 1 _ (by omega) (by omega) (step _ 2 _ (by omega) (by omega) (step _ 3 _ (by omega) (by omega) (step _ 4 _ (by omega) (by omega) (step _ 5 _ (by omega) (by omega) (Ans.step ?_))))))
  simp only [laws_uSum.l0, wrap_add, Int.zero_add]
  refine Ans.not (by omega) ?_
  rw [wrap64_in _ ⟨by omega, by omega⟩]
  exact Ans.pure _
theorem law_j2 {x : List (List Int)} (hx : Sm x) : Ans (fun k => laws_FnKindsOfPlaces.j2 k x (kofRes x).1 (kofRes x).2 (cntRes x).1) true := by
  refine Ans.step ?_
  simp only [laws_FnKindsOfPlaces.j2]
  by_cases s : sign x = true
  case neg => rw [show kofRes x = ([], false) from if_neg s]; exact Ans.not (by simp) (Ans.pure _)
  obtain ⟨q, h1, h6, _, _⟩ := sign_parts s rfl
  have kl := (kindT_sq x).1
  have F := (fromKinds (t := kindT x) (by rw [kl]; omega)).1
  rw [from_kinds s] at F
  have I := invOfI x (by omega)
  rw [invRes_of s] at I
  have M := minusOf x s
  obtain ⟨n0, n3, n5, n4, n1, n2⟩ := kinds_told s
  have b1 := inv_bound s
  have b2 := minus_bound s
  have nb : (x.length : Int) * ((x.length : Int) - 1) ≤ 30 ∧ 0 ≤ (x.length : Int) * ((x.length : Int) - 1) ∧ (x.length : Int) * (x.length : Int) = (x.length : Int) * ((x.length : Int) - 1) + x.length ∧ (x.length : Int) * ((x.length : Int) - 1) % 2 = 0 := by
    rcases (show x.length = 1 ∨ x.length = 2 ∨ x.length = 3 ∨ x.length = 4 ∨ x.length = 5 ∨ x.length = 6 by omega) with e | e | e | e | e | e <;> rw [e] <;> decide
  obtain ⟨P, hP⟩ : ∃ P, P = (x.length : Int) * ((x.length : Int) - 1) := ⟨_, rfl⟩
  rw [← hP] at n1 nb
  have U := uSumOf (nk x) (fun v v0 v5 => by
    rcases (show v = 0 ∨ v = 1 ∨ v = 2 ∨ v = 3 ∨ v = 4 ∨ v = 5 by omega) with rfl | rfl | rfl | rfl | rfl | rfl <;> omega)
  rw [show kofRes x = (kindT x, true) from if_pos s, show cntRes x = (lst (nk x), true) from if_pos s]
  have r : ∀ v : Int, 0 ≤ v → v ≤ 5 → rd (lst (nk x)) v = nk x v := fun v a b => lst_rd _ a b
  simp only [lst_len, r 0 (by omega) (by omega), r 1 (by omega) (by omega), r 2 (by omega) (by omega), r 3 (by omega) (by omega), r 4 (by omega) (by omega), r 5 (by omega) (by omega)]
  have w1 : wrap64 ((x.length : Int) - 1) = (x.length : Int) - 1 := wrap64_in _ ⟨by omega, by omega⟩
  rw [w1, ← hP, wrap64_in P ⟨by omega, by omega⟩, Int.tdiv_eq_ediv_of_nonneg nb.2.1, wrap64_in (P / 2) ⟨by omega, by omega⟩]
  refine Ans.yes (by simp) (F.bind (I.bind (M.bind (Ans.yes rfl (Ans.yes rfl (Ans.yes rfl ((sameRows hx).bind (Ans.yes rfl (Ans.yes (by omega) (Ans.yes (by omega) (Ans.yes (by omega) (Ans.yes (by omega) (Ans.yes (by omega) (Ans.yes (by omega) ?_))))))))))))))
  rw [wrap64_in (inv x - minus x) ⟨by omega, by omega⟩, wrap64_in ((x.length : Int) + minus x) ⟨by omega, by omega⟩, wrap64_in (P / 2 - inv x) ⟨by omega, by omega⟩, wrap64_in ((x.length : Int) * (x.length : Int)) ⟨by omega, by omega⟩]
  refine Ans.yes (by omega) (Ans.yes (by omega) (Ans.yes (by omega) (Ans.yes (by omega) (Ans.yes (by omega) (Ans.yes (by omega) (U.bind ?_))))))
  rw [show (nk x 0 + nk x 1 + nk x 2 + nk x 3 + nk x 4 + nk x 5 == (x.length : Int) * (x.length : Int)) = true by rw [beq_iff_eq]; omega]
  exact Ans.pure _
theorem law_j1 {x : List (List Int)} (hx : Sm x) {t : List (List Int)} (ht : Sm t) : Ans (fun k => laws_FnKindsOfPlaces.j1 k x (kofRes x).1 (kofRes x).2 (cntRes x).1 t (frkRes t).1 (frkRes t).2 false) true := by
  refine Ans.step ?_
  simp only [laws_FnKindsOfPlaces.j1]
  refine Ans.not (by simp) ?_
  by_cases c : (frkRes t).2 = true
  case neg => exact Ans.not c (law_j2 hx)
  have e : sign (frkRes t).1 = true ∧ kindT (frkRes t).1 = t := by
    unfold frkRes at c ⊢
    by_cases c1 : isSq t = true
    case neg => rw [if_neg c1] at c; simp at c
    by_cases c2 : sign (outK t) = true
    case neg => rw [if_pos c1, if_neg c2] at c; simp at c
    by_cases c3 : kindT (outK t) = t
    case neg => rw [if_pos c1, if_pos c2, if_neg c3] at c; simp at c
    rw [if_pos c1, if_pos c2, if_pos c3]
    exact ⟨c2, c3⟩
  have K := (kindsOf (x := (frkRes t).1) (by have := (frk_small t).1; omega)).1
  rw [show kofRes (frkRes t).1 = (kindT (frkRes t).1, true) from if_pos e.1, e.2] at K
  exact Ans.yes c (K.bind (Ans.yes rfl ((sameRows ht).bind (Ans.yes rfl (law_j2 hx)))))
theorem FnKindsOfPlaces : laws_FnKindsOfPlaces.Pure := by
  intro c m _ _ hc _ _ hm
  refine Ans.at (g := fun k => laws_FnKindsOfPlaces.f k c m) ?_
  simp only [laws_FnKindsOfPlaces.f]
  obtain ⟨b, hb⟩ := big_ans c m
  simp only [hb, Option.bind_some]
  cases b with
  | true => exact Ans.yes rfl (Ans.pure _)
  | false =>
    refine Ans.not (by simp) ?_
    obtain ⟨x, a, s, f, _, _, h1, h2⟩ := draw_signs c hc 0 0 5 (by omega) (by omega) (by omega) (by omega)
    have D : Ans (fun k => spec_DrawKindsOf.f k c) x := by
      simp only [spec_DrawKindsOf.f]
      exact f.bind (h := fun _ bt => some bt.1) (Ans.pure _)
    obtain ⟨t, g, ht⟩ := drawFrom m hm
    have hx : Sm x := ⟨h1, h2⟩
    have K := kindsOf (x := x) (by omega)
    have N := kindCounts (x := x) (by omega)
    have F := fromKinds (t := t) (by have := ht.1; omega)
    have k1 : Sm (kofRes x).1 := by
      unfold kofRes
      split
      · have q := sign_sq (by assumption : sign x = true); exact sm_sq (kindT_sq x) q.2
      · simp [Sm]
    have k2 : (cntRes x).1.length ≤ 17592186044416 := by
      unfold cntRes
      split
      · rw [show cntL x = lst (nk x) from rfl, lst_len]; omega
      · simp
    have e1 : (kofRes x).2 = sign x := by unfold kofRes; by_cases q : sign x = true <;> simp [q]
    have e2 : (cntRes x).2 = sign x := by unfold cntRes; by_cases q : sign x = true <;> simp [q]
    refine D.bind (K.1.bind (K.2.bind (N.1.bind (N.2.bind (Ans.not (by simp) ((sameRows k1).bind (Ans.yes rfl (Ans.not (by simp) ((uSame _ _ k2).bind (Ans.yes (by simp) ((isSign x (by omega)).bind (Ans.not (by rw [e1]; simp) ?_))))))))))))
    rw [show ((cntRes x).2 != (kofRes x).2) = false by rw [e1, e2]; simp]
    refine Ans.step ?_
    simp only [laws_FnKindsOfPlaces.j0]
    exact Ans.not (by simp) (g.bind (F.1.bind (F.2.bind (Ans.not (by simp) ((sameRows (frk_small t)).bind (law_j1 hx ht))))))

end Go.Proofs.Ytkfoockclldieaa.Pure
