/- For all bytes the statement on heights and matrices answers true: no condition. -/
import Derived.Test.YtkbehdgneojdbaaCFnHeightsAreMatricesx6
import Derived.Test.YtkbehdgneojdbaaQTwo
import Derived.Test.YtkbehdgneojdbaaQByte
import Derived.Test.YtkbehdgneojdbaaQByte
namespace Go.Proofs.Ytkbehdgneojdbaa.Pure
open Go.RowKit Go.Proofs.Ytkbehdgneojdbaa.X Go.Proofs.YtkbehdgneojdbaaW.PrintWords Go.Proofs.YtkbehdgneojdbaaW.PrintLast Go.Proofs.Ytkbehdgneojdbaa.Q
set_option linter.unusedVariables false
set_option linter.unusedSimpArgs false
theorem rd_L1_mem {x : List (List Int)} {i : Int} (h0 : 0 ≤ i) (h1 : i < x.length) : rd_L3 x i ∈ x := by unfold rd_L3; exact getD_mem _ (by omega)
theorem LeO.far {α : Type} {g : Nat → Option α} {r : α} (h : ∀ k, LeO (g k) (g (k + 1))) (m : Nat) (e : g m = some r) : Ans g r :=
  ⟨m, fun k hk => by
    obtain ⟨j, rfl⟩ : ∃ j, k = m + j := ⟨k - m, by omega⟩
    clear hk
    induction j with
    | zero => exact e
    | succ j ih => exact h _ r ih⟩
theorem l1In (a b c : Int) : spec_l1In.f a b c = some (decide (b ≤ a ∧ a ≤ c)) := by
  unfold spec_l1In.f
  by_cases h : a ≥ b
  · rw [if_pos h]; refine congrArg some (decide_eq_decide.mpr ⟨fun q => ⟨h, q⟩, fun q => q.2⟩)
  · rw [if_neg h, decide_eq_false (by omega)]
theorem within (a b c : Int) : impl_within.f a b c = some (decide (b ≤ a ∧ a ≤ c)) := by
  unfold impl_within.f
  by_cases h : b ≤ a
  · rw [if_pos h]; refine congrArg some (decide_eq_decide.mpr ⟨fun q => ⟨h, q⟩, fun q => q.2⟩)
  · rw [if_neg h, decide_eq_false (by omega)]
theorem containsL (x : List (List Int)) (hx : x.length ≤ 17592186044416) (g : List Int → Option Bool) (p : List Int → Bool) (hg : ∀ a, g a = some (p a)) : Ans (fun k => slices_ContainsFunc_int_int.f k x g) (x.any p) := by
  have key : ∀ (d : Nat) (i : Int), 0 ≤ i → i + d = x.length → ∃ z : Int, Ans (fun k => slices_IndexFunc_int_int.l0 k x g (x.length : Int) i) z ∧ decide (z ≥ 0) = (x.drop i.toNat).any p := by
    intro d
    induction d with
    | zero =>
      intro i h0 h1
      refine ⟨-1, Ans.step ?_, by rw [List.drop_eq_nil_of_le (by omega)]; rfl⟩
      simp only [slices_IndexFunc_int_int.l0]; exact Ans.not (by omega) (Ans.pure _)
    | succ d ih =>
      intro i h0 h1
      have hd := drop_at x [] (show i.toNat < x.length by omega)
      by_cases c : p (rd_L3 x i) = true
      · refine ⟨i, Ans.step ?_, by rw [hd, List.any_cons, show p (x.getD i.toNat []) = true from c]; simp [h0]⟩
        simp only [slices_IndexFunc_int_int.l0, hg, Option.bind_some]
        exact Ans.yes (by omega) (Ans.yes h0 (Ans.yes (by omega) (Ans.yes c (Ans.pure _))))
      · obtain ⟨z, e, hz⟩ := ih (i + 1) (by omega) (by omega)
        refine ⟨z, Ans.step ?_, by rw [hz, hd, List.any_cons, show p (x.getD i.toNat []) = false from Bool.eq_false_iff.mpr c, show (i + 1).toNat = i.toNat + 1 by omega]; simp⟩
        simp only [slices_IndexFunc_int_int.l0, hg, Option.bind_some, wrap64_up h0 (by omega : i ≤ 4611686018427387904)]
        exact Ans.yes (by omega) (Ans.yes h0 (Ans.yes (by omega) (Ans.not c e)))
  obtain ⟨z, e, hz⟩ := key x.length 0 (by omega) (by omega)
  simp only [slices_ContainsFunc_int_int.f, slices_IndexFunc_int_int.f]
  have := e.bind (h := fun _ t => some (decide (t ≥ 0))) (Ans.pure (decide (z ≥ 0)))
  rwa [hz] at this
theorem isSquare (x : List (List Int)) (hx : x.length ≤ 17592186044416) : Ans (fun k => impl_isSquare.f k x) (x.all fun r => decide (r.length = x.length)) := by
  have e := containsL x hx (fun x0_ => impl_isSquare_1.f x0_ x) (fun r => (r.length : Int) != (x.length : Int)) (fun a => rfl)
  have := e.bind (h := fun _ t => some (!t)) (Ans.pure _)
  rw [List.not_any_eq_all_not] at this
  rwa [show (fun r : List Int => !((r.length : Int) != (x.length : Int))) = fun r => decide (r.length = x.length) from funext fun r => by by_cases h : r.length = x.length <;> simp [bne, h]; omega] at this
def colOf (x : List (List Int)) (j : Int) : List Int := x.map fun r => rd r j
theorem range_drop {n i : Nat} (h : i < n) : (List.range n).drop i = i :: (List.range n).drop (i + 1) := by
  rw [drop_at (List.range n) 0 (by simpa using h), getD_at _ _ (by simpa using h), List.getElem_range]
theorem sgTurn (x : List (List Int)) (h : x.length ≤ 1048576) (hr : ∀ r ∈ x, r.length = x.length) : Ans (fun k => spec_sgTurn.f k x) ((List.range x.length).map fun (j : Nat) => colOf x j) := by
  have inner : ∀ (out : List (List Int)) (j : Int) (R : List (List Int)), 0 ≤ j → j < x.length → out.length ≤ 1048576 → ∀ (d : Nat) (i : Int) (acc : List Int), 0 ≤ i → i + d = x.length → acc.length + d ≤ 1048576 →
      Ans (fun k => spec_sgTurn.l0 k x (out ++ [acc ++ colOf (x.drop i.toNat) j]) (x.length : Int) (j + 1)) R → Ans (fun k => spec_sgTurn.l1 k x out j acc (x.length : Int) j x (x.length : Int) i) R := by
    intro out j R hj hj' ho d
    induction d with
    | zero =>
      intro i acc h0 h1 h2 e
      rw [List.drop_eq_nil_of_le (by omega), colOf, List.map_nil, List.append_nil] at e; refine Ans.step ?_
      simp only [spec_sgTurn.l1, wrap64_up hj (by omega : j ≤ 4611686018427387904)]; exact Ans.not (by omega) (Ans.yes (by omega) e)
    | succ d ih =>
      intro i acc h0 h1 h2 e
      have hm := rd_L1_mem h0 (show i < x.length by omega)
      rw [drop_at x [] (show i.toNat < x.length by omega), show x.getD i.toNat [] = rd_L3 x i from rfl] at e
      refine Ans.step ?_
      simp only [spec_sgTurn.l1, wrap64_up h0 (by omega : i ≤ 4611686018427387904)]
      refine Ans.yes (by omega) (Ans.yes h0 (Ans.yes (by omega) (Ans.yes hj (Ans.yes (by have := hr _ hm; omega) (Ans.yes (by omega) (ih (i + 1) _ (by omega) (by omega) (by simp only [List.length_append, List.length_singleton]; omega) ?_))))))
      rw [show (i + 1).toNat = i.toNat + 1 by omega, List.append_assoc, List.singleton_append]
      exact e
  have key : ∀ (d : Nat) (j : Int) (out : List (List Int)), 0 ≤ j → j + d = x.length → out.length + d ≤ 1048576 → Ans (fun k => spec_sgTurn.l0 k x out (x.length : Int) j) (out ++ ((List.range x.length).drop j.toNat).map fun (j : Nat) => colOf x j) := by
    intro d
    induction d with
    | zero =>
      intro j out h0 h1 h2
      rw [List.drop_eq_nil_of_le (by simp only [List.length_range]; omega), List.map_nil, List.append_nil]; refine Ans.step ?_
      simp only [spec_sgTurn.l0]; exact Ans.not (by omega) (Ans.pure _)
    | succ d ih =>
      intro j out h0 h1 h2
      have e := ih (j + 1) (out ++ [colOf x j]) (by omega) (by omega) (by simp only [List.length_append, List.length_singleton]; omega)
      rw [show (j + 1).toNat = j.toNat + 1 by omega, List.append_assoc, List.singleton_append] at e
      rw [range_drop (show j.toNat < x.length by omega), List.map_cons, show ((j.toNat : Nat) : Int) = j by omega]
      refine Ans.step ?_
      simp only [spec_sgTurn.l0]
      exact Ans.yes (by omega) (inner out j _ h0 (by omega) (by omega) x.length 0 [] (by omega) (by omega) (by simp only [List.length_nil]; omega) e)
  exact key x.length 0 [] (by omega) (by omega) (by simp only [List.length_nil]; omega)
/-- The numbers are -1, 0, 1, and their sums from s on are 0 or 1, the last one 1. -/
def walkOk : Int → List Int → Bool
  | s, [] => s == 1
  | s, a :: x => decide (-1 ≤ a ∧ a ≤ 1) && (decide (0 ≤ s + a ∧ s + a ≤ 1) && walkOk (s + a) x)
theorem alternate (x : List Int) (hx : x.length ≤ 17592186044416) : Ans (fun k => impl_alternate.f k x) (walkOk 0 x) := by
  have key : ∀ (d : Nat) (i s : Int), 0 ≤ i → i + d = x.length → 0 ≤ s → s ≤ 1 → Ans (fun k => impl_alternate.l0 k s x (x.length : Int) i) (walkOk s (x.drop i.toNat)) := by
    intro d
    induction d with
    | zero =>
      intro i s h0 h1 s0 s1
      rw [List.drop_eq_nil_of_le (by omega)]; refine Ans.step ?_
      simp only [impl_alternate.l0]; exact Ans.not (by omega) (Ans.pure _)
    | succ d ih =>
      intro i s h0 h1 s0 s1
      rw [drop_at x 0 (show i.toNat < x.length by omega), show x.getD i.toNat 0 = rd x i from rfl, walkOk]
      refine Ans.step ?_
      simp only [impl_alternate.l0, within, Option.bind_some, wrap64_up h0 (by omega : i ≤ 4611686018427387904)]
      refine Ans.yes (by omega) (Ans.yes h0 (Ans.yes (by omega) ?_))
      by_cases c1 : decide (-1 ≤ rd x i ∧ rd x i ≤ 1) = true
      · have b1 := of_decide_eq_true c1
        have hw : wrap64 (s + rd x i) = s + rd x i := wrap64_in _ ⟨by omega, by omega⟩
        simp only [hw]
        rw [c1, Bool.true_and]
        refine Ans.yes rfl ?_
        by_cases c2 : decide (0 ≤ s + rd x i ∧ s + rd x i ≤ 1) = true
        · have b2 := of_decide_eq_true c2
          have e := ih (i + 1) (s + rd x i) (by omega) (by omega) b2.1 b2.2
          rw [show (i + 1).toNat = i.toNat + 1 by omega] at e
          rw [c2, Bool.true_and]; exact Ans.yes rfl e
        · rw [Bool.eq_false_iff.mpr c2, Bool.false_and]; exact Ans.not (by simp) (Ans.pure _)
      · rw [Bool.eq_false_iff.mpr c1, Bool.false_and]; exact Ans.not (by simp) (Ans.pure _)
  exact key x.length 0 0 (by omega) (by omega) (by omega) (by omega)
theorem sgRows (x : List (List Int)) (hx : x.length ≤ 17592186044416) (hr : ∀ r ∈ x, r.length ≤ 17592186044416) : Ans (fun k => spec_sgRows.f k x) (x.all (walkOk 0)) := by
  have inner : ∀ (row : List Int) (m : Int) (R : Bool), row.length ≤ 17592186044416 → 0 ≤ m → m ≤ 17592186044416 → Ans (fun k => spec_sgRows.l0 k x (x.length : Int) (m + 1)) R →
      ∀ (d : Nat) (i s : Int), 0 ≤ i → i + d = row.length → 0 ≤ s → s ≤ 1 → Ans (fun k => spec_sgRows.l1 k s x (x.length : Int) m row (row.length : Int) i) (walkOk s (row.drop i.toNat) && R) := by
    intro row m R hrow hm hm' e d
    induction d with
    | zero =>
      intro i s h0 h1 s0 s1
      rw [List.drop_eq_nil_of_le (by omega), walkOk]; refine Ans.step ?_
      simp only [spec_sgRows.l1, wrap64_up hm (by omega : m ≤ 4611686018427387904)]
      refine Ans.not (by omega) ?_
      by_cases c : s = 1
      · rw [show (s == 1) = true by simp [c], Bool.true_and]; exact Ans.yes c e
      · rw [show (s == 1) = false by simp [c], Bool.false_and]; exact Ans.not c (Ans.pure _)
    | succ d ih =>
      intro i s h0 h1 s0 s1
      rw [drop_at row 0 (show i.toNat < row.length by omega), show row.getD i.toNat 0 = rd row i from rfl, walkOk]
      refine Ans.step ?_
      simp only [spec_sgRows.l1, l1In, Option.bind_some, wrap64_up h0 (by omega : i ≤ 4611686018427387904)]
      refine Ans.yes (by omega) (Ans.yes h0 (Ans.yes (by omega) ?_))
      by_cases c1 : decide (-1 ≤ rd row i ∧ rd row i ≤ 1) = true
      · have b1 := of_decide_eq_true c1
        have hw : wrap64 (s + rd row i) = s + rd row i := wrap64_in _ ⟨by omega, by omega⟩
        simp only [hw]
        rw [c1, Bool.true_and]
        refine Ans.yes rfl ?_
        by_cases c2 : decide (0 ≤ s + rd row i ∧ s + rd row i ≤ 1) = true
        · have b2 := of_decide_eq_true c2
          have e := ih (i + 1) (s + rd row i) (by omega) (by omega) b2.1 b2.2
          rw [show (i + 1).toNat = i.toNat + 1 by omega] at e
          rw [c2, Bool.true_and]; exact Ans.yes rfl e
        · rw [Bool.eq_false_iff.mpr c2, Bool.false_and, Bool.false_and]; exact Ans.not (by simp) (Ans.pure _)
      · rw [Bool.eq_false_iff.mpr c1, Bool.false_and, Bool.false_and]; exact Ans.not (by simp) (Ans.pure _)
  have key : ∀ (d : Nat) (i : Int), 0 ≤ i → i + d = x.length → Ans (fun k => spec_sgRows.l0 k x (x.length : Int) i) ((x.drop i.toNat).all (walkOk 0)) := by
    intro d
    induction d with
    | zero =>
      intro i h0 h1
      rw [List.drop_eq_nil_of_le (by omega)]; refine Ans.step ?_
      simp only [spec_sgRows.l0]; exact Ans.not (by omega) (Ans.pure _)
    | succ d ih =>
      intro i h0 h1
      have hm := rd_L1_mem h0 (show i < x.length by omega)
      rw [drop_at x [] (show i.toNat < x.length by omega), show x.getD i.toNat [] = rd_L3 x i from rfl, List.all_cons]
      have e := ih (i + 1) (by omega) (by omega)
      rw [show (i + 1).toNat = i.toNat + 1 by omega] at e
      refine Ans.step ?_
      simp only [spec_sgRows.l0]
      exact Ans.yes (by omega) (Ans.yes h0 (Ans.yes (by omega) (inner _ i _ (hr _ hm) h0 (by omega) e _ 0 0 (by omega) (show (0 : Int) + ((rd_L3 x i).length : Nat) = _ by omega) (by omega) (by omega))))
  exact key x.length 0 (by omega) (by omega)
theorem column (x : List (List Int)) (j : Int) (h : x.length ≤ 1048576) (hj : 0 ≤ j) (hr : ∀ r ∈ x, j < r.length) : Ans (fun k => impl_column.f k x j) (colOf x j) := by
  have key : ∀ (d : Nat) (i : Int) (acc : List Int), 0 ≤ i → i + d = x.length → acc.length + d ≤ 1048576 → Ans (fun k => impl_column.l0 k j acc x (x.length : Int) i) (acc ++ colOf (x.drop i.toNat) j) := by
    intro d
    induction d with
    | zero =>
      intro i acc h0 h1 h2
      rw [List.drop_eq_nil_of_le (by omega), colOf, List.map_nil, List.append_nil]; refine Ans.step ?_
      simp only [impl_column.l0]; exact Ans.not (by omega) (Ans.pure _)
    | succ d ih =>
      intro i acc h0 h1 h2
      have hm := rd_L1_mem h0 (show i < x.length by omega)
      have e := ih (i + 1) (acc ++ [rd (rd_L3 x i) j]) (by omega) (by omega) (by simp only [List.length_append, List.length_singleton]; omega)
      rw [show (i + 1).toNat = i.toNat + 1 by omega, List.append_assoc, List.singleton_append] at e
      rw [drop_at x [] (show i.toNat < x.length by omega), show x.getD i.toNat [] = rd_L3 x i from rfl]
      refine Ans.step ?_
      simp only [impl_column.l0, wrap64_up h0 (by omega : i ≤ 4611686018427387904)]
      exact Ans.yes (by omega) (Ans.yes h0 (Ans.yes (by omega) (Ans.yes hj (Ans.yes (hr _ hm) (Ans.yes (by omega) e)))))
  exact key x.length 0 [] (by omega) (by omega) (by simp only [List.length_nil]; omega)
theorem sgSquare (x : List (List Int)) (h : x.length ≤ 1048576) : Ans (fun k => spec_sgSquare.f k x) (decide (1 ≤ x.length ∧ x.length ≤ 6) && x.all fun r => decide (r.length = x.length)) := by
  have key : ∀ (d : Nat) (i : Int), 0 ≤ i → i + d = x.length → Ans (fun k => spec_sgSquare.l0 k x x (x.length : Int) i) ((x.drop i.toNat).all fun r => decide (r.length = x.length)) := by
    intro d
    induction d with
    | zero =>
      intro i h0 h1
      rw [List.drop_eq_nil_of_le (by omega)]; refine Ans.step ?_
      simp only [spec_sgSquare.l0]; exact Ans.not (by omega) (Ans.pure _)
    | succ d ih =>
      intro i h0 h1
      rw [drop_at x [] (show i.toNat < x.length by omega), show x.getD i.toNat [] = rd_L3 x i from rfl, List.all_cons]
      have e := ih (i + 1) (by omega) (by omega)
      rw [show (i + 1).toNat = i.toNat + 1 by omega] at e
      refine Ans.step ?_
      simp only [spec_sgSquare.l0, wrap64_up h0 (by omega : i ≤ 4611686018427387904)]
      refine Ans.yes (by omega) (Ans.yes h0 (Ans.yes (by omega) ?_))
      by_cases c : (rd_L3 x i).length = x.length
      · rw [decide_eq_true c, Bool.true_and]; exact Ans.yes (by omega) e
      · rw [decide_eq_false c, Bool.false_and]; exact Ans.not (by omega) (Ans.pure _)
  simp only [spec_sgSquare.f, l1In, Option.bind_some]
  by_cases c : decide ((1 : Int) ≤ (x.length : Int) ∧ (x.length : Int) ≤ 6) = true
  · have b := of_decide_eq_true c
    rw [show decide (1 ≤ x.length ∧ x.length ≤ 6) = true from decide_eq_true ⟨by omega, by omega⟩, Bool.true_and]
    exact Ans.yes c (key x.length 0 (by omega) (by omega))
  · have b : ¬ ((1 : Int) ≤ (x.length : Int) ∧ (x.length : Int) ≤ 6) := fun h => c (decide_eq_true h)
    rw [show decide (1 ≤ x.length ∧ x.length ≤ 6) = false from decide_eq_false (by omega), Bool.false_and]
    exact Ans.not c (Ans.pure _)
/-- What a sign matrix is, in plain words: square, up to six rows, rows and columns that alternate. -/
def sign (x : List (List Int)) : Bool :=
  (decide (1 ≤ x.length ∧ x.length ≤ 6) && x.all fun r => decide (r.length = x.length)) && (x.all (walkOk 0) && (List.range x.length).all fun (j : Nat) => walkOk 0 (colOf x j))
theorem square_of {x : List (List Int)} (h : (decide (1 ≤ x.length ∧ x.length ≤ 6) && x.all fun r => decide (r.length = x.length)) = true) : 1 ≤ x.length ∧ x.length ≤ 6 ∧ ∀ r ∈ x, r.length = x.length := by
  rw [Bool.and_eq_true] at h
  have b := of_decide_eq_true h.1
  exact ⟨b.1, b.2, fun r hr => of_decide_eq_true (List.all_eq_true.mp h.2 r hr)⟩
theorem sgGood (x : List (List Int)) (h : x.length ≤ 1048576) : Ans (fun k => spec_sgGood.f k x) (sign x) := by
  simp only [spec_sgGood.f]
  refine (sgSquare x h).bind ?_
  unfold sign
  by_cases c : (decide (1 ≤ x.length ∧ x.length ≤ 6) && x.all fun r => decide (r.length = x.length)) = true
  · obtain ⟨b1, b2, b3⟩ := square_of c
    rw [c, Bool.true_and]
    refine Ans.yes rfl ((sgRows x (by omega) (fun r hr => by have := b3 r hr; omega)).bind ?_)
    by_cases c2 : x.all (walkOk 0) = true
    · rw [c2, Bool.true_and]
      have e := sgRows ((List.range x.length).map fun (j : Nat) => colOf x j) (by simp only [List.length_map, List.length_range]; omega) (fun r hr => by
        obtain ⟨j, _, rfl⟩ := List.mem_map.1 hr
        simp only [colOf, List.length_map]; omega)
      rw [List.all_map] at e
      exact Ans.yes rfl ((sgTurn x h b3).bind (e.bind (Ans.pure _)))
    · rw [Bool.eq_false_iff.mpr c2, Bool.false_and]; exact Ans.not (by simp) (Ans.pure _)
  · rw [Bool.eq_false_iff.mpr c, Bool.false_and]; exact Ans.not (by simp) (Ans.pure _)
theorem isSign (x : List (List Int)) (h : x.length ≤ 1048576) : Ans (fun k => impl_IsSignMatrix.f k x) (sign x) := by
  have no : Ans (fun k => impl_IsSignMatrix.j0 k x true) false := by
    refine Ans.step ?_; simp only [impl_IsSignMatrix.j0]; exact Ans.yes (by simp) (Ans.pure _)
  simp only [impl_IsSignMatrix.f, impl_isSide.f, within, Option.bind_some]
  by_cases c : decide ((1 : Int) ≤ (x.length : Int) ∧ (x.length : Int) ≤ 6) = true
  · have b := of_decide_eq_true c
    refine Ans.yes c ((isSquare x (by omega)).bind ?_)
    unfold sign
    rw [show decide (1 ≤ x.length ∧ x.length ≤ 6) = true from decide_eq_true ⟨by omega, by omega⟩, Bool.true_and]
    by_cases c2 : (x.all fun r => decide (r.length = x.length)) = true
    · rw [c2, Bool.true_and]
      have b3 : ∀ r ∈ x, r.length = x.length := fun r hr => of_decide_eq_true (List.all_eq_true.mp c2 r hr)
      have key : ∀ (d : Nat) (i : Int), 0 ≤ i → i + d = x.length → Ans (fun k => impl_IsSignMatrix.l0 k x (x.length : Int) i) ((x.drop i.toNat).all (walkOk 0) && ((List.range x.length).drop i.toNat).all fun (j : Nat) => walkOk 0 (colOf x j)) := by
        intro d
        induction d with
        | zero =>
          intro i h0 h1
          rw [List.drop_eq_nil_of_le (by omega), List.drop_eq_nil_of_le (by simp only [List.length_range]; omega)]; refine Ans.step ?_
          simp only [impl_IsSignMatrix.l0]; exact Ans.not (by omega) (Ans.pure _)
        | succ d ih =>
          intro i h0 h1
          have hm := rd_L1_mem h0 (show i < x.length by omega)
          have e := ih (i + 1) (by omega) (by omega)
          rw [show (i + 1).toNat = i.toNat + 1 by omega] at e
          rw [drop_at x [] (show i.toNat < x.length by omega), show x.getD i.toNat [] = rd_L3 x i from rfl, range_drop (show i.toNat < x.length by omega), List.all_cons, List.all_cons, show ((i.toNat : Nat) : Int) = i by omega]
          refine Ans.step ?_
          simp only [impl_IsSignMatrix.l0, wrap64_up h0 (by omega : i ≤ 4611686018427387904)]
          refine Ans.yes (by omega) (Ans.yes h0 (Ans.yes (by omega) ((alternate _ (by have := b3 _ hm; omega)).bind ?_)))
          by_cases q1 : walkOk 0 (rd_L3 x i) = true
          · rw [q1, Bool.true_and]
            refine Ans.yes rfl ((column x i h h0 (fun r hr => by have := b3 r hr; omega)).bind ((alternate _ (by simp only [colOf, List.length_map]; omega)).bind ?_))
            by_cases q2 : walkOk 0 (colOf x i) = true
            · rw [q2, Bool.true_and]; exact Ans.yes rfl e
            · rw [Bool.eq_false_iff.mpr q2, Bool.false_and, Bool.and_false]; exact Ans.not (by simp) (Ans.pure _)
          · rw [Bool.eq_false_iff.mpr q1, Bool.false_and, Bool.false_and]; exact Ans.not (by simp) (Ans.pure _)
      refine Ans.step ?_
      simp only [impl_IsSignMatrix.j0]
      exact Ans.not (by simp) (key x.length 0 (by omega) (by omega))
    · rw [Bool.eq_false_iff.mpr c2, Bool.false_and]; exact no
  · have b : ¬ ((1 : Int) ≤ (x.length : Int) ∧ (x.length : Int) ≤ 6) := fun h => c (decide_eq_true h)
    unfold sign
    rw [show decide (1 ≤ x.length ∧ x.length ≤ 6) = false from decide_eq_false (by omega), Bool.false_and, Bool.false_and]
    exact Ans.not c no
def tab (r c : Nat) (v : Nat → Nat → Int) : List (List Int) := (List.range r).map fun i => (List.range c).map fun j => v i j
theorem table_row (c : Nat) (hc : c ≤ 1048576) (g : Int → Int → Option Int) (v : Nat → Int) (n : Int) (i : Nat) (hi : i ≤ 1048576) (hg : ∀ j : Nat, j < c → g i j = some (v j)) {R : List (List Int)} :
    ∀ (d j : Nat) (y : List (List Int)), j + d = c → i < y.length → (y.getD i []).length = c → Ans (fun k => impl_table.l0 k c g (y.set i ((y.getD i []).take j ++ ((List.range c).drop j).map v)) n ((i + 1 : Nat) : Int)) R →
      Ans (fun k => impl_table.l1 k c g y i n i (c : Int) j) R := by
  intro d
  induction d with
  | zero =>
    intro j y h1 h2 h3 e
    rw [List.drop_eq_nil_of_le (by simp only [List.length_range]; omega), List.map_nil, List.append_nil, List.take_of_length_le (by omega), set_same y [] i h2] at e
    refine Ans.step ?_
    simp only [impl_table.l1, wrap64_up (show (0 : Int) ≤ (i : Int) by omega) (by omega : (i : Int) ≤ 4611686018427387904)]
    refine Ans.not (by omega) ?_
    rw [show ((i + 1 : Nat) : Int) = (i : Int) + 1 by omega] at e
    exact e
  | succ d ih =>
    intro j y h1 h2 h3 e
    have hrow : rd_L3 y (i : Int) = y.getD i [] := by unfold rd_L3; rw [Int.toNat_natCast]
    refine Ans.step ?_
    simp only [impl_table.l1, hg j (by omega), Option.bind_some, wrap64_up (show (0 : Int) ≤ (j : Int) by omega) (by omega : (j : Int) ≤ 4611686018427387904), hrow, Int.toNat_natCast]
    refine Ans.yes (by omega) (Ans.yes (by omega) (Ans.yes (by omega) (Ans.yes (by omega) (Ans.yes (by omega) ?_))))
    have hj : j < (y.getD i []).length := by omega
    obtain ⟨t1, _⟩ := take_set_drop (y.getD i []) j (v j) hj
    have hget : (y.set i ((y.getD i []).set j (v j))).getD i [] = (y.getD i []).set j (v j) := by
      rw [getD_at _ _ (by simpa using h2)]; simp
    have := ih (j + 1) (y.set i ((y.getD i []).set j (v j))) (by omega) (by simpa using h2) (by rw [hget]; simpa using h3) (by
      rw [hget, List.set_set, t1, List.append_assoc]
      rw [range_drop (show j < c by omega), List.map_cons] at e
      exact e)
    rwa [show ((j + 1 : Nat) : Int) = (j : Int) + 1 by omega] at this
theorem table (r c : Nat) (hr : r ≤ 1048576) (hc : c ≤ 1048576) (g : Int → Int → Option Int) (v : Nat → Nat → Int) (hg : ∀ i j : Nat, i < r → j < c → g i j = some (v i j)) : Ans (fun k => impl_table.f k r c g) (tab r c v) := by
  have key : ∀ (d i : Nat) (y : List (List Int)), i + d = r → y.length = r → Ans (fun k => impl_table.l0 k c g y (r : Int) i) (y.take i ++ ((List.range r).drop i).map fun i => (List.range c).map fun j => v i j) := by
    intro d
    induction d with
    | zero =>
      intro i y h1 h2
      rw [List.drop_eq_nil_of_le (by simp only [List.length_range]; omega), List.map_nil, List.append_nil, List.take_of_length_le (by omega)]; refine Ans.step ?_
      simp only [impl_table.l0]; exact Ans.not (by omega) (Ans.pure _)
    | succ d ih =>
      intro i y h1 h2
      have hi : i < y.length := by omega
      have hget : (y.set i (List.replicate c 0)).getD i [] = List.replicate c 0 := by rw [getD_at _ _ (by simpa using hi)]; simp
      obtain ⟨t1, _⟩ := take_set_drop y i ((List.range c).map fun j => v i j) hi
      have e := ih (i + 1) (y.set i ((List.range c).map fun j => v i j)) (by omega) (by simpa using h2)
      rw [t1, List.append_assoc, List.singleton_append] at e
      rw [range_drop (show i < r by omega), List.map_cons]
      have hrow : rd_L3 (y.set i (List.replicate c 0)) (i : Int) = List.replicate c 0 := by unfold rd_L3; rw [Int.toNat_natCast]; exact hget
      refine Ans.step ?_
      simp only [impl_table.l0, Option.bind_some, Int.toNat_natCast, hrow, List.length_replicate]
      refine Ans.yes (by omega) (Ans.yes (by omega) (Ans.yes (by omega) (Ans.yes (by omega) (Ans.yes (by omega) ?_))))
      have := table_row c hc g (v i) (r : Int) i (by omega) (fun j hj => hg i j (by omega) hj) c 0 (y.set i (List.replicate c 0)) (by omega) (by simpa using hi) (by rw [hget]; simp) (by
        rw [List.set_set, List.take_zero, List.drop_zero, List.nil_append]; exact e)
      exact this
  simp only [impl_table.f, Option.bind_some, Int.toNat_natCast, List.length_replicate]
  refine Ans.yes (by omega) (Ans.yes (by omega) ?_)
  have := key r 0 (List.replicate r []) (by omega) (by simp)
  simpa [tab] using this
/-- A table whose numbers ask for rounds of their own. -/
theorem table_row2 (c : Nat) (hc : c ≤ 1048576) (g : Nat → Int → Int → Option Int) (v : Nat → Int) (n : Int) (i : Nat) (hi : i ≤ 1048576) (hg : ∀ j : Nat, j < c → Ans (fun q => g q i j) (v j)) {R : List (List Int)} :
    ∀ (d j : Nat) (y : List (List Int)), j + d = c → i < y.length → (y.getD i []).length = c → Ans2 (fun k q => impl_table.l0 k c (g q) (y.set i ((y.getD i []).take j ++ ((List.range c).drop j).map v)) n ((i + 1 : Nat) : Int)) R →
      Ans2 (fun k q => impl_table.l1 k c (g q) y i n i (c : Int) j) R := by
  intro d
  induction d with
  | zero =>
    intro j y h1 h2 h3 e
    rw [List.drop_eq_nil_of_le (by simp only [List.length_range]; omega), List.map_nil, List.append_nil, List.take_of_length_le (by omega), set_same y [] i h2] at e
    refine Ans2.step ?_
    simp only [impl_table.l1, wrap64_up (show (0 : Int) ≤ (i : Int) by omega) (by omega : (i : Int) ≤ 4611686018427387904)]
    refine Ans2.not (by omega) ?_
    rw [show ((i + 1 : Nat) : Int) = (i : Int) + 1 by omega] at e
    exact e
  | succ d ih =>
    intro j y h1 h2 h3 e
    have hrow : rd_L3 y (i : Int) = y.getD i [] := by unfold rd_L3; rw [Int.toNat_natCast]
    refine Ans2.step ?_
    simp only [impl_table.l1, wrap64_up (show (0 : Int) ≤ (j : Int) by omega) (by omega : (j : Int) ≤ 4611686018427387904), hrow, Int.toNat_natCast]
    refine Ans2.yes (by omega) (Ans2.yes (by omega) (Ans2.yes (by omega) ((Ans2.two (hg j (by omega))).bind (Ans2.yes (by omega) (Ans2.yes (by omega) ?_)))))
    have hj : j < (y.getD i []).length := by omega
    obtain ⟨t1, _⟩ := take_set_drop (y.getD i []) j (v j) hj
    have hget : (y.set i ((y.getD i []).set j (v j))).getD i [] = (y.getD i []).set j (v j) := by
      rw [getD_at _ _ (by simpa using h2)]; simp
    have := ih (j + 1) (y.set i ((y.getD i []).set j (v j))) (by omega) (by simpa using h2) (by rw [hget]; simpa using h3) (by
      rw [hget, List.set_set, t1, List.append_assoc]
      rw [range_drop (show j < c by omega), List.map_cons] at e
      exact e)
    rwa [show ((j + 1 : Nat) : Int) = (j : Int) + 1 by omega] at this
theorem table2 (r c : Nat) (hr : r ≤ 1048576) (hc : c ≤ 1048576) (g : Nat → Int → Int → Option Int) (v : Nat → Nat → Int) (hg : ∀ i j : Nat, i < r → j < c → Ans (fun q => g q i j) (v i j)) : Ans (fun k => impl_table.f k r c (g k)) (tab r c v) := by
  have key : ∀ (d i : Nat) (y : List (List Int)), i + d = r → y.length = r → Ans2 (fun k q => impl_table.l0 k c (g q) y (r : Int) i) (y.take i ++ ((List.range r).drop i).map fun i => (List.range c).map fun j => v i j) := by
    intro d
    induction d with
    | zero =>
      intro i y h1 h2
      rw [List.drop_eq_nil_of_le (by simp only [List.length_range]; omega), List.map_nil, List.append_nil, List.take_of_length_le (by omega)]; refine Ans2.step ?_
      simp only [impl_table.l0]; exact Ans2.not (by omega) (Ans2.pure _)
    | succ d ih =>
      intro i y h1 h2
      have hi : i < y.length := by omega
      have hget : (y.set i (List.replicate c 0)).getD i [] = List.replicate c 0 := by rw [getD_at _ _ (by simpa using hi)]; simp
      obtain ⟨t1, _⟩ := take_set_drop y i ((List.range c).map fun j => v i j) hi
      have e := ih (i + 1) (y.set i ((List.range c).map fun j => v i j)) (by omega) (by simpa using h2)
      rw [t1, List.append_assoc, List.singleton_append] at e
      rw [range_drop (show i < r by omega), List.map_cons]
      have hrow : rd_L3 (y.set i (List.replicate c 0)) (i : Int) = List.replicate c 0 := by unfold rd_L3; rw [Int.toNat_natCast]; exact hget
      refine Ans2.step ?_
      simp only [impl_table.l0, Option.bind_some, Int.toNat_natCast, hrow, List.length_replicate]
      refine Ans2.yes (by omega) (Ans2.yes (by omega) (Ans2.yes (by omega) (Ans2.yes (by omega) (Ans2.yes (by omega) ?_))))
      have := table_row2 c hc g (v i) (r : Int) i (by omega) (fun j hj => hg i j (by omega) hj) c 0 (y.set i (List.replicate c 0)) (by omega) (by simpa using hi) (by rw [hget]; simp) (by
        rw [List.set_set, List.take_zero, List.drop_zero, List.nil_append]; exact e)
      exact this
  simp only [impl_table.f, Option.bind_some, Int.toNat_natCast, List.length_replicate]
  refine Ans.yes (by omega) (Ans.yes (by omega) ?_)
  have := (key r 0 (List.replicate r []) (by omega) (by simp)).join
  simpa [tab] using this
def cmpI (a b : Int) : Int := if a < b then -1 else if a > b then 1 else 0
theorem cmpI_zero {a b : Int} : cmpI a b = 0 ↔ a = b := by
  unfold cmpI; split
  · constructor <;> intro h <;> omega
  · split
    · constructor <;> intro h <;> omega
    · constructor <;> intro h <;> omega
def lexBy {α : Type} (c : α → α → Int) : List α → List α → Int
  | [], [] => 0
  | [], _ :: _ => -1
  | _ :: _, [] => 1
  | a :: x, b :: y => if c a b = 0 then lexBy c x y else c a b
theorem lexBy_zero {α : Type} {c : α → α → Int} (hc : ∀ a b, c a b = 0 ↔ a = b) : ∀ (x y : List α), lexBy c x y = 0 ↔ x = y
  | [], [] => by simp [lexBy]
  | [], _ :: _ => by simp [lexBy]
  | _ :: _, [] => by simp [lexBy]
  | a :: x, b :: y => by
    rw [lexBy]
    by_cases h : c a b = 0
    · rw [if_pos h, lexBy_zero hc x y, (hc a b).mp h]; simp
    · rw [if_neg h]; constructor
      · intro e; exact absurd e h
      · intro e; exact absurd ((hc a b).mpr (List.cons.inj e).1) h
def cmpL : List Int → List Int → Int := lexBy cmpI
def cmpLL : List (List Int) → List (List Int) → Int := lexBy cmpL
theorem cmpL_zero (x y : List Int) : cmpL x y = 0 ↔ x = y := lexBy_zero (fun _ _ => cmpI_zero) x y
theorem cmpLL_zero (x y : List (List Int)) : cmpLL x y = 0 ↔ x = y := lexBy_zero cmpL_zero x y
theorem cmpInt (a b : Int) : cmp_Compare_int.f a b = some (cmpI a b) := by
  simp only [cmp_Compare_int.f, cmp_isNaN_int.f, Option.bind_some, cmpI]
  simp
  repeat' split
  all_goals rfl
theorem compare (x y : List Int) (hx : x.length ≤ 17592186044416) (hy : y.length ≤ 17592186044416) (k : Nat) (hk : x.length < k) : slices_Compare_int_int.f k x y = some (cmpL x y) := by
  have key : ∀ (d : Nat) (i : Int), 0 ≤ i → i + d = x.length → i ≤ y.length → ∀ k, d < k → slices_Compare_int_int.l0 k x y x (x.length : Int) i = some (cmpL (x.drop i.toNat) (y.drop i.toNat)) := by
    intro d
    induction d with
    | zero =>
      intro i h0 h1 h2 k hk; obtain ⟨j, rfl⟩ : ∃ j, k = j + 1 := ⟨k - 1, by omega⟩
      unfold slices_Compare_int_int.l0
      rw [if_neg (by omega), drop_all x (by omega)]
      by_cases c : (x.length : Int) < (y.length : Int)
      · rw [if_pos c, drop_at y 0 (show i.toNat < y.length by omega)]; rfl
      · rw [if_neg c, drop_all y (by omega)]; rfl
    | succ d ih =>
      intro i h0 h1 h2 k hk; obtain ⟨j, rfl⟩ : ∃ j, k = j + 1 := ⟨k - 1, by omega⟩
      unfold slices_Compare_int_int.l0
      rw [if_pos (by omega), if_pos h0, if_pos (by omega), drop_at x 0 (show i.toNat < x.length by omega)]
      by_cases c : i ≥ (y.length : Int)
      · rw [if_pos c, drop_all y (by omega)]; rfl
      · rw [if_neg c, if_pos (by omega), cmpInt, Option.bind_some, drop_at y 0 (show i.toNat < y.length by omega), wrap64_up h0 (by omega)]
        show (if cmpI (rd x i) (rd y i) = 0 then _ else _) = some (if cmpI (rd x i) (rd y i) = 0 then lexBy cmpI (x.drop (i.toNat + 1)) (y.drop (i.toNat + 1)) else cmpI (rd x i) (rd y i))
        by_cases q : cmpI (rd x i) (rd y i) = 0
        · rw [if_pos q, if_pos q, ih (i + 1) (by omega) (by omega) (by omega) j (by omega), show (i + 1).toNat = i.toNat + 1 by omega]; rfl
        · rw [if_neg q, if_neg q]
  exact key x.length 0 (by omega) (by omega) (by omega) k (by omega)
theorem compareTables (x y : List (List Int)) (hx : x.length ≤ 1048576) (hy : y.length ≤ 1048576) (hrx : ∀ r ∈ x, r.length ≤ 1048576) (hry : ∀ r ∈ y, r.length ≤ 1048576) : Ans (fun k => impl_compareTables.f k x y) (cmpLL x y) := by
  refine Ans.from 1048577 fun k0 hk0 => ?_
  unfold impl_compareTables.f slices_CompareFunc_int_int_int_int.f
  have key : ∀ (d : Nat) (i : Int), 0 ≤ i → i + d = x.length → i ≤ y.length → ∀ k, d < k → slices_CompareFunc_int_int_int_int.l0 k x y (fun x0_ x1_ => impl_compareTables_1.f k0 x0_ x1_) x (x.length : Int) i = some (cmpLL (x.drop i.toNat) (y.drop i.toNat)) := by
    intro d
    induction d with
    | zero =>
      intro i h0 h1 h2 k hk; obtain ⟨j, rfl⟩ : ∃ j, k = j + 1 := ⟨k - 1, by omega⟩
      unfold slices_CompareFunc_int_int_int_int.l0
      rw [if_neg (by omega), drop_all x (by omega)]
      by_cases c : (x.length : Int) < (y.length : Int)
      · rw [if_pos c, drop_at y [] (show i.toNat < y.length by omega)]; rfl
      · rw [if_neg c, drop_all y (by omega)]; rfl
    | succ d ih =>
      intro i h0 h1 h2 k hk; obtain ⟨j, rfl⟩ : ∃ j, k = j + 1 := ⟨k - 1, by omega⟩
      unfold slices_CompareFunc_int_int_int_int.l0
      rw [if_pos (by omega), if_pos h0, if_pos (by omega), drop_at x [] (show i.toNat < x.length by omega)]
      by_cases c : i ≥ (y.length : Int)
      · rw [if_pos c, drop_all y (by omega)]; rfl
      · have m1 := hrx _ (rd_L1_mem h0 (show i < x.length by omega))
        have m2 := hry _ (rd_L1_mem h0 (show i < y.length by omega))
        rw [if_neg c, if_pos (by omega)]
        simp only [impl_compareTables_1.f]
        rw [compare _ _ (by omega) (by omega) k0 (by omega), Option.bind_some, Option.bind_some, drop_at y [] (show i.toNat < y.length by omega), wrap64_up h0 (by omega)]
        show (if cmpL (rd_L3 x i) (rd_L3 y i) = 0 then _ else _) = some (if cmpL (rd_L3 x i) (rd_L3 y i) = 0 then lexBy cmpL (x.drop (i.toNat + 1)) (y.drop (i.toNat + 1)) else cmpL (rd_L3 x i) (rd_L3 y i))
        by_cases q : cmpL (rd_L3 x i) (rd_L3 y i) = 0
        · rw [if_pos q, if_pos q]
          have := ih (i + 1) (by omega) (by omega) (by omega) j (by omega)
          simp only [impl_compareTables_1.f] at this
          rw [this, show (i + 1).toNat = i.toNat + 1 by omega]; rfl
        · rw [if_neg q, if_neg q]
  have := key x.length 0 (by omega) (by omega) (by omega) k0 (by omega)
  rw [this]; rfl
/-- Square, with n rows. -/
def Sq (n : Nat) (x : List (List Int)) : Prop := x.length = n ∧ ∀ r ∈ x, r.length = n
theorem Sq.row {n : Nat} {x : List (List Int)} (h : Sq n x) {i : Nat} (hi : i < n) : (x.getD i []).length = n := h.2 _ (getD_mem [] (by rw [h.1]; exact hi))
theorem tab_is {n : Nat} {y : List (List Int)} (h : Sq n y) (v : Nat → Nat → Int) (hv : ∀ i j : Nat, i < n → j < n → v i j = (y.getD i []).getD j 0) : tab n n v = y := by
  refine List.ext_getElem (by simp [tab, h.1]) fun i h1 h2 => ?_
  have hi : i < n := by rw [← h.1]; exact h2
  have hr := h.row hi
  rw [show (tab n n v)[i] = (List.range n).map (fun j => v i j) by simp [tab], ← getD_at y [] h2]
  refine List.ext_getElem (by simp only [List.length_map, List.length_range]; exact hr.symm) fun j g1 g2 => ?_
  rw [List.getElem_map, List.getElem_range, hv i j hi (by rw [← hr]; exact g2), getD_at _ _ g2]
theorem ext_sq {n : Nat} {x y : List (List Int)} (hx : Sq n x) (hy : Sq n y) (h : ∀ i j : Nat, i < n → j < n → (x.getD i []).getD j 0 = (y.getD i []).getD j 0) : x = y := by
  rw [← tab_is hx (fun i j => (x.getD i []).getD j 0) (fun _ _ _ _ => rfl), tab_is hy _ h]
def mir (x : List (List Int)) : List (List Int) := x.map List.reverse
def tr (x : List (List Int)) : List (List Int) := (List.range x.length).map fun (j : Nat) => colOf x j
def cw (x : List (List Int)) : List (List Int) := mir (tr x)
theorem mir_sq {n : Nat} {x : List (List Int)} (h : Sq n x) : Sq n (mir x) := ⟨by simp [mir, h.1], fun r hr => by obtain ⟨a, ha, rfl⟩ := List.mem_map.1 hr; rw [List.length_reverse]; exact h.2 a ha⟩
theorem rev_at (x : List Int) {n j : Nat} (hl : x.length = n) (h : j < n) : x.reverse.getD j 0 = x.getD (n - 1 - j) 0 := by
  rw [getD_at _ _ (by simp; omega), getD_at _ _ (by omega), List.getElem_reverse]; congr 1; omega
theorem mir_at {n : Nat} {x : List (List Int)} (h : Sq n x) {i j : Nat} (hi : i < n) (hj : j < n) : ((mir x).getD i []).getD j 0 = (x.getD i []).getD (n - 1 - j) 0 := by
  rw [show (mir x).getD i [] = (x.getD i []).reverse by rw [getD_at _ _ (by simp [mir, h.1]; exact hi), getD_at _ _ (by rw [h.1]; exact hi)]; simp [mir], rev_at _ (h.row hi) hj]
theorem mirrored (n : Nat) (x : List (List Int)) (h : Sq n x) (hn : n ≤ 1048576) : Ans (fun k => impl_mirrored.f k x) (mir x) := by
  simp only [impl_mirrored.f, h.1]
  have hg : ∀ i j : Nat, i < n → j < n → impl_mirrored_1.f i j x (n : Int) = some ((x.getD i []).getD (n - 1 - j) 0) := by
    intro i j hi hj
    have w1 : wrap64 ((n : Int) - 1) = (n : Int) - 1 := wrap64_in _ ⟨by omega, by omega⟩
    have w2 : wrap64 ((n : Int) - 1 - (j : Int)) = ((n - 1 - j : Nat) : Int) := by rw [wrap64_in _ ⟨by omega, by omega⟩]; omega
    have hr : (rd_L3 x (i : Int)).length = n := h.2 _ (rd_L1_mem (by omega) (by rw [h.1]; omega))
    have hl := h.1
    simp only [impl_mirrored_1.f, w1, w2]
    rw [if_pos (by omega), if_pos (by omega), if_pos (by omega), if_pos (by omega)]
    simp only [rd, rd_L3, Int.toNat_natCast]
  have e := table n n hn hn (fun x0_ x1_ => impl_mirrored_1.f x0_ x1_ x (n : Int)) _ hg
  rw [tab_is (mir_sq h) _ (fun i j hi hj => by rw [mir_at h hi hj])] at e
  exact e.bind (Ans.pure _)
theorem sign_sq {x : List (List Int)} (s : sign x = true) : Sq x.length x ∧ x.length ≤ 6 := by
  unfold sign at s
  rw [Bool.and_eq_true] at s
  obtain ⟨b1, b2, b3⟩ := square_of s.1
  exact ⟨⟨rfl, b3⟩, b2⟩
/-! sums over indices -/
def S : Nat → (Nat → Int) → Int
  | 0, _ => 0
  | n + 1, f => S n f + f n
theorem S_congr {f g : Nat → Int} : ∀ {n : Nat}, (∀ i, i < n → f i = g i) → S n f = S n g
  | 0, _ => rfl
  | n + 1, h => by rw [S, S, S_congr (fun i hi => h i (by omega)), h n (by omega)]
theorem S_add (f g : Nat → Int) : ∀ n, S n (fun i => f i + g i) = S n f + S n g
  | 0 => rfl
  | n + 1 => by rw [S, S, S, S_add f g n]; omega
theorem S_zero : ∀ n, S n (fun _ => 0) = 0
  | 0 => rfl
  | n + 1 => by rw [S, S_zero n]; rfl
theorem S_comm (F : Nat → Nat → Int) (m : Nat) : ∀ n, S n (fun i => S m (fun j => F i j)) = S m (fun j => S n (fun i => F i j))
  | 0 => by simp only [S]; rw [S_zero]
  | n + 1 => by rw [S, S_comm F m n, ← S_add]; rfl
theorem S_front (f : Nat → Int) : ∀ n, S (n + 1) f = f 0 + S n (fun i => f (i + 1))
  | 0 => by simp [S]
  | n + 1 => by rw [S, S_front f n, S]; omega
theorem S_rev (f : Nat → Int) : ∀ n, S n (fun j => f (n - 1 - j)) = S n f
  | 0 => rfl
  | n + 1 => by
    rw [S_front, S, Nat.add_sub_cancel, Nat.sub_zero, ← S_rev f n, S_congr (f := fun i => f (n - (i + 1))) (g := fun j => f (n - 1 - j)) (fun i hi => by rw [show n - (i + 1) = n - 1 - i by omega])]
    omega
/-- An entry. -/
def en (x : List (List Int)) (i j : Nat) : Int := (x.getD i []).getD j 0
theorem mir_en {n : Nat} {x : List (List Int)} (h : Sq n x) {i j : Nat} (hi : i < n) (hj : j < n) : en (mir x) i j = en x i (n - 1 - j) := mir_at h hi hj
theorem walk_pre : ∀ (c : List Int) (s : Int), 0 ≤ s → s ≤ 1 → walkOk s c = true → (∀ i, i < c.length → (-1 ≤ c.getD i 0 ∧ c.getD i 0 ≤ 1) ∧ 0 ≤ s + S i (fun k => c.getD k 0) ∧ s + S i (fun k => c.getD k 0) ≤ 1 ∧ 0 ≤ s + S i (fun k => c.getD k 0) + c.getD i 0 ∧ s + S i (fun k => c.getD k 0) + c.getD i 0 ≤ 1) ∧ s + S c.length (fun k => c.getD k 0) = 1
  | [], s, _, _, h => ⟨fun i hi => absurd hi (by simp), by simp only [walkOk, beq_iff_eq] at h; simp [S, h]⟩
  | a :: c, s, h0, h1, h => by
    simp only [walkOk, Bool.and_eq_true, decide_eq_true_eq] at h
    obtain ⟨b1, b2, b3⟩ := h
    have ih := walk_pre c (s + a) b2.1 b2.2 b3
    have fr : ∀ m, S (m + 1) (fun k => (a :: c).getD k 0) = a + S m (fun k => c.getD k 0) := fun m => S_front _ m
    refine ⟨fun i hi => ?_, by rw [List.length_cons, fr]; omega⟩
    cases i with
    | zero => simp only [S, List.getD_cons_zero]; omega
    | succ i =>
      have := ih.1 i (by simpa using hi)
      rw [fr, List.getD_cons_succ]; omega
/-- What rows and columns of a sign matrix are. -/
theorem sign_en {x : List (List Int)} (s : sign x = true) {n : Nat} (hn : x.length = n) : Sq n x ∧ 1 ≤ n ∧ n ≤ 6 ∧
    (∀ i j, i < n → j < n → (-1 ≤ en x i j ∧ en x i j ≤ 1) ∧ (0 ≤ S j (en x i) ∧ S j (en x i) ≤ 1 ∧ 0 ≤ S j (en x i) + en x i j ∧ S j (en x i) + en x i j ≤ 1) ∧ (0 ≤ S i (fun k => en x k j) ∧ S i (fun k => en x k j) ≤ 1 ∧ 0 ≤ S i (fun k => en x k j) + en x i j ∧ S i (fun k => en x k j) + en x i j ≤ 1)) ∧
    (∀ i, i < n → S n (en x i) = 1) ∧ ∀ j, j < n → S n (fun k => en x k j) = 1 := by
  subst hn
  have s' := s
  unfold sign at s'
  simp only [Bool.and_eq_true] at s'
  obtain ⟨h1, h2, q⟩ := square_of (show (decide (1 ≤ x.length ∧ x.length ≤ 6) && x.all fun r => decide (r.length = x.length)) = true by simp only [Bool.and_eq_true]; exact s'.1)
  have sq : Sq x.length x := ⟨rfl, q⟩
  have R : ∀ i, i < x.length → walkOk 0 (x.getD i []) = true := fun i hi => List.all_eq_true.mp s'.2.1 _ (getD_mem [] hi)
  have C : ∀ j, j < x.length → walkOk 0 (colOf x j) = true := fun j hj => List.all_eq_true.mp s'.2.2 j (List.mem_range.mpr hj)
  have ce : ∀ i j, i < x.length → (colOf x (j : Nat)).getD i 0 = en x i j := fun i j hi => by
    rw [getD_at _ _ (by simpa [colOf] using hi)]
    simp only [colOf, List.getElem_map, rd, Int.toNat_natCast, en]
    rw [getD_at x [] hi]
  have cl : ∀ j : Nat, (colOf x j).length = x.length := fun j => by simp [colOf]
  refine ⟨sq, h1, h2, fun i j hi hj => ?_, fun i hi => ?_, fun j hj => ?_⟩
  · have a := (walk_pre _ 0 (by omega) (by omega) (R i hi)).1 j (by rw [sq.row hi]; exact hj)
    have b := (walk_pre _ 0 (by omega) (by omega) (C j hj)).1 i (by rw [cl]; exact hi)
    rw [S_congr (fun k hk => ce k j (by omega : k < x.length)), ce i j hi] at b
    have e : S j (en x i) = S j (fun k => (x.getD i []).getD k 0) := rfl
    rw [e]
    have e2 : en x i j = (x.getD i []).getD j 0 := rfl
    rw [← e2] at a
    omega
  · have a := (walk_pre _ 0 (by omega) (by omega) (R i hi)).2
    rw [sq.row hi] at a
    have e : S x.length (en x i) = S x.length (fun k => (x.getD i []).getD k 0) := rfl
    omega
  · have b := (walk_pre _ 0 (by omega) (by omega) (C j hj)).2
    rw [cl, S_congr (fun k hk => ce k j hk)] at b
    omega
theorem ext_en {n : Nat} {x y : List (List Int)} (hx : Sq n x) (hy : Sq n y) (h : ∀ i j : Nat, i < n → j < n → en x i j = en y i j) : x = y := ext_sq hx hy h
/-- Sign matrices stay such ones. -/
theorem S_split (f : Nat → Int) (a : Nat) : ∀ b, S (a + b) f = S a f + S b (fun t => f (a + t))
  | 0 => by simp [S]
  | b + 1 => by rw [← Nat.add_assoc, S, S_split f a b, S]; omega
theorem walk_of : ∀ (c : List Int) (s : Int), (∀ i, i < c.length → (-1 ≤ c.getD i 0 ∧ c.getD i 0 ≤ 1) ∧ 0 ≤ s + S (i + 1) (fun k => c.getD k 0) ∧ s + S (i + 1) (fun k => c.getD k 0) ≤ 1) → s + S c.length (fun k => c.getD k 0) = 1 → walkOk s c = true
  | [], s, _, h => by simp only [List.length_nil, S] at h; simp only [walkOk, beq_iff_eq]; omega
  | a :: c, s, h, t => by
    have fr : ∀ m, S (m + 1) (fun k => (a :: c).getD k 0) = a + S m (fun k => c.getD k 0) := fun m => S_front _ m
    have h0 := h 0 (by simp)
    rw [fr] at h0
    simp only [S, List.getD_cons_zero] at h0
    simp only [walkOk, Bool.and_eq_true, decide_eq_true_eq]
    refine ⟨h0.1, by omega, walk_of c (s + a) (fun i hi => ?_) (by rw [List.length_cons, fr] at t; omega)⟩
    have := h (i + 1) (by simpa using hi)
    rw [fr, List.getD_cons_succ] at this
    omega
theorem walk_rev {c : List Int} (h : walkOk 0 c = true) : walkOk 0 c.reverse = true := by
  obtain ⟨a, b⟩ := walk_pre c 0 (by omega) (by omega) h
  have rv : ∀ k, k < c.length → c.reverse.getD k 0 = c.getD (c.length - 1 - k) 0 := fun k hk => rev_at c rfl hk
  have pr : ∀ i, i ≤ c.length → S i (fun k => c.reverse.getD k 0) = S c.length (fun k => c.getD k 0) - S (c.length - i) (fun k => c.getD k 0) := fun i hi => by
    have e := S_split (fun k => c.getD k 0) (c.length - i) i
    rw [show c.length - i + i = c.length by omega, ← S_rev (fun t => c.getD (c.length - i + t) 0) i] at e
    rw [S_congr (g := fun j => c.getD (c.length - i + (i - 1 - j)) 0) (fun k hk => by rw [rv k (by omega)]; congr 1; omega)]
    omega
  refine walk_of _ 0 (fun i hi => ?_) ?_
  · rw [List.length_reverse] at hi
    have h1 := a (c.length - 1 - i) (by omega)
    rw [rv i hi, pr (i + 1) (by omega), show c.length - (i + 1) = c.length - 1 - i by omega]
    omega
  · rw [List.length_reverse, pr c.length (Nat.le_refl _), Nat.sub_self]; simp only [S]; omega
theorem sign_of {n : Nat} {x : List (List Int)} (h : Sq n x) (h1 : 1 ≤ n) (h2 : n ≤ 6) (R : ∀ r ∈ x, walkOk 0 r = true) (C : ∀ j : Nat, j < n → walkOk 0 (colOf x j) = true) : sign x = true := by
  have hl := h.1
  unfold sign
  simp only [Bool.and_eq_true, decide_eq_true_eq, List.all_eq_true, List.mem_range]
  exact ⟨⟨by omega, fun r hr => by rw [h.2 r hr, hl]⟩, R, fun j hj => C j (by omega)⟩
theorem sign_parts {x : List (List Int)} (s : sign x = true) {n : Nat} (hn : x.length = n) : Sq n x ∧ 1 ≤ n ∧ n ≤ 6 ∧ (∀ r ∈ x, walkOk 0 r = true) ∧ ∀ j : Nat, j < n → walkOk 0 (colOf x j) = true := by
  subst hn
  obtain ⟨q, h1, h2, _⟩ := sign_en s rfl
  unfold sign at s
  simp only [Bool.and_eq_true, List.all_eq_true, List.mem_range] at s
  exact ⟨q, h1, h2, s.2.1, s.2.2⟩
theorem col_at (x : List (List Int)) (j i : Nat) (hi : i < x.length) : (colOf x (j : Nat)).getD i 0 = en x i j := by
  rw [getD_at _ _ (by simpa [colOf] using hi)]
  simp only [colOf, List.getElem_map, rd, Int.toNat_natCast, en]
  rw [getD_at x [] hi]
theorem list_ext {a b : List Int} {n : Nat} (ha : a.length = n) (hb : b.length = n) (h : ∀ i, i < n → a.getD i 0 = b.getD i 0) : a = b :=
  List.ext_getElem (by omega) fun i h1 h2 => by have := h i (by omega); rwa [getD_at _ _ h1, getD_at _ _ h2] at this
theorem sign_mir {x : List (List Int)} (s : sign x = true) : sign (mir x) = true := by
  obtain ⟨q, h1, h2, R, C⟩ := sign_parts s rfl
  refine sign_of (mir_sq q) h1 h2 (fun r hr => ?_) (fun j hj => ?_)
  · obtain ⟨a, ha, rfl⟩ := List.mem_map.1 hr
    exact walk_rev (R a ha)
  · have : colOf (mir x) (j : Nat) = colOf x ((x.length - 1 - j : Nat) : Int) := list_ext (n := x.length) (by simp [colOf, mir]) (by simp [colOf]) fun i hi => by
      rw [col_at _ _ _ (by simpa [mir] using hi), col_at _ _ _ hi, mir_en q hi hj]
    rw [this]; exact C _ (by omega)
theorem wrap_add (a b : Int) : wrap64 (wrap64 a + b) = wrap64 (a + b) := by unfold wrap64; omega
theorem sumOf (r : List Int) (hr : r.length ≤ 1048576) : Ans (fun k => impl_sum.f k r) (wrap64 (S r.length (fun t => r.getD t 0))) := by
  have key : ∀ (d i : Nat) (a : Int), i + d = r.length → Ans (fun k => impl_sum.l0 k (wrap64 a) r (r.length : Int) (i : Int)) (wrap64 (a + S d (fun t => r.getD (i + t) 0))) := by
    intro d
    induction d with
    | zero =>
      intro i a h
      refine Ans.step ?_
      simp only [impl_sum.l0, S, Int.add_zero]
      exact Ans.not (by omega) (Ans.pure _)
    | succ d ih =>
      intro i a h
      have e := ih (i + 1) (a + r.getD i 0) (by omega)
      rw [S_front, Nat.add_zero, ← Int.add_assoc, S_congr (f := fun t => r.getD (i + (t + 1)) 0) (g := fun t => r.getD (i + 1 + t) 0) (fun t _ => by congr 1; omega)]
      rw [show ((i + 1 : Nat) : Int) = (i : Int) + 1 by omega] at e
      refine Ans.step ?_
      simp only [impl_sum.l0, wrap64_up (show (0 : Int) ≤ i by omega) (by omega)]
      refine Ans.yes (by omega) (Ans.yes (by omega) (Ans.yes (by omega) ?_))
      rw [show rd r (i : Int) = r.getD i 0 by simp only [rd, Int.toNat_natCast], wrap_add]
      exact e
  have := key r.length 0 0 (by omega)
  rw [show wrap64 0 = 0 from wrap64_in 0 ⟨by omega, by omega⟩, Int.zero_add, S_congr (g := fun t => r.getD t 0) (fun t _ => by rw [Nat.zero_add])] at this
  exact this
/-- The reader of draws: from place a on, at most n places on. -/
theorem draw_next (c : List Int) (hc : ∀ x ∈ c, (Lit.int .u8 x).wf = true) (a s : Int) (h0 : 0 ≤ a) (h1 : a ≤ 2305843009213693952) : ∃ b s', spec_l1Cur_next.f c a s = some (b, a + 1, s') ∧ 0 ≤ b ∧ b ≤ 255 := by
  have hw : wrap64 (a + 1) = a + 1 := wrap64_in _ ⟨by omega, by omega⟩
  simp only [spec_l1Cur_next.f, hw]
  by_cases c1 : a < (c.length : Int)
  · have hr := byte_wf (hc (rd c a) (getD_mem 0 (by omega)))
    have hw2 : wrap64 (rd c a) = rd c a := wrap64_in _ ⟨by omega, by omega⟩
    rw [if_pos c1, if_pos h0, if_pos (by omega)]
    exact ⟨_, _, rfl, by rw [hw2]; exact hr.1, by rw [hw2]; exact hr.2⟩
  · rw [if_neg c1, if_neg (by omega)]
    exact ⟨_, _, rfl, (byte_and _).1, (byte_and _).2⟩
theorem tmod_in {x n : Int} (h : 0 ≤ x) (hn : 1 < n) : 0 ≤ Int.tmod x n ∧ Int.tmod x n < n := ⟨Int.tmod_nonneg _ h, Int.tmod_lt_of_pos _ (by omega)⟩
theorem draw_pick (c : List Int) (hc : ∀ x ∈ c, (Lit.int .u8 x).wf = true) (a s n : Int) (h0 : 0 ≤ a) (h1 : a ≤ 1152921504606846976) : ∃ v a' s', spec_l1Cur_pick.f c a s n = some (v, a', s') ∧ a ≤ a' ∧ a' ≤ a + 2 ∧ 0 ≤ v ∧ (v < n ∨ v = 0) := by
  simp only [spec_l1Cur_pick.f]
  by_cases c1 : n ≤ 1
  · rw [if_pos c1]; exact ⟨_, _, _, rfl, by omega, by omega, by omega, by omega⟩
  · rw [if_neg c1]
    obtain ⟨b, s1, e1, b0, b1⟩ := draw_next c hc a s h0 (by omega)
    rw [e1]; simp only [Option.bind_some]
    by_cases c2 : n > 200
    · rw [if_pos c2]
      obtain ⟨b', s2, e2, b0', b1'⟩ := draw_next c hc (a + 1) s1 (by omega) (by omega)
      rw [e2]; simp only [Option.bind_some]
      rw [if_neg (by omega), wrap64_in (b * 256) ⟨by omega, by omega⟩, wrap64_in (b * 256 + b') ⟨by omega, by omega⟩]
      have := tmod_in (x := b * 256 + b') (n := n) (by omega) (by omega)
      exact ⟨_, _, _, rfl, by omega, by omega, this.1, .inl this.2⟩
    · rw [if_neg c2, if_neg (by omega)]
      have := tmod_in (x := b) (n := n) (by omega) (by omega)
      exact ⟨_, _, _, rfl, by omega, by omega, this.1, .inl this.2⟩
theorem draw_one (c : List Int) (hc : ∀ x ∈ c, (Lit.int .u8 x).wf = true) (a s n : Int) (h0 : 0 ≤ a) (h1 : a ≤ 1152921504606846976) : ∃ v a' s', spec_l1Cur_one.f c a s n = some (v, a', s') ∧ a ≤ a' ∧ a' ≤ a + 2 := by
  obtain ⟨v, a', s', e, h2, h3, _⟩ := draw_pick c hc a s n h0 h1
  simp only [spec_l1Cur_one.f, e, Option.bind_some]
  exact ⟨_, _, _, rfl, h2, h3⟩
theorem draw_among (c : List Int) (hc : ∀ x ∈ c, (Lit.int .u8 x).wf = true) (a s : Int) (l : List Int) (hl : 0 < l.length) (h0 : 0 ≤ a) (h1 : a ≤ 1152921504606846976) : ∃ v a' s', spec_l1Cur_among.f c a s l = some (v, a', s') ∧ a ≤ a' ∧ a' ≤ a + 2 ∧ v ∈ l := by
  obtain ⟨v, a', s', e, h2, h3, h4, h5⟩ := draw_pick c hc a s (l.length : Int) h0 h1
  simp only [spec_l1Cur_among.f, e, Option.bind_some]
  rw [if_pos h4, if_pos (by omega)]
  exact ⟨_, _, _, rfl, h2, h3, getD_mem 0 (by omega)⟩
/-- A number of a square table is put. -/
theorem put_sq {n : Nat} {y : List (List Int)} (h : Sq n y) (i j : Nat) (hi : i < n) (hj : j < n) (v : Int) : Sq n (y.set i ((y.getD i []).set j v)) ∧
    ∀ a b : Nat, a < n → b < n → ((y.set i ((y.getD i []).set j v)).getD a []).getD b 0 = if a = i ∧ b = j then v else (y.getD a []).getD b 0 := by
  have hr := h.row hi
  refine ⟨⟨by rw [List.length_set]; exact h.1, fun r hr' => ?_⟩, fun a b ha hb => ?_⟩
  · rcases List.mem_or_eq_of_mem_set hr' with h1 | h1
    · exact h.2 r h1
    · rw [h1, List.length_set]; exact hr
  · have ra := h.row ha
    by_cases e : i = a
    · subst e
      rw [show (y.set i ((y.getD i []).set j v)).getD i [] = (y.getD i []).set j v from by rw [getD_at (y.set i _) [] (by rw [List.length_set, h.1]; exact hi), List.getElem_set_self]]
      by_cases e2 : j = b
      · subst e2; rw [if_pos ⟨rfl, rfl⟩, getD_at _ _ (by rw [List.length_set, hr]; exact hj), List.getElem_set_self]
      · rw [if_neg (fun h => e2 h.2.symm), getD_at _ _ (by rw [List.length_set, hr]; exact hb), List.getElem_set_ne e2, ← getD_at _ 0 (by rw [hr]; exact hb)]
    · rw [if_neg (fun h => e h.1.symm), getD_at _ [] (by rw [List.length_set, h.1]; exact ha), List.getElem_set_ne e, ← getD_at y [] (by rw [h.1]; exact ha)]
theorem rep_sq (n : Nat) (v : Int) : Sq n (List.replicate n (List.replicate n v)) := ⟨by simp, fun r hr => by rw [List.eq_of_mem_replicate hr]; simp⟩
theorem sgZero (n : Nat) (hn : n ≤ 1000) : Ans (fun k => spec_sgZero.f k n) (List.replicate n (List.replicate n 0)) := by
  have key : ∀ (d i : Nat), i + d = n → Ans (fun k => spec_sgZero.l0 k n (List.replicate i (List.replicate n 0)) (i : Int)) (List.replicate n (List.replicate n 0)) := by
    intro d
    induction d with
    | zero =>
      intro i h
      obtain rfl : i = n := by omega
      exact Ans.step (by simp only [spec_sgZero.l0]; exact Ans.not (by omega) (Ans.pure _))
    | succ d ih =>
      intro i h
      have e := ih (i + 1) (by omega)
      refine Ans.step ?_
      simp only [spec_sgZero.l0, wrap64_up (show (0 : Int) ≤ i by omega) (by omega), Int.toNat_natCast]
      rw [List.replicate_succ', show ((i + 1 : Nat) : Int) = (i : Int) + 1 by omega] at e
      exact Ans.yes (by omega) (Ans.yes (by omega) (Ans.yes (by omega) (Ans.yes (by rw [List.length_replicate]; omega) e)))
  exact key n 0 (by omega)
/-- A corner sum, 0 beside the table. -/
def sgat (x : List (List Int)) (i j : Int) : Int := if i < 0 then 0 else if j < 0 then 0 else rd (rd_L3 x i) j
theorem sgAt {n : Nat} {x : List (List Int)} (h : Sq n x) (i j : Int) (hi : i < n) (hj : j < n) : spec_sgAt.f x i j = some (sgat x i j) := by
  simp only [spec_sgAt.f, sgat]
  by_cases c1 : i < 0
  · rw [if_pos c1, if_pos c1]
  · by_cases c2 : j < 0
    · rw [if_neg c1, if_neg c1, if_pos c2, if_pos c2]
    · have hr : (rd_L3 x i).length = n := h.row (by omega)
      rw [if_neg c1, if_neg c1, if_neg c2, if_neg c2, if_pos (by omega), if_pos (by have := h.1; omega), if_pos (by omega), if_pos (by omega)]
/-- The number that corner sums leave. -/
def diff (x : List (List Int)) (i j : Int) : Int := wrap64 (wrap64 (wrap64 (sgat x i j - sgat x (i - 1) j) - sgat x i (j - 1)) + sgat x (i - 1) (j - 1))
def frm (x : List (List Int)) : List (List Int) := tab x.length x.length (fun i j => diff x i j)
theorem tab_sq (n : Nat) (v : Nat → Nat → Int) : Sq n (tab n n v) := ⟨by simp [tab], fun r hr => by obtain ⟨a, _, rfl⟩ := List.mem_map.1 hr; simp⟩
theorem sgFrom (n : Nat) (x : List (List Int)) (h : Sq n x) (hn : n ≤ 1000) : Ans (fun k => spec_sgFrom.f k x) (frm x) := by
  have hx := h.1
  have inner : ∀ (i : Nat), i < n → ∀ (d j : Nat) (y : List (List Int)), j + d = n → Sq n y → (∀ a b : Nat, a < n → b < n → (a < i ∨ a = i ∧ b < j) → (y.getD a []).getD b 0 = diff x a b) →
      (∀ y', Sq n y' → (∀ a b : Nat, a < n → b < n → a < i + 1 → (y'.getD a []).getD b 0 = diff x a b) → Ans (fun k => spec_sgFrom.l0 k x y' (n : Int) ((i + 1 : Nat) : Int)) (frm x)) →
      Ans (fun k => spec_sgFrom.l1 k x y (i : Int) (n : Int) (i : Int) (n : Int) (j : Int)) (frm x) := by
    intro i hi d
    induction d with
    | zero =>
      intro j y hj hy hv nx
      refine Ans.step ?_
      simp only [spec_sgFrom.l1, wrap64_up (show (0 : Int) ≤ i by omega) (by omega)]
      have := nx y hy (fun a b ha hb hlt => hv a b ha hb (by omega))
      rw [show ((i + 1 : Nat) : Int) = (i : Int) + 1 by omega] at this
      exact Ans.not (by omega) this
    | succ d ih =>
      intro j y hj hy hv nx
      obtain ⟨q1, q2⟩ := put_sq hy i j hi (by omega) (diff x i j)
      have e := ih (j + 1) _ (by omega) q1 (fun a b ha hb hlt => by
        rw [q2 a b ha hb]
        by_cases c : a = i ∧ b = j
        · rw [if_pos c, c.1, c.2]
        · rw [if_neg c]; exact hv a b ha hb (by omega)) nx
      have hr : (rd_L3 y (i : Int)).length = n := by unfold rd_L3; rw [Int.toNat_natCast]; exact hy.row hi
      have w1 : wrap64 ((i : Int) - 1) = (i : Int) - 1 := wrap64_in _ ⟨by omega, by omega⟩
      have w2 : wrap64 ((j : Int) - 1) = (j : Int) - 1 := wrap64_in _ ⟨by omega, by omega⟩
      refine Ans.step ?_
      simp only [spec_sgFrom.l1, w1, w2, wrap64_up (show (0 : Int) ≤ j by omega) (by omega), sgAt h i j (by omega) (by omega), sgAt h ((i : Int) - 1) j (by omega) (by omega), sgAt h i ((j : Int) - 1) (by omega) (by omega), sgAt h ((i : Int) - 1) ((j : Int) - 1) (by omega) (by omega), Option.bind_some, Int.toNat_natCast]
      rw [show ((j + 1 : Nat) : Int) = (j : Int) + 1 by omega] at e
      exact Ans.yes (by omega) (Ans.yes (by omega) (Ans.yes (by have := hy.1; omega) (Ans.yes (by omega) (Ans.yes (by omega) e))))
  have key : ∀ (d i : Nat) (y : List (List Int)), i + d = n → Sq n y → (∀ a b : Nat, a < n → b < n → a < i → (y.getD a []).getD b 0 = diff x a b) → Ans (fun k => spec_sgFrom.l0 k x y (n : Int) (i : Int)) (frm x) := by
    intro d
    induction d with
    | zero =>
      intro i y h1 hy hv
      have : y = frm x := by unfold frm; rw [hx]; exact (tab_is hy _ (fun a b ha hb => (hv a b ha hb (by omega)).symm)).symm
      rw [this]
      exact Ans.step (by simp only [spec_sgFrom.l0]; exact Ans.not (by omega) (Ans.pure _))
    | succ d ih =>
      intro i y h1 hy hv
      refine Ans.step ?_
      simp only [spec_sgFrom.l0, hx]
      exact Ans.yes (by omega) (inner i (by omega) n 0 y (by omega) hy (fun a b ha hb hlt => hv a b ha hb (by omega)) (fun y' hy' hv' => ih (i + 1) y' (by omega) hy' hv'))
  simp only [spec_sgFrom.f, hx]
  exact (sgZero n hn).bind (by
    have := key n 0 (List.replicate n (List.replicate n 0)) (by omega) (rep_sq n 0) (fun a b ha hb hlt => by omega)
    simpa [rep_sq] using this)
theorem frm_sq {n : Nat} {x : List (List Int)} (h : Sq n x) : Sq n (frm x) := by unfold frm; rw [h.1]; exact tab_sq n _
/-- The corner sums of the least sign matrix. -/
def corn (n : Nat) : List (List Int) := tab n n (fun i j => ((min i j : Nat) : Int) + 1)
theorem corn_sign : ∀ n : Nat, 1 ≤ n → n ≤ 6 → sign (frm (corn n)) = true := by
  intro n h1 h2
  rcases (show n = 1 ∨ n = 2 ∨ n = 3 ∨ n = 4 ∨ n = 5 ∨ n = 6 by omega) with rfl | rfl | rfl | rfl | rfl | rfl
  all_goals decide +kernel
/-- All numbers are in range. -/
def InZ (x : List (List Int)) : Prop := ∀ r ∈ x, ∀ v ∈ r, -9223372036854775808 ≤ v ∧ v ≤ 9223372036854775807
theorem wrap64_range (n : Int) : -9223372036854775808 ≤ wrap64 n ∧ wrap64 n ≤ 9223372036854775807 := by unfold wrap64; omega
theorem InZ.put {x : List (List Int)} (h : InZ x) (i j : Nat) (hi : i < x.length) (n : Int) : InZ (x.set i ((x.getD i []).set j (wrap64 n))) := by
  intro r hr v hv
  rcases List.mem_or_eq_of_mem_set hr with h1 | h1
  · exact h r h1 v hv
  · subst h1
    rcases List.mem_or_eq_of_mem_set hv with h2 | h2
    · exact h _ (getD_mem [] hi) v h2
    · rw [h2]; exact wrap64_range n
theorem draw_sure (c : List Int) (hc : ∀ x ∈ c, (Lit.int .u8 x).wf = true) (a s : Int) (n : Nat) (hn : 1 ≤ n) (hn2 : n ≤ 6) (h0 : 0 ≤ a) (h1 : a ≤ 1000000000000) :
    ∃ m a' s', Ans (fun k => spec_l1Cur_sure.f k c a s n) (m, a', s') ∧ a ≤ a' ∧ a' ≤ a + 1000 ∧ Sq n m ∧ sign m = true := by
  -- the flips
  have flips : ∀ (d : Nat) (x : List (List Int)) (a s : Int), Sq n x → InZ x → sign (frm x) = true → 0 ≤ a → a + 6 * d ≤ 1000000002000 →
      ∃ m a' s', Ans (fun k => spec_l1Cur_sure.l2 k n x (d : Int) c a s) (m, a', s') ∧ a ≤ a' ∧ a' ≤ a + 6 * d ∧ Sq n m ∧ sign m = true := by
    intro d
    induction d with
    | zero =>
      intro x a s hx hz hs h0 h1
      refine ⟨frm x, a, s, Ans.step ?_, by omega, by omega, frm_sq hx, hs⟩
      simp only [spec_l1Cur_sure.l2]
      refine Ans.not (by omega) (Ans.step ?_)
      simp only [spec_l1Cur_sure.j3]
      exact Ans.not (by simp) ((sgFrom n x hx (by omega)).bind (Ans.pure _))
    | succ d ih =>
      intro x a s hx hz hs h0 h1
      by_cases c1 : (n : Int) > 1
      · have wn : wrap64 ((n : Int) - 1) = (n : Int) - 1 := wrap64_in _ ⟨by omega, by omega⟩
        obtain ⟨i, a1, s1, e1, p1, q1, i0, i1⟩ := draw_pick c hc a s ((n : Int) - 1) h0 (by omega)
        obtain ⟨j, a2, s2, e2, p2, q2, j0, j1⟩ := draw_pick c hc a1 s1 ((n : Int) - 1) (by omega) (by omega)
        obtain ⟨v, a3, s3, e3, p3, q3, v0, v1⟩ := draw_pick c hc a2 s2 2 (by omega) (by omega)
        have hr : (rd_L3 x i).length = n := hx.row (by omega)
        have hl := hx.1
        obtain ⟨y, hy⟩ : ∃ y, y = x.set i.toNat ((rd_L3 x i).set j.toNat (wrap64 ((rd (rd_L3 x i) j) + (wrap64 ((wrap64 (2 * v)) - 1))))) := ⟨_, rfl⟩
        have ys : Sq n y := by rw [hy]; exact (put_sq hx i.toNat j.toNat (by omega) (by omega) _).1
        have yz : InZ y := by rw [hy]; exact hz.put i.toNat j.toNat (by omega) _
        have wd : wrap64 (((d + 1 : Nat) : Int) - 1) = d := by rw [wrap64_in _ ⟨by omega, by omega⟩]; omega
        by_cases c2 : sign (frm y) = true
        · obtain ⟨m, a', s', e, g1, g2, g3, g4⟩ := ih y a3 s3 ys yz c2 (by omega) (by omega)
          refine ⟨m, a', s', Ans.step ?_, by omega, by omega, g3, g4⟩
          simp only [spec_l1Cur_sure.l2]
          refine Ans.yes (by omega) (Ans.step ?_)
          simp only [spec_l1Cur_sure.j3, wn, wd, e1, e2, e3, Option.bind_some, ← hy]
          have gg := sgGood (frm y) (by rw [(frm_sq ys).1]; omega)
          rw [c2] at gg
          exact Ans.yes (by simp; omega) (Ans.yes i0 (Ans.yes (by omega) (Ans.yes j0 (Ans.yes (by omega) ((sgFrom n y ys (by omega)).bind (gg.bind (Ans.yes rfl e)))))))
        · have back : y.set i.toNat ((rd_L3 y i).set j.toNat (wrap64 ((rd (rd_L3 y i) j) - (wrap64 ((wrap64 (2 * v)) - 1))))) = x := by
            have hq := put_sq hx i.toNat j.toNat (by omega) (by omega) (wrap64 ((rd (rd_L3 x i) j) + (wrap64 ((wrap64 (2 * v)) - 1))))
            have hq2 := put_sq ys i.toNat j.toNat (by omega) (by omega) (wrap64 ((rd (rd_L3 y i) j) - (wrap64 ((wrap64 (2 * v)) - 1))))
            refine ext_sq hq2.1 hx (fun a b ha hb => ?_)
            have e1 := hq2.2 a b ha hb
            rw [show y.getD i.toNat [] = rd_L3 y i from rfl] at e1
            rw [e1]
            have hyv := hq.2 a b ha hb
            rw [show x.getD i.toNat [] = rd_L3 x i from rfl, ← hy] at hyv
            by_cases c3 : a = i.toNat ∧ b = j.toNat
            · rw [if_pos c3]
              rw [if_pos c3] at hyv
              have e4 : rd (rd_L3 y i) j = wrap64 ((rd (rd_L3 x i) j) + (wrap64 ((wrap64 (2 * v)) - 1))) := by rw [← hyv, c3.1, c3.2]; rfl
              rw [e4, c3.1, c3.2, show (x.getD i.toNat []).getD j.toNat 0 = rd (rd_L3 x i) j from rfl]
              have hz1 := hz (rd_L3 x i) (getD_mem [] (by omega)) (rd (rd_L3 x i) j) (getD_mem 0 (by omega))
              unfold wrap64
              omega
            · rw [if_neg c3]; rw [if_neg c3] at hyv; exact hyv
          have hry : (rd_L3 y i).length = n := ys.row (by omega)
          obtain ⟨m, a', s', e, g1, g2, g3, g4⟩ := ih x a3 s3 hx hz hs (by omega) (by omega)
          refine ⟨m, a', s', Ans.step ?_, by omega, by omega, g3, g4⟩
          simp only [spec_l1Cur_sure.l2]
          refine Ans.yes (by omega) (Ans.step ?_)
          simp only [spec_l1Cur_sure.j3, wn, wd, e1, e2, e3, Option.bind_some, ← hy, back]
          have gg := sgGood (frm y) (by rw [(frm_sq ys).1]; omega)
          rw [Bool.eq_false_iff.mpr c2] at gg
          exact Ans.yes (by simp; omega) (Ans.yes i0 (Ans.yes (by omega) (Ans.yes j0 (Ans.yes (by omega) ((sgFrom n y ys (by omega)).bind (gg.bind (Ans.not (by simp) (Ans.yes (by omega) e))))))))
      · refine ⟨frm x, a, s, Ans.step ?_, by omega, by omega, frm_sq hx, hs⟩
        simp only [spec_l1Cur_sure.l2]
        refine Ans.yes (by omega) (Ans.step ?_)
        simp only [spec_l1Cur_sure.j3]
        exact Ans.not (by simp; omega) ((sgFrom n x hx (by omega)).bind (Ans.pure _))
  -- the corner sums at first
  have w3 : wrap64 ((wrap64 (3 * (n : Int))) * n) = 3 * (n : Int) * n := by
    have : (3 * (n : Int)) * n ≤ 18 * 6 := Int.mul_le_mul (by omega) (by omega) (by omega) (by omega)
    have h0 : 0 ≤ 3 * (n : Int) * n := Int.mul_nonneg (by omega) (by omega)
    rw [wrap64_in (3 * (n : Int)) ⟨by omega, by omega⟩, wrap64_in _ ⟨by omega, by omega⟩]
  obtain ⟨t, a1, s1, e1, p1, q1, t0, t1⟩ := draw_pick c hc a s (3 * (n : Int) * n) h0 (by omega)
  have ht : t ≤ 108 := by
    have : (3 * (n : Int)) * n ≤ 18 * 6 := Int.mul_le_mul (by omega) (by omega) (by omega) (by omega)
    omega
  obtain ⟨m, a', s', e2, p2, q2, g3, g4⟩ := flips t.toNat (corn n) a1 s1 (tab_sq n _) (by
    intro r hr v hv
    obtain ⟨i, hi, rfl⟩ := List.mem_map.1 hr
    obtain ⟨j, hj, rfl⟩ := List.mem_map.1 hv
    rw [List.mem_range] at hi hj
    show -9223372036854775808 ≤ ((min i j : Nat) : Int) + 1 ∧ ((min i j : Nat) : Int) + 1 ≤ 9223372036854775807
    have := Nat.min_le_left i j
    omega) (corn_sign n hn hn2) (by omega) (by omega)
  rw [Int.toNat_of_nonneg t0] at e2
  refine ⟨m, a', s', ?_, by omega, by omega, g3, g4⟩
  have inner : ∀ (i : Nat), i < n → ∀ (d j : Nat) (y : List (List Int)), j + d = n → Sq n y → (∀ a b : Nat, a < n → b < n → (a < i ∨ a = i ∧ b < j) → (y.getD a []).getD b 0 = ((min a b : Nat) : Int) + 1) →
      (∀ y', Sq n y' → (∀ a b : Nat, a < n → b < n → a < i + 1 → (y'.getD a []).getD b 0 = ((min a b : Nat) : Int) + 1) → Ans (fun k => spec_l1Cur_sure.l0 k n y' (n : Int) ((i + 1 : Nat) : Int) c a s) (m, a', s')) →
      Ans (fun k => spec_l1Cur_sure.l1 k n y (i : Int) (n : Int) (i : Int) (n : Int) (j : Int) c a s) (m, a', s') := by
    intro i hi d
    induction d with
    | zero =>
      intro j y hj hy hv nx
      refine Ans.step ?_
      simp only [spec_l1Cur_sure.l1, wrap64_up (show (0 : Int) ≤ i by omega) (by omega)]
      have := nx y hy (fun a b ha hb hlt => hv a b ha hb (by omega))
      rw [show ((i + 1 : Nat) : Int) = (i : Int) + 1 by omega] at this
      exact Ans.not (by omega) this
    | succ d ih =>
      intro j y hj hy hv nx
      obtain ⟨q1, q2⟩ := put_sq hy i j hi (by omega) (((min i j : Nat) : Int) + 1)
      have e := ih (j + 1) _ (by omega) q1 (fun a b ha hb hlt => by
        rw [q2 a b ha hb]
        by_cases c : a = i ∧ b = j
        · rw [if_pos c, c.1, c.2]
        · rw [if_neg c]; exact hv a b ha hb (by omega)) nx
      have hr : (rd_L3 y (i : Int)).length = n := by unfold rd_L3; rw [Int.toNat_natCast]; exact hy.row hi
      have hl : spec_l1Least.f (i : Int) (j : Int) = some ((min i j : Nat) : Int) := by
        simp only [spec_l1Least.f]
        by_cases c : (i : Int) < j
        · rw [if_pos c, Nat.min_eq_left (by omega)]
        · rw [if_neg c, Nat.min_eq_right (by omega)]
      have w1 : wrap64 (((min i j : Nat) : Int) + 1) = ((min i j : Nat) : Int) + 1 := wrap64_in _ ⟨by omega, by omega⟩
      refine Ans.step ?_
      simp only [spec_l1Cur_sure.l1, hl, Option.bind_some, w1, wrap64_up (show (0 : Int) ≤ j by omega) (by omega), Int.toNat_natCast]
      rw [show ((j + 1 : Nat) : Int) = (j : Int) + 1 by omega] at e
      exact Ans.yes (by omega) (Ans.yes (by omega) (Ans.yes (by have := hy.1; omega) (Ans.yes (by omega) (Ans.yes (by omega) e))))
  have key : ∀ (d i : Nat) (y : List (List Int)), i + d = n → Sq n y → (∀ a b : Nat, a < n → b < n → a < i → (y.getD a []).getD b 0 = ((min a b : Nat) : Int) + 1) → Ans (fun k => spec_l1Cur_sure.l0 k n y (n : Int) (i : Int) c a s) (m, a', s') := by
    intro d
    induction d with
    | zero =>
      intro i y h1 hy hv
      have : y = corn n := (tab_is hy _ (fun a b ha hb => (hv a b ha hb (by omega)).symm)).symm
      rw [this]
      refine Ans.step ?_
      simp only [spec_l1Cur_sure.l0, w3, e1, Option.bind_some]
      exact Ans.not (by omega) e2
    | succ d ih =>
      intro i y h1 hy hv
      have hl := hy.1
      refine Ans.step ?_
      simp only [spec_l1Cur_sure.l0, hl]
      exact Ans.yes (by omega) (inner i (by omega) n 0 y (by omega) hy (fun a b ha hb hlt => hv a b ha hb (by omega)) (fun y' hy' hv' => ih (i + 1) y' (by omega) hy' hv'))
  simp only [spec_l1Cur_sure.f]
  refine (sgZero n (by omega)).bind ?_
  simp only [List.length_replicate]
  exact key n 0 _ (by omega) (rep_sq n 0) (fun a b ha hb hlt => by omega)
/-- What signs draws: a table of few rows of few numbers. -/
theorem draw_signs (c : List Int) (hc : ∀ x ∈ c, (Lit.int .u8 x).wf = true) (a s : Int) (most : Nat) (hm : 1 ≤ most) (hm2 : most ≤ 6) (h0 : 0 ≤ a) (h1 : a ≤ 100000000000) :
    ∃ m a' s', Ans (fun k => spec_l1Cur_signs.f k c a s most) (m, a', s') ∧ a ≤ a' ∧ a' ≤ a + 3000 ∧ m.length ≤ 7 ∧ ∀ r ∈ m, r.length ≤ 7 := by
  obtain ⟨t, a1, s1, e1, p1, q1, t0, t1⟩ := draw_pick c hc a s most h0 (by omega)
  have wt : wrap64 (1 + t) = ((t.toNat + 1 : Nat) : Int) := by rw [wrap64_in _ ⟨by omega, by omega⟩]; omega
  obtain ⟨n, hn⟩ : ∃ n, n = t.toNat + 1 := ⟨_, rfl⟩
  rw [← hn] at wt
  obtain ⟨m, a2, s2, e2, p2, q2, hs, _⟩ := draw_sure c hc a1 s1 n (by omega) (by omega) (by omega) (by omega)
  obtain ⟨z, a3, s3, e3, p3, q3, z0, z1⟩ := draw_pick c hc a2 s2 20 (by omega) (by omega)
  have hl := hs.1
  by_cases c0 : z = 0
  · obtain ⟨i, a4, s4, e4, p4, q4, i0, i1⟩ := draw_pick c hc a3 s3 n (by omega) (by omega)
    obtain ⟨j, a5, s5, e5, p5, q5, j0, j1⟩ := draw_pick c hc a4 s4 n (by omega) (by omega)
    obtain ⟨v, a6, s6, e6, p6, q6, _⟩ := draw_among c hc a5 s5 [(-2), (-1), 0, 1, 2, 4611686018427387904] (by simp) (by omega) (by omega)
    have hr : (rd_L3 m i).length = n := hs.row (by omega)
    refine ⟨m.set i.toNat ((rd_L3 m i).set j.toNat v), a6, s6, ?_, by omega, by omega, by rw [List.length_set]; omega, fun r hr' => ?_⟩
    · simp only [spec_l1Cur_signs.f, e1, Option.bind_some, wt]
      refine e2.bind ?_
      simp only [e3, Option.bind_some]
      refine Ans.yes c0 ?_
      simp only [e4, Option.bind_some]
      refine Ans.yes i0 (Ans.yes (by omega) ?_)
      simp only [e5, e6, Option.bind_some]
      exact Ans.yes j0 (Ans.yes (by omega) (Ans.pure _))
    · rcases List.mem_or_eq_of_mem_set hr' with h | h
      · rw [hs.2 r h]; omega
      · rw [h, List.length_set, hr]; omega
  by_cases c1 : z = 1
  · refine ⟨m ++ [List.replicate n 0], a3, s3, ?_, by omega, by omega, by simp; omega, fun r hr' => ?_⟩
    · simp only [spec_l1Cur_signs.f, e1, Option.bind_some, wt]
      refine e2.bind ?_
      simp only [e3, Option.bind_some, Int.toNat_natCast]
      exact Ans.not c0 (Ans.yes c1 (Ans.yes (by omega) (Ans.yes (by omega) (Ans.yes (by omega) (Ans.pure _)))))
    · rcases List.mem_append.1 hr' with h | h
      · rw [hs.2 r h]; omega
      · simp only [List.mem_singleton] at h; rw [h, List.length_replicate]; omega
  by_cases c2 : z = 2
  · have hr : (rd_L3 m 0).length = n := hs.row (by omega)
    refine ⟨m.set (0 : Int).toNat (rd_L3 m 0 ++ [0]), a3, s3, ?_, by omega, by omega, by rw [List.length_set]; omega, fun r hr' => ?_⟩
    · simp only [spec_l1Cur_signs.f, e1, Option.bind_some, wt]
      refine e2.bind ?_
      simp only [e3, Option.bind_some]
      exact Ans.not c0 (Ans.not c1 (Ans.yes c2 (Ans.yes (by omega) (Ans.yes (by omega) (Ans.pure _)))))
    · rcases List.mem_or_eq_of_mem_set hr' with h | h
      · rw [hs.2 r h]; omega
      · rw [h, List.length_append, hr]; simp; omega
  by_cases c3 : z = 3
  · obtain ⟨m2, a4, s4, e4, p4, q4, hs2, _⟩ := draw_sure c hc a3 s3 6 (by omega) (by omega) (by omega) (by omega)
    obtain ⟨u, a5, s5, e5, p5, q5⟩ := draw_one c hc a4 s4 2 (by omega) (by omega)
    cases u with
    | true =>
      refine ⟨[], a5, s5, ?_, by omega, by omega, by simp, by simp⟩
      simp only [spec_l1Cur_signs.f, e1, Option.bind_some, wt]
      refine e2.bind ?_
      simp only [e3, Option.bind_some]
      refine Ans.not c0 (Ans.not c1 (Ans.not c2 (Ans.yes c3 (e4.bind ?_))))
      simp only [e5, Option.bind_some]
      exact Ans.yes trivial (Ans.pure _)
    | false =>
      refine ⟨m2, a5, s5, ?_, by omega, by omega, by rw [hs2.1]; omega, fun r hr => by rw [hs2.2 r hr]; omega⟩
      simp only [spec_l1Cur_signs.f, e1, Option.bind_some, wt]
      refine e2.bind ?_
      simp only [e3, Option.bind_some]
      refine Ans.not c0 (Ans.not c1 (Ans.not c2 (Ans.yes c3 (e4.bind ?_))))
      simp only [e5, Option.bind_some]
      exact Ans.not (by simp) (Ans.pure _)
  · refine ⟨m, a3, s3, ?_, by omega, by omega, by omega, fun r hr => by rw [hs.2 r hr]; omega⟩
    simp only [spec_l1Cur_signs.f, e1, Option.bind_some, wt]
    refine e2.bind ?_
    simp only [e3, Option.bind_some]
    exact Ans.not c0 (Ans.not c1 (Ans.not c2 (Ans.not c3 (Ans.pure _))))
theorem hSame (x y : List Int) (hx : x.length ≤ 17592186044416) : Ans (fun k => laws_hSame.f k x y) (decide (x = y)) := by
  simp only [laws_hSame.f]
  by_cases hl : (x.length : Int) = (y.length : Int)
  · refine Ans.yes hl ?_
    have key : ∀ (d : Nat) (i : Int), 0 ≤ i → i + d = x.length → Ans (fun k => laws_hSame.l0 k x y (x.length : Int) i) (decide (x.drop i.toNat = y.drop i.toNat)) := by
      intro d
      induction d with
      | zero =>
        intro i h0 h1
        refine Ans.step ?_
        simp only [laws_hSame.l0]
        rw [drop_all x (by omega), drop_all y (by omega)]
        exact Ans.not (by omega) (Ans.pure _)
      | succ d ih =>
        intro i h0 h1
        refine Ans.step ?_
        simp only [laws_hSame.l0]
        refine Ans.yes (by omega) (Ans.yes h0 (Ans.yes (by omega) (Ans.yes (by omega) ?_)))
        rw [drop_at x 0 (show i.toNat < x.length by omega), drop_at y 0 (show i.toNat < y.length by omega)]
        by_cases c : rd x i = rd y i
        · have e := ih (i + 1) (by omega) (by omega)
          rw [wrap64_in (i + 1) ⟨by omega, by omega⟩]
          rw [show (i + 1).toNat = i.toNat + 1 by omega] at e
          refine Ans.yes c ?_
          rw [show x.getD i.toNat 0 = y.getD i.toNat 0 from c]
          simpa using e
        · refine Ans.not c ?_
          rw [show decide (x.getD i.toNat 0 :: x.drop (i.toNat + 1) = y.getD i.toNat 0 :: y.drop (i.toNat + 1)) = false from decide_eq_false (fun h => c (by injection h))]
          exact Ans.pure _
    exact key x.length 0 (by omega) (by omega)
  · refine Ans.not hl ?_
    rw [decide_eq_false (fun h => hl (by rw [h]))]
    exact Ans.pure _
theorem hRows (x : List (List Int)) (hx : x.length ≤ 1000000) (hr : ∀ r ∈ x, r.length ≤ 1000000) : Ans (fun k => laws_hRows.f k x x) true := by
  simp only [laws_hRows.f]
  refine Ans.yes trivial ?_
  have key : ∀ (d : Nat) (i : Int), 0 ≤ i → i + d = x.length → Ans (fun k => laws_hRows.l0 k x x (x.length : Int) i) true := by
    intro d
    induction d with
    | zero => intro i h0 h1; exact Ans.step (by simp only [laws_hRows.l0]; exact Ans.not (by omega) (Ans.pure _))
    | succ d ih =>
      intro i h0 h1
      have e := hSame (rd_L3 x i) (rd_L3 x i) (by have := hr _ (rd_L1_mem h0 (show i < x.length by omega)); omega)
      rw [decide_eq_true rfl] at e
      refine Ans.step ?_
      simp only [laws_hRows.l0, wrap64_in (i + 1) ⟨by omega, by omega⟩]
      exact Ans.yes (by omega) (Ans.yes h0 (Ans.yes (by omega) (Ans.yes (by omega) (e.bind (Ans.yes rfl (ih _ (by omega) (by omega)))))))
  exact key x.length 0 (by omega) (by omega)
theorem tab_en {r c : Nat} (v : Nat → Nat → Int) {i j : Nat} (hi : i < r) (hj : j < c) : en (tab r c v) i j = v i j := by
  unfold en
  rw [show (tab r c v).getD i [] = (List.range c).map (fun j => v i j) by rw [getD_at _ _ (by simpa [tab] using hi)]; simp [tab]]
  rw [getD_at _ _ (by simpa using hj)]; simp
/-- The corner sums. -/
def co (x : List (List Int)) (i j : Nat) : Int := S i (fun k => S j (en x k))
theorem co_comm (x : List (List Int)) (i j : Nat) : co x i j = S j (fun l => S i (fun k => en x k l)) := S_comm _ _ _
theorem co_row (x : List (List Int)) (i j : Nat) : co x (i + 1) j = co x i j + S j (en x i) := rfl
theorem co_four (x : List (List Int)) (i j : Nat) : co x (i + 1) (j + 1) - co x i (j + 1) - co x (i + 1) j + co x i j = en x i j := by
  rw [co_row, co_row, S]; omega
theorem S_range {f : Nat → Int} {a b : Int} : ∀ {n : Nat}, (∀ i, i < n → a ≤ f i ∧ f i ≤ b) → a * n ≤ S n f ∧ S n f ≤ b * n
  | 0, _ => by simp [S]
  | n + 1, h => by
    have x := S_range (fun i hi => h i (by omega : i < n + 1)) (n := n)
    have y := h n (by omega)
    rw [S, Int.natCast_add, Int.natCast_one, Int.mul_add, Int.mul_add, Int.mul_one, Int.mul_one]; omega
/-- Sums of the first numbers of rows and of columns are 0 or 1. -/
theorem pre_in {x : List (List Int)} (s : sign x = true) {n : Nat} (hn : x.length = n) : (∀ k j, k < n → j ≤ n → 0 ≤ S j (en x k) ∧ S j (en x k) ≤ 1) ∧ ∀ i l, i ≤ n → l < n → 0 ≤ S i (fun k => en x k l) ∧ S i (fun k => en x k l) ≤ 1 := by
  obtain ⟨_, _, _, E, R, C⟩ := sign_en s hn
  refine ⟨fun k j hk hj => ?_, fun i l hi hl => ?_⟩
  · by_cases e : j < n
    · have := (E k j hk e).2.1; omega
    · have := R k hk
      rw [show j = n by omega]; omega
  · by_cases e : i < n
    · have := (E i l e hl).2.2; omega
    · have := C l hl
      rw [show i = n by omega]; omega
theorem co_in {x : List (List Int)} (s : sign x = true) {n : Nat} (hn : x.length = n) {i j : Nat} (hi : i ≤ n) (hj : j ≤ n) : 0 ≤ co x i j ∧ co x i j ≤ i ∧ co x i j ≤ j ∧ (i : Int) + j - n ≤ co x i j := by
  obtain ⟨P, Q⟩ := pre_in s hn
  obtain ⟨_, _, _, _, R, _⟩ := sign_en s hn
  have a := S_range (n := i) (f := fun k => S j (en x k)) (a := 0) (b := 1) (fun k hk => P k j (by omega) hj)
  have b := S_range (n := j) (f := fun l => S i (fun k => en x k l)) (a := 0) (b := 1) (fun l hl => Q i l hi (by omega))
  have c := co_comm x i j
  have d : S i (fun k => S n (en x k)) = co x i j + S (n - j) (fun t => S i (fun k => en x k (j + t))) := by
    rw [S_comm (fun t k => en x k (j + t)) i (n - j)]
    unfold co
    rw [← S_add]
    refine S_congr fun k hk => ?_
    have := S_split (en x k) j (n - j)
    rw [show j + (n - j) = n by omega] at this
    exact this
  have e : S i (fun k => S n (en x k)) = (i : Int) := by
    rw [S_congr (g := fun _ => 1) (fun k hk => R k (by omega))]
    have h := S_range (n := i) (f := fun _ => 1) (a := 1) (b := 1) (fun _ _ => by omega)
    omega
  have f := S_range (n := n - j) (f := fun t => S i (fun k => en x k (j + t))) (a := 0) (b := 1) (fun t ht => Q i (j + t) hi (by omega))
  rw [e] at d
  unfold co at *
  omega
/-- The heights. -/
def hgt (x : List (List Int)) (i j : Nat) : Int := (i : Int) + j - 2 * co x i j
def HT (x : List (List Int)) : List (List Int) := tab (x.length + 1) (x.length + 1) (hgt x)
theorem HT_sq (x : List (List Int)) : Sq (x.length + 1) (HT x) := tab_sq _ _
theorem HT_en {x : List (List Int)} {n : Nat} (hn : x.length = n) {i j : Nat} (hi : i ≤ n) (hj : j ≤ n) : en (HT x) i j = hgt x i j := by unfold HT; exact tab_en _ (by omega) (by omega)
theorem hgt_in {x : List (List Int)} (s : sign x = true) {n : Nat} (hn : x.length = n) {i j : Nat} (hi : i ≤ n) (hj : j ≤ n) : 0 ≤ hgt x i j ∧ hgt x i j ≤ n := by
  have := co_in s hn hi hj
  unfold hgt; omega
/-- Heights tell their matrix. -/
theorem HT_inj {x y : List (List Int)} {n : Nat} (hx : Sq n x) (hy : Sq n y) (h : ∀ i j, i ≤ n → j ≤ n → hgt x i j = hgt y i j) : x = y := by
  refine ext_en hx hy fun i j hi hj => ?_
  have a := h (i + 1) (j + 1) (by omega) (by omega)
  have b := h i (j + 1) (by omega) (by omega)
  have c := h (i + 1) j (by omega) (by omega)
  have d := h i j (by omega) (by omega)
  have e := co_four x i j
  have f := co_four y i j
  unfold hgt at a b c d
  omega
/-- What heights are: told at the border, and neighbours differ by one. -/
def HF (n : Nat) (h : Nat → Nat → Int) : Prop :=
  (∀ j, j ≤ n → h 0 j = j ∧ h j 0 = j ∧ h n j = (n : Int) - j ∧ h j n = (n : Int) - j) ∧
  (∀ i j, i < n → j ≤ n → h (i + 1) j - h i j = 1 ∨ h (i + 1) j - h i j = -1) ∧ (∀ i j, i ≤ n → j < n → h i (j + 1) - h i j = 1 ∨ h i (j + 1) - h i j = -1)
theorem S_one : ∀ m : Nat, S m (fun _ => 1) = (m : Int)
  | 0 => rfl
  | m + 1 => by rw [S, S_one m]; omega
theorem hgt_up (x : List (List Int)) (i j : Nat) : hgt x (i + 1) j - hgt x i j = 1 - 2 * S j (en x i) := by unfold hgt; rw [co_row]; omega
theorem hgt_right (x : List (List Int)) (i j : Nat) : hgt x i (j + 1) - hgt x i j = 1 - 2 * S i (fun k => en x k j) := by
  unfold hgt; rw [co_comm x i (j + 1), co_comm x i j, S]; omega
theorem hf_of {x : List (List Int)} (s : sign x = true) {n : Nat} (hn : x.length = n) : HF n (hgt x) := by
  obtain ⟨P, Q⟩ := pre_in s hn
  obtain ⟨_, _, _, _, R, C⟩ := sign_en s hn
  refine ⟨fun j hj => ?_, fun i j hi hj => ?_, fun i j hi hj => ?_⟩
  · have a : co x 0 j = 0 := rfl
    have b : co x j 0 = 0 := by rw [co_comm]; rfl
    have c : co x n j = j := by rw [co_comm, S_congr (g := fun _ => 1) (fun l hl => C l (by omega)), S_one]
    have d : co x j n = j := by unfold co; rw [S_congr (g := fun _ => 1) (fun k hk => R k (by omega)), S_one]
    unfold hgt
    omega
  · have := P i j hi hj
    have := hgt_up x i j
    omega
  · have := Q i j hi hj
    have := hgt_right x i j
    omega
/-- The matrix of heights. -/
def mat (n : Nat) (h : Nat → Nat → Int) : List (List Int) := tab n n (fun i j => (h i (j + 1) + h (i + 1) j - h (i + 1) (j + 1) - h i j) / 2)
theorem mat_sq (n : Nat) (h : Nat → Nat → Int) : Sq n (mat n h) := tab_sq n _
theorem mat_en {n : Nat} (h : Nat → Nat → Int) {i j : Nat} (hi : i < n) (hj : j < n) : en (mat n h) i j = (h i (j + 1) + h (i + 1) j - h (i + 1) (j + 1) - h i j) / 2 := tab_en _ hi hj
theorem mat_row {n : Nat} {h : Nat → Nat → Int} (H : HF n h) {i : Nat} (hi : i < n) : ∀ j, j ≤ n → 2 * S j (en (mat n h) i) = 1 - (h (i + 1) j - h i j)
  | 0, _ => by
    have a := (H.1 i (by omega)).2.1
    have b := (H.1 (i + 1) (by omega)).2.1
    simp only [S]; omega
  | j + 1, hj => by
    have ih := mat_row H hi j (by omega)
    have a := H.2.1 i j hi (by omega)
    have b := H.2.1 i (j + 1) hi hj
    rw [S, mat_en h hi (by omega)]; omega
theorem mat_col {n : Nat} {h : Nat → Nat → Int} (H : HF n h) {j : Nat} (hj : j < n) : ∀ i, i ≤ n → 2 * S i (fun k => en (mat n h) k j) = 1 - (h i (j + 1) - h i j)
  | 0, _ => by
    have a := (H.1 j (by omega)).1
    have b := (H.1 (j + 1) (by omega)).1
    simp only [S]; omega
  | i + 1, hi => by
    have ih := mat_col H hj i (by omega)
    have a := H.2.2 i j (by omega) hj
    have b := H.2.2 (i + 1) j hi hj
    rw [S, mat_en h (by omega) hj]; omega
theorem mat_sign {n : Nat} {h : Nat → Nat → Int} (H : HF n h) (h1 : 1 ≤ n) (h6 : n ≤ 6) : sign (mat n h) = true := by
  have q := mat_sq n h
  refine sign_of q h1 h6 (fun r hr => ?_) (fun j hj => ?_)
  · obtain ⟨i, hi, rfl⟩ := List.getElem_of_mem hr
    have hi' : i < n := by have := q.1; omega
    have e : (mat n h)[i] = (mat n h).getD i [] := (getD_at _ _ hi).symm
    have rl := q.row hi'
    rw [e]
    refine walk_of _ 0 (fun j hj => ?_) ?_
    · rw [rl] at hj
      have a := mat_row H hi' j (by omega)
      have b := mat_row H hi' (j + 1) (by omega)
      have c := H.2.1 i j hi' (by omega)
      have d := H.2.1 i (j + 1) hi' (by omega)
      rw [S] at b
      rw [show S (j + 1) (fun k => ((mat n h).getD i []).getD k 0) = S j (en (mat n h) i) + en (mat n h) i j from rfl, show ((mat n h).getD i []).getD j 0 = en (mat n h) i j from rfl]
      omega
    · rw [rl]
      have a := mat_row H hi' n (by omega)
      have b := (H.1 i (by omega)).2.2.2
      have c := (H.1 (i + 1) (by omega)).2.2.2
      rw [show S n (fun k => ((mat n h).getD i []).getD k 0) = S n (en (mat n h) i) from rfl]
      omega
  · have cl : (colOf (mat n h) (j : Nat)).length = n := by simp [colOf, q.1]
    have ce : ∀ k, k < n → (colOf (mat n h) (j : Nat)).getD k 0 = en (mat n h) k j := fun k hk => col_at _ _ _ (by rw [q.1]; exact hk)
    refine walk_of _ 0 (fun i hi => ?_) ?_
    · rw [cl] at hi
      have a := mat_col H hj i (by omega)
      have b := mat_col H hj (i + 1) (by omega)
      have c := H.2.2 i j (by omega) hj
      have d := H.2.2 (i + 1) j (by omega) hj
      rw [S] at b
      rw [S_congr (f := fun k => (colOf (mat n h) (j : Nat)).getD k 0) (g := fun k => en (mat n h) k j) (fun k hk => ce k (by omega)), ce i hi, S]
      omega
    · rw [cl, S_congr (f := fun k => (colOf (mat n h) (j : Nat)).getD k 0) (g := fun k => en (mat n h) k j) (fun k hk => ce k hk)]
      have a := mat_col H hj n (by omega)
      have b := (H.1 j (by omega)).2.2.1
      have c := (H.1 (j + 1) (by omega)).2.2.1
      omega
theorem mat_of {x : List (List Int)} (s : sign x = true) {n : Nat} (hn : x.length = n) : mat n (hgt x) = x := by
  obtain ⟨q, _⟩ := sign_en s hn
  refine ext_en (mat_sq n _) q fun i j hi hj => ?_
  rw [mat_en _ hi hj]
  have := co_four x i j
  unfold hgt; omega
/-- The lesser and the greater one of two. -/
theorem hf_parity {n : Nat} {h : Nat → Nat → Int} (H : HF n h) {j : Nat} (hj : j ≤ n) : ∀ i, i ≤ n → (h i j - i - j) % 2 = 0
  | 0, _ => by have := (H.1 j hj).1; omega
  | i + 1, hi => by
    have ih := hf_parity H hj i (by omega)
    have := H.2.1 i j (by omega) hj
    omega
theorem cornerSum {x : List (List Int)} (s : sign x = true) {n : Nat} (hn : x.length = n) {i j : Nat} (hi : i ≤ n) (hj : j ≤ n) : Ans (fun k => impl_cornerSum.f k x i j) (co x i j) := by
  obtain ⟨q, _, h6, _⟩ := sign_en s hn
  have tl : (x.take i).length = i := by rw [List.length_take]; omega
  have key : ∀ (d t : Nat), t + d = i → Ans (fun k => impl_cornerSum.l0 k j (co x t j) (x.take i) (i : Int) (t : Int)) (co x i j) := by
    intro d
    induction d with
    | zero =>
      intro t h
      obtain rfl : t = i := by omega
      refine Ans.step ?_
      simp only [impl_cornerSum.l0]
      exact Ans.not (by omega) (Ans.pure _)
    | succ d ih =>
      intro t h
      have e := ih (t + 1) (by omega)
      rw [show ((t + 1 : Nat) : Int) = (t : Int) + 1 by omega] at e
      have rw_ : rd_L3 (x.take i) (t : Int) = x.getD t [] := by
        unfold rd_L3
        rw [Int.toNat_natCast, getD_at _ _ (by rw [tl]; omega), getD_at _ _ (by omega), List.getElem_take]
      have rl : (x.getD t []).length = n := q.row (by omega)
      have pr := (pre_in s hn).1 t j (by omega) hj
      have ci := co_in s hn (show t + 1 ≤ n by omega) hj
      have cr := co_row x t j
      have sm := sumOf ((x.getD t []).take j) (by rw [List.length_take]; omega)
      rw [show ((x.getD t []).take j).length = j by rw [List.length_take]; omega, S_congr (g := en x t) (fun l hl => by
        unfold en
        rw [getD_at _ _ (by rw [List.length_take]; omega), getD_at (x.getD t []) 0 (by omega), List.getElem_take]), wrap64_in _ ⟨by omega, by omega⟩] at sm
      refine Ans.step ?_
      simp only [impl_cornerSum.l0, wrap64_up (show (0 : Int) ≤ t by omega) (by omega), rw_, Int.toNat_natCast]
      refine Ans.yes (by omega) (Ans.yes (by omega) (Ans.yes (by omega) (Ans.yes (by omega) (Ans.yes (by omega) (sm.bind ?_)))))
      rw [← cr, wrap64_in _ ⟨by omega, by omega⟩]
      exact e
  simp only [impl_cornerSum.f, Int.toNat_natCast, Option.bind_some]
  have := key i 0 (by omega)
  rw [tl]
  exact Ans.yes (by omega) (Ans.yes (by omega) this)
theorem implHeights {x : List (List Int)} (s : sign x = true) : Ans (fun k => impl_heights.f k x) (HT x) := by
  obtain ⟨_, _, h6, _⟩ := sign_en s rfl
  simp only [impl_heights.f]
  rw [show wrap64 ((x.length : Int) + 1) = ((x.length + 1 : Nat) : Int) by rw [wrap64_in _ ⟨by omega, by omega⟩]; omega]
  refine (table2 (x.length + 1) (x.length + 1) (by omega) (by omega) (fun k x0_ x1_ => impl_heights_1.f k x0_ x1_ x) (fun i j => hgt x i j) (fun i j hi hj => ?_)).bind (Ans.pure _)
  simp only [impl_heights_1.f]
  have c := co_in s rfl (show i ≤ x.length by omega) (show j ≤ x.length by omega)
  refine (cornerSum s rfl (show i ≤ x.length by omega) (show j ≤ x.length by omega)).bind ?_
  rw [wrap64_in ((i : Int) + j) ⟨by omega, by omega⟩, wrap64_in (2 * co x i j) ⟨by omega, by omega⟩, wrap64_in _ ⟨by omega, by omega⟩]
  exact Ans.pure _
/-- The reference's corner sums and heights. -/
theorem at_en (x : List (List Int)) (i j : Nat) : rd (rd_L3 x (i : Int)) (j : Int) = en x i j := by simp only [rd, rd_L3, Int.toNat_natCast, en]
theorem sgCorners {x : List (List Int)} (s : sign x = true) {n : Nat} (hn : x.length = n) : Ans (fun k => spec_sgCorners.f k x) (tab n n (fun i j => co x (i + 1) (j + 1))) := by
  obtain ⟨q, _, h6, _⟩ := sign_en s hn
  have inner : ∀ (i : Nat), i < n → ∀ (d j : Nat) (y : List (List Int)), j + d = n → Sq n y → (∀ a b : Nat, a < n → b < n → (a < i ∨ a = i ∧ b < j) → (y.getD a []).getD b 0 = co x (a + 1) (b + 1)) →
      (∀ y', Sq n y' → (∀ a b : Nat, a < n → b < n → a < i + 1 → (y'.getD a []).getD b 0 = co x (a + 1) (b + 1)) → Ans (fun k => spec_sgCorners.l0 k x y' (n : Int) ((i + 1 : Nat) : Int)) (tab n n (fun i j => co x (i + 1) (j + 1)))) →
      Ans (fun k => spec_sgCorners.l1 k x y (i : Int) (S j (en x i)) (n : Int) (i : Int) (x.getD i []) (n : Int) (j : Int)) (tab n n (fun i j => co x (i + 1) (j + 1))) := by
    intro i hi d
    induction d with
    | zero =>
      intro j y hj hy hv nx
      refine Ans.step ?_
      simp only [spec_sgCorners.l1, wrap64_up (show (0 : Int) ≤ i by omega) (by omega)]
      have := nx y hy (fun a b ha hb hlt => hv a b ha hb (by omega))
      rw [show ((i + 1 : Nat) : Int) = (i : Int) + 1 by omega] at this
      exact Ans.not (by omega) this
    | succ d ih =>
      intro j y hj hy hv nx
      have rx := q.row hi
      have ly := hy.1
      have pr := (pre_in s hn).1 i (j + 1) hi (by omega)
      have sj : S (j + 1) (en x i) = S j (en x i) + en x i j := rfl
      have er : rd (x.getD i []) (j : Int) = en x i j := by simp only [rd, Int.toNat_natCast, en]
      have wa : wrap64 (S j (en x i) + en x i j) = S (j + 1) (en x i) := by rw [← sj]; exact wrap64_in _ ⟨by omega, by omega⟩
      obtain ⟨q1, q2⟩ := put_sq hy i j hi (by omega) (S (j + 1) (en x i))
      have ry : (rd_L3 y (i : Int)).length = n := by unfold rd_L3; rw [Int.toNat_natCast]; exact hy.row hi
      refine Ans.step ?_
      simp only [spec_sgCorners.l1, er, wa, wrap64_up (show (0 : Int) ≤ j by omega) (by omega), Int.toNat_natCast, Option.bind_some]
      refine Ans.yes (by omega) (Ans.yes (by omega) (Ans.yes (by omega) (Ans.yes (by omega) (Ans.yes (by omega) (Ans.yes (by omega) ?_)))))
      rw [show rd_L3 y (i : Int) = y.getD i [] by unfold rd_L3; rw [Int.toNat_natCast]]
      by_cases c : i = 0
      · have e := ih (j + 1) _ (by omega) q1 (fun a b ha hb hlt => by
          rw [q2 a b ha hb]
          by_cases c1 : a = i ∧ b = j
          · rw [if_pos c1, c1.1, c1.2, c, co_row, show co x 0 (j + 1) = 0 from rfl, Int.zero_add]
          · rw [if_neg c1]; exact hv a b ha hb (by omega)) nx
        rw [show ((j + 1 : Nat) : Int) = (j : Int) + 1 by omega] at e
        exact Ans.not (by omega) e
      · have w1 : wrap64 ((i : Int) - 1) = ((i - 1 : Nat) : Int) := by rw [wrap64_in _ ⟨by omega, by omega⟩]; omega
        have z1 := q1.row hi
        have z2 := q1.row (show i - 1 < n by omega)
        have ci := co_in s hn (show i + 1 ≤ n by omega) (show j + 1 ≤ n by omega)
        have cr := co_row x i (j + 1)
        have v1 := q2 i j hi (by omega)
        rw [if_pos ⟨rfl, rfl⟩] at v1
        have v2 := q2 (i - 1) j (by omega) (by omega)
        rw [if_neg (by omega), hv (i - 1) j (by omega) (by omega) (Or.inl (by omega)), show i - 1 + 1 = i by omega] at v2
        obtain ⟨q3, q4⟩ := put_sq q1 i j hi (by omega) (co x (i + 1) (j + 1))
        have e := ih (j + 1) _ (by omega) q3 (fun a b ha hb hlt => by
          rw [q4 a b ha hb]
          by_cases c1 : a = i ∧ b = j
          · rw [if_pos c1, c1.1, c1.2]
          · rw [if_neg c1, q2 a b ha hb, if_neg c1]; exact hv a b ha hb (by omega)) nx
        rw [show ((j + 1 : Nat) : Int) = (j : Int) + 1 by omega] at e
        rw [w1]
        simp only [rd, rd_L3, Int.toNat_natCast]
        rw [v1, v2, show wrap64 (S (j + 1) (en x i) + co x i (j + 1)) = co x (i + 1) (j + 1) by rw [cr, Int.add_comm]; exact wrap64_in _ ⟨by omega, by omega⟩]
        exact Ans.yes (by omega) (Ans.yes (by omega) (Ans.yes (by omega) (Ans.yes (by omega) (Ans.yes (by omega) e))))
  have key : ∀ (d i : Nat) (y : List (List Int)), i + d = n → Sq n y → (∀ a b : Nat, a < n → b < n → a < i → (y.getD a []).getD b 0 = co x (a + 1) (b + 1)) → Ans (fun k => spec_sgCorners.l0 k x y (n : Int) (i : Int)) (tab n n (fun i j => co x (i + 1) (j + 1))) := by
    intro d
    induction d with
    | zero =>
      intro i y h1 hy hv
      rw [tab_is hy _ (fun a b ha hb => (hv a b ha hb (by omega)).symm)]
      exact Ans.step (by simp only [spec_sgCorners.l0]; exact Ans.not (by omega) (Ans.pure _))
    | succ d ih =>
      intro i y h1 hy hv
      have rx : (rd_L3 x (i : Int)).length = n := by unfold rd_L3; rw [Int.toNat_natCast]; exact q.row (by omega)
      have := inner i (by omega) n 0 y (by omega) hy (fun a b ha hb hlt => hv a b ha hb (by omega)) (fun y' hy' hv' => ih (i + 1) y' (by omega) hy' hv')
      refine Ans.step ?_
      simp only [spec_sgCorners.l0, rx]
      exact Ans.yes (by omega) (Ans.yes (by omega) (Ans.yes (by omega) (by simpa only [rd_L3, Int.toNat_natCast, S, Int.natCast_zero] using this)))
  simp only [spec_sgCorners.f, hn]
  exact (sgZero n (by omega)).bind (by
    have := key n 0 (List.replicate n (List.replicate n 0)) (by omega) (rep_sq n 0) (fun a b ha hb hlt => by omega)
    simpa using this)
theorem specHeights {x : List (List Int)} (s : sign x = true) : Ans (fun k => spec_heOf.f k x) (HT x) := by
  obtain ⟨n, hn⟩ : ∃ n, x.length = n := ⟨_, rfl⟩
  obtain ⟨q, _, h6, _⟩ := sign_en s hn
  have cs := tab_sq n (fun i j => co x (i + 1) (j + 1))
  have at_ : ∀ i j : Nat, i ≤ n → j ≤ n → spec_sgAt.f (tab n n (fun i j => co x (i + 1) (j + 1))) ((i : Int) - 1) ((j : Int) - 1) = some (co x i j) := by
    intro i j hi hj
    rw [sgAt cs _ _ (by omega) (by omega)]
    unfold sgat
    by_cases c : i = 0
    · rw [if_pos (by omega), c]; rfl
    · by_cases d : j = 0
      · rw [if_neg (by omega), if_pos (by omega), d, co_comm]; rfl
      · rw [if_neg (by omega), if_neg (by omega), show (i : Int) - 1 = ((i - 1 : Nat) : Int) by omega, show (j : Int) - 1 = ((j - 1 : Nat) : Int) by omega, at_en, tab_en _ (by omega) (by omega), show i - 1 + 1 = i by omega, show j - 1 + 1 = j by omega]
  have inner : ∀ (i : Nat) (y : List (List Int)), i ≤ n → y.length = i → Ans (fun k => spec_heOf.l0 k x (tab n n (fun i j => co x (i + 1) (j + 1))) (y ++ [(List.range (n + 1)).map fun j => hgt x i j]) ((i + 1 : Nat) : Int)) (HT x) →
      ∀ (d j : Nat), j + d = n + 1 → Ans (fun k => spec_heOf.l1 k x (tab n n (fun i j => co x (i + 1) (j + 1))) y (i : Int) ((List.range j).map fun j => hgt x i j) (j : Int)) (HT x) := by
    intro i y hi hy nx d
    induction d with
    | zero =>
      intro j h
      obtain rfl : j = n + 1 := by omega
      refine Ans.step ?_
      simp only [spec_heOf.l1, hn, wrap64_up (show (0 : Int) ≤ i by omega) (by omega)]
      rw [show ((i + 1 : Nat) : Int) = (i : Int) + 1 by omega] at nx
      exact Ans.not (by omega) (Ans.yes (by omega) nx)
    | succ d ih =>
      intro j h
      have e := ih (j + 1) (by omega)
      have c := co_in s hn hi (show j ≤ n by omega)
      rw [List.range_succ, List.map_append, show ((j + 1 : Nat) : Int) = (j : Int) + 1 by omega] at e
      refine Ans.step ?_
      simp only [spec_heOf.l1, hn, wrap64_up (show (0 : Int) ≤ j by omega) (by omega), wrap64_in ((i : Int) - 1) ⟨by omega, by omega⟩, wrap64_in ((j : Int) - 1) ⟨by omega, by omega⟩, at_ i j hi (by omega), Option.bind_some]
      rw [wrap64_in ((i : Int) + j) ⟨by omega, by omega⟩, wrap64_in (2 * co x i j) ⟨by omega, by omega⟩, wrap64_in ((i : Int) + j - 2 * co x i j) ⟨by omega, by omega⟩]
      exact Ans.yes (by omega) (Ans.yes (by rw [List.length_map, List.length_range]; omega) e)
  have key : ∀ (d i : Nat), i + d = n + 1 → Ans (fun k => spec_heOf.l0 k x (tab n n (fun i j => co x (i + 1) (j + 1))) ((List.range i).map fun i => (List.range (n + 1)).map fun j => hgt x i j) (i : Int)) (HT x) := by
    intro d
    induction d with
    | zero =>
      intro i h
      obtain rfl : i = n + 1 := by omega
      refine Ans.step ?_
      simp only [spec_heOf.l0, hn]
      unfold HT tab
      rw [hn]
      exact Ans.not (by omega) (Ans.pure _)
    | succ d ih =>
      intro i h
      have e := ih (i + 1) (by omega)
      rw [List.range_succ (n := i), List.map_append] at e
      have := inner i ((List.range i).map fun i => (List.range (n + 1)).map fun j => hgt x i j) (by omega) (by rw [List.length_map, List.length_range]) e (n + 1) 0 (by omega)
      refine Ans.step ?_
      simp only [spec_heOf.l0, hn]
      exact Ans.yes (by omega) this
  simp only [spec_heOf.f]
  exact (sgCorners s hn).bind (key (n + 1) 0 (by omega))
/-- One table is nowhere above another. -/
def leRow (A B : List (List Int)) (i : Nat) : Nat → Nat → Bool
  | 0, _ => true
  | d + 1, j => decide (en A i j ≤ en B i j) && leRow A B i d (j + 1)
def leTab (A B : List (List Int)) (m : Nat) : Nat → Nat → Bool
  | 0, _ => true
  | d + 1, i => leRow A B i m 0 && leTab A B m d (i + 1)
theorem leRow_iff (A B : List (List Int)) (i : Nat) : ∀ d j, leRow A B i d j = true ↔ ∀ l, j ≤ l → l < j + d → en A i l ≤ en B i l
  | 0, j => ⟨fun _ l h1 h2 => absurd h2 (by omega), fun _ => rfl⟩
  | d + 1, j => by
    rw [leRow, Bool.and_eq_true, decide_eq_true_iff, leRow_iff A B i d (j + 1)]
    constructor
    · rintro ⟨h1, h2⟩ l h3 h4
      by_cases e : l = j
      · rw [e]; exact h1
      · exact h2 l (by omega) (by omega)
    · exact fun h => ⟨h j (by omega) (by omega), fun l h3 h4 => h l (by omega) (by omega)⟩
theorem leTab_iff (A B : List (List Int)) (m : Nat) : ∀ d i, leTab A B m d i = true ↔ ∀ t l, i ≤ t → t < i + d → l < m → en A t l ≤ en B t l
  | 0, i => ⟨fun _ t l h1 h2 => absurd h2 (by omega), fun _ => rfl⟩
  | d + 1, i => by
    rw [leTab, Bool.and_eq_true, leRow_iff, leTab_iff A B m d (i + 1)]
    constructor
    · rintro ⟨h1, h2⟩ t l h3 h4 h5
      by_cases e : t = i
      · rw [e]; exact h1 l (by omega) (by omega)
      · exact h2 t l (by omega) (by omega) h5
    · exact fun h => ⟨fun l h3 h4 => h i l (by omega) (by omega) (by omega), fun t l h3 h4 h5 => h t l (by omega) (by omega) h5⟩
theorem below_impl {m : Nat} {A B : List (List Int)} (ha : Sq m A) (hb : Sq m B) (hm : m ≤ 1000) : Ans (fun k => impl_isBelow.l0 k B A (m : Int) 0) (leTab A B m m 0) := by
  have la := ha.1
  have lb := hb.1
  have inner : ∀ (i dn : Nat), i < m → Ans (fun k => impl_isBelow.l0 k B A (m : Int) ((i + 1 : Nat) : Int)) (leTab A B m dn (i + 1)) → ∀ (d j : Nat), j + d = m →
      Ans (fun k => impl_isBelow.l1 k B (i : Int) A (m : Int) (i : Int) (A.getD i []) (m : Int) (j : Int)) (leRow A B i d j && leTab A B m dn (i + 1)) := by
    intro i dn hi nx d
    induction d with
    | zero =>
      intro j h
      refine Ans.step ?_
      simp only [impl_isBelow.l1, wrap64_up (show (0 : Int) ≤ i by omega) (by omega), leRow, Bool.true_and]
      rw [show ((i + 1 : Nat) : Int) = (i : Int) + 1 by omega] at nx
      exact Ans.not (by omega) nx
    | succ d ih =>
      intro j h
      have e := ih (j + 1) (by omega)
      rw [show ((j + 1 : Nat) : Int) = (j : Int) + 1 by omega] at e
      have ra := ha.row hi
      have rb : (rd_L3 B (i : Int)).length = m := by unfold rd_L3; rw [Int.toNat_natCast]; exact hb.row hi
      have e1 : rd (A.getD i []) (j : Int) = en A i j := by simp only [rd, Int.toNat_natCast, en]
      refine Ans.step ?_
      simp only [impl_isBelow.l1, wrap64_up (show (0 : Int) ≤ j by omega) (by omega), e1, at_en, leRow]
      refine Ans.yes (by omega) (Ans.yes (by omega) (Ans.yes (by omega) (Ans.yes (by omega) (Ans.yes (by omega) (Ans.yes (by omega) ?_)))))
      by_cases c : en A i j ≤ en B i j
      · rw [decide_eq_true c, Bool.true_and]; exact Ans.not (by omega) e
      · rw [decide_eq_false c, Bool.false_and, Bool.false_and]; exact Ans.yes (by omega) (Ans.pure _)
  have key : ∀ (d i : Nat), i + d = m → Ans (fun k => impl_isBelow.l0 k B A (m : Int) (i : Int)) (leTab A B m d i) := by
    intro d
    induction d with
    | zero =>
      intro i h
      refine Ans.step ?_
      simp only [impl_isBelow.l0, leTab]
      exact Ans.not (by omega) (Ans.pure _)
    | succ d ih =>
      intro i h
      have := inner i d (by omega) (ih (i + 1) (by omega)) m 0 (by omega)
      have ra : (rd_L3 A (i : Int)).length = m := by unfold rd_L3; rw [Int.toNat_natCast]; exact ha.row (by omega)
      refine Ans.step ?_
      simp only [impl_isBelow.l0, leTab, ra]
      exact Ans.yes (by omega) (Ans.yes (by omega) (Ans.yes (by omega) (by simpa only [rd_L3, Int.toNat_natCast, Int.natCast_zero] using this)))
  exact key m 0 (by omega)
theorem below_spec {m : Nat} {A B : List (List Int)} (ha : Sq m A) (hb : Sq m B) (hm : m ≤ 1000) : Ans (fun k => spec_heBelow.l0 k B A (m : Int) 0) (leTab A B m m 0) := by
  have la := ha.1
  have lb := hb.1
  have inner : ∀ (i dn : Nat), i < m → Ans (fun k => spec_heBelow.l0 k B A (m : Int) ((i + 1 : Nat) : Int)) (leTab A B m dn (i + 1)) → ∀ (d j : Nat), j + d = m →
      Ans (fun k => spec_heBelow.l1 k B (i : Int) A (m : Int) (i : Int) (A.getD i []) (m : Int) (j : Int)) (leRow A B i d j && leTab A B m dn (i + 1)) := by
    intro i dn hi nx d
    induction d with
    | zero =>
      intro j h
      refine Ans.step ?_
      simp only [spec_heBelow.l1, wrap64_up (show (0 : Int) ≤ i by omega) (by omega), leRow, Bool.true_and]
      rw [show ((i + 1 : Nat) : Int) = (i : Int) + 1 by omega] at nx
      exact Ans.not (by omega) nx
    | succ d ih =>
      intro j h
      have e := ih (j + 1) (by omega)
      rw [show ((j + 1 : Nat) : Int) = (j : Int) + 1 by omega] at e
      have ra := ha.row hi
      have rb : (rd_L3 B (i : Int)).length = m := by unfold rd_L3; rw [Int.toNat_natCast]; exact hb.row hi
      have e1 : rd (A.getD i []) (j : Int) = en A i j := by simp only [rd, Int.toNat_natCast, en]
      refine Ans.step ?_
      simp only [spec_heBelow.l1, wrap64_up (show (0 : Int) ≤ j by omega) (by omega), e1, at_en, leRow]
      refine Ans.yes (by omega) (Ans.yes (by omega) (Ans.yes (by omega) (Ans.yes (by omega) (Ans.yes (by omega) (Ans.yes (by omega) ?_)))))
      by_cases c : en A i j ≤ en B i j
      · rw [decide_eq_true c, Bool.true_and]; exact Ans.not (by omega) e
      · rw [decide_eq_false c, Bool.false_and, Bool.false_and]; exact Ans.yes (by omega) (Ans.pure _)
  have key : ∀ (d i : Nat), i + d = m → Ans (fun k => spec_heBelow.l0 k B A (m : Int) (i : Int)) (leTab A B m d i) := by
    intro d
    induction d with
    | zero =>
      intro i h
      refine Ans.step ?_
      simp only [spec_heBelow.l0, leTab]
      exact Ans.not (by omega) (Ans.pure _)
    | succ d ih =>
      intro i h
      have := inner i d (by omega) (ih (i + 1) (by omega)) m 0 (by omega)
      have ra : (rd_L3 A (i : Int)).length = m := by unfold rd_L3; rw [Int.toNat_natCast]; exact ha.row (by omega)
      refine Ans.step ?_
      simp only [spec_heBelow.l0, leTab, ra]
      exact Ans.yes (by omega) (Ans.yes (by omega) (Ans.yes (by omega) (by simpa only [rd_L3, Int.toNat_natCast, Int.natCast_zero] using this)))
  exact key m 0 (by omega)
/-- One sign matrix lies below another: the answer. -/
def bel (x y : List (List Int)) : Bool := leTab (HT x) (HT y) (x.length + 1) (x.length + 1) 0
theorem bel_iff {x y : List (List Int)} {n : Nat} (hx : x.length = n) (hy : y.length = n) : bel x y = true ↔ ∀ i j, i ≤ n → j ≤ n → hgt x i j ≤ hgt y i j := by
  unfold bel
  rw [leTab_iff, hx]
  constructor
  · intro h i j hi hj
    have := h i j (by omega) (by omega) (by omega)
    rwa [HT_en hx hi hj, HT_en hy hi hj] at this
  · intro h i j _ hi hj
    rw [HT_en hx (by omega) (by omega), HT_en hy (by omega) (by omega)]
    exact h i j (by omega) (by omega)
theorem isBelow {x y : List (List Int)} (s : sign x = true) (t : sign y = true) (h : x.length = y.length) : Ans (fun k => impl_isBelow.f k x y) (bel x y) := by
  have h6 := (sign_en s rfl).2.2.1
  have a := HT_sq x
  have b := HT_sq y
  rw [← h] at b
  simp only [impl_isBelow.f]
  refine (implHeights s).bind ((implHeights t).bind ?_)
  have := below_impl a b (by omega)
  rw [a.1]; exact this
/-- What both sides answer on heights and on the order. -/
def two (x y : List (List Int)) : Bool := sign x && (sign y && decide (x.length = y.length))
theorem two_iff {x y : List (List Int)} : two x y = true ↔ sign x = true ∧ sign y = true ∧ x.length = y.length := by unfold two; simp
def isb (x y : List (List Int)) : Bool × Bool := if two x y = true then (bel x y, true) else (false, false)
theorem len_eq (a b : Nat) : ((a : Int) == (b : Int)) = decide (a = b) := by
  by_cases c : a = b
  · subst c; simp
  · rw [decide_eq_false c]; exact beq_eq_false_iff_ne.mpr (by omega)
theorem arePair {x y : List (List Int)} (hx : x.length ≤ 1048576) (hy : y.length ≤ 1048576) : Ans (fun k => impl_arePair.f k x y) (two x y) := by
  simp only [impl_arePair.f, two, len_eq]
  refine (isSign x hx).bind ?_
  by_cases s : sign x = true
  · refine Ans.yes s ((isSign y hy).bind ?_)
    by_cases t : sign y = true
    · rw [s, t, Bool.true_and, Bool.true_and]; exact Ans.yes rfl (Ans.pure _)
    · rw [s, Bool.true_and, Bool.eq_false_iff.mpr t, Bool.false_and]; exact Ans.not (by simp) (Ans.pure _)
  · rw [Bool.eq_false_iff.mpr s, Bool.false_and]; exact Ans.not (by simp) (Ans.pure _)
theorem hePair {x y : List (List Int)} (hx : x.length ≤ 1048576) (hy : y.length ≤ 1048576) : Ans (fun k => spec_hePair.f k x y) (two x y) := by
  simp only [spec_hePair.f, two, len_eq]
  refine (sgGood x hx).bind ?_
  by_cases s : sign x = true
  · refine Ans.yes s ((sgGood y hy).bind ?_)
    by_cases t : sign y = true
    · rw [s, t, Bool.true_and, Bool.true_and]; exact Ans.yes rfl (Ans.pure _)
    · rw [s, Bool.true_and, Bool.eq_false_iff.mpr t, Bool.false_and]; exact Ans.not (by simp) (Ans.pure _)
  · rw [Bool.eq_false_iff.mpr s, Bool.false_and]; exact Ans.not (by simp) (Ans.pure _)
theorem implBelow {x y : List (List Int)} (hx : x.length ≤ 1048576) (hy : y.length ≤ 1048576) : Ans (fun k => impl_IsBelow.f k x y) (isb x y) := by
  simp only [impl_IsBelow.f, isb]
  refine (arePair hx hy).bind ?_
  by_cases c : two x y = true
  · obtain ⟨s, t, h⟩ := two_iff.mp c
    rw [if_pos c]; exact Ans.yes c ((isBelow s t h).bind (Ans.pure _))
  · rw [if_neg c]; exact Ans.not c (Ans.pure _)
theorem specBelow {x y : List (List Int)} (hx : x.length ≤ 1048576) (hy : y.length ≤ 1048576) : Ans (fun k => spec_IsBelow.f k x y) (isb x y) := by
  simp only [spec_IsBelow.f, isb]
  refine (hePair hx hy).bind ?_
  by_cases c : two x y = true
  · obtain ⟨s, t, h⟩ := two_iff.mp c
    have a := HT_sq x
    have b := HT_sq y
    rw [← h] at b
    have h6 := (sign_en s rfl).2.2.1
    have := below_spec a b (by omega)
    rw [if_pos c]
    refine Ans.yes c ((specHeights s).bind ((specHeights t).bind ((show Ans (fun k => spec_heBelow.f k (HT x) (HT y)) (bel x y) from ?_).bind (Ans.pure _))))
    simp only [spec_heBelow.f, a.1]
    exact this
  · rw [if_neg c]; exact Ans.not c (Ans.pure _)
/-- What a change of a sign matrix answers. -/
def chg (f : List (List Int) → List (List Int)) (x : List (List Int)) : List (List Int) × Bool := if sign x = true then (f x, true) else ([], false)
theorem chg_of {x : List (List Int)} (s : sign x = true) (f : List (List Int) → List (List Int)) : chg f x = (f x, true) := if_pos s
theorem changed {x : List (List Int)} (hx : x.length ≤ 1048576) (p : Nat → List (List Int) → Option (List (List Int))) (f : List (List Int) → List (List Int)) (h : sign x = true → Ans (fun k => p k x) (f x)) : Ans (fun k => impl_changed.f k x (p k)) (chg f x) := by
  simp only [impl_changed.f, chg]
  refine (isSign x hx).bind ?_
  by_cases s : sign x = true
  · rw [if_pos s]; exact Ans.yes s ((h s).bind (Ans.pure _))
  · rw [if_neg s]; exact Ans.not s (Ans.pure _)
theorem heightsOf {x : List (List Int)} (hx : x.length ≤ 1048576) : Ans (fun k => impl_HeightsOf.f k x) (chg HT x) := changed hx (fun k x => impl_heights.f k x) HT implHeights
theorem specHeightsOf {x : List (List Int)} (hx : x.length ≤ 1048576) : Ans (fun k => spec_HeightsOf.f k x) (chg HT x) := by
  simp only [spec_HeightsOf.f, chg]
  refine (sgGood x hx).bind ?_
  by_cases s : sign x = true
  · rw [if_pos s]; exact Ans.yes s ((specHeights s).bind (Ans.pure _))
  · rw [if_neg s]; exact Ans.not s (Ans.pure _)
theorem dualOf {x : List (List Int)} (hx : x.length ≤ 1048576) : Ans (fun k => impl_DualOf.f k x) (chg mir x) := by
  simp only [impl_DualOf.f]
  exact (changed hx (fun k x => impl_mirrored.f k x) mir fun s => mirrored _ x (sign_sq s).1 (by omega)).bind (Ans.pure _)
/-- The dual, the least and the greatest. -/
theorem S_turn (f : Nat → Int) (n : Nat) : ∀ j, j ≤ n → S j (fun l => f (n - 1 - l)) + S (n - j) f = S n f
  | 0, _ => by simp [S]
  | j + 1, h => by
    have ih := S_turn f n j (by omega)
    have e : S (n - j) f = S (n - (j + 1)) f + f (n - 1 - j) := by
      rw [show n - j = (n - (j + 1)) + 1 by omega, S, show n - 1 - j = n - (j + 1) by omega]
    rw [S]; omega
theorem S_minus (f g : Nat → Int) : ∀ n, S n (fun k => f k - g k) = S n f - S n g
  | 0 => by simp [S]
  | n + 1 => by rw [S, S, S, S_minus f g n]; omega
theorem hgt_mir {x : List (List Int)} (s : sign x = true) {n : Nat} (hn : x.length = n) {i j : Nat} (hi : i ≤ n) (hj : j ≤ n) : hgt (mir x) i j = (n : Int) - hgt x i (n - j) := by
  obtain ⟨q, _, _, _, R, _⟩ := sign_en s hn
  have e : co (mir x) i j = (i : Int) - co x i (n - j) := by
    unfold co
    rw [S_congr (f := fun k => S j (en (mir x) k)) (g := fun k => 1 - S (n - j) (en x k)) (fun k hk => ?_), S_minus (fun _ => 1) (fun k => S (n - j) (en x k)), S_one]
    have a := S_turn (en x k) n j hj
    have b := R k (by omega)
    rw [S_congr (f := en (mir x) k) (g := fun l => en x k (n - 1 - l)) (fun l hl => mir_at q (by omega) (by omega))]
    omega
  unfold hgt
  omega
theorem bel_mir {x y : List (List Int)} (s : sign x = true) (t : sign y = true) (h : x.length = y.length) : bel (mir y) (mir x) = bel x y := by
  obtain ⟨n, hn⟩ : ∃ n, x.length = n := ⟨_, rfl⟩
  have hm : y.length = n := by omega
  have lx : (mir x).length = n := (mir_sq (sign_en s hn).1).1
  have ly : (mir y).length = n := (mir_sq (sign_en t hm).1).1
  rw [Bool.eq_iff_iff, bel_iff ly lx, bel_iff hn hm]
  constructor
  · intro h i j hi hj
    have := h i (n - j) hi (by omega)
    rw [hgt_mir s hn hi (by omega), hgt_mir t hm hi (by omega), show n - (n - j) = j by omega] at this
    omega
  · intro h i j hi hj
    have := h i (n - j) hi (by omega)
    rw [hgt_mir s hn hi hj, hgt_mir t hm hi hj]
    omega
theorem bel_anti {x y : List (List Int)} (s : sign x = true) (t : sign y = true) (h : x.length = y.length) : (bel x y = true ∧ bel y x = true) ↔ x = y := by
  obtain ⟨n, hn⟩ : ∃ n, x.length = n := ⟨_, rfl⟩
  have hm : y.length = n := by omega
  rw [bel_iff hn hm, bel_iff hm hn]
  constructor
  · rintro ⟨a, b⟩
    exact HT_inj (sign_en s hn).1 (sign_en t hm).1 fun i j hi hj => Int.le_antisymm (a i j hi hj) (b i j hi hj)
  · rintro rfl; exact ⟨fun _ _ _ _ => Int.le_refl _, fun _ _ _ _ => Int.le_refl _⟩
def lea (n : Nat) : List (List Int) := tab n n (fun i j => if i = j then 1 else 0)
theorem lea_sign : ∀ n : Nat, 1 ≤ n → n ≤ 6 → sign (lea n) = true := by
  intro n h1 h2
  rcases (show n = 1 ∨ n = 2 ∨ n = 3 ∨ n = 4 ∨ n = 5 ∨ n = 6 by omega) with rfl | rfl | rfl | rfl | rfl | rfl
  all_goals decide +kernel
theorem lea_co : ∀ n : Nat, n ≤ 6 → ∀ i, i ≤ n → ∀ j, j ≤ n → co (lea n) i j = (min i j : Nat) := by decide +kernel
theorem bel_lea {x : List (List Int)} (s : sign x = true) : bel (lea x.length) x = true := by
  obtain ⟨n, hn⟩ : ∃ n, x.length = n := ⟨_, rfl⟩
  rw [hn, bel_iff (show (lea n).length = n from (tab_sq n _).1) hn]
  intro i j hi hj
  have c := co_in s hn hi hj
  have l := lea_co n (sign_en s hn).2.2.1 i hi j hj
  unfold hgt
  rw [l]; omega
theorem implLea (n : Nat) (hn : n ≤ 6) : Ans (fun k => impl_least.f k n) (lea n) := by
  simp only [impl_least.f]
  refine (table n n (by omega) (by omega) (fun x0_ x1_ => impl_least_1.f x0_ x1_) (fun i j => if i = j then 1 else 0) (fun i j hi hj => ?_)).bind (Ans.pure _)
  simp only [impl_least_1.f, impl_bit.f, len_eq]
  by_cases c : i = j
  · simp [c]
  · simp [c]
theorem isSide (n : Nat) (hn : n ≤ 1048576) : impl_isSide.f (n : Int) = some (decide (1 ≤ n ∧ n ≤ 6)) := by
  simp only [impl_isSide.f, impl_within.f]
  by_cases a : 1 ≤ n
  · rw [if_pos (by omega)]; simp only [Option.bind_some]; congr 1; rw [decide_eq_decide]; omega
  · rw [if_neg (by omega)]; simp only [Option.bind_some]; congr 1; exact (decide_eq_false (by omega)).symm
theorem leastSigns (n : Nat) (h1 : 1 ≤ n) (h6 : n ≤ 6) : Ans (fun k => impl_LeastSigns.f k n) (lea n, true) := by
  simp only [impl_LeastSigns.f, isSide n (by omega), Option.bind_some]
  exact Ans.yes (decide_eq_true ⟨h1, h6⟩) ((implLea n h6).bind (Ans.pure _))
theorem greatestSigns (n : Nat) (h1 : 1 ≤ n) (h6 : n ≤ 6) : Ans (fun k => impl_GreatestSigns.f k n) (mir (lea n), true) := by
  simp only [impl_GreatestSigns.f, isSide n (by omega), Option.bind_some]
  exact Ans.yes (decide_eq_true ⟨h1, h6⟩) ((implLea n h6).bind ((mirrored n (lea n) (tab_sq n _) (by omega)).bind (Ans.pure _)))
/-- The statement's own comparison of tables. -/
theorem hRowsD {x y : List (List Int)} (hx : x.length ≤ 1000000) (hr : ∀ r ∈ x, r.length ≤ 1000000) : Ans (fun k => laws_hRows.f k x y) (decide (x = y)) := by
  simp only [laws_hRows.f]
  by_cases hl : x.length = y.length
  · have key : ∀ (d i : Nat), i + d = x.length → Ans (fun k => laws_hRows.l0 k x y (x.length : Int) (i : Int)) (decide (x.drop i = y.drop i)) := by
      intro d
      induction d with
      | zero =>
        intro i h
        rw [List.drop_eq_nil_of_le (show x.length ≤ i by omega), List.drop_eq_nil_of_le (show y.length ≤ i by omega)]
        refine Ans.step ?_
        simp only [laws_hRows.l0]
        exact Ans.not (by omega) (Ans.pure _)
      | succ d ih =>
        intro i h
        have e := ih (i + 1) (by omega)
        rw [show ((i + 1 : Nat) : Int) = (i : Int) + 1 by omega] at e
        have s := hSame (x.getD i []) (y.getD i []) (by have := hr _ (getD_mem (x := x) [] (show i < x.length by omega)); omega)
        rw [drop_at x [] (show i < x.length by omega), drop_at y [] (show i < y.length by omega)]
        refine Ans.step ?_
        simp only [laws_hRows.l0, rd_L3, Int.toNat_natCast, wrap64_up (show (0 : Int) ≤ i by omega) (by omega)]
        refine Ans.yes (by omega) (Ans.yes (by omega) (Ans.yes (by omega) (Ans.yes (by omega) (s.bind ?_))))
        by_cases c : x.getD i [] = y.getD i []
        · rw [c, show decide (y.getD i [] :: x.drop (i + 1) = y.getD i [] :: y.drop (i + 1)) = decide (x.drop (i + 1) = y.drop (i + 1)) by simp]
          exact Ans.yes (by simp) e
        · rw [show decide (x.getD i [] :: x.drop (i + 1) = y.getD i [] :: y.drop (i + 1)) = false by simp only [decide_eq_false_iff_not]; intro h; exact c (List.cons.inj h).1]
          exact Ans.not (by simpa using c) (Ans.pure _)
    refine Ans.yes (by omega) ?_
    have := key x.length 0 (by omega)
    rwa [List.drop_zero, List.drop_zero] at this
  · rw [decide_eq_false (fun h => hl (by rw [h]))]
    exact Ans.not (by omega) (Ans.pure _)
def allIn (x : List Int) (lo hi : Int) : Bool := x.all fun a => decide (lo ≤ a ∧ a ≤ hi)
theorem l1All (x : List Int) (hx : x.length ≤ 17592186044416) (lo hi : Int) : Ans (fun k => spec_l1All.f k x lo hi) (allIn x lo hi) := by
  have key : ∀ (d : Nat) (i : Int), 0 ≤ i → i + d = x.length → Ans (fun k => spec_l1All.l0 k lo hi x (x.length : Int) i) (allIn (x.drop i.toNat) lo hi) := by
    intro d
    induction d with
    | zero =>
      intro i h0 h1
      rw [List.drop_eq_nil_of_le (by omega)]; refine Ans.step ?_
      simp only [spec_l1All.l0]; exact Ans.not (by omega) (Ans.pure _)
    | succ d ih =>
      intro i h0 h1
      have hd := drop_at x 0 (show i.toNat < x.length by omega)
      have e := ih (i + 1) (by omega) (by omega)
      rw [hd, allIn, List.all_cons, show decide (lo ≤ x.getD i.toNat 0 ∧ x.getD i.toNat 0 ≤ hi) = decide (lo ≤ rd x i ∧ rd x i ≤ hi) from rfl]
      refine Ans.step ?_
      simp only [spec_l1All.l0, l1In, Option.bind_some, wrap64_up h0 (by omega : i ≤ 4611686018427387904)]
      refine Ans.yes (by omega) (Ans.yes h0 (Ans.yes (by omega) ?_))
      by_cases c : decide (lo ≤ rd x i ∧ rd x i ≤ hi) = true
      · rw [c, Bool.true_and]; rw [show (i + 1).toNat = i.toNat + 1 by omega] at e; exact Ans.yes rfl e
      · rw [Bool.eq_false_iff.mpr c, Bool.false_and]; exact Ans.not (by simp) (Ans.pure _)
  exact key x.length 0 (by omega) (by omega)
theorem l1Same (x y : List Int) (hx : x.length ≤ 17592186044416) : Ans (fun k => spec_l1Same.f k x y) (decide (x = y)) := by
  simp only [spec_l1Same.f]
  by_cases hl : (x.length : Int) = (y.length : Int)
  case neg => rw [decide_eq_false (fun h => hl (by rw [h]))]; exact Ans.not hl (Ans.pure _)
  have key : ∀ (d : Nat) (i : Int), 0 ≤ i → i + d = x.length → Ans (fun k => spec_l1Same.l0 k x y (x.length : Int) i) (decide (x.drop i.toNat = y.drop i.toNat)) := by
    intro d
    induction d with
    | zero =>
      intro i h0 h1
      rw [List.drop_eq_nil_of_le (by omega), List.drop_eq_nil_of_le (by omega)]; refine Ans.step ?_
      simp only [spec_l1Same.l0]; exact Ans.not (by omega) (Ans.pure _)
    | succ d ih =>
      intro i h0 h1
      have e := ih (i + 1) (by omega) (by omega)
      rw [show (i + 1).toNat = i.toNat + 1 by omega] at e
      rw [drop_at x 0 (show i.toNat < x.length by omega), drop_at y 0 (show i.toNat < y.length by omega), show x.getD i.toNat 0 = rd x i from rfl, show y.getD i.toNat 0 = rd y i from rfl]
      refine Ans.step ?_
      simp only [spec_l1Same.l0, wrap64_up h0 (by omega : i ≤ 4611686018427387904)]
      refine Ans.yes (by omega) (Ans.yes h0 (Ans.yes (by omega) (Ans.yes (by omega) ?_)))
      by_cases c : rd x i = rd y i
      · rw [show decide (rd x i :: x.drop (i.toNat + 1) = rd y i :: y.drop (i.toNat + 1)) = decide (x.drop (i.toNat + 1) = y.drop (i.toNat + 1)) from decide_eq_decide.mpr ⟨fun h => (List.cons.inj h).2, fun h => by rw [c, h]⟩]; exact Ans.yes c e
      · rw [decide_eq_false (fun h => c (List.cons.inj h).1)]; exact Ans.not c (Ans.pure _)
  exact Ans.yes hl (key x.length 0 (by omega) (by omega))
/-- Heights back to their matrix, both sides. -/
def hcor (h : List (List Int)) (i j : Nat) : Int := wrap64 (Int.tdiv (wrap64 (wrap64 ((i : Int) + j) - en h i j)) 2)
def hmat (n : Nat) (h : List (List Int)) : List (List Int) := tab n n (fun i j => wrap64 (wrap64 (wrap64 (hcor h (i + 1) (j + 1) - hcor h i (j + 1)) - hcor h (i + 1) j) + hcor h i j))
theorem implFromH {n : Nat} {h : List (List Int)} (q : Sq (n + 1) h) (hn : n ≤ 1000) : Ans (fun k => impl_fromHeights.f k h) (hmat n h) := by
  have corner : ∀ i j : Nat, i ≤ n → j ≤ n → impl_fromHeights_1.f i j h = some (hcor h i j) := fun i j hi hj => by
    have hr : (rd_L3 h (i : Int)).length = n + 1 := by unfold rd_L3; rw [Int.toNat_natCast]; exact q.row (by omega)
    have hl := q.1
    simp only [impl_fromHeights_1.f]
    rw [if_pos (by omega), if_pos (by omega), if_pos (by omega), if_pos (by omega)]
    simp only [hcor, rd, rd_L3, Int.toNat_natCast, en]
  simp only [impl_fromHeights.f, q.1]
  rw [show wrap64 (((n + 1 : Nat) : Int) - 1) = (n : Int) by rw [wrap64_in _ ⟨by omega, by omega⟩]; omega]
  refine (table n n (by omega) (by omega) _ _ (fun i j hi hj => ?_)).bind (Ans.pure _)
  simp only [impl_fromHeights_2.f, wrap64_up (show (0 : Int) ≤ i by omega) (by omega), wrap64_up (show (0 : Int) ≤ j by omega) (by omega)]
  have a := corner (i + 1) (j + 1) (by omega) (by omega)
  have b := corner i (j + 1) (by omega) (by omega)
  have c := corner (i + 1) j (by omega) (by omega)
  have d := corner i j (by omega) (by omega)
  rw [show ((i + 1 : Nat) : Int) = (i : Int) + 1 by omega] at a c
  rw [show ((j + 1 : Nat) : Int) = (j : Int) + 1 by omega] at a b
  rw [a, b, c, d]; rfl
def scor (h : List (List Int)) (i j : Nat) : Int := wrap64 (Int.tdiv (wrap64 (wrap64 (wrap64 ((i : Int) + j) + 2) - en h (i + 1) (j + 1))) 2)
def smat (n : Nat) (h : List (List Int)) : List (List Int) := frm (tab n n (scor h))
theorem specFromH {n : Nat} {h : List (List Int)} (q : Sq (n + 1) h) (hn : n ≤ 1000) : Ans (fun k => spec_heFrom.f k h) (smat n h) := by
  have hl := q.1
  have inner : ∀ (i : Nat), i < n → ∀ (d j : Nat) (y : List (List Int)), j + d = n → Sq n y → (∀ a b : Nat, a < n → b < n → (a < i ∨ a = i ∧ b < j) → (y.getD a []).getD b 0 = scor h a b) →
      (∀ y', Sq n y' → (∀ a b : Nat, a < n → b < n → a < i + 1 → (y'.getD a []).getD b 0 = scor h a b) → Ans (fun k => spec_heFrom.l0 k h y' (n : Int) ((i + 1 : Nat) : Int)) (smat n h)) →
      Ans (fun k => spec_heFrom.l1 k h y (i : Int) (n : Int) (i : Int) (n : Int) (j : Int)) (smat n h) := by
    intro i hi d
    induction d with
    | zero =>
      intro j y hj hy hv nx
      refine Ans.step ?_
      simp only [spec_heFrom.l1, wrap64_up (show (0 : Int) ≤ i by omega) (by omega)]
      have := nx y hy (fun a b ha hb hlt => hv a b ha hb (by omega))
      rw [show ((i + 1 : Nat) : Int) = (i : Int) + 1 by omega] at this
      exact Ans.not (by omega) this
    | succ d ih =>
      intro j y hj hy hv nx
      have ly := hy.1
      obtain ⟨q1, q2⟩ := put_sq hy i j hi (by omega) (scor h i j)
      have ry : (rd_L3 y (i : Int)).length = n := by unfold rd_L3; rw [Int.toNat_natCast]; exact hy.row hi
      have rh : (rd_L3 h ((i : Int) + 1)).length = n + 1 := by unfold rd_L3; rw [show ((i : Int) + 1).toNat = i + 1 by omega]; exact q.row (by omega)
      have e := ih (j + 1) _ (by omega) q1 (fun a b ha hb hlt => by
          rw [q2 a b ha hb]
          by_cases c1 : a = i ∧ b = j
          · rw [if_pos c1, c1.1, c1.2]
          · rw [if_neg c1]; exact hv a b ha hb (by omega)) nx
      rw [show ((j + 1 : Nat) : Int) = (j : Int) + 1 by omega] at e
      have ev : rd (rd_L3 h ((i : Int) + 1)) ((j : Int) + 1) = en h (i + 1) (j + 1) := by
        simp only [rd, rd_L3, en]; rw [show ((i : Int) + 1).toNat = i + 1 by omega, show ((j : Int) + 1).toNat = j + 1 by omega]
      refine Ans.step ?_
      simp only [spec_heFrom.l1, wrap64_up (show (0 : Int) ≤ i by omega) (by omega), wrap64_up (show (0 : Int) ≤ j by omega) (by omega), Int.toNat_natCast, ev]
      rw [show rd_L3 y (i : Int) = y.getD i [] by unfold rd_L3; rw [Int.toNat_natCast]]
      rw [show rd_L3 y (i : Int) = y.getD i [] by unfold rd_L3; rw [Int.toNat_natCast]] at ry
      exact Ans.yes (by omega) (Ans.yes (by omega) (Ans.yes (by omega) (Ans.yes (by omega) (Ans.yes (by omega) (Ans.yes (by omega) (Ans.yes (by omega) (Ans.yes (by omega) (Ans.yes (by omega) e))))))))
  have key : ∀ (d i : Nat) (y : List (List Int)), i + d = n → Sq n y → (∀ a b : Nat, a < n → b < n → a < i → (y.getD a []).getD b 0 = scor h a b) → Ans (fun k => spec_heFrom.l0 k h y (n : Int) (i : Int)) (smat n h) := by
    intro d
    induction d with
    | zero =>
      intro i y h1 hy hv
      have e := tab_is hy (scor h) (fun a b ha hb => (hv a b ha hb (by omega)).symm)
      have f := sgFrom n y hy hn
      refine Ans.step ?_
      simp only [spec_heFrom.l0]
      unfold smat
      rw [e]
      exact Ans.not (by omega) (f.bind (Ans.pure _))
    | succ d ih =>
      intro i y h1 hy hv
      have ly := hy.1
      refine Ans.step ?_
      simp only [spec_heFrom.l0, ly]
      exact Ans.yes (by omega) (inner i (by omega) n 0 y (by omega) hy (fun a b ha hb hlt => hv a b ha hb (by omega)) (fun y' hy' hv' => ih (i + 1) y' (by omega) hy' hv'))
  simp only [spec_heFrom.f, hl]
  rw [show wrap64 (((n + 1 : Nat) : Int) - 1) = (n : Int) by rw [wrap64_in _ ⟨by omega, by omega⟩]; omega]
  refine (sgZero n hn).bind ?_
  simp only [List.length_replicate]
  exact key n 0 _ (by omega) (rep_sq n 0) (fun a b ha hb hlt => by omega)
/-- Of heights both make the matrix. -/
theorem hf_in {n : Nat} {h : Nat → Nat → Int} (H : HF n h) {i j : Nat} (hi : i ≤ n) (hj : j ≤ n) : -(n : Int) ≤ h i j ∧ h i j ≤ 2 * n ∧ (h i j - i - j) % 2 = 0 := by
  have p := hf_parity H hj i hi
  have key : ∀ i, i ≤ n → (j : Int) - i ≤ h i j ∧ h i j ≤ j + i := by
    intro i
    induction i with
    | zero => intro _; have := (H.1 j hj).1; omega
    | succ i ih => intro hi; have a := ih (by omega); have b := H.2.1 i j (by omega) hj; omega
  have := key i hi
  omega
theorem hcor_of {n : Nat} {h : Nat → Nat → Int} (H : HF n h) (hn : n ≤ 1000) {i j : Nat} (hi : i ≤ n) (hj : j ≤ n) : hcor (tab (n + 1) (n + 1) h) i j = ((i : Int) + j - h i j) / 2 := by
  have a := hf_in H hi hj
  unfold hcor
  rw [tab_en _ (by omega) (by omega), wrap64_in ((i : Int) + j) ⟨by omega, by omega⟩, wrap64_in ((i : Int) + j - h i j) ⟨by omega, by omega⟩]
  obtain ⟨t, ht⟩ : ∃ t, (i : Int) + j - h i j = 2 * t := ⟨((i : Int) + j - h i j) / 2, by omega⟩
  rw [ht, show Int.tdiv (2 * t) 2 = t by rw [Int.mul_comm]; exact Int.mul_tdiv_cancel t (by omega), wrap64_in t ⟨by omega, by omega⟩]; omega
theorem wrap_four (a b c d : Int) (ha : -1000000 ≤ a ∧ a ≤ 1000000) (hb : -1000000 ≤ b ∧ b ≤ 1000000) (hc : -1000000 ≤ c ∧ c ≤ 1000000) (hd : -1000000 ≤ d ∧ d ≤ 1000000) : wrap64 (wrap64 (wrap64 (a - b) - c) + d) = a - b - c + d := by
  rw [wrap64_in (a - b) ⟨by omega, by omega⟩, wrap64_in (a - b - c) ⟨by omega, by omega⟩, wrap64_in _ ⟨by omega, by omega⟩]
theorem hmat_of {n : Nat} {h : Nat → Nat → Int} (H : HF n h) (hn : n ≤ 1000) : hmat n (tab (n + 1) (n + 1) h) = mat n h := by
  refine ext_en (tab_sq n _) (mat_sq n h) fun i j hi hj => ?_
  unfold hmat
  rw [tab_en _ hi hj, mat_en h hi hj, hcor_of H hn (by omega) (by omega), hcor_of H hn (by omega) (by omega), hcor_of H hn (by omega) (by omega), hcor_of H hn (by omega) (by omega)]
  have a := hf_in H (i := i) (j := j) (by omega) (by omega)
  have b := hf_in H (i := i) (j := j + 1) (by omega) (by omega)
  have c := hf_in H (i := i + 1) (j := j) (by omega) (by omega)
  have d := hf_in H (i := i + 1) (j := j + 1) (by omega) (by omega)
  rw [wrap_four _ _ _ _ (by omega) (by omega) (by omega) (by omega)]
  omega
theorem scor_of {n : Nat} {h : Nat → Nat → Int} (H : HF n h) (hn : n ≤ 1000) (i j : Nat) (hi : i ≤ n) (hj : j ≤ n) : sgat (tab n n (scor (tab (n + 1) (n + 1) h))) ((i : Int) - 1) ((j : Int) - 1) = ((i : Int) + j - h i j) / 2 := by
  unfold sgat
  by_cases c : i = 0
  · rw [if_pos (by omega), c]; have := (H.1 j hj).1; omega
  by_cases d : j = 0
  · rw [if_neg (by omega), if_pos (by omega), d]; have := (H.1 i hi).2.1; omega
  rw [if_neg (by omega), if_neg (by omega), show (i : Int) - 1 = ((i - 1 : Nat) : Int) by omega, show (j : Int) - 1 = ((j - 1 : Nat) : Int) by omega, at_en, tab_en _ (by omega) (by omega)]
  unfold scor
  have a := hf_in H hi hj
  rw [tab_en _ (by omega) (by omega), show i - 1 + 1 = i by omega, show j - 1 + 1 = j by omega, wrap64_in (((i - 1 : Nat) : Int) + ((j - 1 : Nat) : Int)) ⟨by omega, by omega⟩, show ((i - 1 : Nat) : Int) + ((j - 1 : Nat) : Int) + 2 = (i : Int) + j by omega, wrap64_in ((i : Int) + j) ⟨by omega, by omega⟩, wrap64_in ((i : Int) + j - h i j) ⟨by omega, by omega⟩]
  obtain ⟨t, ht⟩ : ∃ t, (i : Int) + j - h i j = 2 * t := ⟨((i : Int) + j - h i j) / 2, by omega⟩
  rw [ht, show Int.tdiv (2 * t) 2 = t by rw [Int.mul_comm]; exact Int.mul_tdiv_cancel t (by omega), wrap64_in t ⟨by omega, by omega⟩]; omega
theorem smat_of {n : Nat} {h : Nat → Nat → Int} (H : HF n h) (hn : n ≤ 1000) : smat n (tab (n + 1) (n + 1) h) = mat n h := by
  have ts := tab_sq n (scor (tab (n + 1) (n + 1) h))
  refine ext_en (frm_sq ts) (mat_sq n h) fun i j hi hj => ?_
  unfold smat frm
  rw [ts.1, tab_en _ hi hj, mat_en h hi hj]
  unfold diff
  have e1 := scor_of H hn (i + 1) (j + 1) (by omega) (by omega)
  have e2 := scor_of H hn i (j + 1) (by omega) (by omega)
  have e3 := scor_of H hn (i + 1) j (by omega) (by omega)
  have e4 := scor_of H hn i j (by omega) (by omega)
  rw [show ((i + 1 : Nat) : Int) - 1 = i by omega] at e1 e3
  rw [show ((j + 1 : Nat) : Int) - 1 = j by omega] at e1 e2
  rw [e1, e2, e3, e4]
  have a := hf_in H (i := i) (j := j) (by omega) (by omega)
  have b := hf_in H (i := i) (j := j + 1) (by omega) (by omega)
  have c := hf_in H (i := i + 1) (j := j) (by omega) (by omega)
  have d := hf_in H (i := i + 1) (j := j + 1) (by omega) (by omega)
  rw [wrap_four _ _ _ _ (by omega) (by omega) (by omega) (by omega)]
  omega
/-- What FromHeights answers. -/
def FH (h : List (List Int)) (r : List (List Int) × Bool) : Prop := (∃ x, sign x = true ∧ HT x = h ∧ r = (x, true)) ∨ ((∀ x, sign x = true → HT x ≠ h) ∧ r = ([], false))
theorem HT_hf {x : List (List Int)} (s : sign x = true) {n : Nat} (hn : x.length = n) : HT x = tab (n + 1) (n + 1) (hgt x) ∧ HF n (hgt x) ∧ mat n (hgt x) = x := by
  refine ⟨?_, hf_of s hn, mat_of s hn⟩
  unfold HT; rw [hn]
theorem HT_one {x y : List (List Int)} (s : sign x = true) (t : sign y = true) (e : HT x = HT y) : x = y := by
  have l : x.length = y.length := by have a := (HT_sq x).1; have b := (HT_sq y).1; rw [e] at a; omega
  obtain ⟨n, hn⟩ : ∃ n, x.length = n := ⟨_, rfl⟩
  have a := HT_hf s hn
  have b := HT_hf t (show y.length = n by omega)
  have c := hmat_of a.2.1 (by have := (sign_en s hn).2.2.1; omega)
  have d := hmat_of b.2.1 (by have := (sign_en s hn).2.2.1; omega)
  rw [← a.1, a.2.2] at c
  rw [← b.1, b.2.2] at d
  rw [← c, ← d, e]
theorem FH.one {h : List (List Int)} {r q : List (List Int) × Bool} (a : FH h r) (b : FH h q) : r = q := by
  rcases a with ⟨x, s, e, rfl⟩ | ⟨n, rfl⟩
  · rcases b with ⟨y, t, f, rfl⟩ | ⟨m, rfl⟩
    · rw [HT_one s t (e.trans f.symm)]
    · exact absurd e (m x s)
  · rcases b with ⟨y, t, f, rfl⟩ | ⟨m, rfl⟩
    · exact absurd f (n y t)
    · rfl
theorem FH_shape {h x : List (List Int)} (s : sign x = true) (e : HT x = h) : ∃ n, 1 ≤ n ∧ n ≤ 6 ∧ Sq (n + 1) h ∧ hmat n h = x ∧ smat n h = x := by
  obtain ⟨n, hn⟩ : ∃ n, x.length = n := ⟨_, rfl⟩
  have a := HT_hf s hn
  obtain ⟨_, h1, h6, _⟩ := sign_en s hn
  have q := HT_sq x
  rw [e, hn] at q
  have c := hmat_of a.2.1 (by omega)
  have d := smat_of a.2.1 (by omega)
  rw [← a.1, a.2.2, e] at c d
  exact ⟨n, h1, h6, q, c, d⟩
theorem within_side (a : Int) : impl_isSide.f a = some (decide (1 ≤ a ∧ a ≤ 6)) := by
  simp only [impl_isSide.f, within, Option.bind_some]
theorem implFromHeights {h : List (List Int)} (hl : h.length ≤ 1048576) : ∃ r, FH h r ∧ Ans (fun k => impl_FromHeights.f k h) r := by
  simp only [impl_FromHeights.f, within_side, Option.bind_some]
  by_cases c : 2 ≤ h.length ∧ h.length ≤ 7
  case neg =>
    refine ⟨_, .inr ⟨fun x s e => ?_, rfl⟩, Ans.not ?_ (Ans.step ?_)⟩
    · obtain ⟨n, h1, h6, q, _⟩ := FH_shape s e
      have := q.1; omega
    · rw [wrap64_in _ ⟨by omega, by omega⟩]; simp only [decide_eq_true_eq]; omega
    · simp only [impl_FromHeights.j0]
      exact Ans.yes trivial (Ans.pure _)
  have c1 : decide ((1 : Int) ≤ wrap64 ((h.length : Int) - 1) ∧ wrap64 ((h.length : Int) - 1) ≤ 6) = true := by
    rw [wrap64_in _ ⟨by omega, by omega⟩]; simp only [decide_eq_true_eq]; omega
  by_cases d : (h.all fun r => decide (r.length = h.length)) = true
  case neg =>
    refine ⟨_, .inr ⟨fun x s e => ?_, rfl⟩, Ans.yes c1 ((isSquare h (by omega)).bind (Ans.step ?_))⟩
    · obtain ⟨n, h1, h6, q, _⟩ := FH_shape s e
      refine d (List.all_eq_true.mpr fun r hr => ?_)
      rw [decide_eq_true_eq, q.2 r hr, q.1]
    · rw [Bool.eq_false_iff.mpr d]
      simp only [impl_FromHeights.j0]
      exact Ans.yes rfl (Ans.pure _)
  obtain ⟨n, hn⟩ : ∃ n, h.length = n + 1 := ⟨h.length - 1, by omega⟩
  have q : Sq (n + 1) h := ⟨hn, fun r hr => by have := List.all_eq_true.mp d r hr; rw [decide_eq_true_eq] at this; omega⟩
  have ms : Sq n (hmat n h) := tab_sq n _
  have sg := isSign (hmat n h) (by rw [ms.1]; omega)
  by_cases s : sign (hmat n h) = true
  case neg =>
    refine ⟨_, .inr ⟨fun x s' e => ?_, rfl⟩, Ans.yes c1 ((isSquare h (by omega)).bind (Ans.step ?_))⟩
    · obtain ⟨m, h1, h6, q', e', _⟩ := FH_shape s' e
      obtain rfl : n = m := by have := q.1; have := q'.1; omega
      rw [e'] at s; exact s s'
    · rw [d]
      simp only [impl_FromHeights.j0]
      exact Ans.not (by simp) ((implFromH q (by omega)).bind (sg.bind (Ans.not s (Ans.pure _))))
  have hs := HT_sq (hmat n h)
  rw [ms.1] at hs
  have cp := compareTables (HT (hmat n h)) h (by rw [hs.1]; omega) (by omega) (fun r hr => by rw [hs.2 r hr]; omega) (fun r hr => by rw [q.2 r hr]; omega)
  by_cases e : HT (hmat n h) = h
  · refine ⟨_, .inl ⟨_, s, e, rfl⟩, Ans.yes c1 ((isSquare h (by omega)).bind (Ans.step ?_))⟩
    rw [d]
    simp only [impl_FromHeights.j0]
    exact Ans.not (by simp) ((implFromH q (by omega)).bind (sg.bind (Ans.yes s ((implHeights s).bind (cp.bind (Ans.yes ((cmpLL_zero _ _).mpr e) (Ans.pure _)))))))
  · refine ⟨_, .inr ⟨fun x s' e2 => ?_, rfl⟩, Ans.yes c1 ((isSquare h (by omega)).bind (Ans.step ?_))⟩
    · obtain ⟨m, h1, h6, q', e', _⟩ := FH_shape s' e2
      obtain rfl : n = m := by have := q.1; have := q'.1; omega
      rw [e'] at e; exact e e2
    · rw [d]
      simp only [impl_FromHeights.j0]
      exact Ans.not (by simp) ((implFromH q (by omega)).bind (sg.bind (Ans.yes s ((implHeights s).bind (cp.bind (Ans.not (fun g => e ((cmpLL_zero _ _).mp g)) (Ans.pure _)))))))
theorem heSame (x y : List (List Int)) (hx : x.length ≤ 1000000) (hr : ∀ r ∈ x, r.length ≤ 1000000) : Ans (fun k => spec_heSame.f k x y) (decide (x = y)) := by
  simp only [spec_heSame.f]
  by_cases hl : x.length = y.length
  case neg => rw [decide_eq_false (fun h => hl (by rw [h]))]; exact Ans.not (by omega) (Ans.pure _)
  have key : ∀ (d i : Nat), i + d = x.length → Ans (fun k => spec_heSame.l0 k y x (x.length : Int) (i : Int)) (decide (x.drop i = y.drop i)) := by
    intro d
    induction d with
    | zero =>
      intro i h
      rw [List.drop_eq_nil_of_le (show x.length ≤ i by omega), List.drop_eq_nil_of_le (show y.length ≤ i by omega)]
      refine Ans.step ?_
      simp only [spec_heSame.l0]
      exact Ans.not (by omega) (Ans.pure _)
    | succ d ih =>
      intro i h
      have e := ih (i + 1) (by omega)
      rw [show ((i + 1 : Nat) : Int) = (i : Int) + 1 by omega] at e
      have s := l1Same (x.getD i []) (y.getD i []) (by have := hr _ (getD_mem (x := x) [] (show i < x.length by omega)); omega)
      rw [drop_at x [] (show i < x.length by omega), drop_at y [] (show i < y.length by omega)]
      refine Ans.step ?_
      simp only [spec_heSame.l0, rd_L3, Int.toNat_natCast, wrap64_up (show (0 : Int) ≤ i by omega) (by omega)]
      refine Ans.yes (by omega) (Ans.yes (by omega) (Ans.yes (by omega) (Ans.yes (by omega) (s.bind ?_))))
      by_cases c : x.getD i [] = y.getD i []
      · rw [c, show decide (y.getD i [] :: x.drop (i + 1) = y.getD i [] :: y.drop (i + 1)) = decide (x.drop (i + 1) = y.drop (i + 1)) by simp]
        exact Ans.yes (by simp) e
      · rw [show decide (x.getD i [] :: x.drop (i + 1) = y.getD i [] :: y.drop (i + 1)) = false by simp only [decide_eq_false_iff_not]; intro h; exact c (List.cons.inj h).1]
        exact Ans.not (by simpa using c) (Ans.pure _)
  refine Ans.yes (by omega) ?_
  have := key x.length 0 (by omega)
  rwa [List.drop_zero, List.drop_zero] at this
theorem specGoodH {h : List (List Int)} (hl : h.length ≤ 1048576) (hr : ∀ r ∈ h, r.length ≤ 1048576) : (∃ x, sign x = true ∧ HT x = h ∧ Ans (fun k => spec_heGood.f k h) true) ∨ ((∀ x, sign x = true → HT x ≠ h) ∧ Ans (fun k => spec_heGood.f k h) false) := by
  simp only [spec_heGood.f, l1In, Option.bind_some]
  by_cases c : 2 ≤ h.length ∧ h.length ≤ 7
  case neg =>
    refine .inr ⟨fun x s e => ?_, Ans.not ?_ (Ans.pure _)⟩
    · obtain ⟨n, h1, h6, q, _⟩ := FH_shape s e
      have := q.1; omega
    · simp only [decide_eq_true_eq]; omega
  obtain ⟨n, hn⟩ : ∃ n, h.length = n + 1 := ⟨h.length - 1, by omega⟩
  have c1 : decide ((2 : Int) ≤ (h.length : Int) ∧ (h.length : Int) ≤ 7) = true := by simp only [decide_eq_true_eq]; omega
  -- the rows
  have rows : ∀ (b : Bool) (last : (∀ r ∈ h, r.length = h.length ∧ allIn r 0 6 = true) → Ans (fun k => spec_heGood.l0 k h h (h.length : Int) ((n + 1 : Nat) : Int)) b) (d i : Nat), i + d = n + 1 → (∀ r ∈ h.take i, r.length = h.length ∧ allIn r 0 6 = true) →
      (Ans (fun k => spec_heGood.l0 k h h (h.length : Int) (i : Int)) b ∧ ∀ r ∈ h, r.length = h.length ∧ allIn r 0 6 = true) ∨ (Ans (fun k => spec_heGood.l0 k h h (h.length : Int) (i : Int)) false ∧ ¬ ∀ r ∈ h, r.length = h.length ∧ allIn r 0 6 = true) := by
    intro b last d
    induction d with
    | zero =>
      intro i h1 h2
      obtain rfl : i = n + 1 := by omega
      rw [List.take_of_length_le (by omega)] at h2
      exact .inl ⟨last h2, h2⟩
    | succ d ih =>
      intro i h1 h2
      have hm := getD_mem (x := h) [] (show i < h.length by omega)
      have al := l1All (h.getD i []) (by have := hr _ hm; omega) 0 6
      have w := wrap64_up (show (0 : Int) ≤ i by omega) (by omega)
      have er : rd_L3 h (i : Int) = h.getD i [] := by unfold rd_L3; rw [Int.toNat_natCast]
      by_cases a : (h.getD i []).length = h.length
      · by_cases b' : allIn (h.getD i []) 0 6 = true
        · have nx := ih (i + 1) (by omega) (fun r hr' => by
            rw [take_up h [] (by omega)] at hr'
            rcases List.mem_append.1 hr' with g | g
            · exact h2 r g
            · rw [List.mem_singleton.1 g]; exact ⟨a, b'⟩)
          rw [b'] at al
          rw [show ((i + 1 : Nat) : Int) = (i : Int) + 1 by omega] at nx
          rcases nx with ⟨x, y⟩ | ⟨x, y⟩
          · refine .inl ⟨Ans.step ?_, y⟩
            simp only [spec_heGood.l0, er, w]
            exact Ans.yes (by omega) (Ans.yes (by omega) (Ans.yes (by omega) (Ans.yes (by omega) (al.bind (Ans.yes rfl x)))))
          · refine .inr ⟨Ans.step ?_, y⟩
            simp only [spec_heGood.l0, er, w]
            exact Ans.yes (by omega) (Ans.yes (by omega) (Ans.yes (by omega) (Ans.yes (by omega) (al.bind (Ans.yes rfl x)))))
        · refine .inr ⟨Ans.step ?_, fun g => b' (g _ hm).2⟩
          rw [Bool.eq_false_iff.mpr b'] at al
          simp only [spec_heGood.l0, er]
          exact Ans.yes (by omega) (Ans.yes (by omega) (Ans.yes (by omega) (Ans.yes (by omega) (al.bind (Ans.not (by simp) (Ans.pure _))))))
      · refine .inr ⟨Ans.step ?_, fun g => a (g _ hm).1⟩
        simp only [spec_heGood.l0, er]
        exact Ans.yes (by omega) (Ans.yes (by omega) (Ans.yes (by omega) (Ans.not (by omega) (Ans.pure _))))
  have none_ : (¬ ∀ r ∈ h, r.length = h.length ∧ allIn r 0 6 = true) → ∀ x, sign x = true → HT x ≠ h := by
    intro g x s e
    refine g fun r hr' => ?_
    obtain ⟨m, h1, h6, q, _⟩ := FH_shape s e
    refine ⟨by rw [q.2 r hr', q.1], List.all_eq_true.mpr fun v hv => ?_⟩
    obtain ⟨i, hi, rfl⟩ := List.getElem_of_mem hr'
    obtain ⟨j, hj, rfl⟩ := List.getElem_of_mem hv
    have hi' : i ≤ x.length := by have := (HT_sq x).1; rw [e] at this; omega
    have hj' : j ≤ x.length := by have := (HT_sq x).2 h[i] (by rw [e]; exact hr'); omega
    have b := hgt_in s rfl hi' hj'
    rw [← HT_en rfl hi' hj', e] at b
    have h7 := (sign_en s rfl).2.2.1
    have : en h i j = h[i][j] := by unfold en; rw [getD_at h [] hi, getD_at _ 0 hj]
    rw [decide_eq_true_eq]; omega
  have start : ∀ (b : Bool), Ans (fun k => spec_heGood.l0 k h h (h.length : Int) ((0 : Nat) : Int)) b → Ans (fun k => if decide ((2 : Int) ≤ (h.length : Int) ∧ (h.length : Int) ≤ 7) = true then spec_heGood.l0 k h h (h.length : Int) 0 else some false) b := fun b e => Ans.yes c1 e
  have ms : (∀ r ∈ h, r.length = h.length ∧ allIn r 0 6 = true) → Sq (n + 1) h := fun g => ⟨hn, fun r hr' => by rw [(g r hr').1, hn]⟩
  have fs : Sq n (smat n h) := frm_sq (tab_sq n _)
  have sg := sgGood (smat n h) (by rw [fs.1]; omega)
  by_cases s : sign (smat n h) = true
  · have hs := HT_sq (smat n h)
    rw [fs.1] at hs
    have sm := heSame (HT (smat n h)) h (by rw [hs.1]; omega) (fun r hr' => by rw [hs.2 r hr']; omega)
    rw [s] at sg
    rcases rows (decide (HT (smat n h) = h)) (fun g => by
      refine Ans.step ?_
      simp only [spec_heGood.l0]
      exact Ans.not (by omega) ((specFromH (ms g) (by omega)).bind (sg.bind (Ans.yes rfl ((specHeights s).bind (sm.bind (Ans.pure _))))))) (n + 1) 0 (by omega) (by simp) with ⟨x, y⟩ | ⟨x, y⟩
    · by_cases e : HT (smat n h) = h
      · rw [decide_eq_true e] at x
        exact .inl ⟨_, s, e, start _ x⟩
      · rw [decide_eq_false e] at x
        refine .inr ⟨fun z sz ez => ?_, start _ x⟩
        obtain ⟨m, _, _, q', _, e'⟩ := FH_shape sz ez
        obtain rfl : n = m := by have := q'.1; omega
        rw [e'] at e; exact e ez
    · exact .inr ⟨none_ y, start _ x⟩
  · rw [Bool.eq_false_iff.mpr s] at sg
    rcases rows false (fun g => by
      refine Ans.step ?_
      simp only [spec_heGood.l0]
      exact Ans.not (by omega) ((specFromH (ms g) (by omega)).bind (sg.bind (Ans.not (by simp) (Ans.pure _))))) (n + 1) 0 (by omega) (by simp) with ⟨x, y⟩ | ⟨x, y⟩
    · refine .inr ⟨fun z sz ez => ?_, start _ x⟩
      obtain ⟨m, _, _, q', _, e'⟩ := FH_shape sz ez
      obtain rfl : n = m := by have := q'.1; omega
      rw [e'] at s; exact s sz
    · exact .inr ⟨none_ y, start _ x⟩
theorem specFromHeights {h : List (List Int)} (hl : h.length ≤ 1048576) (hr : ∀ r ∈ h, r.length ≤ 1048576) : ∃ r, FH h r ∧ Ans (fun k => spec_FromHeights.f k h) r ∧ Ans (fun k => spec_AreHeights.f k h) r.2 := by
  simp only [spec_FromHeights.f, spec_AreHeights.f]
  rcases specGoodH hl hr with ⟨x, s, e, g⟩ | ⟨m, g⟩
  · obtain ⟨n, h1, h6, q, _, e'⟩ := FH_shape s e
    have f := specFromH q (by omega)
    rw [e'] at f
    exact ⟨(x, true), .inl ⟨x, s, e, rfl⟩, g.bind (Ans.yes rfl (f.bind (Ans.pure _))), g.bind (Ans.pure _)⟩
  · exact ⟨([], false), .inr ⟨m, rfl⟩, g.bind (Ans.not (by simp) (Ans.pure _)), g.bind (Ans.pure _)⟩
theorem implAre {h : List (List Int)} {r : List (List Int) × Bool} (a : Ans (fun k => impl_FromHeights.f k h) r) : Ans (fun k => impl_AreHeights.f k h) r.2 := by
  simp only [impl_AreHeights.f]
  exact a.bind (Ans.pure _)
/-- Cells and flips. -/
theorem wrap_pred {i : Nat} (h : 1 ≤ i) (h2 : i ≤ 1000000) : wrap64 ((i : Int) - 1) = ((i - 1 : Nat) : Int) := by rw [wrap64_in _ ⟨by omega, by omega⟩]; omega
theorem wrap_succ {i : Nat} (h2 : i ≤ 1000000) : wrap64 ((i : Int) + 1) = ((i + 1 : Nat) : Int) := by rw [wrap64_in _ ⟨by omega, by omega⟩]; omega
theorem len_down {n : Nat} (h2 : n ≤ 1000000) : wrap64 (((n + 1 : Nat) : Int) - 1) = (n : Int) := by rw [wrap64_in _ ⟨by omega, by omega⟩]; omega
def wayH (h : Nat → Nat → Int) (i j : Nat) : Int :=
  if h (i - 1) j = h i j + 1 ∧ h (i + 1) j = h i j + 1 ∧ h i (j - 1) = h i j + 1 ∧ h i (j + 1) = h i j + 1 then 1
  else if h (i - 1) j = h i j - 1 ∧ h (i + 1) j = h i j - 1 ∧ h i (j - 1) = h i j - 1 ∧ h i (j + 1) = h i j - 1 then -1 else 0
theorem wayH_cases (h : Nat → Nat → Int) (i j : Nat) : (wayH h i j = 1 ∧ h (i - 1) j = h i j + 1 ∧ h (i + 1) j = h i j + 1 ∧ h i (j - 1) = h i j + 1 ∧ h i (j + 1) = h i j + 1) ∨
    (wayH h i j = -1 ∧ h (i - 1) j = h i j - 1 ∧ h (i + 1) j = h i j - 1 ∧ h i (j - 1) = h i j - 1 ∧ h i (j + 1) = h i j - 1) ∨ wayH h i j = 0 := by
  unfold wayH
  split
  · exact .inl ⟨rfl, by assumption⟩
  · split
    · exact .inr (.inl ⟨rfl, by assumption⟩)
    · exact .inr (.inr rfl)
def putH (h : Nat → Nat → Int) (i j : Nat) (v : Int) : Nat → Nat → Int := fun a b => if a = i ∧ b = j then v else h a b
def flipH (h : Nat → Nat → Int) (i j : Nat) : Nat → Nat → Int := putH h i j (h i j + 2 * wayH h i j)
theorem hf_flip {n : Nat} {h : Nat → Nat → Int} (H : HF n h) {i j : Nat} (hi : 1 ≤ i ∧ i < n) (hj : 1 ≤ j ∧ j < n) : HF n (flipH h i j) := by
  have w := wayH_cases h i j
  unfold flipH putH
  refine ⟨fun b hb => ?_, fun a b ha hb => ?_, fun a b ha hb => ?_⟩
  · have := H.1 b hb
    dsimp only
    rw [if_neg (by omega), if_neg (by omega), if_neg (by omega), if_neg (by omega)]
    exact this
  · have := H.2.1 a b ha hb
    dsimp only
    by_cases c : a + 1 = i ∧ b = j
    · obtain ⟨rfl, rfl⟩ := c
      rw [if_pos ⟨rfl, rfl⟩, if_neg (by omega)]
      rw [show a + 1 - 1 = a by omega] at w
      omega
    · rw [if_neg c]
      by_cases d : a = i ∧ b = j
      · obtain ⟨rfl, rfl⟩ := d
        rw [if_pos ⟨rfl, rfl⟩]; omega
      · rw [if_neg d]; exact this
  · have := H.2.2 a b ha hb
    dsimp only
    by_cases c : a = i ∧ b + 1 = j
    · obtain ⟨rfl, rfl⟩ := c
      rw [if_pos ⟨rfl, rfl⟩, if_neg (by omega)]
      rw [show b + 1 - 1 = b by omega] at w
      omega
    · rw [if_neg c]
      by_cases d : a = i ∧ b = j
      · obtain ⟨rfl, rfl⟩ := d
        rw [if_pos ⟨rfl, rfl⟩]; omega
      · rw [if_neg d]; exact this
/-- A table with a number put. -/
theorem tab_put {m : Nat} (h : Nat → Nat → Int) {i j : Nat} (hi : i < m) (hj : j < m) (v : Int) : (tab m m h).set i (((tab m m h).getD i []).set j v) = tab m m (putH h i j v) := by
  obtain ⟨q1, q2⟩ := put_sq (tab_sq m h) i j hi hj v
  refine ext_en q1 (tab_sq m _) fun a b ha hb => ?_
  have := q2 a b ha hb
  unfold en at *
  rw [this]
  have e1 := tab_en h ha hb
  have e2 := tab_en (putH h i j v) ha hb
  unfold en at e1 e2
  rw [e1, e2]; rfl
/-- Cells that are accepted. -/
def rowF (p : Nat → Nat → Bool) (i : Nat) : Nat → Nat → List (List Int)
  | 0, _ => []
  | d + 1, j => (if p i j = true then [[(i : Int), (j : Int)]] else []) ++ rowF p i d (j + 1)
def tabF (p : Nat → Nat → Bool) (n : Nat) : Nat → Nat → List (List Int)
  | 0, _ => []
  | d + 1, i => rowF p i (n - 1) 1 ++ tabF p n d (i + 1)
def cellsF (n : Nat) (p : Nat → Nat → Bool) : List (List Int) := tabF p n (n - 1) 1
theorem rowF_len (p : Nat → Nat → Bool) (i : Nat) : ∀ d j, (rowF p i d j).length ≤ d
  | 0, _ => by simp [rowF]
  | d + 1, j => by
    have := rowF_len p i d (j + 1)
    rw [rowF, List.length_append]
    split <;> simp <;> omega
theorem rowF_mem {p : Nat → Nat → Bool} {i : Nat} {c : List Int} : ∀ {d j : Nat}, c ∈ rowF p i d j ↔ ∃ b, j ≤ b ∧ b < j + d ∧ p i b = true ∧ c = [(i : Int), (b : Int)]
  | 0, j => by
    simp only [rowF, List.not_mem_nil, false_iff]
    rintro ⟨b, h1, h2, _⟩; omega
  | d + 1, j => by
    rw [rowF, List.mem_append, rowF_mem]
    constructor
    · rintro (h | ⟨b, h1, h2, h3⟩)
      · by_cases q : p i j = true
        · rw [if_pos q, List.mem_singleton] at h; exact ⟨j, by omega, by omega, q, h⟩
        · rw [if_neg q] at h; simp at h
      · exact ⟨b, by omega, by omega, h3⟩
    · rintro ⟨b, h1, h2, h3, h4⟩
      by_cases e : b = j
      · subst e; left; rw [if_pos h3, List.mem_singleton]; exact h4
      · exact .inr ⟨b, by omega, by omega, h3, h4⟩
theorem tabF_mem {p : Nat → Nat → Bool} {n : Nat} {c : List Int} : ∀ {d i : Nat}, c ∈ tabF p n d i ↔ ∃ a b, i ≤ a ∧ a < i + d ∧ 1 ≤ b ∧ b < n ∧ p a b = true ∧ c = [(a : Int), (b : Int)]
  | 0, i => by
    simp only [tabF, List.not_mem_nil, false_iff]
    rintro ⟨a, b, h1, h2, _⟩; omega
  | d + 1, i => by
    rw [tabF, List.mem_append, tabF_mem, rowF_mem]
    constructor
    · rintro (⟨b, h1, h2, h3, h4⟩ | ⟨a, b, h1, h2, h3⟩)
      · exact ⟨i, b, by omega, by omega, h1, by omega, h3, h4⟩
      · exact ⟨a, b, by omega, by omega, h3⟩
    · rintro ⟨a, b, h1, h2, h3, h4, h5, h6⟩
      by_cases e : a = i
      · subst e; exact .inl ⟨b, by omega, by omega, h5, h6⟩
      · exact .inr ⟨a, b, by omega, by omega, h3, h4, h5, h6⟩
theorem cellsF_mem {p : Nat → Nat → Bool} {n : Nat} {c : List Int} : c ∈ cellsF n p ↔ ∃ a b : Nat, 1 ≤ a ∧ a < n ∧ 1 ≤ b ∧ b < n ∧ p a b = true ∧ c = [(a : Int), (b : Int)] := by
  unfold cellsF
  rw [tabF_mem]
  constructor
  · rintro ⟨a, b, h1, h2, h3⟩; exact ⟨a, b, h1, by omega, h3⟩
  · rintro ⟨a, b, h1, h2, h3⟩; exact ⟨a, b, h1, by omega, h3⟩
theorem allIn_four (a b c d v : Int) : allIn [a, b, c, d] v v = decide (a = v ∧ b = v ∧ c = v ∧ d = v) := by
  unfold allIn
  rw [Bool.eq_iff_iff]
  simp only [List.all_cons, List.all_nil, Bool.and_true, Bool.and_eq_true, decide_eq_true_eq]
  omega
theorem heWay {n : Nat} (h : Nat → Nat → Int) (hn : n ≤ 1000) (hb : ∀ i j, i ≤ n → j ≤ n → -10000 ≤ h i j ∧ h i j ≤ 10000) {i j : Nat} (hi : 1 ≤ i ∧ i < n) (hj : 1 ≤ j ∧ j < n) : Ans (fun k => spec_heWay.f k (tab (n + 1) (n + 1) h) i j) (wayH h i j) := by
  have q := tab_sq (n + 1) h
  have hl := q.1
  have row : ∀ a : Nat, a ≤ n → (rd_L3 (tab (n + 1) (n + 1) h) (a : Int)).length = n + 1 := fun a ha => by unfold rd_L3; rw [Int.toNat_natCast]; exact q.row (by omega)
  have num : ∀ a b : Nat, a ≤ n → b ≤ n → rd (rd_L3 (tab (n + 1) (n + 1) h) (a : Int)) (b : Int) = h a b := fun a b ha hb' => by rw [at_en, tab_en _ (by omega) (by omega)]
  have r0 := row i (by omega)
  have r1 := row (i - 1) (by omega)
  have r2 := row (i + 1) (by omega)
  have b0 := hb i j (by omega) (by omega)
  simp only [spec_heWay.f, wrap_pred (show 1 ≤ i by omega) (by omega), wrap_pred (show 1 ≤ j by omega) (by omega), wrap_succ (show i ≤ 1000000 by omega), wrap_succ (show j ≤ 1000000 by omega), Option.bind_some]
  rw [num i j (by omega) (by omega), num (i - 1) j (by omega) (by omega), num (i + 1) j (by omega) (by omega), num i (j - 1) (by omega) (by omega), num i (j + 1) (by omega) (by omega), wrap64_in (h i j + 1) ⟨by omega, by omega⟩, wrap64_in (h i j - 1) ⟨by omega, by omega⟩]
  have u := l1All [h (i - 1) j, h (i + 1) j, h i (j - 1), h i (j + 1)] (by simp) (h i j + 1) (h i j + 1)
  have v := l1All [h (i - 1) j, h (i + 1) j, h i (j - 1), h i (j + 1)] (by simp) (h i j - 1) (h i j - 1)
  rw [allIn_four] at u v
  refine Ans.yes (by omega) (Ans.yes (by omega) (Ans.yes (by omega) (Ans.yes (by omega) (Ans.yes (by omega) (Ans.yes (by omega) (Ans.yes (by omega) (Ans.yes (by omega) (Ans.yes (by omega) (Ans.yes (by omega) (Ans.yes (by omega) (Ans.yes (by omega) (Ans.yes (by omega) (Ans.yes (by omega) ?_)))))))))))))
  unfold wayH
  by_cases c : h (i - 1) j = h i j + 1 ∧ h (i + 1) j = h i j + 1 ∧ h i (j - 1) = h i j + 1 ∧ h i (j + 1) = h i j + 1
  · rw [if_pos c]; exact u.bind (Ans.yes (decide_eq_true c) (Ans.pure _))
  · rw [if_neg c]
    refine u.bind (Ans.not (by simpa using c) (v.bind ?_))
    by_cases d : h (i - 1) j = h i j - 1 ∧ h (i + 1) j = h i j - 1 ∧ h i (j - 1) = h i j - 1 ∧ h i (j + 1) = h i j - 1
    · rw [if_pos d]; exact Ans.yes (decide_eq_true d) (Ans.pure _)
    · rw [if_neg d]; exact Ans.not (by simpa using d) (Ans.pure _)
theorem heFlips {n : Nat} (h : Nat → Nat → Int) (hn : n ≤ 100) (hb : ∀ i j, i ≤ n → j ≤ n → -10000 ≤ h i j ∧ h i j ≤ 10000) (w : Int) : Ans (fun k => spec_heFlips.f k (tab (n + 1) (n + 1) h) w) (cellsF n (fun i j => decide (wayH h i j = w))) := by
  have q := tab_sq (n + 1) h
  have inner : ∀ (R : List (List Int)) (i : Nat), 1 ≤ i ∧ i < n → ∀ (d j : Nat) (y : List (List Int)), j + d = n → 1 ≤ j → y.length + d ≤ 20000 →
      Ans (fun k => spec_heFlips.l0 k (tab (n + 1) (n + 1) h) w (y ++ rowF (fun i j => decide (wayH h i j = w)) i d j) ((i + 1 : Nat) : Int)) R → Ans (fun k => spec_heFlips.l1 k (tab (n + 1) (n + 1) h) w y (i : Int) (j : Int)) R := by
    intro R i hi d
    induction d with
    | zero =>
      intro j y h1 h2 h3 nx
      rw [rowF, List.append_nil, show ((i + 1 : Nat) : Int) = (i : Int) + 1 by omega] at nx
      refine Ans.step ?_
      simp only [spec_heFlips.l1, q.1, len_down (show n ≤ 1000000 by omega), wrap64_up (show (0 : Int) ≤ i by omega) (by omega)]
      exact Ans.not (by omega) nx
    | succ d ih =>
      intro j y h1 h2 h3 nx
      have wy := heWay h (by omega) hb hi (show 1 ≤ j ∧ j < n by omega)
      rw [rowF, ← List.append_assoc] at nx
      refine Ans.step ?_
      simp only [spec_heFlips.l1, q.1, len_down (show n ≤ 1000000 by omega), wrap64_up (show (0 : Int) ≤ j by omega) (by omega)]
      refine Ans.yes (by omega) (wy.bind ?_)
      by_cases c : wayH h i j = w
      · rw [if_pos (decide_eq_true c)] at nx
        have := ih (j + 1) (y ++ [[(i : Int), (j : Int)]]) (by omega) (by omega) (by simp; omega) nx
        rw [show ((j + 1 : Nat) : Int) = (j : Int) + 1 by omega] at this
        exact Ans.yes c (Ans.yes (by omega) this)
      · rw [if_neg (by simpa using c), List.append_nil] at nx
        have := ih (j + 1) y (by omega) (by omega) (by omega) nx
        rw [show ((j + 1 : Nat) : Int) = (j : Int) + 1 by omega] at this
        exact Ans.not c this
  have key : ∀ (d i : Nat) (y : List (List Int)), i + d = n → 1 ≤ i → y.length ≤ 100 * i → Ans (fun k => spec_heFlips.l0 k (tab (n + 1) (n + 1) h) w y (i : Int)) (y ++ tabF (fun i j => decide (wayH h i j = w)) n d i) := by
    intro d
    induction d with
    | zero =>
      intro i y h1 h2 h3
      refine Ans.step ?_
      simp only [spec_heFlips.l0, q.1, len_down (show n ≤ 1000000 by omega), tabF, List.append_nil]
      exact Ans.not (by omega) (Ans.pure _)
    | succ d ih =>
      intro i y h1 h2 h3
      have rl := rowF_len (fun i j => decide (wayH h i j = w)) i (n - 1) 1
      have e := ih (i + 1) (y ++ rowF (fun i j => decide (wayH h i j = w)) i (n - 1) 1) (by omega) (by omega) (by rw [List.length_append]; omega)
      rw [List.append_assoc] at e
      rw [tabF]
      refine Ans.step ?_
      simp only [spec_heFlips.l0, q.1, len_down (show n ≤ 1000000 by omega)]
      exact Ans.yes (by omega) (inner _ i (by omega) (n - 1) 1 y (by omega) (by omega) (by omega) e)
  simp only [spec_heFlips.f]
  by_cases c : 1 ≤ n
  · have := key (n - 1) 1 [] (by omega) (by omega) (by simp)
    rw [List.nil_append] at this
    exact this
  · have z : cellsF n (fun i j => decide (wayH h i j = w)) = [] := by unfold cellsF; rw [show n - 1 = 0 by omega]; rfl
    rw [z]
    refine Ans.step ?_
    simp only [spec_heFlips.l0, q.1, len_down (show n ≤ 1000000 by omega)]
    exact Ans.not (by omega) (Ans.pure _)
/-- The reference's flip of a cell that can be flipped. -/
theorem hgt_bound {x : List (List Int)} (s : sign x = true) {n : Nat} (hn : x.length = n) : ∀ i j, i ≤ n → j ≤ n → -10000 ≤ hgt x i j ∧ hgt x i j ≤ 10000 := fun i j hi hj => by
  have a := hgt_in s hn hi hj
  have b := (sign_en s hn).2.2.1
  omega
theorem heCell (n i j : Nat) (hn : n ≤ 1000) : spec_heCell.f (n : Int) i j = some (decide ((1 ≤ i ∧ i < n) ∧ (1 ≤ j ∧ j < n))) := by
  simp only [spec_heCell.f, l1In, Option.bind_some]
  rw [show wrap64 ((n : Int) - 1) = (n : Int) - 1 from wrap64_in _ ⟨by omega, by omega⟩]
  by_cases c : 1 ≤ i ∧ i < n
  · rw [if_pos (by rw [decide_eq_true_eq]; omega)]; congr 1; rw [decide_eq_decide]; omega
  · rw [if_neg (by rw [decide_eq_true_eq]; omega)]; congr 1; exact (decide_eq_false (by omega)).symm
theorem specFlip {x : List (List Int)} (s : sign x = true) {n : Nat} (hn : x.length = n) {i j : Nat} (hi : 1 ≤ i ∧ i < n) (hj : 1 ≤ j ∧ j < n) : Ans (fun k => spec_FlipAt.f k x i j) (if wayH (hgt x) i j = 0 then ([], false) else (mat n (flipH (hgt x) i j), true)) := by
  obtain ⟨_, h1, h6, _⟩ := sign_en s hn
  obtain ⟨a, b, c⟩ := HT_hf s hn
  have sg := sgGood x (by omega)
  rw [s] at sg
  have ho := specHeights s
  rw [a] at ho
  have wy := heWay (hgt x) (by omega) (hgt_bound s hn) hi hj
  have q := tab_sq (n + 1) (hgt x)
  have hl := q.1
  have hr : (rd_L3 (tab (n + 1) (n + 1) (hgt x)) (i : Int)).length = n + 1 := by unfold rd_L3; rw [Int.toNat_natCast]; exact q.row (by omega)
  have hb := hgt_bound s hn i j (by omega) (by omega)
  have wc := wayH_cases (hgt x) i j
  simp only [spec_FlipAt.f, hn, heCell n i j (by omega), Option.bind_some]
  refine sg.bind (Ans.yes rfl ?_)
  rw [decide_eq_true (show (1 ≤ i ∧ i < n) ∧ (1 ≤ j ∧ j < n) from ⟨hi, hj⟩)]
  refine Ans.step ?_
  simp only [spec_FlipAt.j0, Int.toNat_natCast]
  refine Ans.not (by simp) (ho.bind (wy.bind ?_))
  rw [show wrap64 (rd (rd_L3 (tab (n + 1) (n + 1) (hgt x)) (i : Int)) (j : Int) + wrap64 (2 * wayH (hgt x) i j)) = hgt x i j + 2 * wayH (hgt x) i j by
    rw [at_en, tab_en _ (by omega) (by omega), wrap64_in (2 * wayH (hgt x) i j) ⟨by omega, by omega⟩, wrap64_in _ ⟨by omega, by omega⟩], show rd_L3 (tab (n + 1) (n + 1) (hgt x)) (i : Int) = (tab (n + 1) (n + 1) (hgt x)).getD i [] by unfold rd_L3; rw [Int.toNat_natCast], tab_put _ (by omega) (by omega)]
  rw [show rd_L3 (tab (n + 1) (n + 1) (hgt x)) (i : Int) = (tab (n + 1) (n + 1) (hgt x)).getD i [] by unfold rd_L3; rw [Int.toNat_natCast]] at hr
  by_cases z : wayH (hgt x) i j = 0
  · rw [if_pos z]; exact Ans.yes z (Ans.pure _)
  · rw [if_neg z]
    have F := specFromH (tab_sq (n + 1) (flipH (hgt x) i j)) (by omega)
    rw [smat_of (hf_flip b hi hj) (by omega)] at F
    exact Ans.not z (Ans.yes (by omega) (Ans.yes (by omega) (Ans.yes (by omega) (Ans.yes (by omega) (F.bind (Ans.pure _))))))
theorem flip_sign {x : List (List Int)} (s : sign x = true) {n : Nat} (hn : x.length = n) {i j : Nat} (hi : 1 ≤ i ∧ i < n) (hj : 1 ≤ j ∧ j < n) : sign (mat n (flipH (hgt x) i j)) = true ∧ (mat n (flipH (hgt x) i j)).length = n :=
  ⟨mat_sign (hf_flip (HT_hf s hn).2.1 hi hj) (sign_en s hn).2.1 (sign_en s hn).2.2.1, (mat_sq n _).1⟩
/-- The draw of two matrices. -/
def Aside (p : Prop) : Prop := p
theorem draw_pair (c : List Int) (hc : ∀ x ∈ c, (Lit.int .u8 x).wf = true) (a s : Int) (most : Nat) (hm : 1 ≤ most) (hm2 : most ≤ 6) (h0 : 0 ≤ a) (h1 : a ≤ 10000000000) :
    ∃ m l a' s', Ans (fun k => spec_l1Cur_pair.f k c a s most) (m, l, a', s') ∧ a ≤ a' ∧ a' ≤ a + 10000 ∧ (m.length ≤ 7 ∧ ∀ r ∈ m, r.length ≤ 7) ∧ (l.length ≤ 7 ∧ ∀ r ∈ l, r.length ≤ 7) := by
  obtain ⟨m, a1, s1, f1, p1, q1, m1, m2⟩ := draw_signs c hc a s most hm hm2 h0 (by omega)
  have sg := sgGood m (by omega)
  -- the second one drawn by itself
  have alone : ∀ (a s : Int), 0 ≤ a → a ≤ 20000000000 → ∃ l a' s', Ans (fun k => spec_l1Cur_pair.j0 k most m true c a s) (m, l, a', s') ∧ a ≤ a' ∧ a' ≤ a + 3000 ∧ (l.length ≤ 7 ∧ ∀ r ∈ l, r.length ≤ 7) := by
    intro a s h0 h1
    obtain ⟨l, a2, s2, f2, p2, q2, l1, l2⟩ := draw_signs c hc a s most hm hm2 h0 (by omega)
    refine ⟨l, a2, s2, Ans.step ?_, p2, q2, l1, l2⟩
    simp only [spec_l1Cur_pair.j0]
    exact Ans.yes trivial (f2.bind (Ans.pure _))
  by_cases s' : sign m = true
  case neg =>
    rw [Bool.eq_false_iff.mpr s'] at sg
    obtain ⟨l, a2, s2, f2, p2, q2, l1⟩ := alone a1 s1 (by omega) (by omega)
    refine ⟨m, l, a2, s2, ?_, by omega, by omega, ⟨m1, m2⟩, l1⟩
    simp only [spec_l1Cur_pair.f]
    exact f1.bind (sg.bind (Ans.not (by simp) f2))
  rw [s'] at sg
  obtain ⟨v, a2, s2, e2, p2, q2⟩ := draw_one c hc a1 s1 10 (by omega) (by omega)
  cases v with
  | true =>
    obtain ⟨l, a3, s3, f3, p3, q3, l1⟩ := alone a2 s2 (by omega) (by omega)
    refine ⟨m, l, a3, s3, ?_, by omega, by omega, ⟨m1, m2⟩, l1⟩
    simp only [spec_l1Cur_pair.f]
    refine f1.bind (sg.bind (Ans.yes rfl ?_))
    simp only [e2, Option.bind_some]
    exact f3
  | false =>
    obtain ⟨n, hn⟩ : ∃ n, m.length = n := ⟨_, rfl⟩
    obtain ⟨_, n1, n6, _⟩ := sign_en s' hn
    obtain ⟨t, a3, s3, f3, p3, q3, t1, t2⟩ := draw_sure c hc a2 s2 n n1 n6 (by omega) (by omega)
    obtain ⟨u, a4, s4, e4, p4, q4⟩ := draw_one c hc a3 s3 3 (by omega) (by omega)
    cases u with
    | false =>
      refine ⟨m, t, a4, s4, ?_, by omega, by omega, ⟨m1, m2⟩, by rw [t1.1]; omega, fun r hr => by rw [t1.2 r hr]; omega⟩
      simp only [spec_l1Cur_pair.f]
      refine f1.bind (sg.bind (Ans.yes rfl ?_))
      simp only [e2, Option.bind_some]
      refine Ans.step ?_
      simp only [spec_l1Cur_pair.j0, hn]
      refine Ans.not (by simp) (f3.bind ?_)
      simp only [e4, Option.bind_some]
      exact Ans.not (by simp) (Ans.pure _)
    | true =>
      obtain ⟨v, a5, s5, e5, p5, q5, v0, v1⟩ := draw_pick c hc a4 s4 4 (by omega) (by omega)
      have loop : ∀ (d : Nat) (y : List (List Int)) (a s : Int), d ≤ 4 → sign y = true → y.length = n → 0 ≤ a → a + 4 * d ≤ 20000000000 → ∃ l a' s', Ans (fun k => spec_l1Cur_pair.l0 k m y (d : Int) c a s) (m, l, a', s') ∧ a ≤ a' ∧ a' ≤ a + 4 * d ∧ sign l = true ∧ l.length = n := by
        intro d
        induction d with
        | zero =>
          intro y a s _ sy hy h0 h1
          refine ⟨y, a, s, Ans.step ?_, by omega, by omega, sy, hy⟩
          simp only [spec_l1Cur_pair.l0]
          exact Ans.not (by omega) (Ans.pure _)
        | succ d ih =>
          intro y a s hd sy hy h0 h1
          obtain ⟨b, a1, s1, e1, p1, q1, b0, b1⟩ := draw_pick c hc a s 2 h0 (by omega)
          have ho := specHeights sy
          rw [(HT_hf sy hy).1] at ho
          obtain ⟨w, hw, wb⟩ : ∃ w, wrap64 ((wrap64 (2 * b)) - 1) = w ∧ w ≠ 0 := ⟨_, rfl, by
            rw [wrap64_in (2 * b) ⟨by omega, by omega⟩, wrap64_in _ ⟨by omega, by omega⟩]; omega⟩
          have fl := heFlips (hgt y) (by omega) (hgt_bound sy hy) w
          obtain ⟨L, hL⟩ : ∃ L, L = cellsF n (fun i j => decide (wayH (hgt y) i j = w)) := ⟨_, rfl⟩
          replace hw : Aside (wrap64 ((wrap64 (2 * b)) - 1) = w) := hw
          rw [← hL] at fl
          by_cases z : (L.length : Int) > 0
          · obtain ⟨g, a2, s2, e2, p2, q2, g0, g1⟩ := draw_pick c hc a1 s1 (L.length : Int) (by omega) (by omega)
            have gm := getD_mem (x := L) [] (show g.toNat < L.length by omega)
            have gm' := gm
            rw [hL, cellsF_mem] at gm'
            obtain ⟨i, j, i1, i2, j1, j2, wy, ce⟩ := gm'
            rw [← hL] at ce
            have er : rd_L3 L g = [(i : Int), (j : Int)] := ce
            have sf := specFlip sy hy ⟨i1, i2⟩ ⟨j1, j2⟩
            rw [if_neg (by simp only [decide_eq_true_eq] at wy; rw [wy]; exact wb)] at sf
            obtain ⟨k1, k2⟩ := flip_sign sy hy ⟨i1, i2⟩ ⟨j1, j2⟩
            obtain ⟨l, a', s', e, r1, r2, r3⟩ := ih _ a2 s2 (by omega) k1 k2 (by omega) (by omega)
            refine ⟨l, a', s', Ans.step ?_, by omega, by omega, r3⟩
            simp only [spec_l1Cur_pair.l0, len_down (show d ≤ 1000000 by omega), e1, Option.bind_some, show wrap64 ((wrap64 (2 * b)) - 1) = w from hw]
            refine Ans.yes (by omega) (ho.bind (fl.bind (Ans.yes z ?_)))
            simp only [e2, Option.bind_some, er]
            refine Ans.yes g0 (Ans.yes (by omega) (Ans.yes (by simp) (Ans.yes (by simp) ?_)))
            exact sf.bind e
          · obtain ⟨l, a', s', e, r1, r2, r3⟩ := ih y a1 s1 (by omega) sy hy (by omega) (by omega)
            refine ⟨l, a', s', Ans.step ?_, by omega, by omega, r3⟩
            simp only [spec_l1Cur_pair.l0, len_down (show d ≤ 1000000 by omega), e1, Option.bind_some, show wrap64 ((wrap64 (2 * b)) - 1) = w from hw]
            exact Ans.yes (by omega) (ho.bind (fl.bind (Ans.not z e)))
      obtain ⟨l, a6, s6, e6, p6, q6, r1, r2⟩ := loop v.toNat m a5 s5 (by omega) s' hn (by omega) (by omega)
      rw [Int.toNat_of_nonneg v0] at e6
      obtain ⟨lq, _⟩ := sign_en r1 r2
      refine ⟨m, l, a6, s6, ?_, by omega, by omega, ⟨m1, m2⟩, by omega, fun r hr => by rw [lq.2 r hr]; omega⟩
      simp only [spec_l1Cur_pair.f]
      refine f1.bind (sg.bind (Ans.yes rfl ?_))
      simp only [e2, Option.bind_some]
      refine Ans.step ?_
      simp only [spec_l1Cur_pair.j0, hn]
      refine Ans.not (by simp) (f3.bind ?_)
      simp only [e4, e5, Option.bind_some]
      exact Ans.yes trivial e6
theorem big_ans (c m : List Int) : ∃ b, laws_big.f c m = some b := by
  simp only [laws_big.f]
  split
  · exact ⟨_, rfl⟩
  · exact ⟨_, rfl⟩
theorem drawH (c : List Int) (hc : ∀ x ∈ c, (Lit.int .u8 x).wf = true) : ∃ m, Ans (fun k => spec_DrawHeightsOf.f k c) m ∧ m.length ≤ 7 ∧ ∀ r ∈ m, r.length ≤ 7 := by
  obtain ⟨m, a, s, f, _, _, h1, h2⟩ := draw_signs c hc 0 0 5 (by omega) (by omega) (by omega) (by omega)
  refine ⟨m, ?_, h1, h2⟩
  simp only [spec_DrawHeightsOf.f, spec_DrawIsSignMatrix.f]
  exact (f.bind (h := fun _ bt => some bt.1) (Ans.pure _)).bind (Ans.pure _)
theorem drawF (c : List Int) (hc : ∀ x ∈ c, (Lit.int .u8 x).wf = true) : ∃ m, Ans (fun k => spec_DrawFromHeights.f k c) m ∧ m.length ≤ 7 ∧ ∀ r ∈ m, r.length ≤ 7 := by
  obtain ⟨m, a, s, f, a0, a1, h1, h2⟩ := draw_signs c hc 0 0 5 (by omega) (by omega) (by omega) (by omega)
  have sg := sgGood m (by omega)
  have out : ∀ y, Ans (fun k => spec_DrawAreHeights.f k c) y → Ans (fun k => spec_DrawFromHeights.f k c) y := fun y h => by
    simp only [spec_DrawFromHeights.f]; exact h.bind (Ans.pure _)
  by_cases t : sign m = true
  case neg =>
    rw [Bool.eq_false_iff.mpr t] at sg
    refine ⟨m, out _ ?_, h1, h2⟩
    simp only [spec_DrawAreHeights.f]
    exact f.bind (sg.bind (Ans.not (by simp) (Ans.pure _)))
  rw [t] at sg
  have ho := specHeights t
  obtain ⟨n, hn⟩ : ∃ n, m.length = n := ⟨_, rfl⟩
  obtain ⟨_, n1, n6, _⟩ := sign_en t hn
  have q := HT_sq m
  rw [hn] at q
  have ql := q.1
  have small : ∀ y, Sq (n + 1) y → y.length ≤ 7 ∧ ∀ r ∈ y, r.length ≤ 7 := fun y h => ⟨by rw [h.1]; omega, fun r hr => by rw [h.2 r hr]; omega⟩
  have cut : ∀ y : List (List Int), (y.length ≤ 7 ∧ ∀ r ∈ y, r.length ≤ 7) → (y.drop (1 : Int).toNat).length ≤ 7 ∧ ∀ r ∈ y.drop (1 : Int).toNat, r.length ≤ 7 := fun y h => ⟨by rw [List.length_drop]; omega, fun r hr => h.2 r (List.mem_of_mem_drop hr)⟩
  obtain ⟨v, b, s2, e2, p2, q2⟩ := draw_one c hc a s 4 (by omega) (by omega)
  cases v with
  | false =>
    obtain ⟨u, b2, s3, e3, p3, q3⟩ := draw_one c hc b s2 15 (by omega) (by omega)
    cases u with
    | false =>
      refine ⟨HT m, out _ ?_, small _ q⟩
      simp only [spec_DrawAreHeights.f]
      refine f.bind (sg.bind (Ans.yes rfl (ho.bind ?_)))
      simp only [e2, e3, Option.bind_some]
      exact Ans.not (by simp) (Ans.not (by simp) (Ans.pure _))
    | true =>
      refine ⟨(HT m).drop (1 : Int).toNat, out _ ?_, cut _ (small _ q)⟩
      simp only [spec_DrawAreHeights.f]
      refine f.bind (sg.bind (Ans.yes rfl (ho.bind ?_)))
      simp only [e2, e3, Option.bind_some]
      exact Ans.not (by simp) (Ans.yes trivial (Ans.yes (by omega) (Ans.pure _)))
  | true =>
    obtain ⟨i, b1, s3, e3, p3, q3, i0, i1⟩ := draw_pick c hc b s2 ((HT m).length : Int) (by omega) (by omega)
    obtain ⟨j, b2, s4, e4, p4, q4, j0, j1⟩ := draw_pick c hc b1 s3 ((HT m).length : Int) (by omega) (by omega)
    obtain ⟨w, b3, s5, e5, p5, q5, _⟩ := draw_among c hc b2 s4 [1, (-1), 2, (-2), 4611686018427387904] (by simp) (by omega) (by omega)
    obtain ⟨u, b4, s6, e6, p6, q6⟩ := draw_one c hc b3 s5 15 (by omega) (by omega)
    have hr : (rd_L3 (HT m) i).length = n + 1 := q.row (by omega)
    obtain ⟨y, hy⟩ : ∃ y, y = (HT m).set i.toNat ((rd_L3 (HT m) i).set j.toNat (wrap64 ((rd (rd_L3 (HT m) i) j) + w))) := ⟨_, rfl⟩
    have ys : Sq (n + 1) y := by rw [hy]; exact (put_sq q i.toNat j.toNat (by omega) (by omega) _).1
    cases u with
    | false =>
      refine ⟨y, out _ ?_, small _ ys⟩
      simp only [spec_DrawAreHeights.f]
      refine f.bind (sg.bind (Ans.yes rfl (ho.bind ?_)))
      simp only [e2, e3, e4, e5, e6, Option.bind_some, ← hy]
      exact Ans.yes trivial (Ans.yes i0 (Ans.yes (by omega) (Ans.yes j0 (Ans.yes (by omega) (Ans.not (by simp) (Ans.pure _))))))
    | true =>
      refine ⟨y.drop (1 : Int).toNat, out _ ?_, cut _ (small _ ys)⟩
      simp only [spec_DrawAreHeights.f]
      refine f.bind (sg.bind (Ans.yes rfl (ho.bind ?_)))
      simp only [e2, e3, e4, e5, e6, Option.bind_some, ← hy]
      exact Ans.yes trivial (Ans.yes i0 (Ans.yes (by omega) (Ans.yes j0 (Ans.yes (by omega) (Ans.yes trivial (Ans.yes (by omega) (Ans.pure _)))))))
theorem isb_of {x y : List (List Int)} (s : sign x = true) (t : sign y = true) (h : x.length = y.length) : isb x y = (bel x y, true) := if_pos (two_iff.mpr ⟨s, t, h⟩)
theorem mir2' {x : List (List Int)} : mir (mir x) = x := by
  unfold mir; rw [List.map_map]
  exact (List.map_congr_left (fun a _ => List.reverse_reverse a)).trans (List.map_id x)
theorem law_j4 (x y : List (List Int)) (hx : x.length ≤ 1000) (hy : y.length ≤ 1000) : Ans (fun k => laws_FnHeightsAreMatrices.j4 k x y (isb x y).1 (isb x y).2 false) true := by
  refine Ans.step ?_
  simp only [laws_FnHeightsAreMatrices.j4]
  refine Ans.not (by simp) ?_
  by_cases c : two x y = true
  case neg => rw [show isb x y = (false, false) from if_neg c]; exact Ans.not (by simp) (Ans.pure _)
  obtain ⟨s, t, h⟩ := two_iff.mp c
  obtain ⟨n, hn⟩ : ∃ n, x.length = n := ⟨_, rfl⟩
  obtain ⟨qx, n1, n6, _⟩ := sign_en s hn
  obtain ⟨qy, _⟩ := sign_en t (show y.length = n by omega)
  have sx := sign_mir s
  have sy := sign_mir t
  have lx := (mir_sq qx).1
  have ly := (mir_sq qy).1
  have ll := (tab_sq n (fun i j => if i = j then 1 else 0)).1
  have sl := lea_sign n n1 n6
  have sm := sign_mir sl
  have lm := (mir_sq (tab_sq n (fun i j => if i = j then 1 else 0))).1
  have D1 := dualOf (x := x) (by omega)
  have D2 := dualOf (x := y) (by omega)
  rw [chg_of s] at D1
  rw [chg_of t] at D2
  have B1 := implBelow (x := mir y) (y := mir x) (by omega) (by omega)
  rw [isb_of sy sx (by omega), bel_mir s t h] at B1
  have B2 := implBelow (x := y) (y := x) (by omega) (by omega)
  rw [isb_of t s h.symm] at B2
  have L := leastSigns n n1 n6
  have G := greatestSigns n n1 n6
  have B3 := implBelow (x := lea n) (y := x) (by unfold lea; omega) (by omega)
  rw [isb_of sl s (by unfold lea; omega), show bel (lea n) x = true by rw [← hn]; exact bel_lea s] at B3
  have B4 := implBelow (x := x) (y := mir (lea n)) (by omega) (by unfold lea; omega)
  rw [isb_of s sm (by unfold lea; omega), show bel x (mir (lea n)) = true by
    rw [← bel_mir s sm (by unfold lea; omega), mir2', show n = (mir x).length by omega]; exact bel_lea sx] at B4
  have R := hRowsD (x := x) (y := y) (by omega) (fun r hr => by rw [qx.2 r hr]; omega)
  have A := bel_anti s t h
  rw [isb_of s t h]
  refine Ans.yes rfl (D1.bind (D2.bind (B1.bind (B2.bind ?_))))
  rw [hn]
  refine L.bind (B3.bind (G.bind (B4.bind (Ans.yes rfl (Ans.yes rfl (Ans.yes rfl (Ans.yes (by simp) (Ans.yes rfl ?_))))))))
  by_cases b : bel x y = true
  · refine Ans.yes b (R.bind (Ans.yes ?_ (Ans.yes rfl (Ans.yes rfl (Ans.yes rfl (Ans.yes rfl (Ans.yes rfl (Ans.pure _))))))))
    rw [b] at A
    rw [beq_iff_eq, Bool.eq_iff_iff, decide_eq_true_eq, ← A]; simp
  · refine Ans.not b (R.bind (Ans.yes ?_ (Ans.yes rfl (Ans.yes rfl (Ans.yes rfl (Ans.yes rfl (Ans.yes rfl (Ans.pure _))))))))
    rw [beq_iff_eq]
    exact (decide_eq_false (fun e => b (A.mpr e).1)).symm
theorem law_j3 (c : List Int) (hc : ∀ x ∈ c, (Lit.int .u8 x).wf = true) : Ans (fun k => laws_FnHeightsAreMatrices.j3 k c) true := by
  obtain ⟨x, y, a, s, f, _, _, hx, hy⟩ := draw_pair c hc 0 0 5 (by omega) (by omega) (by omega) (by omega)
  have D : Ans (fun k => spec_DrawIsBelow.f k c) (x, y) := by
    simp only [spec_DrawIsBelow.f]
    exact f.bind (h := fun _ bt => some (bt.1, bt.2.1)) (Ans.pure _)
  have hx1 := hx.1
  have hy1 := hy.1
  refine Ans.step ?_
  simp only [laws_FnHeightsAreMatrices.j3]
  refine D.bind ((implBelow (x := x) (y := y) (by omega) (by omega)).bind ((specBelow (x := x) (y := y) (by omega) (by omega)).bind (Ans.not (by simp) ?_)))
  rw [show ((isb x y).1 != (isb x y).1) = false by simp]
  exact law_j4 x y (by omega) (by omega)
theorem small_HT {x : List (List Int)} (s : sign x = true) : (HT x).length ≤ 1000 ∧ ∀ r ∈ HT x, r.length ≤ 1000 := by
  have q := HT_sq x
  have := (sign_en s rfl).2.2.1
  exact ⟨by rw [q.1]; omega, fun r hr => by rw [q.2 r hr]; omega⟩
theorem small_sign {x : List (List Int)} (s : sign x = true) : x.length ≤ 1000 ∧ ∀ r ∈ x, r.length ≤ 1000 := by
  obtain ⟨q, h⟩ := sign_sq s
  exact ⟨by omega, fun r hr => by rw [q.2 r hr]; omega⟩
theorem law_j1 (c : List Int) (hc : ∀ x ∈ c, (Lit.int .u8 x).wf = true) : Ans (fun k => laws_FnHeightsAreMatrices.j1 k c) true := by
  obtain ⟨h, D, h1, h2⟩ := drawF c hc
  obtain ⟨r, fr, A⟩ := implFromHeights (h := h) (by omega)
  obtain ⟨q, fq, B, C⟩ := specFromHeights (h := h) (by omega) (fun r hr => by have := h2 r hr; omega)
  obtain rfl := fr.one fq
  have P := implAre A
  have R : Ans (fun k => laws_hRows.f k r.1 r.1) true := by
    rcases fr with ⟨x, s, e, rfl⟩ | ⟨_, rfl⟩
    · have := small_sign s
      exact hRows x (by omega) (fun r hr => by have := this.2 r hr; omega)
    · exact hRows [] (by simp) (by simp)
  refine Ans.step ?_
  simp only [laws_FnHeightsAreMatrices.j1]
  refine D.bind (A.bind (B.bind (Ans.not (by simp) (R.bind (Ans.yes rfl (P.bind (Ans.not (by simp) (C.bind ?_))))))))
  rw [show (r.2 != r.2) = false by simp]
  refine Ans.step ?_
  simp only [laws_FnHeightsAreMatrices.j2]
  refine Ans.not (by simp) ?_
  rcases fr with ⟨x, s, e, rfl⟩ | ⟨_, rfl⟩
  · have k1 := small_sign s
    have k2 := small_HT s
    have H := heightsOf (x := x) (by omega)
    rw [chg_of s] at H
    have Q := hRows (HT x) (by omega) (fun r hr => by have := k2.2 r hr; omega)
    rw [← e]
    exact Ans.yes rfl (H.bind (Ans.yes rfl (Q.bind (Ans.yes rfl (law_j3 c hc)))))
  · exact Ans.not (by simp) (law_j3 c hc)
theorem FnHeightsAreMatrices : laws_FnHeightsAreMatrices.Pure := by
  intro c m _ _ hc _ _ hm
  refine Ans.at (g := fun k => laws_FnHeightsAreMatrices.f k c m) ?_
  simp only [laws_FnHeightsAreMatrices.f]
  obtain ⟨b, hb⟩ := big_ans c m
  simp only [hb, Option.bind_some]
  cases b with
  | true => exact Ans.yes rfl (Ans.pure _)
  | false =>
    refine Ans.not (by simp) ?_
    obtain ⟨x, D, h1, h2⟩ := drawH c hc
    have I := heightsOf (x := x) (by omega)
    have J := specHeightsOf (x := x) (by omega)
    refine D.bind (I.bind (J.bind (Ans.not (by simp) ?_)))
    by_cases s : sign x = true
    · rw [chg_of s] at *
      have k2 := small_HT s
      have k1 := small_sign s
      refine (hRows (HT x) (by omega) (fun r hr => by have := k2.2 r hr; omega)).bind (Ans.step ?_)
      simp only [laws_FnHeightsAreMatrices.j0]
      obtain ⟨r, fr, A⟩ := implFromHeights (h := HT x) (by omega)
      obtain rfl : r = (x, true) := fr.one (.inl ⟨x, s, rfl, rfl⟩)
      exact Ans.not (by simp) (Ans.yes trivial (A.bind (Ans.yes rfl ((hRows x (by omega) (fun r hr => by have := k1.2 r hr; omega)).bind (Ans.yes rfl ((implAre A).bind (Ans.yes rfl (law_j1 m hm))))))))
    · rw [show chg HT x = ([], false) from if_neg s] at *
      refine (hRows [] (by simp) (by simp)).bind (Ans.step ?_)
      simp only [laws_FnHeightsAreMatrices.j0]
      exact Ans.not (by simp) (Ans.not (by simp) (law_j1 m hm))

end Go.Proofs.Ytkbehdgneojdbaa.Pure
