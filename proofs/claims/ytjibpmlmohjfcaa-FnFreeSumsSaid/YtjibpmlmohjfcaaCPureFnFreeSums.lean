/- For all bytes the statement on free sums answers true: no condition. -/
import Derived.Test.YtjibpmlmohjfcaaCFnFreeSumsx5
import Derived.Test.YtjibpmlmohjfcaaQTwo
import Derived.Test.YtjibpmlmohjfcaaQByte
import Derived.Test.YtjibpmlmohjfcaaQByte
namespace Go.Proofs.Ytjibpmlmohjfcaa.Pure
open Go.RowKit Go.Proofs.Ytjibpmlmohjfcaa.X Go.Proofs.YtjibpmlmohjfcaaW.PrintWords Go.Proofs.YtjibpmlmohjfcaaW.PrintLast Go.Proofs.Ytjibpmlmohjfcaa.Q
set_option linter.unusedVariables false
set_option linter.unusedSimpArgs false
theorem rd_L1_mem {x : List (List Int)} {i : Int} (h0 : 0 ≤ i) (h1 : i < x.length) : rd_L3 x i ∈ x := by unfold rd_L3; exact getD_mem _ (by omega)
theorem LeO.far {α : Type} {g : Nat → Option α} {r : α} (h : ∀ k, LeO (g k) (g (k + 1))) (m : Nat) (e : g m = some r) : Ans g r :=
  ⟨m, fun k hk => by
    obtain ⟨j, rfl⟩ : ∃ j, k = m + j := ⟨k - m, by omega⟩
    clear hk
    induction j with
    | zero => exact e
    | succ j ih => exact h _ r ih⟩
theorem l1In (a b c : Int) : spec_l1In.f a b c = some (decide (b ≤ a ∧ a ≤ c)) := by
  unfold spec_l1In.f
  by_cases h : a ≥ b
  · rw [if_pos h]; refine congrArg some (decide_eq_decide.mpr ⟨fun q => ⟨h, q⟩, fun q => q.2⟩)
  · rw [if_neg h, decide_eq_false (by omega)]
theorem within (a b c : Int) : impl_within.f a b c = some (decide (b ≤ a ∧ a ≤ c)) := by
  unfold impl_within.f
  by_cases h : b ≤ a
  · rw [if_pos h]; refine congrArg some (decide_eq_decide.mpr ⟨fun q => ⟨h, q⟩, fun q => q.2⟩)
  · rw [if_neg h, decide_eq_false (by omega)]
theorem containsL (x : List (List Int)) (hx : x.length ≤ 17592186044416) (g : List Int → Option Bool) (p : List Int → Bool) (hg : ∀ a, g a = some (p a)) : Ans (fun k => slices_ContainsFunc_int_int_81.f k x g) (x.any p) := by
  have key : ∀ (d : Nat) (i : Int), 0 ≤ i → i + d = x.length → ∃ z : Int, Ans (fun k => slices_IndexFunc_int_int_124.l0 k x g (x.length : Int) i) z ∧ decide (z ≥ 0) = (x.drop i.toNat).any p := by
    intro d
    induction d with
    | zero =>
      intro i h0 h1
      refine ⟨-1, Ans.step ?_, by rw [List.drop_eq_nil_of_le (by omega)]; rfl⟩
      simp only [slices_IndexFunc_int_int_124.l0]; exact Ans.not (by omega) (Ans.pure _)
    | succ d ih =>
      intro i h0 h1
      have hd := drop_at x [] (show i.toNat < x.length by omega)
      by_cases c : p (rd_L3 x i) = true
      · refine ⟨i, Ans.step ?_, by rw [hd, List.any_cons, show p (x.getD i.toNat []) = true from c]; simp [h0]⟩
        simp only [slices_IndexFunc_int_int_124.l0, hg, Option.bind_some]
        exact Ans.yes (by omega) (Ans.yes h0 (Ans.yes (by omega) (Ans.yes c (Ans.pure _))))
      · obtain ⟨z, e, hz⟩ := ih (i + 1) (by omega) (by omega)
        refine ⟨z, Ans.step ?_, by rw [hz, hd, List.any_cons, show p (x.getD i.toNat []) = false from Bool.eq_false_iff.mpr c, show (i + 1).toNat = i.toNat + 1 by omega]; simp⟩
        simp only [slices_IndexFunc_int_int_124.l0, hg, Option.bind_some, wrap64_up h0 (by omega : i ≤ 4611686018427387904)]
        exact Ans.yes (by omega) (Ans.yes h0 (Ans.yes (by omega) (Ans.not c e)))
  obtain ⟨z, e, hz⟩ := key x.length 0 (by omega) (by omega)
  simp only [slices_ContainsFunc_int_int_81.f, slices_IndexFunc_int_int_124.f]
  have := e.bind (h := fun _ t => some (decide (t ≥ 0))) (Ans.pure (decide (z ≥ 0)))
  rwa [hz] at this
def colOf (x : List (List Int)) (j : Int) : List Int := x.map fun r => rd r j
theorem range_drop {n i : Nat} (h : i < n) : (List.range n).drop i = i :: (List.range n).drop (i + 1) := by
  rw [drop_at (List.range n) 0 (by simpa using h), getD_at _ _ (by simpa using h), List.getElem_range]
theorem sgTurn (x : List (List Int)) (h : x.length ≤ 1048576) (hr : ∀ r ∈ x, r.length = x.length) : Ans (fun k => spec_sgTurn.f k x) ((List.range x.length).map fun (j : Nat) => colOf x j) := by
  have inner : ∀ (out : List (List Int)) (j : Int) (R : List (List Int)), 0 ≤ j → j < x.length → out.length ≤ 1048576 → ∀ (d : Nat) (i : Int) (acc : List Int), 0 ≤ i → i + d = x.length → acc.length + d ≤ 1048576 →
      Ans (fun k => spec_sgTurn.l0 k x (out ++ [acc ++ colOf (x.drop i.toNat) j]) (x.length : Int) (j + 1)) R → Ans (fun k => spec_sgTurn.l1 k x out j acc (x.length : Int) j x (x.length : Int) i) R := by
    intro out j R hj hj' ho d
    induction d with
    | zero =>
      intro i acc h0 h1 h2 e
      rw [List.drop_eq_nil_of_le (by omega), colOf, List.map_nil, List.append_nil] at e; refine Ans.step ?_
      simp only [spec_sgTurn.l1, wrap64_up hj (by omega : j ≤ 4611686018427387904)]; exact Ans.not (by omega) (Ans.yes (by omega) e)
    | succ d ih =>
      intro i acc h0 h1 h2 e
      have hm := rd_L1_mem h0 (show i < x.length by omega)
      rw [drop_at x [] (show i.toNat < x.length by omega), show x.getD i.toNat [] = rd_L3 x i from rfl] at e
      refine Ans.step ?_
      simp only [spec_sgTurn.l1, wrap64_up h0 (by omega : i ≤ 4611686018427387904)]
      refine Ans.yes (by omega) (Ans.yes h0 (Ans.yes (by omega) (Ans.yes hj (Ans.yes (by have := hr _ hm; omega) (Ans.yes (by omega) (ih (i + 1) _ (by omega) (by omega) (by simp only [List.length_append, List.length_singleton]; omega) ?_))))))
      rw [show (i + 1).toNat = i.toNat + 1 by omega, List.append_assoc, List.singleton_append]
      exact e
  have key : ∀ (d : Nat) (j : Int) (out : List (List Int)), 0 ≤ j → j + d = x.length → out.length + d ≤ 1048576 → Ans (fun k => spec_sgTurn.l0 k x out (x.length : Int) j) (out ++ ((List.range x.length).drop j.toNat).map fun (j : Nat) => colOf x j) := by
    intro d
    induction d with
    | zero =>
      intro j out h0 h1 h2
      rw [List.drop_eq_nil_of_le (by simp only [List.length_range]; omega), List.map_nil, List.append_nil]; refine Ans.step ?_
      simp only [spec_sgTurn.l0]; exact Ans.not (by omega) (Ans.pure _)
    | succ d ih =>
      intro j out h0 h1 h2
      have e := ih (j + 1) (out ++ [colOf x j]) (by omega) (by omega) (by simp only [List.length_append, List.length_singleton]; omega)
      rw [show (j + 1).toNat = j.toNat + 1 by omega, List.append_assoc, List.singleton_append] at e
      rw [range_drop (show j.toNat < x.length by omega), List.map_cons, show ((j.toNat : Nat) : Int) = j by omega]
      refine Ans.step ?_
      simp only [spec_sgTurn.l0]
      exact Ans.yes (by omega) (inner out j _ h0 (by omega) (by omega) x.length 0 [] (by omega) (by omega) (by simp only [List.length_nil]; omega) e)
  exact key x.length 0 [] (by omega) (by omega) (by simp only [List.length_nil]; omega)
theorem isSquare (x : List (List Int)) (hx : x.length ≤ 17592186044416) : Ans (fun k => impl_isSquare.f k x) (x.all fun r => decide (r.length = x.length)) := by
  have e := containsL x hx (fun x0_ => impl_isSquare_1.f x0_ x) (fun r => (r.length : Int) != (x.length : Int)) (fun a => rfl)
  have := e.bind (h := fun _ t => some (!t)) (Ans.pure _)
  rw [List.not_any_eq_all_not] at this
  rwa [show (fun r : List Int => !((r.length : Int) != (x.length : Int))) = fun r => decide (r.length = x.length) from funext fun r => by by_cases h : r.length = x.length <;> simp [bne, h]; omega] at this
/-- The numbers are -1, 0, 1, and their sums from s on are 0 or 1, the last one 1. -/
def walkOk : Int → List Int → Bool
  | s, [] => s == 1
  | s, a :: x => decide (-1 ≤ a ∧ a ≤ 1) && (decide (0 ≤ s + a ∧ s + a ≤ 1) && walkOk (s + a) x)
theorem alternate (x : List Int) (hx : x.length ≤ 17592186044416) : Ans (fun k => impl_alternate.f k x) (walkOk 0 x) := by
  have key : ∀ (d : Nat) (i s : Int), 0 ≤ i → i + d = x.length → 0 ≤ s → s ≤ 1 → Ans (fun k => impl_alternate.l0 k s x (x.length : Int) i) (walkOk s (x.drop i.toNat)) := by
    intro d
    induction d with
    | zero =>
      intro i s h0 h1 s0 s1
      rw [List.drop_eq_nil_of_le (by omega)]; refine Ans.step ?_
      simp only [impl_alternate.l0]; exact Ans.not (by omega) (Ans.pure _)
    | succ d ih =>
      intro i s h0 h1 s0 s1
      rw [drop_at x 0 (show i.toNat < x.length by omega), show x.getD i.toNat 0 = rd x i from rfl, walkOk]
      refine Ans.step ?_
      simp only [impl_alternate.l0, within, Option.bind_some, wrap64_up h0 (by omega : i ≤ 4611686018427387904)]
      refine Ans.yes (by omega) (Ans.yes h0 (Ans.yes (by omega) ?_))
      by_cases c1 : decide (-1 ≤ rd x i ∧ rd x i ≤ 1) = true
      · have b1 := of_decide_eq_true c1
        have hw : wrap64 (s + rd x i) = s + rd x i := wrap64_in _ ⟨by omega, by omega⟩
        simp only [hw]
        rw [c1, Bool.true_and]
        refine Ans.yes rfl ?_
        by_cases c2 : decide (0 ≤ s + rd x i ∧ s + rd x i ≤ 1) = true
        · have b2 := of_decide_eq_true c2
          have e := ih (i + 1) (s + rd x i) (by omega) (by omega) b2.1 b2.2
          rw [show (i + 1).toNat = i.toNat + 1 by omega] at e
          rw [c2, Bool.true_and]; exact Ans.yes rfl e
        · rw [Bool.eq_false_iff.mpr c2, Bool.false_and]; exact Ans.not (by simp) (Ans.pure _)
      · rw [Bool.eq_false_iff.mpr c1, Bool.false_and]; exact Ans.not (by simp) (Ans.pure _)
  exact key x.length 0 0 (by omega) (by omega) (by omega) (by omega)
theorem sgRows (x : List (List Int)) (hx : x.length ≤ 17592186044416) (hr : ∀ r ∈ x, r.length ≤ 17592186044416) : Ans (fun k => spec_sgRows.f k x) (x.all (walkOk 0)) := by
  have inner : ∀ (row : List Int) (m : Int) (R : Bool), row.length ≤ 17592186044416 → 0 ≤ m → m ≤ 17592186044416 → Ans (fun k => spec_sgRows.l0 k x (x.length : Int) (m + 1)) R →
      ∀ (d : Nat) (i s : Int), 0 ≤ i → i + d = row.length → 0 ≤ s → s ≤ 1 → Ans (fun k => spec_sgRows.l1 k s x (x.length : Int) m row (row.length : Int) i) (walkOk s (row.drop i.toNat) && R) := by
    intro row m R hrow hm hm' e d
    induction d with
    | zero =>
      intro i s h0 h1 s0 s1
      rw [List.drop_eq_nil_of_le (by omega), walkOk]; refine Ans.step ?_
      simp only [spec_sgRows.l1, wrap64_up hm (by omega : m ≤ 4611686018427387904)]
      refine Ans.not (by omega) ?_
      by_cases c : s = 1
      · rw [show (s == 1) = true by simp [c], Bool.true_and]; exact Ans.yes c e
      · rw [show (s == 1) = false by simp [c], Bool.false_and]; exact Ans.not c (Ans.pure _)
    | succ d ih =>
      intro i s h0 h1 s0 s1
      rw [drop_at row 0 (show i.toNat < row.length by omega), show row.getD i.toNat 0 = rd row i from rfl, walkOk]
      refine Ans.step ?_
      simp only [spec_sgRows.l1, l1In, Option.bind_some, wrap64_up h0 (by omega : i ≤ 4611686018427387904)]
      refine Ans.yes (by omega) (Ans.yes h0 (Ans.yes (by omega) ?_))
      by_cases c1 : decide (-1 ≤ rd row i ∧ rd row i ≤ 1) = true
      · have b1 := of_decide_eq_true c1
        have hw : wrap64 (s + rd row i) = s + rd row i := wrap64_in _ ⟨by omega, by omega⟩
        simp only [hw]
        rw [c1, Bool.true_and]
        refine Ans.yes rfl ?_
        by_cases c2 : decide (0 ≤ s + rd row i ∧ s + rd row i ≤ 1) = true
        · have b2 := of_decide_eq_true c2
          have e := ih (i + 1) (s + rd row i) (by omega) (by omega) b2.1 b2.2
          rw [show (i + 1).toNat = i.toNat + 1 by omega] at e
          rw [c2, Bool.true_and]; exact Ans.yes rfl e
        · rw [Bool.eq_false_iff.mpr c2, Bool.false_and, Bool.false_and]; exact Ans.not (by simp) (Ans.pure _)
      · rw [Bool.eq_false_iff.mpr c1, Bool.false_and, Bool.false_and]; exact Ans.not (by simp) (Ans.pure _)
  have key : ∀ (d : Nat) (i : Int), 0 ≤ i → i + d = x.length → Ans (fun k => spec_sgRows.l0 k x (x.length : Int) i) ((x.drop i.toNat).all (walkOk 0)) := by
    intro d
    induction d with
    | zero =>
      intro i h0 h1
      rw [List.drop_eq_nil_of_le (by omega)]; refine Ans.step ?_
      simp only [spec_sgRows.l0]; exact Ans.not (by omega) (Ans.pure _)
    | succ d ih =>
      intro i h0 h1
      have hm := rd_L1_mem h0 (show i < x.length by omega)
      rw [drop_at x [] (show i.toNat < x.length by omega), show x.getD i.toNat [] = rd_L3 x i from rfl, List.all_cons]
      have e := ih (i + 1) (by omega) (by omega)
      rw [show (i + 1).toNat = i.toNat + 1 by omega] at e
      refine Ans.step ?_
      simp only [spec_sgRows.l0]
      exact Ans.yes (by omega) (Ans.yes h0 (Ans.yes (by omega) (inner _ i _ (hr _ hm) h0 (by omega) e _ 0 0 (by omega) (show (0 : Int) + ((rd_L3 x i).length : Nat) = _ by omega) (by omega) (by omega))))
  exact key x.length 0 (by omega) (by omega)
theorem column (x : List (List Int)) (j : Int) (h : x.length ≤ 1048576) (hj : 0 ≤ j) (hr : ∀ r ∈ x, j < r.length) : Ans (fun k => impl_column.f k x j) (colOf x j) := by
  have key : ∀ (d : Nat) (i : Int) (acc : List Int), 0 ≤ i → i + d = x.length → acc.length + d ≤ 1048576 → Ans (fun k => impl_column.l0 k j acc x (x.length : Int) i) (acc ++ colOf (x.drop i.toNat) j) := by
    intro d
    induction d with
    | zero =>
      intro i acc h0 h1 h2
      rw [List.drop_eq_nil_of_le (by omega), colOf, List.map_nil, List.append_nil]; refine Ans.step ?_
      simp only [impl_column.l0]; exact Ans.not (by omega) (Ans.pure _)
    | succ d ih =>
      intro i acc h0 h1 h2
      have hm := rd_L1_mem h0 (show i < x.length by omega)
      have e := ih (i + 1) (acc ++ [rd (rd_L3 x i) j]) (by omega) (by omega) (by simp only [List.length_append, List.length_singleton]; omega)
      rw [show (i + 1).toNat = i.toNat + 1 by omega, List.append_assoc, List.singleton_append] at e
      rw [drop_at x [] (show i.toNat < x.length by omega), show x.getD i.toNat [] = rd_L3 x i from rfl]
      refine Ans.step ?_
      simp only [impl_column.l0, wrap64_up h0 (by omega : i ≤ 4611686018427387904)]
      exact Ans.yes (by omega) (Ans.yes h0 (Ans.yes (by omega) (Ans.yes hj (Ans.yes (hr _ hm) (Ans.yes (by omega) e)))))
  exact key x.length 0 [] (by omega) (by omega) (by simp only [List.length_nil]; omega)
theorem sgSquare (x : List (List Int)) (h : x.length ≤ 1048576) : Ans (fun k => spec_sgSquare.f k x) (decide (1 ≤ x.length ∧ x.length ≤ 6) && x.all fun r => decide (r.length = x.length)) := by
  have key : ∀ (d : Nat) (i : Int), 0 ≤ i → i + d = x.length → Ans (fun k => spec_sgSquare.l0 k x x (x.length : Int) i) ((x.drop i.toNat).all fun r => decide (r.length = x.length)) := by
    intro d
    induction d with
    | zero =>
      intro i h0 h1
      rw [List.drop_eq_nil_of_le (by omega)]; refine Ans.step ?_
      simp only [spec_sgSquare.l0]; exact Ans.not (by omega) (Ans.pure _)
    | succ d ih =>
      intro i h0 h1
      rw [drop_at x [] (show i.toNat < x.length by omega), show x.getD i.toNat [] = rd_L3 x i from rfl, List.all_cons]
      have e := ih (i + 1) (by omega) (by omega)
      rw [show (i + 1).toNat = i.toNat + 1 by omega] at e
      refine Ans.step ?_
      simp only [spec_sgSquare.l0, wrap64_up h0 (by omega : i ≤ 4611686018427387904)]
      refine Ans.yes (by omega) (Ans.yes h0 (Ans.yes (by omega) ?_))
      by_cases c : (rd_L3 x i).length = x.length
      · rw [decide_eq_true c, Bool.true_and]; exact Ans.yes (by omega) e
      · rw [decide_eq_false c, Bool.false_and]; exact Ans.not (by omega) (Ans.pure _)
  simp only [spec_sgSquare.f, l1In, Option.bind_some]
  by_cases c : decide ((1 : Int) ≤ (x.length : Int) ∧ (x.length : Int) ≤ 6) = true
  · have b := of_decide_eq_true c
    rw [show decide (1 ≤ x.length ∧ x.length ≤ 6) = true from decide_eq_true ⟨by omega, by omega⟩, Bool.true_and]
    exact Ans.yes c (key x.length 0 (by omega) (by omega))
  · have b : ¬ ((1 : Int) ≤ (x.length : Int) ∧ (x.length : Int) ≤ 6) := fun h => c (decide_eq_true h)
    rw [show decide (1 ≤ x.length ∧ x.length ≤ 6) = false from decide_eq_false (by omega), Bool.false_and]
    exact Ans.not c (Ans.pure _)
/-- What a sign matrix is, in plain words: square, up to six rows, rows and columns that alternate. -/
def sign (x : List (List Int)) : Bool :=
  (decide (1 ≤ x.length ∧ x.length ≤ 6) && x.all fun r => decide (r.length = x.length)) && (x.all (walkOk 0) && (List.range x.length).all fun (j : Nat) => walkOk 0 (colOf x j))
theorem square_of {x : List (List Int)} (h : (decide (1 ≤ x.length ∧ x.length ≤ 6) && x.all fun r => decide (r.length = x.length)) = true) : 1 ≤ x.length ∧ x.length ≤ 6 ∧ ∀ r ∈ x, r.length = x.length := by
  rw [Bool.and_eq_true] at h
  have b := of_decide_eq_true h.1
  exact ⟨b.1, b.2, fun r hr => of_decide_eq_true (List.all_eq_true.mp h.2 r hr)⟩
theorem sgGood (x : List (List Int)) (h : x.length ≤ 1048576) : Ans (fun k => spec_sgGood.f k x) (sign x) := by
  simp only [spec_sgGood.f]
  refine (sgSquare x h).bind ?_
  unfold sign
  by_cases c : (decide (1 ≤ x.length ∧ x.length ≤ 6) && x.all fun r => decide (r.length = x.length)) = true
  · obtain ⟨b1, b2, b3⟩ := square_of c
    rw [c, Bool.true_and]
    refine Ans.yes rfl ((sgRows x (by omega) (fun r hr => by have := b3 r hr; omega)).bind ?_)
    by_cases c2 : x.all (walkOk 0) = true
    · rw [c2, Bool.true_and]
      have e := sgRows ((List.range x.length).map fun (j : Nat) => colOf x j) (by simp only [List.length_map, List.length_range]; omega) (fun r hr => by
        obtain ⟨j, _, rfl⟩ := List.mem_map.1 hr
        simp only [colOf, List.length_map]; omega)
      rw [List.all_map] at e
      exact Ans.yes rfl ((sgTurn x h b3).bind (e.bind (Ans.pure _)))
    · rw [Bool.eq_false_iff.mpr c2, Bool.false_and]; exact Ans.not (by simp) (Ans.pure _)
  · rw [Bool.eq_false_iff.mpr c, Bool.false_and]; exact Ans.not (by simp) (Ans.pure _)
theorem isSign (x : List (List Int)) (h : x.length ≤ 1048576) : Ans (fun k => impl_IsSignMatrix.f k x) (sign x) := by
  have no : Ans (fun k => impl_IsSignMatrix.j0 k x true) false := by
    refine Ans.step ?_; simp only [impl_IsSignMatrix.j0]; exact Ans.yes (by simp) (Ans.pure _)
  simp only [impl_IsSignMatrix.f, impl_isSide.f, within, Option.bind_some]
  by_cases c : decide ((1 : Int) ≤ (x.length : Int) ∧ (x.length : Int) ≤ 6) = true
  · have b := of_decide_eq_true c
    refine Ans.yes c ((isSquare x (by omega)).bind ?_)
    unfold sign
    rw [show decide (1 ≤ x.length ∧ x.length ≤ 6) = true from decide_eq_true ⟨by omega, by omega⟩, Bool.true_and]
    by_cases c2 : (x.all fun r => decide (r.length = x.length)) = true
    · rw [c2, Bool.true_and]
      have b3 : ∀ r ∈ x, r.length = x.length := fun r hr => of_decide_eq_true (List.all_eq_true.mp c2 r hr)
      have key : ∀ (d : Nat) (i : Int), 0 ≤ i → i + d = x.length → Ans (fun k => impl_IsSignMatrix.l0 k x (x.length : Int) i) ((x.drop i.toNat).all (walkOk 0) && ((List.range x.length).drop i.toNat).all fun (j : Nat) => walkOk 0 (colOf x j)) := by
        intro d
        induction d with
        | zero =>
          intro i h0 h1
          rw [List.drop_eq_nil_of_le (by omega), List.drop_eq_nil_of_le (by simp only [List.length_range]; omega)]; refine Ans.step ?_
          simp only [impl_IsSignMatrix.l0]; exact Ans.not (by omega) (Ans.pure _)
        | succ d ih =>
          intro i h0 h1
          have hm := rd_L1_mem h0 (show i < x.length by omega)
          have e := ih (i + 1) (by omega) (by omega)
          rw [show (i + 1).toNat = i.toNat + 1 by omega] at e
          rw [drop_at x [] (show i.toNat < x.length by omega), show x.getD i.toNat [] = rd_L3 x i from rfl, range_drop (show i.toNat < x.length by omega), List.all_cons, List.all_cons, show ((i.toNat : Nat) : Int) = i by omega]
          refine Ans.step ?_
          simp only [impl_IsSignMatrix.l0, wrap64_up h0 (by omega : i ≤ 4611686018427387904)]
          refine Ans.yes (by omega) (Ans.yes h0 (Ans.yes (by omega) ((alternate _ (by have := b3 _ hm; omega)).bind ?_)))
          by_cases q1 : walkOk 0 (rd_L3 x i) = true
          · rw [q1, Bool.true_and]
            refine Ans.yes rfl ((column x i h h0 (fun r hr => by have := b3 r hr; omega)).bind ((alternate _ (by simp only [colOf, List.length_map]; omega)).bind ?_))
            by_cases q2 : walkOk 0 (colOf x i) = true
            · rw [q2, Bool.true_and]; exact Ans.yes rfl e
            · rw [Bool.eq_false_iff.mpr q2, Bool.false_and, Bool.and_false]; exact Ans.not (by simp) (Ans.pure _)
          · rw [Bool.eq_false_iff.mpr q1, Bool.false_and, Bool.false_and]; exact Ans.not (by simp) (Ans.pure _)
      refine Ans.step ?_
      simp only [impl_IsSignMatrix.j0]
      exact Ans.not (by simp) (key x.length 0 (by omega) (by omega))
    · rw [Bool.eq_false_iff.mpr c2, Bool.false_and]; exact no
  · have b : ¬ ((1 : Int) ≤ (x.length : Int) ∧ (x.length : Int) ≤ 6) := fun h => c (decide_eq_true h)
    unfold sign
    rw [show decide (1 ≤ x.length ∧ x.length ≤ 6) = false from decide_eq_false (by omega), Bool.false_and, Bool.false_and]
    exact Ans.not c no
def tab (r c : Nat) (v : Nat → Nat → Int) : List (List Int) := (List.range r).map fun i => (List.range c).map fun j => v i j
theorem table_row (c : Nat) (hc : c ≤ 1048576) (g : Int → Int → Option Int) (v : Nat → Int) (n : Int) (i : Nat) (hi : i ≤ 1048576) (hg : ∀ j : Nat, j < c → g i j = some (v j)) {R : List (List Int)} :
    ∀ (d j : Nat) (y : List (List Int)), j + d = c → i < y.length → (y.getD i []).length = c → Ans (fun k => impl_table.l0 k c g (y.set i ((y.getD i []).take j ++ ((List.range c).drop j).map v)) n ((i + 1 : Nat) : Int)) R →
      Ans (fun k => impl_table.l1 k c g y i n i (c : Int) j) R := by
  intro d
  induction d with
  | zero =>
    intro j y h1 h2 h3 e
    rw [List.drop_eq_nil_of_le (by simp only [List.length_range]; omega), List.map_nil, List.append_nil, List.take_of_length_le (by omega), set_same y [] i h2] at e
    refine Ans.step ?_
    simp only [impl_table.l1, wrap64_up (show (0 : Int) ≤ (i : Int) by omega) (by omega : (i : Int) ≤ 4611686018427387904)]
    refine Ans.not (by omega) ?_
    rw [show ((i + 1 : Nat) : Int) = (i : Int) + 1 by omega] at e
    exact e
  | succ d ih =>
    intro j y h1 h2 h3 e
    have hrow : rd_L3 y (i : Int) = y.getD i [] := by unfold rd_L3; rw [Int.toNat_natCast]
    refine Ans.step ?_
    simp only [impl_table.l1, hg j (by omega), Option.bind_some, wrap64_up (show (0 : Int) ≤ (j : Int) by omega) (by omega : (j : Int) ≤ 4611686018427387904), hrow, Int.toNat_natCast]
    refine Ans.yes (by omega) (Ans.yes (by omega) (Ans.yes (by omega) (Ans.yes (by omega) (Ans.yes (by omega) ?_))))
    have hj : j < (y.getD i []).length := by omega
    obtain ⟨t1, _⟩ := take_set_drop (y.getD i []) j (v j) hj
    have hget : (y.set i ((y.getD i []).set j (v j))).getD i [] = (y.getD i []).set j (v j) := by
      rw [getD_at _ _ (by simpa using h2)]; simp
    have := ih (j + 1) (y.set i ((y.getD i []).set j (v j))) (by omega) (by simpa using h2) (by rw [hget]; simpa using h3) (by
      rw [hget, List.set_set, t1, List.append_assoc]
      rw [range_drop (show j < c by omega), List.map_cons] at e
      exact e)
    rwa [show ((j + 1 : Nat) : Int) = (j : Int) + 1 by omega] at this
theorem table (r c : Nat) (hr : r ≤ 1048576) (hc : c ≤ 1048576) (g : Int → Int → Option Int) (v : Nat → Nat → Int) (hg : ∀ i j : Nat, i < r → j < c → g i j = some (v i j)) : Ans (fun k => impl_table.f k r c g) (tab r c v) := by
  have key : ∀ (d i : Nat) (y : List (List Int)), i + d = r → y.length = r → Ans (fun k => impl_table.l0 k c g y (r : Int) i) (y.take i ++ ((List.range r).drop i).map fun i => (List.range c).map fun j => v i j) := by
    intro d
    induction d with
    | zero =>
      intro i y h1 h2
      rw [List.drop_eq_nil_of_le (by simp only [List.length_range]; omega), List.map_nil, List.append_nil, List.take_of_length_le (by omega)]; refine Ans.step ?_
      simp only [impl_table.l0]; exact Ans.not (by omega) (Ans.pure _)
    | succ d ih =>
      intro i y h1 h2
      have hi : i < y.length := by omega
      have hget : (y.set i (List.replicate c 0)).getD i [] = List.replicate c 0 := by rw [getD_at _ _ (by simpa using hi)]; simp
      obtain ⟨t1, _⟩ := take_set_drop y i ((List.range c).map fun j => v i j) hi
      have e := ih (i + 1) (y.set i ((List.range c).map fun j => v i j)) (by omega) (by simpa using h2)
      rw [t1, List.append_assoc, List.singleton_append] at e
      rw [range_drop (show i < r by omega), List.map_cons]
      have hrow : rd_L3 (y.set i (List.replicate c 0)) (i : Int) = List.replicate c 0 := by unfold rd_L3; rw [Int.toNat_natCast]; exact hget
      refine Ans.step ?_
      simp only [impl_table.l0, Option.bind_some, Int.toNat_natCast, hrow, List.length_replicate]
      refine Ans.yes (by omega) (Ans.yes (by omega) (Ans.yes (by omega) (Ans.yes (by omega) (Ans.yes (by omega) ?_))))
      have := table_row c hc g (v i) (r : Int) i (by omega) (fun j hj => hg i j (by omega) hj) c 0 (y.set i (List.replicate c 0)) (by omega) (by simpa using hi) (by rw [hget]; simp) (by
        rw [List.set_set, List.take_zero, List.drop_zero, List.nil_append]; exact e)
      exact this
  simp only [impl_table.f, Option.bind_some, Int.toNat_natCast, List.length_replicate]
  refine Ans.yes (by omega) (Ans.yes (by omega) ?_)
  have := key r 0 (List.replicate r []) (by omega) (by simp)
  simpa [tab] using this
/-- Square, with n rows. -/
def Sq (n : Nat) (x : List (List Int)) : Prop := x.length = n ∧ ∀ r ∈ x, r.length = n
theorem Sq.row {n : Nat} {x : List (List Int)} (h : Sq n x) {i : Nat} (hi : i < n) : (x.getD i []).length = n := h.2 _ (getD_mem [] (by rw [h.1]; exact hi))
theorem tab_is {n : Nat} {y : List (List Int)} (h : Sq n y) (v : Nat → Nat → Int) (hv : ∀ i j : Nat, i < n → j < n → v i j = (y.getD i []).getD j 0) : tab n n v = y := by
  refine List.ext_getElem (by simp [tab, h.1]) fun i h1 h2 => ?_
  have hi : i < n := by rw [← h.1]; exact h2
  have hr := h.row hi
  rw [show (tab n n v)[i] = (List.range n).map (fun j => v i j) by simp [tab], ← getD_at y [] h2]
  refine List.ext_getElem (by simp only [List.length_map, List.length_range]; exact hr.symm) fun j g1 g2 => ?_
  rw [List.getElem_map, List.getElem_range, hv i j hi (by rw [← hr]; exact g2), getD_at _ _ g2]
theorem ext_sq {n : Nat} {x y : List (List Int)} (hx : Sq n x) (hy : Sq n y) (h : ∀ i j : Nat, i < n → j < n → (x.getD i []).getD j 0 = (y.getD i []).getD j 0) : x = y := by
  rw [← tab_is hx (fun i j => (x.getD i []).getD j 0) (fun _ _ _ _ => rfl), tab_is hy _ h]
def mir (x : List (List Int)) : List (List Int) := x.map List.reverse
def tr (x : List (List Int)) : List (List Int) := (List.range x.length).map fun (j : Nat) => colOf x j
def cw (x : List (List Int)) : List (List Int) := mir (tr x)
theorem mir_sq {n : Nat} {x : List (List Int)} (h : Sq n x) : Sq n (mir x) := ⟨by simp [mir, h.1], fun r hr => by obtain ⟨a, ha, rfl⟩ := List.mem_map.1 hr; rw [List.length_reverse]; exact h.2 a ha⟩
theorem tr_sq {n : Nat} {x : List (List Int)} (h : Sq n x) : Sq n (tr x) := ⟨by simp [tr, h.1], fun r hr => by obtain ⟨a, ha, rfl⟩ := List.mem_map.1 hr; simp [colOf, h.1]⟩
theorem cw_sq {n : Nat} {x : List (List Int)} (h : Sq n x) : Sq n (cw x) := mir_sq (tr_sq h)
theorem rev_at (x : List Int) {n j : Nat} (hl : x.length = n) (h : j < n) : x.reverse.getD j 0 = x.getD (n - 1 - j) 0 := by
  rw [getD_at _ _ (by simp; omega), getD_at _ _ (by omega), List.getElem_reverse]; congr 1; omega
theorem mir_at {n : Nat} {x : List (List Int)} (h : Sq n x) {i j : Nat} (hi : i < n) (hj : j < n) : ((mir x).getD i []).getD j 0 = (x.getD i []).getD (n - 1 - j) 0 := by
  rw [show (mir x).getD i [] = (x.getD i []).reverse by rw [getD_at _ _ (by simp [mir, h.1]; exact hi), getD_at _ _ (by rw [h.1]; exact hi)]; simp [mir], rev_at _ (h.row hi) hj]
theorem tr_at {n : Nat} {x : List (List Int)} (h : Sq n x) {i j : Nat} (hi : i < n) (hj : j < n) : ((tr x).getD i []).getD j 0 = (x.getD j []).getD i 0 := by
  have e : (tr x).getD i [] = colOf x (i : Int) := by rw [getD_at _ _ (by simp [tr, h.1]; exact hi)]; simp [tr]
  rw [e, getD_at _ _ (by simp [colOf, h.1]; exact hj), getD_at x [] (by rw [h.1]; exact hj)]
  simp [colOf, rd]
theorem mirrored (n : Nat) (x : List (List Int)) (h : Sq n x) (hn : n ≤ 1048576) : Ans (fun k => impl_mirrored.f k x) (mir x) := by
  simp only [impl_mirrored.f, h.1]
  have hg : ∀ i j : Nat, i < n → j < n → impl_mirrored_1.f i j x (n : Int) = some ((x.getD i []).getD (n - 1 - j) 0) := by
    intro i j hi hj
    have w1 : wrap64 ((n : Int) - 1) = (n : Int) - 1 := wrap64_in _ ⟨by omega, by omega⟩
    have w2 : wrap64 ((n : Int) - 1 - (j : Int)) = ((n - 1 - j : Nat) : Int) := by rw [wrap64_in _ ⟨by omega, by omega⟩]; omega
    have hr : (rd_L3 x (i : Int)).length = n := h.2 _ (rd_L1_mem (by omega) (by rw [h.1]; omega))
    have hl := h.1
    simp only [impl_mirrored_1.f, w1, w2]
    rw [if_pos (by omega), if_pos (by omega), if_pos (by omega), if_pos (by omega)]
    simp only [rd, rd_L3, Int.toNat_natCast]
  have e := table n n hn hn (fun x0_ x1_ => impl_mirrored_1.f x0_ x1_ x (n : Int)) _ hg
  rw [tab_is (mir_sq h) _ (fun i j hi hj => by rw [mir_at h hi hj])] at e
  exact e.bind (Ans.pure _)
theorem sign_sq {x : List (List Int)} (s : sign x = true) : Sq x.length x ∧ x.length ≤ 6 := by
  unfold sign at s
  rw [Bool.and_eq_true] at s
  obtain ⟨b1, b2, b3⟩ := square_of s.1
  exact ⟨⟨rfl, b3⟩, b2⟩
def allIn (x : List Int) (lo hi : Int) : Bool := x.all fun a => decide (lo ≤ a ∧ a ≤ hi)
theorem l1All (x : List Int) (hx : x.length ≤ 17592186044416) (lo hi : Int) : Ans (fun k => spec_l1All.f k x lo hi) (allIn x lo hi) := by
  have key : ∀ (d : Nat) (i : Int), 0 ≤ i → i + d = x.length → Ans (fun k => spec_l1All.l0 k lo hi x (x.length : Int) i) (allIn (x.drop i.toNat) lo hi) := by
    intro d
    induction d with
    | zero =>
      intro i h0 h1
      rw [List.drop_eq_nil_of_le (by omega)]; refine Ans.step ?_
      simp only [spec_l1All.l0]; exact Ans.not (by omega) (Ans.pure _)
    | succ d ih =>
      intro i h0 h1
      have hd := drop_at x 0 (show i.toNat < x.length by omega)
      have e := ih (i + 1) (by omega) (by omega)
      rw [hd, allIn, List.all_cons, show decide (lo ≤ x.getD i.toNat 0 ∧ x.getD i.toNat 0 ≤ hi) = decide (lo ≤ rd x i ∧ rd x i ≤ hi) from rfl]
      refine Ans.step ?_
      simp only [spec_l1All.l0, l1In, Option.bind_some, wrap64_up h0 (by omega : i ≤ 4611686018427387904)]
      refine Ans.yes (by omega) (Ans.yes h0 (Ans.yes (by omega) ?_))
      by_cases c : decide (lo ≤ rd x i ∧ rd x i ≤ hi) = true
      · rw [c, Bool.true_and]; rw [show (i + 1).toNat = i.toNat + 1 by omega] at e; exact Ans.yes rfl e
      · rw [Bool.eq_false_iff.mpr c, Bool.false_and]; exact Ans.not (by simp) (Ans.pure _)
  exact key x.length 0 (by omega) (by omega)
/-- Where every element's test answers, 'ContainsFunc' tells whether one passes. -/
theorem containsI (x : List Int) (hx : x.length ≤ 17592186044416) (g : Int → Option Bool) (p : Int → Bool) (hg : ∀ a, g a = some (p a)) : Ans (fun k => slices_ContainsFunc_int_int_134.f k x g) (x.any p) := by
  have key : ∀ (d : Nat) (i : Int), 0 ≤ i → i + d = x.length → ∃ z : Int, Ans (fun k => slices_IndexFunc_int_int_148.l0 k x g (x.length : Int) i) z ∧ decide (z ≥ 0) = (x.drop i.toNat).any p := by
    intro d
    induction d with
    | zero =>
      intro i h0 h1
      refine ⟨-1, Ans.step ?_, by rw [List.drop_eq_nil_of_le (by omega)]; rfl⟩
      simp only [slices_IndexFunc_int_int_148.l0]; exact Ans.not (by omega) (Ans.pure _)
    | succ d ih =>
      intro i h0 h1
      have hd := drop_at x 0 (show i.toNat < x.length by omega)
      by_cases c : p (rd x i) = true
      · refine ⟨i, Ans.step ?_, by rw [hd, List.any_cons, show p (x.getD i.toNat 0) = true from c]; simp [h0]⟩
        simp only [slices_IndexFunc_int_int_148.l0, hg, Option.bind_some]
        exact Ans.yes (by omega) (Ans.yes h0 (Ans.yes (by omega) (Ans.yes c (Ans.pure _))))
      · obtain ⟨z, e, hz⟩ := ih (i + 1) (by omega) (by omega)
        refine ⟨z, Ans.step ?_, by rw [hz, hd, List.any_cons, show p (x.getD i.toNat 0) = false from Bool.eq_false_iff.mpr c, show (i + 1).toNat = i.toNat + 1 by omega]; simp⟩
        simp only [slices_IndexFunc_int_int_148.l0, hg, Option.bind_some, wrap64_up h0 (by omega : i ≤ 4611686018427387904)]
        exact Ans.yes (by omega) (Ans.yes h0 (Ans.yes (by omega) (Ans.not c e)))
  obtain ⟨z, e, hz⟩ := key x.length 0 (by omega) (by omega)
  simp only [slices_ContainsFunc_int_int_134.f, slices_IndexFunc_int_int_148.f]
  have := e.bind (h := fun _ t => some (decide (t ≥ 0))) (Ans.pure (decide (z ≥ 0)))
  rwa [hz] at this
theorem areWithin (x : List Int) (hx : x.length ≤ 17592186044416) (lo hi : Int) : Ans (fun k => impl_areWithin.f k x lo hi) (allIn x lo hi) := by
  have e := containsI x hx (fun x0_ => impl_areWithin_1.f x0_ lo hi) (fun a => !decide (lo ≤ a ∧ a ≤ hi)) (fun a => by simp only [impl_areWithin_1.f, within, Option.bind_some])
  have := e.bind (h := fun _ t => some (!t)) (Ans.pure _)
  rw [List.not_any_eq_all_not] at this
  simp only [Bool.not_not] at this
  exact this
theorem l1Own (x : List Int) (h : x.length ≤ 1048576) : spec_l1Own.f x = some x := by
  simp only [spec_l1Own.f, Option.bind_some, List.length_nil, List.nil_append]
  rw [if_pos (by omega)]
/-- Whether a row keeps the sums of columns 0 or 1; the last row makes them 1. -/
def fitsB (last : Bool) (sums row : List Int) : Bool := (List.zipWith (fun s x => decide (0 ≤ s + x) && decide (s + x ≤ 1) && (!last || decide (s + x = 1))) sums row).all id
/-- All rows of d numbers whose signs go on to alternate from a sum s, in order. -/
def alt : Nat → Int → List (List Int)
  | 0, s => if s = 1 then [[]] else []
  | d + 1, s => (alt d 0).map ((-s) :: ·) ++ (alt d 1).map ((1 - s) :: ·)
theorem alt_len : ∀ (d : Nat) (s : Int), ∀ r ∈ alt d s, r.length = d
  | 0, s, r, h => by
    unfold alt at h
    split at h
    · rw [List.mem_singleton] at h; subst h; rfl
    · cases h
  | d + 1, s, r, h => by
    unfold alt at h
    rcases List.mem_append.1 h with h | h
    · obtain ⟨a, ha, rfl⟩ := List.mem_map.1 h; rw [List.length_cons, alt_len d 0 a ha]
    · obtain ⟨a, ha, rfl⟩ := List.mem_map.1 h; rw [List.length_cons, alt_len d 1 a ha]
theorem alt_many : ∀ (d : Nat) (s : Int), (alt d s).length ≤ 2 ^ d
  | 0, s => by unfold alt; split <;> simp
  | d + 1, s => by
    have h1 := alt_many d 0
    have h2 := alt_many d 1
    rw [alt, List.length_append, List.length_map, List.length_map, Nat.pow_succ]; omega
theorem alt_in : ∀ (d : Nat) (s : Int), 0 ≤ s → s ≤ 1 → ∀ r ∈ alt d s, ∀ x ∈ r, -1 ≤ x ∧ x ≤ 1
  | 0, s, _, _, r, h => by
    unfold alt at h
    split at h
    · rw [List.mem_singleton] at h; subst h; simp
    · cases h
  | d + 1, s, h0, h1, r, h => by
    unfold alt at h
    rcases List.mem_append.1 h with h | h
    · obtain ⟨a, ha, rfl⟩ := List.mem_map.1 h
      intro x hx
      rcases List.mem_cons.1 hx with rfl | hx
      · omega
      · exact alt_in d 0 (by omega) (by omega) a ha x hx
    · obtain ⟨a, ha, rfl⟩ := List.mem_map.1 h
      intro x hx
      rcases List.mem_cons.1 hx with rfl | hx
      · omega
      · exact alt_in d 1 (by omega) (by omega) a ha x hx
theorem mapApp (l : List Int) (x : Int) (z : List (List Int)) : (z.map (x :: ·)).map (l ++ ·) = z.map ((l ++ [x]) ++ ·) := by
  rw [List.map_map]; congr 1; funext t; simp
theorem signRows1 (n : Nat) (hn : n ≤ 1000) : ∀ (d : Nat) (l : List Int) (s : Int), 0 ≤ s → s ≤ 1 → l.length + d = n → Ans (fun k => impl_signRows_1.f k n l s) ((alt d s).map (l ++ ·)) := by
  intro d
  induction d with
  | zero =>
    intro l s h0 h1 hl
    refine Ans.step ?_
    simp only [impl_signRows_1.f]
    refine Ans.yes (by omega) ?_
    unfold alt
    by_cases c : s = 1
    · refine Ans.yes c ?_; rw [if_pos c, List.map_singleton, List.append_nil]; exact Ans.pure _
    · refine Ans.not c ?_; rw [if_neg c]; exact Ans.pure _
  | succ d ih =>
    intro l s h0 h1 hl
    have one : ∀ (x : Int) (R : List (List Int)), x = -s ∨ x = 1 - s → Ans (fun k => impl_signRows_1.l0 k n l s (x + 1)) R → Ans (fun k => impl_signRows_1.l0 k n l s x) ((alt d (s + x)).map ((l ++ [x]) ++ ·) ++ R) := by
      intro x R hx e
      refine Ans.step ?_
      simp only [impl_signRows_1.l0]
      refine Ans.yes (by omega) (Ans.yes (by omega) (Ans.yes (by omega) ((ih (l ++ [x]) (s + x) (by omega) (by omega) (by simp; omega)).bind (e.bind (Ans.pure _)))))
    have end_ : Ans (fun k => impl_signRows_1.l0 k n l s (1 - s + 1)) [] := by
      refine Ans.step ?_
      simp only [impl_signRows_1.l0]
      exact Ans.not (by omega) (Ans.pure _)
    refine Ans.step ?_
    simp only [impl_signRows_1.f]
    refine Ans.not (by omega) (Ans.yes h0 (Ans.yes h1 ?_))
    have e2 := one (1 - s) [] (.inr rfl) end_
    have e1 := one (-s) _ (.inl rfl) (by rw [show -s + 1 = 1 - s by omega]; exact e2)
    rw [alt, List.map_append, mapApp, mapApp]
    rw [List.append_nil, show s + -s = 0 by omega, show s + (1 - s) = 1 by omega] at e1
    exact e1
theorem signRows (n : Nat) (hn : n ≤ 6) : Ans (fun k => impl_signRows.f k n) (alt n 0) := by
  simp only [impl_signRows.f]
  refine (signRows1 n (by omega) n [] 0 (by omega) (by omega) (by simp)).bind ?_
  have h1 := alt_many n 0
  have h2 : 2 ^ n ≤ 2 ^ 6 := Nat.pow_le_pow_right (by omega) hn
  simp only [List.nil_append, List.map_id'] 
  exact Ans.yes (by omega) (Ans.pure _)
theorem fitsB_cons (last : Bool) (s x : Int) (ss xs : List Int) : fitsB last (s :: ss) (x :: xs) = ((decide (0 ≤ s + x) && decide (s + x ≤ 1) && (!last || decide (s + x = 1))) && fitsB last ss xs) := rfl
theorem fitsB_nil (last : Bool) (ss : List Int) : fitsB last ss [] = true := by cases ss <;> rfl
theorem rd_bits {x : List Int} {lo hi : Int} (h : ∀ a ∈ x, lo ≤ a ∧ a ≤ hi) {i : Int} (h0 : 0 ≤ i) (h1 : i < x.length) : lo ≤ rd x i ∧ rd x i ≤ hi := h _ (by unfold rd; exact getD_mem _ (by omega))
theorem fitsSums (sums row : List Int) (last : Bool) (hl : row.length ≤ sums.length) (hm : sums.length ≤ 1000) (hs : ∀ s ∈ sums, 0 ≤ s ∧ s ≤ 1) (hr : ∀ x ∈ row, -1 ≤ x ∧ x ≤ 1) : Ans (fun k => impl_fitsSums.f k sums row last) (fitsB last sums row) := by
  have key : ∀ (d : Nat) (i : Int), 0 ≤ i → i + d = row.length → Ans (fun k => impl_fitsSums.l0 k sums last row (row.length : Int) i) (fitsB last (sums.drop i.toNat) (row.drop i.toNat)) := by
    intro d
    induction d with
    | zero =>
      intro i h0 h1
      rw [List.drop_eq_nil_of_le (show row.length ≤ i.toNat by omega), fitsB_nil]; refine Ans.step ?_
      simp only [impl_fitsSums.l0]; exact Ans.not (by omega) (Ans.pure _)
    | succ d ih =>
      intro i h0 h1
      have e := ih (i + 1) (by omega) (by omega)
      rw [show (i + 1).toNat = i.toNat + 1 by omega] at e
      have b1 := rd_bits hs h0 (show i < sums.length by omega)
      have b2 := rd_bits hr h0 (show i < row.length by omega)
      rw [drop_at row 0 (show i.toNat < row.length by omega), drop_at sums 0 (show i.toNat < sums.length by omega), show row.getD i.toNat 0 = rd row i from rfl, show sums.getD i.toNat 0 = rd sums i from rfl, fitsB_cons]
      refine Ans.step ?_
      simp only [impl_fitsSums.l0, within, Option.bind_some, wrap64_up h0 (by omega : i ≤ 4611686018427387904), wrap64_in (rd sums i + rd row i) ⟨by omega, by omega⟩]
      refine Ans.yes (by omega) (Ans.yes h0 (Ans.yes (by omega) (Ans.yes (by omega) ?_)))
      by_cases c : 0 ≤ rd sums i + rd row i ∧ rd sums i + rd row i ≤ 1
      · rw [decide_eq_true c.1, decide_eq_true c.2]
        refine Ans.yes (decide_eq_true c) ?_
        cases last with
        | false => exact Ans.not (by simp) e
        | true =>
          by_cases c1 : rd sums i + rd row i = 1
          · rw [decide_eq_true c1]; exact Ans.yes rfl (Ans.yes c1 e)
          · rw [decide_eq_false c1]; exact Ans.yes rfl (Ans.not c1 (Ans.pure _))
      · refine Ans.not (by simp only [decide_eq_true_iff]; exact c) ?_
        have : (decide (0 ≤ rd sums i + rd row i) && decide (rd sums i + rd row i ≤ 1)) = false := by
          rw [Bool.eq_false_iff]; simpa using c
        rw [this, Bool.false_and, Bool.false_and]; exact Ans.pure _
  exact key row.length 0 (by omega) (by omega)
theorem filter_map_cons (last : Bool) (s x : Int) (ss : List Int) (z : List (List Int)) : (z.map (x :: ·)).filter (fun t => fitsB last (s :: ss) t) = if (decide (0 ≤ s + x) && decide (s + x ≤ 1) && (!last || decide (s + x = 1))) = true then (z.filter (fun t => fitsB last ss t)).map (x :: ·) else [] := by
  rw [List.filter_map]
  by_cases c : (decide (0 ≤ s + x) && decide (s + x ≤ 1) && (!last || decide (s + x = 1))) = true
  · rw [if_pos c]; congr 1; refine List.filter_congr fun t _ => ?_
    show fitsB last (s :: ss) (x :: t) = _
    rw [fitsB_cons, c, Bool.true_and]
  · rw [if_neg c, List.filter_eq_nil_iff.2 (fun t _ => by show ¬ (fitsB last (s :: ss) (x :: t) = true); rw [fitsB_cons, Bool.eq_false_iff.2 c]; simp)]; rfl
theorem weRows (sums : List Int) (hm : sums.length ≤ 6) (hs : ∀ s ∈ sums, 0 ≤ s ∧ s ≤ 1) : ∀ (d : Nat) (l : List Int) (s : Int), 0 ≤ s → s ≤ 1 → l.length + d = sums.length → Ans (fun k => spec_weRows.f k sums l s) (((alt d s).filter (fun t => fitsB false (sums.drop l.length) t)).map (l ++ ·)) := by
  intro d
  induction d with
  | zero =>
    intro l s h0 h1 hl
    refine Ans.step ?_
    simp only [spec_weRows.f]
    refine Ans.yes (by omega) ?_
    unfold alt
    by_cases c : s = 1
    · refine Ans.yes c ?_; rw [if_pos c, List.filter_cons, fitsB_nil, if_pos rfl, List.filter_nil, List.map_singleton, List.append_nil]; exact Ans.pure _
    · refine Ans.not c ?_; rw [if_neg c]; exact Ans.pure _
  | succ d ih =>
    intro l s h0 h1 hl
    have hlt : l.length < sums.length := by omega
    have hd := drop_at sums 0 hlt
    have hb := rd_bits hs (show (0 : Int) ≤ (l.length : Int) by omega) (show (l.length : Int) < sums.length by omega)
    have hrd : sums.getD l.length 0 = rd sums (l.length : Int) := by unfold rd; rw [Int.toNat_natCast]
    have many : ∀ (e : Nat) (z : Int) (l2 : List Int) (ss : List Int), (((alt e z).filter (fun t => fitsB false ss t)).map (l2 ++ ·)).length ≤ 2 ^ e := fun e z l2 ss => by
      rw [List.length_map]; exact Nat.le_trans (List.length_filter_le _ _) (alt_many e z)
    have h2d : 2 ^ d ≤ 2 ^ 6 := Nat.pow_le_pow_right (by omega) (by omega)
    -- one number x, tried behind what has been found
    have one : ∀ (x : Int) (out R : List (List Int)), -1 ≤ x → x ≤ 1 → out.length ≤ 1000 →
        Ans (fun k => spec_weRows.l0 k sums l s (out ++ (if 0 ≤ s + x ∧ s + x ≤ 1 then (((alt d (s + x)).map (x :: ·)).filter (fun t => fitsB false (sums.drop l.length) t)).map (l ++ ·) else [])) (x + 1)) R → Ans (fun k => spec_weRows.l0 k sums l s out x) R := by
      intro x out R hx1 hx2 ho e
      have w1 : wrap64 (s + x) = s + x := wrap64_in _ ⟨by omega, by omega⟩
      have w2 : wrap64 (rd sums (l.length : Int) + x) = rd sums (l.length : Int) + x := wrap64_in _ ⟨by omega, by omega⟩
      have w3 : wrap64 (x + 1) = x + 1 := wrap64_in _ ⟨by omega, by omega⟩
      refine Ans.step ?_
      simp only [spec_weRows.l0, l1In, Option.bind_some, w1, w2]
      refine Ans.yes (by omega) ?_
      by_cases c : 0 ≤ s + x ∧ s + x ≤ 1
      · rw [if_pos c, hd, filter_map_cons] at e
        refine Ans.yes (decide_eq_true c) (Ans.yes (by omega) (Ans.yes (by omega) (Ans.step ?_)))
        simp only [spec_weRows.j1, w1, w3]
        rw [hrd] at e
        by_cases c2 : 0 ≤ rd sums (l.length : Int) + x ∧ rd sums (l.length : Int) + x ≤ 1
        · rw [if_pos (by simp [c2.1, c2.2]), mapApp] at e
          refine Ans.yes (decide_eq_true c2) ?_
          simp only [l1Own l (by omega), Option.bind_some]
          have e1 := ih (l ++ [x]) (s + x) c.1 c.2 (by simp; omega)
          rw [show (l ++ [x]).length = l.length + 1 by simp] at e1
          refine Ans.yes (by omega) (e1.bind ?_)
          have hm1 := many d (s + x) (l ++ [x]) (sums.drop (l.length + 1))
          exact Ans.yes (by omega) e
        · rw [if_neg (by simp; omega), List.map_nil, List.append_nil] at e
          exact Ans.not (by simp only [decide_eq_true_iff]; exact c2) e
      · rw [if_neg c, List.append_nil] at e
        refine Ans.not (by simp only [decide_eq_true_iff]; exact c) (Ans.step ?_)
        simp only [spec_weRows.j1, w3]
        exact Ans.not (by simp) e
    have end_ : ∀ out : List (List Int), Ans (fun k => spec_weRows.l0 k sums l s out 2) out := fun out => by
      refine Ans.step ?_
      simp only [spec_weRows.l0]
      exact Ans.not (by omega) (Ans.pure _)
    have bnd : ∀ (x : Int), ((if 0 ≤ s + x ∧ s + x ≤ 1 then (((alt d (s + x)).map (x :: ·)).filter (fun t => fitsB false (sums.drop l.length) t)).map (l ++ ·) else []) : List (List Int)).length ≤ 64 := fun x => by
      split
      · rw [List.length_map]
        refine Nat.le_trans (List.length_filter_le _ _) ?_
        rw [List.length_map]
        exact Nat.le_trans (alt_many _ _) h2d
      · simp
    refine Ans.step ?_
    simp only [spec_weRows.f]
    refine Ans.not (by omega) ?_
    have b1 := bnd (-1)
    have b2 := bnd 0
    have e := one (-1) [] _ (by omega) (by omega) (by simp) (one 0 _ _ (by omega) (by omega) (by simp only [List.nil_append]; omega) (one 1 _ _ (by omega) (by omega) (by simp only [List.nil_append, List.length_append]; omega) (end_ _)))
    rcases (show s = 0 ∨ s = 1 by omega) with hs0 | hs1
    · subst hs0
      rw [if_neg (by omega), if_pos (by omega), if_pos (by omega)] at e
      rw [alt, List.filter_append, List.map_append]
      simpa using e
    · subst hs1
      rw [if_pos (by omega), if_pos (by omega), if_neg (by omega)] at e
      rw [alt, List.filter_append, List.map_append]
      simpa using e
/-- All matrices that go on rows with some sums of columns, in order. -/
def goOn (A : List (List Int)) : Nat → List (List Int) → List Int → List (List (List Int))
  | 0, m, _ => [m]
  | r + 1, m, sums => (A.filter (fun row => fitsB (decide (r = 0)) sums row)).flatMap fun row => goOn A r (m ++ [row]) (List.zipWith (· + ·) sums row)
/-- A callback over all of them, till it says no. -/
def foldT {σ : Type} (p : σ → List (List Int) → σ × Bool) : σ → List (List (List Int)) → σ × Bool
  | s, [] => (s, true)
  | s, m :: ms => if (p s m).2 = true then foldT p (p s m).1 ms else ((p s m).1, false)
theorem foldT_append {σ : Type} (p : σ → List (List Int) → σ × Bool) : ∀ (x y : List (List (List Int))) (s : σ), foldT p s (x ++ y) = if (foldT p s x).2 = true then foldT p (foldT p s x).1 y else foldT p s x
  | [], y, s => by simp [foldT]
  | m :: x, y, s => by
    rw [List.cons_append, foldT, foldT]
    by_cases c : (p s m).2 = true
    · rw [if_pos c, if_pos c, foldT_append p x y]
    · rw [if_neg c, if_neg c]; simp
theorem zip_bits : ∀ (last : Bool) (sums row : List Int), sums.length = row.length → fitsB last sums row = true → ∀ s ∈ List.zipWith (· + ·) sums row, 0 ≤ s ∧ s ≤ 1
  | _, [], [], _, _ => by simp
  | last, a :: sums, x :: row, h, hf => by
    rw [fitsB_cons, Bool.and_eq_true, Bool.and_eq_true, Bool.and_eq_true] at hf
    intro s hs
    rw [List.zipWith_cons_cons] at hs
    rcases List.mem_cons.1 hs with rfl | hs
    · exact ⟨of_decide_eq_true hf.1.1.1, of_decide_eq_true hf.1.1.2⟩
    · exact zip_bits last sums row (by simpa using h) hf.2 s hs
theorem rowOk_of {sums row : List Int} (hl : sums.length = row.length) (hs : ∀ s ∈ sums, 0 ≤ s ∧ s ≤ 1) (hr : ∀ x ∈ row, -1 ≤ x ∧ x ≤ 1) : rowOk sums row = true := by
  simp only [rowOk, Bool.and_eq_true, decide_eq_true_eq, List.all_eq_true]
  exact ⟨⟨hl, fun s h => hs s h⟩, fun x h => hr x h⟩
/-- The rows that can stand anywhere. -/
def RowsOf (n : Nat) (A : List (List Int)) : Prop := ∀ r ∈ A, r.length = n ∧ ∀ x ∈ r, -1 ≤ x ∧ x ≤ 1
theorem RowsOf.alt (n : Nat) : RowsOf n (alt n 0) := fun r h => ⟨alt_len n 0 r h, alt_in n 0 (by omega) (by omega) r h⟩
theorem goOn_sq {n : Nat} {A : List (List Int)} (hA : RowsOf n A) : ∀ (r : Nat) (m : List (List Int)) (sums : List Int), m.length + r = n → (∀ x ∈ m, x.length = n) → ∀ y ∈ goOn A r m sums, Sq n y
  | 0, m, sums, h, hm, y, hy => by
    rw [goOn, List.mem_singleton] at hy
    subst hy
    exact ⟨h, hm⟩
  | r + 1, m, sums, h, hm, y, hy => by
    rw [goOn, List.mem_flatMap] at hy
    obtain ⟨row, hrow, hy⟩ := hy
    have hr := hA row (List.mem_filter.1 hrow).1
    exact goOn_sq hA r (m ++ [row]) _ (by simp; omega) (fun x hx => by
      rcases List.mem_append.1 hx with hx | hx
      · exact hm x hx
      · rw [List.mem_singleton] at hx; rw [hx]; exact hr.1) y hy
theorem goOn_many {A : List (List Int)} {c : Nat} (hA : A.length ≤ c) : ∀ (r : Nat) (m : List (List Int)) (sums : List Int), (goOn A r m sums).length ≤ c ^ r
  | 0, m, sums => by simp [goOn]
  | r + 1, m, sums => by
    rw [goOn, List.length_flatMap]
    have key : ∀ (B : List (List Int)), B.length ≤ c → (B.map fun row => (goOn A r (m ++ [row]) (List.zipWith (· + ·) sums row)).length).sum ≤ B.length * c ^ r := by
      intro B
      induction B with
      | nil => simp
      | cons b B ih =>
        intro hB
        rw [List.length_cons] at hB
        have h1 := ih (by omega)
        have h2 := goOn_many hA r (m ++ [b]) (List.zipWith (· + ·) sums b)
        rw [List.map_cons, List.sum_cons, List.length_cons, Nat.succ_mul]
        omega
    have hB : (A.filter (fun row => fitsB (decide (r = 0)) sums row)).length ≤ c := Nat.le_trans (List.length_filter_le _ _) hA
    refine Nat.le_trans (key _ hB) ?_
    rw [Nat.pow_succ, Nat.mul_comm]
    exact Nat.mul_le_mul_left _ hB
theorem eachSigns1 {σ : Type} (n : Nat) (hn : n ≤ 6) (A : List (List Int)) (hA : RowsOf n A) (hc : A.length ≤ 1000) (p : Nat → σ → List (List Int) → Option (σ × Bool)) (pT : σ → List (List Int) → σ × Bool) (hp : ∀ s m, Sq n m → Ans (fun k => p k s m) (pT s m)) :
    ∀ (r : Nat) (m : List (List Int)) (sums : List Int) (s : σ), m.length + r = n → (∀ x ∈ m, x.length = n) → sums.length = n → (∀ x ∈ sums, 0 ≤ x ∧ x ≤ 1) → Ans2 (fun k j => impl_eachSigns_1.f k (p j) n A sums m s) (foldT pT s (goOn A r m sums)) := by
  intro r
  induction r with
  | zero =>
    intro m sums s h hm _ _
    refine Ans2.step ?_
    simp only [impl_eachSigns_1.f]
    refine Ans2.yes (by omega) ?_
    have e : foldT pT s (goOn A 0 m sums) = pT s m := by
      simp only [goOn, foldT]
      by_cases c : (pT s m).2 = true
      · rw [if_pos c, ← c]
      · rw [if_neg c]; rw [show false = (pT s m).2 by simpa using c]
    rw [e]
    exact Ans2.two (hp s m ⟨by omega, hm⟩)
  | succ r ih =>
    intro m sums s h hm hl hs
    have key : ∀ (d : Nat) (i : Int) (s : σ), 0 ≤ i → i + d = A.length →
        Ans2 (fun k j => impl_eachSigns_1.l0 k (p j) n A sums m s i) (foldT pT s (((A.drop i.toNat).filter (fun row => fitsB (decide (r = 0)) sums row)).flatMap fun row => goOn A r (m ++ [row]) (List.zipWith (· + ·) sums row))) := by
      intro d
      induction d with
      | zero =>
        intro i s h0 h1
        rw [List.drop_eq_nil_of_le (by omega)]; refine Ans2.step ?_
        simp only [impl_eachSigns_1.l0]
        exact Ans2.not (by omega) (Ans2.pure _)
      | succ d ihd =>
        intro i s h0 h1
        have hlt : i.toNat < A.length := by omega
        have hrow := hA (A.getD i.toNat []) (getD_mem [] hlt)
        have hnx : ∀ s, _ := fun s => ihd (i + 1) s (by omega) (by omega)
        rw [show (i + 1).toNat = i.toNat + 1 by omega] at hnx
        rw [drop_at A [] hlt, List.filter_cons]
        generalize hg : A.getD i.toNat [] = row at *
        have hfit := fitsSums sums row (decide (r = 0)) (by omega) (by omega) hs hrow.2
        have hlast : ((m.length : Int) == (n : Int) - 1) = decide (r = 0) := by
          rw [Bool.eq_iff_iff, beq_iff_eq, decide_eq_true_iff]; omega
        refine Ans2.step ?_
        simp only [impl_eachSigns_1.l0, hg, hlast]
        refine Ans2.yes (by omega) (Ans2.yes h0 ((Ans2.one hfit).bind ?_))
        by_cases c : fitsB (decide (r = 0)) sums row = true
        · rw [if_pos c, List.flatMap_cons, foldT_append]
          refine Ans2.yes c (Ans2.yes (rowOk_of (by omega) hs hrow.2) ?_)
          have e1 := ih (m ++ [row]) (List.zipWith (· + ·) sums row) s (by simp; omega) (fun x hx => by
            rcases List.mem_append.1 hx with hx | hx
            · exact hm x hx
            · rw [List.mem_singleton] at hx; rw [hx]; exact hrow.1) (by rw [List.length_zipWith]; omega) (zip_bits _ sums row (by omega) c)
          refine e1.bind ?_
          by_cases c2 : (foldT pT s (goOn A r (m ++ [row]) (List.zipWith (· + ·) sums row))).2 = true
          · rw [if_pos c2]; exact Ans2.yes c2 (hnx _)
          · rw [if_neg c2]
            refine Ans2.not c2 ?_
            have e3 : foldT pT s (goOn A r (m ++ [row]) (List.zipWith (· + ·) sums row)) = ((foldT pT s (goOn A r (m ++ [row]) (List.zipWith (· + ·) sums row))).1, false) := by
              rw [show false = (foldT pT s (goOn A r (m ++ [row]) (List.zipWith (· + ·) sums row))).2 by simpa using c2]
            rw [← e3]
            exact Ans2.pure _
        · rw [if_neg c]
          exact Ans2.not c (hnx _)
    refine Ans2.step ?_
    simp only [impl_eachSigns_1.f]
    refine Ans2.not (by omega) (Ans2.yes (by omega) ?_)
    have := key A.length 0 s (by omega) (by omega)
    simpa [goOn] using this
/-- All sign matrices with n rows, in order. -/
def allOf (n : Nat) : List (List (List Int)) := goOn (alt n 0) n [] (List.replicate n 0)
theorem allOf_sq (n : Nat) : ∀ y ∈ allOf n, Sq n y := goOn_sq (RowsOf.alt n) n [] _ (by simp) (by simp)
theorem allOf_many (n : Nat) (hn : n ≤ 6) : (allOf n).length ≤ 68719476736 := by
  have h1 := alt_many n 0
  have h2 : 2 ^ n ≤ 2 ^ 6 := Nat.pow_le_pow_right (by omega) hn
  have h3 := goOn_many (c := 64) (A := alt n 0) (by omega) n [] (List.replicate n 0)
  have h4 : 64 ^ n ≤ 64 ^ 6 := Nat.pow_le_pow_right (by omega) hn
  exact Nat.le_trans h3 (Nat.le_trans h4 (by decide))
theorem eachSigns {σ : Type} (n : Nat) (hn : n ≤ 6) (p : Nat → σ → List (List Int) → Option (σ × Bool)) (pT : σ → List (List Int) → σ × Bool) (hp : ∀ s m, Sq n m → Ans (fun k => p k s m) (pT s m)) (s : σ) :
    Ans (fun k => impl_eachSigns.f k n (p k) s) (foldT pT s (allOf n)).1 := by
  simp only [impl_eachSigns.f]
  refine Ans.yes (by omega) (Ans.yes (by omega) ((signRows n hn).bind ?_))
  have h1 := alt_many n 0
  have h2 : 2 ^ n ≤ 2 ^ 6 := Nat.pow_le_pow_right (by omega) hn
  have e := eachSigns1 n hn (alt n 0) (RowsOf.alt n) (by omega) p pT hp n [] (List.replicate n 0) s (by simp) (by simp) (by simp) (fun x hx => by rw [(List.mem_replicate.1 hx).2]; omega)
  rw [Int.toNat_natCast]
  exact e.join.bind (Ans.pure _)
/-- The reference's way to all of them. -/
def goOn2 (A : List (List Int)) : Nat → List (List Int) → List Int → List (List (List Int))
  | 0, m, sums => if allIn sums 1 1 = true then [m] else []
  | r + 1, m, sums => (A.filter (fun row => fitsB false sums row)).flatMap fun row => goOn2 A r (m ++ [row]) (List.zipWith (· + ·) sums row)
theorem fits_last : ∀ (sums row : List Int), sums.length = row.length → fitsB true sums row = (fitsB false sums row && allIn (List.zipWith (· + ·) sums row) 1 1)
  | [], [], _ => rfl
  | a :: sums, x :: row, h => by
    rw [fitsB_cons, fitsB_cons, fits_last sums row (by simpa using h), List.zipWith_cons_cons, show ∀ z, allIn ((a + x) :: z) 1 1 = (decide (1 ≤ a + x ∧ a + x ≤ 1) && allIn z 1 1) from fun _ => rfl]
    by_cases c : a + x = 1
    · have h1 : decide (0 ≤ a + x) = true := decide_eq_true (by omega)
      have h2 : decide (a + x ≤ 1) = true := decide_eq_true (by omega)
      have h3 : decide (1 ≤ a + x ∧ a + x ≤ 1) = true := decide_eq_true (by omega)
      rw [decide_eq_true c, h1, h2, h3]; simp
    · have h3 : decide (1 ≤ a + x ∧ a + x ≤ 1) = false := decide_eq_false (by omega)
      rw [decide_eq_false c, h3]; simp
theorem goOn_two {n : Nat} {A : List (List Int)} (hA : RowsOf n A) : ∀ (r : Nat) (m : List (List Int)) (sums : List Int), sums.length = n → goOn2 A (r + 1) m sums = goOn A (r + 1) m sums := by
  intro r
  induction r with
  | zero =>
    intro m sums hl
    rw [goOn2, goOn]
    simp only [goOn2, goOn]
    have key : ∀ (B : List (List Int)), (∀ b ∈ B, b.length = n) → ((B.filter (fun row => fitsB false sums row)).flatMap fun row => if allIn (List.zipWith (· + ·) sums row) 1 1 = true then [m ++ [row]] else []) = (B.filter (fun row => fitsB (decide (0 = 0)) sums row)).flatMap fun row => [m ++ [row]] := by
      intro B
      induction B with
      | nil => intro _; rfl
      | cons b B ih =>
        intro hB
        have hb := fits_last sums b (by rw [hl, hB b (by simp)])
        have h1 := ih (fun x hx => hB x (by simp [hx]))
        rw [show decide (0 = 0) = true from rfl] at h1 ⊢
        rw [List.filter_cons, List.filter_cons, hb]
        by_cases c1 : fitsB false sums b = true
        · rw [if_pos c1, List.flatMap_cons, c1, Bool.true_and]
          by_cases c2 : allIn (List.zipWith (· + ·) sums b) 1 1 = true
          · rw [if_pos c2, if_pos c2, List.flatMap_cons, h1]
          · rw [if_neg c2, if_neg c2, List.nil_append, h1]
        · rw [if_neg c1, Bool.eq_false_iff.2 c1, Bool.false_and, if_neg (by simp), h1]
    exact key A (fun b hb => (hA b hb).1)
  | succ r ih =>
    intro m sums hl
    rw [goOn2, goOn, show decide (r + 1 = 0) = false from rfl]
    have key : ∀ (B : List (List Int)), (∀ b ∈ B, b.length = n) → (B.flatMap fun row => goOn2 A (r + 1) (m ++ [row]) (List.zipWith (· + ·) sums row)) = B.flatMap fun row => goOn A (r + 1) (m ++ [row]) (List.zipWith (· + ·) sums row) := by
      intro B
      induction B with
      | nil => intro _; rfl
      | cons b B ihB =>
        intro hB
        rw [List.flatMap_cons, List.flatMap_cons, ihB (fun x hx => hB x (by simp [hx])), ih _ _ (by rw [List.length_zipWith, hl, hB b (by simp), Nat.min_self])]
    exact key _ (fun b hb => (hA b (List.mem_filter.1 hb).1).1)
theorem goOn2_many {A : List (List Int)} (hA : A.length ≤ 64) : ∀ (r : Nat) (m : List (List Int)) (sums : List Int), (goOn2 A r m sums).length ≤ 64 ^ r
  | 0, m, sums => by rw [goOn2]; split <;> simp
  | r + 1, m, sums => by
    rw [goOn2, List.length_flatMap]
    have key : ∀ (B : List (List Int)), (B.map fun row => (goOn2 A r (m ++ [row]) (List.zipWith (· + ·) sums row)).length).sum ≤ B.length * 64 ^ r := by
      intro B
      induction B with
      | nil => simp
      | cons b B ih =>
        have h2 := goOn2_many hA r (m ++ [b]) (List.zipWith (· + ·) sums b)
        rw [List.map_cons, List.sum_cons, List.length_cons, Nat.succ_mul]
        omega
    have hB : (A.filter (fun row => fitsB false sums row)).length ≤ 64 := Nat.le_trans (List.length_filter_le _ _) hA
    refine Nat.le_trans (key _) ?_
    rw [Nat.pow_succ, Nat.mul_comm]
    exact Nat.mul_le_mul_left _ hB
theorem weGoOn (n : Nat) (hn : n ≤ 6) : ∀ (r : Nat) (m : List (List Int)) (sums : List Int), m.length + r = n → sums.length = n → (∀ x ∈ sums, 0 ≤ x ∧ x ≤ 1) → Ans (fun k => spec_weGoOn.f k m sums) (goOn2 (alt n 0) r m sums) := by
  intro r
  induction r with
  | zero =>
    intro m sums h hl hs
    refine Ans.step ?_
    simp only [spec_weGoOn.f]
    refine Ans.yes (by omega) ((l1All sums (by omega) 1 1).bind ?_)
    rw [goOn2]
    by_cases c : allIn sums 1 1 = true
    · refine Ans.yes c ?_; rw [if_pos c]; exact Ans.pure _
    · refine Ans.not c ?_; rw [if_neg c]; exact Ans.pure _
  | succ r ih =>
    intro m sums h hl hs
    have hA : (alt n 0).length ≤ 64 := Nat.le_trans (alt_many n 0) (Nat.le_trans (Nat.pow_le_pow_right (by omega) hn) (by decide : 2 ^ 6 ≤ 64))
    have hr6 : 64 ^ (r + 1) ≤ 64 ^ 6 := Nat.pow_le_pow_right (by omega) (by omega)
    have h66 : (64 : Nat) ^ 6 = 68719476736 := by decide
    obtain ⟨rs, hrs⟩ : ∃ x, (alt n 0).filter (fun row => fitsB false sums row) = x := ⟨_, rfl⟩
    have hrl : rs.length ≤ 64 := by rw [← hrs]; exact Nat.le_trans (List.length_filter_le _ _) hA
    have key : ∀ (d : Nat) (i : Int) (out : List (List (List Int))), 0 ≤ i → i + d = rs.length → out.length + d * 64 ^ r ≤ 64 ^ (r + 1) →
        Ans (fun k => spec_weGoOn.l0 k m sums rs out i) (out ++ ((rs.drop i.toNat).flatMap fun row => goOn2 (alt n 0) r (m ++ [row]) (List.zipWith (· + ·) sums row))) := by
      intro d
      induction d with
      | zero =>
        intro i out h0 h1 h2
        rw [List.drop_eq_nil_of_le (by omega), List.flatMap_nil, List.append_nil]; refine Ans.step ?_
        simp only [spec_weGoOn.l0]
        exact Ans.not (by omega) (Ans.pure _)
      | succ d ihd =>
        intro i out h0 h1 h2
        rw [Nat.succ_mul] at h2
        have hlt : i.toNat < rs.length := by omega
        have hmem : rs.getD i.toNat [] ∈ rs := getD_mem [] hlt
        have hnx : ∀ out : List (List (List Int)), _ := fun out => ihd (i + 1) out (by omega) (by omega)
        rw [show (i + 1).toNat = i.toNat + 1 by omega] at hnx
        rw [drop_at rs [] hlt, List.flatMap_cons]
        generalize hg : rs.getD i.toNat [] = row at *
        rw [← hrs] at hmem
        obtain ⟨hm1, hm2⟩ := List.mem_filter.1 hmem
        have hrow := RowsOf.alt n row hm1
        have hmany := goOn2_many hA r (m ++ [row]) (List.zipWith (· + ·) sums row)
        refine Ans.step ?_
        simp only [spec_weGoOn.l0, hg, l1Own sums (by omega), Option.bind_some]
        refine Ans.yes (by omega) (Ans.yes h0 (Ans.yes (rowOk_of (by omega) hs hrow.2) (Ans.yes (by omega) ?_)))
        have e1 := ih (m ++ [row]) (List.zipWith (· + ·) sums row) (by simp; omega) (by rw [List.length_zipWith]; omega) (zip_bits false sums row (by omega) hm2)
        refine e1.bind (Ans.yes (by omega) ?_)
        have e2 := hnx (out ++ goOn2 (alt n 0) r (m ++ [row]) (List.zipWith (· + ·) sums row)) (by rw [List.length_append]; omega)
        rw [List.append_assoc] at e2
        exact e2
    refine Ans.step ?_
    simp only [spec_weGoOn.f]
    have hw := weRows sums (by omega) hs n [] 0 (by omega) (by omega) (by simp; omega)
    simp only [List.length_nil, List.drop_zero, List.nil_append, List.map_id', hrs] at hw
    refine Ans.not (by omega) (hw.bind ?_)
    have := key rs.length 0 [] (by omega) (by omega) (by rw [List.length_nil, Nat.pow_succ, Nat.zero_add, Nat.mul_comm]; exact Nat.mul_le_mul_left _ hrl)
    rw [goOn2, hrs]
    simpa using this
theorem weAll (n : Nat) (h1 : 1 ≤ n) (hn : n ≤ 6) : Ans (fun k => spec_weAll.f k n) (allOf n) := by
  simp only [spec_weAll.f]
  refine Ans.yes (by omega) (Ans.yes (by omega) ?_)
  have e := weGoOn n hn n [] (List.replicate n 0) (by simp) (by simp) (fun x hx => by rw [(List.mem_replicate.1 hx).2]; omega)
  obtain ⟨r, rfl⟩ : ∃ r, n = r + 1 := ⟨n - 1, by omega⟩
  rw [goOn_two (RowsOf.alt (r + 1)) r [] _ (by simp)] at e
  rw [Int.toNat_natCast]
  exact e
/-- What total adds up: a callback that always goes on. -/
theorem eachSigns1M {σ : Type} (n : Nat) (hn : n ≤ 6) (A : List (List Int)) (hA : RowsOf n A) (hc : A.length ≤ 1000) (p : Nat → σ → List (List Int) → Option (σ × Bool)) (pT : σ → List (List Int) → σ × Bool) :
    ∀ (r : Nat) (m : List (List Int)) (sums : List Int) (s : σ), m.length + r = n → (∀ x ∈ m, x.length = n) → sums.length = n → (∀ x ∈ sums, 0 ≤ x ∧ x ≤ 1) → (∀ s, ∀ y ∈ goOn A r m sums, Ans (fun k => p k s y) (pT s y)) → Ans2 (fun k j => impl_eachSigns_1.f k (p j) n A sums m s) (foldT pT s (goOn A r m sums)) := by
  intro r
  induction r with
  | zero =>
    intro m sums s h hm _ _ hp
    refine Ans2.step ?_
    simp only [impl_eachSigns_1.f]
    refine Ans2.yes (by omega) ?_
    have e : foldT pT s (goOn A 0 m sums) = pT s m := by
      simp only [goOn, foldT]
      by_cases c : (pT s m).2 = true
      · rw [if_pos c, ← c]
      · rw [if_neg c]; rw [show false = (pT s m).2 by simpa using c]
    rw [e]
    exact Ans2.two (hp s m (by simp [goOn]))
  | succ r ih =>
    intro m sums s h hm hl hs hp
    have key : ∀ (d : Nat) (i : Int) (s : σ), 0 ≤ i → i + d = A.length →
        Ans2 (fun k j => impl_eachSigns_1.l0 k (p j) n A sums m s i) (foldT pT s (((A.drop i.toNat).filter (fun row => fitsB (decide (r = 0)) sums row)).flatMap fun row => goOn A r (m ++ [row]) (List.zipWith (· + ·) sums row))) := by
      intro d
      induction d with
      | zero =>
        intro i s h0 h1
        rw [List.drop_eq_nil_of_le (by omega)]; refine Ans2.step ?_
        simp only [impl_eachSigns_1.l0]
        exact Ans2.not (by omega) (Ans2.pure _)
      | succ d ihd =>
        intro i s h0 h1
        have hlt : i.toNat < A.length := by omega
        have hrow := hA (A.getD i.toNat []) (getD_mem [] hlt)
        have hmem := getD_mem (x := A) [] hlt
        have hnx : ∀ s, _ := fun s => ihd (i + 1) s (by omega) (by omega)
        rw [show (i + 1).toNat = i.toNat + 1 by omega] at hnx
        rw [drop_at A [] hlt, List.filter_cons]
        generalize hg : A.getD i.toNat [] = row at *
        have hfit := fitsSums sums row (decide (r = 0)) (by omega) (by omega) hs hrow.2
        have hlast : ((m.length : Int) == (n : Int) - 1) = decide (r = 0) := by
          rw [Bool.eq_iff_iff, beq_iff_eq, decide_eq_true_iff]; omega
        refine Ans2.step ?_
        simp only [impl_eachSigns_1.l0, hg, hlast]
        refine Ans2.yes (by omega) (Ans2.yes h0 ((Ans2.one hfit).bind ?_))
        by_cases c : fitsB (decide (r = 0)) sums row = true
        · rw [if_pos c, List.flatMap_cons, foldT_append]
          refine Ans2.yes c (Ans2.yes (rowOk_of (by omega) hs hrow.2) ?_)
          have e1 := ih (m ++ [row]) (List.zipWith (· + ·) sums row) s (by simp; omega) (fun x hx => by
            rcases List.mem_append.1 hx with hx | hx
            · exact hm x hx
            · rw [List.mem_singleton] at hx; rw [hx]; exact hrow.1) (by rw [List.length_zipWith]; omega) (zip_bits _ sums row (by omega) c) (fun s y hy => hp s y (List.mem_flatMap.mpr ⟨row, List.mem_filter.mpr ⟨hmem, c⟩, hy⟩))
          refine e1.bind ?_
          by_cases c2 : (foldT pT s (goOn A r (m ++ [row]) (List.zipWith (· + ·) sums row))).2 = true
          · rw [if_pos c2]; exact Ans2.yes c2 (hnx _)
          · rw [if_neg c2]
            refine Ans2.not c2 ?_
            have e3 : foldT pT s (goOn A r (m ++ [row]) (List.zipWith (· + ·) sums row)) = ((foldT pT s (goOn A r (m ++ [row]) (List.zipWith (· + ·) sums row))).1, false) := by
              rw [show false = (foldT pT s (goOn A r (m ++ [row]) (List.zipWith (· + ·) sums row))).2 by simpa using c2]
            rw [← e3]
            exact Ans2.pure _
        · rw [if_neg c]
          exact Ans2.not c (hnx _)
    refine Ans2.step ?_
    simp only [impl_eachSigns_1.f]
    refine Ans2.not (by omega) (Ans2.yes (by omega) ?_)
    have := key A.length 0 s (by omega) (by omega)
    simpa [goOn] using this
theorem eachSignsM {σ : Type} (n : Nat) (hn : n ≤ 6) (p : Nat → σ → List (List Int) → Option (σ × Bool)) (pT : σ → List (List Int) → σ × Bool) (hp : ∀ s, ∀ m ∈ allOf n, Ans (fun k => p k s m) (pT s m)) (s : σ) :
    Ans (fun k => impl_eachSigns.f k n (p k) s) (foldT pT s (allOf n)).1 := by
  simp only [impl_eachSigns.f]
  refine Ans.yes (by omega) (Ans.yes (by omega) ((signRows n hn).bind ?_))
  have h1 := alt_many n 0
  have h2 : 2 ^ n ≤ 2 ^ 6 := Nat.pow_le_pow_right (by omega) hn
  have e := eachSigns1M n hn (alt n 0) (RowsOf.alt n) (by omega) p pT n [] (List.replicate n 0) s (by simp) (by simp) (by simp) (fun x hx => by rw [(List.mem_replicate.1 hx).2]; omega) hp
  rw [Int.toNat_natCast]
  exact e.join.bind (Ans.pure _)
theorem totalM (n : Nat) (hn : n ≤ 6) (of : Nat → List (List Int) → Option Int) (v : List (List Int) → Int) (hlen : (allOf n).length ≤ 10000) (hv : ∀ m ∈ allOf n, Ans (fun k => of k m) (v m)) (hb : ∀ m ∈ allOf n, 0 ≤ v m ∧ v m ≤ 100000000000000) :
    Ans (fun k => impl_total.f k n (of k)) ((allOf n).map v).sum := by
  simp only [impl_total.f]
  have e := eachSignsM (σ := Int) n hn (fun k => impl_total.step (of k)) (fun s m => (wrap64 (s + v m), true)) (fun s m hm => by
    simp only [impl_total.step]
    exact (hv m hm).bind (Ans.pure _)) 0
  have key : ∀ (L : List (List (List Int))) (s : Int), (∀ y ∈ L, y ∈ allOf n) → 0 ≤ s → s + L.length * 100000000000000 ≤ 9000000000000000000 → (foldT (fun s m => (wrap64 (s + v m), true)) s L).1 = s + (L.map v).sum := by
    intro L
    induction L with
    | nil => intro s _ _ _; simp [foldT]
    | cons y L ih =>
      intro s hL h0 h1
      have hy := hb y (hL y (by simp))
      rw [List.length_cons] at h1
      rw [foldT, if_pos rfl, wrap64_in _ ⟨by omega, by omega⟩, ih _ (fun z hz => hL z (by simp [hz])) (by omega) (by omega), List.map_cons, List.sum_cons]
      omega
  rw [key (allOf n) 0 (fun y hy => hy) (by omega) (by omega), Int.zero_add] at e
  exact e

theorem alt_mem : ∀ (d : Nat) (s : Int) (r : List Int), 0 ≤ s → s ≤ 1 → r.length = d → walkOk s r = true → r ∈ alt d s
  | 0, s, r, h0, h1, hl, h => by
    obtain rfl := List.eq_nil_of_length_eq_zero hl
    have : s = 1 := by simpa [walkOk] using h
    simp [alt, this]
  | d + 1, s, [], _, _, hl, _ => by simp at hl
  | d + 1, s, a :: r, h0, h1, hl, h => by
    simp only [walkOk, Bool.and_eq_true, decide_eq_true_eq] at h
    have hl' : r.length = d := by simpa using hl
    have e := alt_mem d (s + a) r h.2.1.1 h.2.1.2 hl' h.2.2
    rw [alt, List.mem_append]
    by_cases c : s + a = 0
    · left; rw [c] at e; exact List.mem_map.mpr ⟨r, e, by rw [show -s = a by omega]⟩
    · right; rw [show s + a = 1 by omega] at e; exact List.mem_map.mpr ⟨r, e, by rw [show 1 - s = a by omega]⟩
/-- Columns that go on from sums alternate. -/
def ColsOk (n : Nat) (sums : List Int) (m : List (List Int)) : Prop := ∀ j : Nat, j < n → walkOk (sums.getD j 0) (colOf m j) = true
theorem fits_of (last : Bool) (sums row : List Int) (hl : sums.length = row.length) (h : ∀ j : Nat, j < row.length → 0 ≤ sums.getD j 0 + row.getD j 0 ∧ sums.getD j 0 + row.getD j 0 ≤ 1 ∧ (last = true → sums.getD j 0 + row.getD j 0 = 1)) : fitsB last sums row = true := by
  induction sums generalizing row with
  | nil => cases row with
    | nil => rfl
    | cons _ _ => simp at hl
  | cons s ss ih => cases row with
    | nil => simp at hl
    | cons x xs =>
      rw [fitsB_cons, Bool.and_eq_true]
      have h0 := h 0 (by simp)
      simp only [List.getD_cons_zero] at h0
      refine ⟨?_, ih xs (by simpa using hl) (fun j hj => by have := h (j + 1) (by simpa using hj); simpa using this)⟩
      rw [decide_eq_true h0.1, decide_eq_true h0.2.1]
      cases last with
      | false => rfl
      | true => rw [decide_eq_true (h0.2.2 rfl)]; rfl
theorem goOn_mem {n : Nat} : ∀ (rest m : List (List Int)) (sums : List Int), sums.length = n → (∀ r ∈ rest, r.length = n ∧ walkOk 0 r = true) → ColsOk n sums rest → m ++ rest ∈ goOn (alt n 0) rest.length m sums
  | [], m, sums, _, _, _ => by simp [goOn]
  | r :: rest, m, sums, hl, hr, hc => by
    have h1 := hr r (by simp)
    have col : ∀ j : Nat, j < n → -1 ≤ r.getD j 0 ∧ r.getD j 0 ≤ 1 ∧ 0 ≤ sums.getD j 0 + r.getD j 0 ∧ sums.getD j 0 + r.getD j 0 ≤ 1 ∧ walkOk (sums.getD j 0 + r.getD j 0) (colOf rest j) = true := fun j hj => by
      have := hc j hj
      simp only [colOf, List.map_cons, walkOk, Bool.and_eq_true, decide_eq_true_eq] at this
      have e : rd r (j : Int) = r.getD j 0 := by simp [rd]
      rw [e] at this
      exact ⟨this.1.1, this.1.2, this.2.1.1, this.2.1.2, this.2.2⟩
    have zip : ∀ j : Nat, j < n → (List.zipWith (· + ·) sums r).getD j 0 = sums.getD j 0 + r.getD j 0 := fun j hj => by
      rw [getD_at _ 0 (by rw [List.length_zipWith]; omega), List.getElem_zipWith, ← getD_at sums 0 (by omega), ← getD_at r 0 (by omega)]
    have e := goOn_mem rest (m ++ [r]) (List.zipWith (· + ·) sums r) (by rw [List.length_zipWith]; omega) (fun x hx => hr x (by simp [hx])) (fun j hj => by rw [zip j hj]; exact (col j hj).2.2.2.2)
    rw [List.length_cons, goOn, List.mem_flatMap]
    refine ⟨r, List.mem_filter.mpr ⟨alt_mem n 0 r (by omega) (by omega) h1.1 h1.2, fits_of _ _ _ (by omega) (fun j hj => ?_)⟩, by simpa using e⟩
    have c := col j (by omega)
    refine ⟨c.2.2.1, c.2.2.2.1, fun hlast => ?_⟩
    have h0 : rest = [] := List.eq_nil_of_length_eq_zero (of_decide_eq_true hlast)
    have := c.2.2.2.2
    rw [h0] at this
    simpa [colOf, walkOk] using this
theorem sign_mem {x : List (List Int)} (h : sign x = true) : x ∈ allOf x.length := by
  unfold sign at h
  rw [Bool.and_eq_true] at h
  obtain ⟨ha, hb⟩ := h
  rw [Bool.and_eq_true] at hb
  obtain ⟨b1, b2, b3⟩ := square_of ha
  have e := goOn_mem (n := x.length) x [] (List.replicate x.length 0) (by simp) (fun r hr => ⟨b3 r hr, List.all_eq_true.mp hb.1 r hr⟩) (fun j hj => by
    have := List.all_eq_true.mp hb.2 j (by rw [List.mem_range]; exact hj)
    rw [getD_at _ 0 (by simpa using hj), List.getElem_replicate]; exact this)
  simpa [allOf] using e
/-- The reader of draws: from place a on, at most n places on. -/
theorem draw_next (c : List Int) (hc : ∀ x ∈ c, (Lit.int .u8 x).wf = true) (a s : Int) (h0 : 0 ≤ a) (h1 : a ≤ 2305843009213693952) : ∃ b s', spec_l1Cur_next.f c a s = some (b, a + 1, s') ∧ 0 ≤ b ∧ b ≤ 255 := by
  have hw : wrap64 (a + 1) = a + 1 := wrap64_in _ ⟨by omega, by omega⟩
  simp only [spec_l1Cur_next.f, hw]
  by_cases c1 : a < (c.length : Int)
  · have hr := byte_wf (hc (rd c a) (getD_mem 0 (by omega)))
    have hw2 : wrap64 (rd c a) = rd c a := wrap64_in _ ⟨by omega, by omega⟩
    rw [if_pos c1, if_pos h0, if_pos (by omega)]
    exact ⟨_, _, rfl, by rw [hw2]; exact hr.1, by rw [hw2]; exact hr.2⟩
  · rw [if_neg c1, if_neg (by omega)]
    exact ⟨_, _, rfl, (byte_and _).1, (byte_and _).2⟩
theorem tmod_in {x n : Int} (h : 0 ≤ x) (hn : 1 < n) : 0 ≤ Int.tmod x n ∧ Int.tmod x n < n := ⟨Int.tmod_nonneg _ h, Int.tmod_lt_of_pos _ (by omega)⟩
theorem draw_pick (c : List Int) (hc : ∀ x ∈ c, (Lit.int .u8 x).wf = true) (a s n : Int) (h0 : 0 ≤ a) (h1 : a ≤ 1152921504606846976) : ∃ v a' s', spec_l1Cur_pick.f c a s n = some (v, a', s') ∧ a ≤ a' ∧ a' ≤ a + 2 ∧ 0 ≤ v ∧ (v < n ∨ v = 0) := by
  simp only [spec_l1Cur_pick.f]
  by_cases c1 : n ≤ 1
  · rw [if_pos c1]; exact ⟨_, _, _, rfl, by omega, by omega, by omega, by omega⟩
  · rw [if_neg c1]
    obtain ⟨b, s1, e1, b0, b1⟩ := draw_next c hc a s h0 (by omega)
    rw [e1]; simp only [Option.bind_some]
    by_cases c2 : n > 200
    · rw [if_pos c2]
      obtain ⟨b', s2, e2, b0', b1'⟩ := draw_next c hc (a + 1) s1 (by omega) (by omega)
      rw [e2]; simp only [Option.bind_some]
      rw [if_neg (by omega), wrap64_in (b * 256) ⟨by omega, by omega⟩, wrap64_in (b * 256 + b') ⟨by omega, by omega⟩]
      have := tmod_in (x := b * 256 + b') (n := n) (by omega) (by omega)
      exact ⟨_, _, _, rfl, by omega, by omega, this.1, .inl this.2⟩
    · rw [if_neg c2, if_neg (by omega)]
      have := tmod_in (x := b) (n := n) (by omega) (by omega)
      exact ⟨_, _, _, rfl, by omega, by omega, this.1, .inl this.2⟩
theorem draw_one (c : List Int) (hc : ∀ x ∈ c, (Lit.int .u8 x).wf = true) (a s n : Int) (h0 : 0 ≤ a) (h1 : a ≤ 1152921504606846976) : ∃ v a' s', spec_l1Cur_one.f c a s n = some (v, a', s') ∧ a ≤ a' ∧ a' ≤ a + 2 := by
  obtain ⟨v, a', s', e, h2, h3, _⟩ := draw_pick c hc a s n h0 h1
  simp only [spec_l1Cur_one.f, e, Option.bind_some]
  exact ⟨_, _, _, rfl, h2, h3⟩
theorem draw_among (c : List Int) (hc : ∀ x ∈ c, (Lit.int .u8 x).wf = true) (a s : Int) (l : List Int) (hl : 0 < l.length) (h0 : 0 ≤ a) (h1 : a ≤ 1152921504606846976) : ∃ v a' s', spec_l1Cur_among.f c a s l = some (v, a', s') ∧ a ≤ a' ∧ a' ≤ a + 2 ∧ v ∈ l := by
  obtain ⟨v, a', s', e, h2, h3, h4, h5⟩ := draw_pick c hc a s (l.length : Int) h0 h1
  simp only [spec_l1Cur_among.f, e, Option.bind_some]
  rw [if_pos h4, if_pos (by omega)]
  exact ⟨_, _, _, rfl, h2, h3, getD_mem 0 (by omega)⟩
/-- A number of a square table is put. -/
theorem put_sq {n : Nat} {y : List (List Int)} (h : Sq n y) (i j : Nat) (hi : i < n) (hj : j < n) (v : Int) : Sq n (y.set i ((y.getD i []).set j v)) ∧
    ∀ a b : Nat, a < n → b < n → ((y.set i ((y.getD i []).set j v)).getD a []).getD b 0 = if a = i ∧ b = j then v else (y.getD a []).getD b 0 := by
  have hr := h.row hi
  refine ⟨⟨by rw [List.length_set]; exact h.1, fun r hr' => ?_⟩, fun a b ha hb => ?_⟩
  · rcases List.mem_or_eq_of_mem_set hr' with h1 | h1
    · exact h.2 r h1
    · rw [h1, List.length_set]; exact hr
  · have ra := h.row ha
    by_cases e : i = a
    · subst e
      rw [show (y.set i ((y.getD i []).set j v)).getD i [] = (y.getD i []).set j v from by rw [getD_at (y.set i _) [] (by rw [List.length_set, h.1]; exact hi), List.getElem_set_self]]
      by_cases e2 : j = b
      · subst e2; rw [if_pos ⟨rfl, rfl⟩, getD_at _ _ (by rw [List.length_set, hr]; exact hj), List.getElem_set_self]
      · rw [if_neg (fun h => e2 h.2.symm), getD_at _ _ (by rw [List.length_set, hr]; exact hb), List.getElem_set_ne e2, ← getD_at _ 0 (by rw [hr]; exact hb)]
    · rw [if_neg (fun h => e h.1.symm), getD_at _ [] (by rw [List.length_set, h.1]; exact ha), List.getElem_set_ne e, ← getD_at y [] (by rw [h.1]; exact ha)]
theorem rep_sq (n : Nat) (v : Int) : Sq n (List.replicate n (List.replicate n v)) := ⟨by simp, fun r hr => by rw [List.eq_of_mem_replicate hr]; simp⟩
theorem sgZero (n : Nat) (hn : n ≤ 1000) : Ans (fun k => spec_sgZero.f k n) (List.replicate n (List.replicate n 0)) := by
  have key : ∀ (d i : Nat), i + d = n → Ans (fun k => spec_sgZero.l0 k n (List.replicate i (List.replicate n 0)) (i : Int)) (List.replicate n (List.replicate n 0)) := by
    intro d
    induction d with
    | zero =>
      intro i h
      obtain rfl : i = n := by omega
      exact Ans.step (by simp only [spec_sgZero.l0]; exact Ans.not (by omega) (Ans.pure _))
    | succ d ih =>
      intro i h
      have e := ih (i + 1) (by omega)
      refine Ans.step ?_
      simp only [spec_sgZero.l0, wrap64_up (show (0 : Int) ≤ i by omega) (by omega), Int.toNat_natCast]
      rw [List.replicate_succ', show ((i + 1 : Nat) : Int) = (i : Int) + 1 by omega] at e
      exact Ans.yes (by omega) (Ans.yes (by omega) (Ans.yes (by omega) (Ans.yes (by rw [List.length_replicate]; omega) e)))
  exact key n 0 (by omega)
/-- A corner sum, 0 beside the table. -/
def sgat (x : List (List Int)) (i j : Int) : Int := if i < 0 then 0 else if j < 0 then 0 else rd (rd_L3 x i) j
theorem sgAt {n : Nat} {x : List (List Int)} (h : Sq n x) (i j : Int) (hi : i < n) (hj : j < n) : spec_sgAt.f x i j = some (sgat x i j) := by
  simp only [spec_sgAt.f, sgat]
  by_cases c1 : i < 0
  · rw [if_pos c1, if_pos c1]
  · by_cases c2 : j < 0
    · rw [if_neg c1, if_neg c1, if_pos c2, if_pos c2]
    · have hr : (rd_L3 x i).length = n := h.row (by omega)
      rw [if_neg c1, if_neg c1, if_neg c2, if_neg c2, if_pos (by omega), if_pos (by have := h.1; omega), if_pos (by omega), if_pos (by omega)]
/-- The number that corner sums leave. -/
def diff (x : List (List Int)) (i j : Int) : Int := wrap64 (wrap64 (wrap64 (sgat x i j - sgat x (i - 1) j) - sgat x i (j - 1)) + sgat x (i - 1) (j - 1))
def frm (x : List (List Int)) : List (List Int) := tab x.length x.length (fun i j => diff x i j)
theorem tab_sq (n : Nat) (v : Nat → Nat → Int) : Sq n (tab n n v) := ⟨by simp [tab], fun r hr => by obtain ⟨a, _, rfl⟩ := List.mem_map.1 hr; simp⟩
theorem sgFrom (n : Nat) (x : List (List Int)) (h : Sq n x) (hn : n ≤ 1000) : Ans (fun k => spec_sgFrom.f k x) (frm x) := by
  have hx := h.1
  have inner : ∀ (i : Nat), i < n → ∀ (d j : Nat) (y : List (List Int)), j + d = n → Sq n y → (∀ a b : Nat, a < n → b < n → (a < i ∨ a = i ∧ b < j) → (y.getD a []).getD b 0 = diff x a b) →
      (∀ y', Sq n y' → (∀ a b : Nat, a < n → b < n → a < i + 1 → (y'.getD a []).getD b 0 = diff x a b) → Ans (fun k => spec_sgFrom.l0 k x y' (n : Int) ((i + 1 : Nat) : Int)) (frm x)) →
      Ans (fun k => spec_sgFrom.l1 k x y (i : Int) (n : Int) (i : Int) (n : Int) (j : Int)) (frm x) := by
    intro i hi d
    induction d with
    | zero =>
      intro j y hj hy hv nx
      refine Ans.step ?_
      simp only [spec_sgFrom.l1, wrap64_up (show (0 : Int) ≤ i by omega) (by omega)]
      have := nx y hy (fun a b ha hb hlt => hv a b ha hb (by omega))
      rw [show ((i + 1 : Nat) : Int) = (i : Int) + 1 by omega] at this
      exact Ans.not (by omega) this
    | succ d ih =>
      intro j y hj hy hv nx
      obtain ⟨q1, q2⟩ := put_sq hy i j hi (by omega) (diff x i j)
      have e := ih (j + 1) _ (by omega) q1 (fun a b ha hb hlt => by
        rw [q2 a b ha hb]
        by_cases c : a = i ∧ b = j
        · rw [if_pos c, c.1, c.2]
        · rw [if_neg c]; exact hv a b ha hb (by omega)) nx
      have hr : (rd_L3 y (i : Int)).length = n := by unfold rd_L3; rw [Int.toNat_natCast]; exact hy.row hi
      have w1 : wrap64 ((i : Int) - 1) = (i : Int) - 1 := wrap64_in _ ⟨by omega, by omega⟩
      have w2 : wrap64 ((j : Int) - 1) = (j : Int) - 1 := wrap64_in _ ⟨by omega, by omega⟩
      refine Ans.step ?_
      simp only [spec_sgFrom.l1, w1, w2, wrap64_up (show (0 : Int) ≤ j by omega) (by omega), sgAt h i j (by omega) (by omega), sgAt h ((i : Int) - 1) j (by omega) (by omega), sgAt h i ((j : Int) - 1) (by omega) (by omega), sgAt h ((i : Int) - 1) ((j : Int) - 1) (by omega) (by omega), Option.bind_some, Int.toNat_natCast]
      rw [show ((j + 1 : Nat) : Int) = (j : Int) + 1 by omega] at e
      exact Ans.yes (by omega) (Ans.yes (by omega) (Ans.yes (by have := hy.1; omega) (Ans.yes (by omega) (Ans.yes (by omega) e))))
  have key : ∀ (d i : Nat) (y : List (List Int)), i + d = n → Sq n y → (∀ a b : Nat, a < n → b < n → a < i → (y.getD a []).getD b 0 = diff x a b) → Ans (fun k => spec_sgFrom.l0 k x y (n : Int) (i : Int)) (frm x) := by
    intro d
    induction d with
    | zero =>
      intro i y h1 hy hv
      have : y = frm x := by unfold frm; rw [hx]; exact (tab_is hy _ (fun a b ha hb => (hv a b ha hb (by omega)).symm)).symm
      rw [this]
      exact Ans.step (by simp only [spec_sgFrom.l0]; exact Ans.not (by omega) (Ans.pure _))
    | succ d ih =>
      intro i y h1 hy hv
      refine Ans.step ?_
      simp only [spec_sgFrom.l0, hx]
      exact Ans.yes (by omega) (inner i (by omega) n 0 y (by omega) hy (fun a b ha hb hlt => hv a b ha hb (by omega)) (fun y' hy' hv' => ih (i + 1) y' (by omega) hy' hv'))
  simp only [spec_sgFrom.f, hx]
  exact (sgZero n hn).bind (by
    have := key n 0 (List.replicate n (List.replicate n 0)) (by omega) (rep_sq n 0) (fun a b ha hb hlt => by omega)
    simpa [rep_sq] using this)
theorem frm_sq {n : Nat} {x : List (List Int)} (h : Sq n x) : Sq n (frm x) := by unfold frm; rw [h.1]; exact tab_sq n _
/-- The corner sums of the least sign matrix. -/
def corn (n : Nat) : List (List Int) := tab n n (fun i j => ((min i j : Nat) : Int) + 1)
theorem corn_sign : ∀ n : Nat, 1 ≤ n → n ≤ 6 → sign (frm (corn n)) = true := by
  intro n h1 h2
  rcases (show n = 1 ∨ n = 2 ∨ n = 3 ∨ n = 4 ∨ n = 5 ∨ n = 6 by omega) with rfl | rfl | rfl | rfl | rfl | rfl
  all_goals decide +kernel
/-- All numbers are in range. -/
def InZ (x : List (List Int)) : Prop := ∀ r ∈ x, ∀ v ∈ r, -9223372036854775808 ≤ v ∧ v ≤ 9223372036854775807
theorem wrap64_range (n : Int) : -9223372036854775808 ≤ wrap64 n ∧ wrap64 n ≤ 9223372036854775807 := by unfold wrap64; omega
theorem InZ.put {x : List (List Int)} (h : InZ x) (i j : Nat) (hi : i < x.length) (n : Int) : InZ (x.set i ((x.getD i []).set j (wrap64 n))) := by
  intro r hr v hv
  rcases List.mem_or_eq_of_mem_set hr with h1 | h1
  · exact h r h1 v hv
  · subst h1
    rcases List.mem_or_eq_of_mem_set hv with h2 | h2
    · exact h _ (getD_mem [] hi) v h2
    · rw [h2]; exact wrap64_range n
theorem draw_sure (c : List Int) (hc : ∀ x ∈ c, (Lit.int .u8 x).wf = true) (a s : Int) (n : Nat) (hn : 1 ≤ n) (hn2 : n ≤ 6) (h0 : 0 ≤ a) (h1 : a ≤ 1000000000000) :
    ∃ m a' s', Ans (fun k => spec_l1Cur_sure.f k c a s n) (m, a', s') ∧ a ≤ a' ∧ a' ≤ a + 1000 ∧ Sq n m ∧ sign m = true := by
  -- the flips
  have flips : ∀ (d : Nat) (x : List (List Int)) (a s : Int), Sq n x → InZ x → sign (frm x) = true → 0 ≤ a → a + 6 * d ≤ 1000000002000 →
      ∃ m a' s', Ans (fun k => spec_l1Cur_sure.l2 k n x (d : Int) c a s) (m, a', s') ∧ a ≤ a' ∧ a' ≤ a + 6 * d ∧ Sq n m ∧ sign m = true := by
    intro d
    induction d with
    | zero =>
      intro x a s hx hz hs h0 h1
      refine ⟨frm x, a, s, Ans.step ?_, by omega, by omega, frm_sq hx, hs⟩
      simp only [spec_l1Cur_sure.l2]
      refine Ans.not (by omega) (Ans.step ?_)
      simp only [spec_l1Cur_sure.j3]
      exact Ans.not (by simp) ((sgFrom n x hx (by omega)).bind (Ans.pure _))
    | succ d ih =>
      intro x a s hx hz hs h0 h1
      by_cases c1 : (n : Int) > 1
      · have wn : wrap64 ((n : Int) - 1) = (n : Int) - 1 := wrap64_in _ ⟨by omega, by omega⟩
        obtain ⟨i, a1, s1, e1, p1, q1, i0, i1⟩ := draw_pick c hc a s ((n : Int) - 1) h0 (by omega)
        obtain ⟨j, a2, s2, e2, p2, q2, j0, j1⟩ := draw_pick c hc a1 s1 ((n : Int) - 1) (by omega) (by omega)
        obtain ⟨v, a3, s3, e3, p3, q3, v0, v1⟩ := draw_pick c hc a2 s2 2 (by omega) (by omega)
        have hr : (rd_L3 x i).length = n := hx.row (by omega)
        have hl := hx.1
        obtain ⟨y, hy⟩ : ∃ y, y = x.set i.toNat ((rd_L3 x i).set j.toNat (wrap64 ((rd (rd_L3 x i) j) + (wrap64 ((wrap64 (2 * v)) - 1))))) := ⟨_, rfl⟩
        have ys : Sq n y := by rw [hy]; exact (put_sq hx i.toNat j.toNat (by omega) (by omega) _).1
        have yz : InZ y := by rw [hy]; exact hz.put i.toNat j.toNat (by omega) _
        have wd : wrap64 (((d + 1 : Nat) : Int) - 1) = d := by rw [wrap64_in _ ⟨by omega, by omega⟩]; omega
        by_cases c2 : sign (frm y) = true
        · obtain ⟨m, a', s', e, g1, g2, g3, g4⟩ := ih y a3 s3 ys yz c2 (by omega) (by omega)
          refine ⟨m, a', s', Ans.step ?_, by omega, by omega, g3, g4⟩
          simp only [spec_l1Cur_sure.l2]
          refine Ans.yes (by omega) (Ans.step ?_)
          simp only [spec_l1Cur_sure.j3, wn, wd, e1, e2, e3, Option.bind_some, ← hy]
          have gg := sgGood (frm y) (by rw [(frm_sq ys).1]; omega)
          rw [c2] at gg
          exact Ans.yes (by simp; omega) (Ans.yes i0 (Ans.yes (by omega) (Ans.yes j0 (Ans.yes (by omega) ((sgFrom n y ys (by omega)).bind (gg.bind (Ans.yes rfl e)))))))
        · have back : y.set i.toNat ((rd_L3 y i).set j.toNat (wrap64 ((rd (rd_L3 y i) j) - (wrap64 ((wrap64 (2 * v)) - 1))))) = x := by
            have hq := put_sq hx i.toNat j.toNat (by omega) (by omega) (wrap64 ((rd (rd_L3 x i) j) + (wrap64 ((wrap64 (2 * v)) - 1))))
            have hq2 := put_sq ys i.toNat j.toNat (by omega) (by omega) (wrap64 ((rd (rd_L3 y i) j) - (wrap64 ((wrap64 (2 * v)) - 1))))
            refine ext_sq hq2.1 hx (fun a b ha hb => ?_)
            have e1 := hq2.2 a b ha hb
            rw [show y.getD i.toNat [] = rd_L3 y i from rfl] at e1
            rw [e1]
            have hyv := hq.2 a b ha hb
            rw [show x.getD i.toNat [] = rd_L3 x i from rfl, ← hy] at hyv
            by_cases c3 : a = i.toNat ∧ b = j.toNat
            · rw [if_pos c3]
              rw [if_pos c3] at hyv
              have e4 : rd (rd_L3 y i) j = wrap64 ((rd (rd_L3 x i) j) + (wrap64 ((wrap64 (2 * v)) - 1))) := by rw [← hyv, c3.1, c3.2]; rfl
              rw [e4, c3.1, c3.2, show (x.getD i.toNat []).getD j.toNat 0 = rd (rd_L3 x i) j from rfl]
              have hz1 := hz (rd_L3 x i) (getD_mem [] (by omega)) (rd (rd_L3 x i) j) (getD_mem 0 (by omega))
              unfold wrap64
              omega
            · rw [if_neg c3]; rw [if_neg c3] at hyv; exact hyv
          have hry : (rd_L3 y i).length = n := ys.row (by omega)
          obtain ⟨m, a', s', e, g1, g2, g3, g4⟩ := ih x a3 s3 hx hz hs (by omega) (by omega)
          refine ⟨m, a', s', Ans.step ?_, by omega, by omega, g3, g4⟩
          simp only [spec_l1Cur_sure.l2]
          refine Ans.yes (by omega) (Ans.step ?_)
          simp only [spec_l1Cur_sure.j3, wn, wd, e1, e2, e3, Option.bind_some, ← hy, back]
          have gg := sgGood (frm y) (by rw [(frm_sq ys).1]; omega)
          rw [Bool.eq_false_iff.mpr c2] at gg
          exact Ans.yes (by simp; omega) (Ans.yes i0 (Ans.yes (by omega) (Ans.yes j0 (Ans.yes (by omega) ((sgFrom n y ys (by omega)).bind (gg.bind (Ans.not (by simp) (Ans.yes (by omega) e))))))))
      · refine ⟨frm x, a, s, Ans.step ?_, by omega, by omega, frm_sq hx, hs⟩
        simp only [spec_l1Cur_sure.l2]
        refine Ans.yes (by omega) (Ans.step ?_)
        simp only [spec_l1Cur_sure.j3]
        exact Ans.not (by simp; omega) ((sgFrom n x hx (by omega)).bind (Ans.pure _))
  -- the corner sums at first
  have w3 : wrap64 ((wrap64 (3 * (n : Int))) * n) = 3 * (n : Int) * n := by
    have : (3 * (n : Int)) * n ≤ 18 * 6 := Int.mul_le_mul (by omega) (by omega) (by omega) (by omega)
    have h0 : 0 ≤ 3 * (n : Int) * n := Int.mul_nonneg (by omega) (by omega)
    rw [wrap64_in (3 * (n : Int)) ⟨by omega, by omega⟩, wrap64_in _ ⟨by omega, by omega⟩]
  obtain ⟨t, a1, s1, e1, p1, q1, t0, t1⟩ := draw_pick c hc a s (3 * (n : Int) * n) h0 (by omega)
  have ht : t ≤ 108 := by
    have : (3 * (n : Int)) * n ≤ 18 * 6 := Int.mul_le_mul (by omega) (by omega) (by omega) (by omega)
    omega
  obtain ⟨m, a', s', e2, p2, q2, g3, g4⟩ := flips t.toNat (corn n) a1 s1 (tab_sq n _) (by
    intro r hr v hv
    obtain ⟨i, hi, rfl⟩ := List.mem_map.1 hr
    obtain ⟨j, hj, rfl⟩ := List.mem_map.1 hv
    rw [List.mem_range] at hi hj
    show -9223372036854775808 ≤ ((min i j : Nat) : Int) + 1 ∧ ((min i j : Nat) : Int) + 1 ≤ 9223372036854775807
    have := Nat.min_le_left i j
    omega) (corn_sign n hn hn2) (by omega) (by omega)
  rw [Int.toNat_of_nonneg t0] at e2
  refine ⟨m, a', s', ?_, by omega, by omega, g3, g4⟩
  have inner : ∀ (i : Nat), i < n → ∀ (d j : Nat) (y : List (List Int)), j + d = n → Sq n y → (∀ a b : Nat, a < n → b < n → (a < i ∨ a = i ∧ b < j) → (y.getD a []).getD b 0 = ((min a b : Nat) : Int) + 1) →
      (∀ y', Sq n y' → (∀ a b : Nat, a < n → b < n → a < i + 1 → (y'.getD a []).getD b 0 = ((min a b : Nat) : Int) + 1) → Ans (fun k => spec_l1Cur_sure.l0 k n y' (n : Int) ((i + 1 : Nat) : Int) c a s) (m, a', s')) →
      Ans (fun k => spec_l1Cur_sure.l1 k n y (i : Int) (n : Int) (i : Int) (n : Int) (j : Int) c a s) (m, a', s') := by
    intro i hi d
    induction d with
    | zero =>
      intro j y hj hy hv nx
      refine Ans.step ?_
      simp only [spec_l1Cur_sure.l1, wrap64_up (show (0 : Int) ≤ i by omega) (by omega)]
      have := nx y hy (fun a b ha hb hlt => hv a b ha hb (by omega))
      rw [show ((i + 1 : Nat) : Int) = (i : Int) + 1 by omega] at this
      exact Ans.not (by omega) this
    | succ d ih =>
      intro j y hj hy hv nx
      obtain ⟨q1, q2⟩ := put_sq hy i j hi (by omega) (((min i j : Nat) : Int) + 1)
      have e := ih (j + 1) _ (by omega) q1 (fun a b ha hb hlt => by
        rw [q2 a b ha hb]
        by_cases c : a = i ∧ b = j
        · rw [if_pos c, c.1, c.2]
        · rw [if_neg c]; exact hv a b ha hb (by omega)) nx
      have hr : (rd_L3 y (i : Int)).length = n := by unfold rd_L3; rw [Int.toNat_natCast]; exact hy.row hi
      have hl : spec_l1Least.f (i : Int) (j : Int) = some ((min i j : Nat) : Int) := by
        simp only [spec_l1Least.f]
        by_cases c : (i : Int) < j
        · rw [if_pos c, Nat.min_eq_left (by omega)]
        · rw [if_neg c, Nat.min_eq_right (by omega)]
      have w1 : wrap64 (((min i j : Nat) : Int) + 1) = ((min i j : Nat) : Int) + 1 := wrap64_in _ ⟨by omega, by omega⟩
      refine Ans.step ?_
      simp only [spec_l1Cur_sure.l1, hl, Option.bind_some, w1, wrap64_up (show (0 : Int) ≤ j by omega) (by omega), Int.toNat_natCast]
      rw [show ((j + 1 : Nat) : Int) = (j : Int) + 1 by omega] at e
      exact Ans.yes (by omega) (Ans.yes (by omega) (Ans.yes (by have := hy.1; omega) (Ans.yes (by omega) (Ans.yes (by omega) e))))
  have key : ∀ (d i : Nat) (y : List (List Int)), i + d = n → Sq n y → (∀ a b : Nat, a < n → b < n → a < i → (y.getD a []).getD b 0 = ((min a b : Nat) : Int) + 1) → Ans (fun k => spec_l1Cur_sure.l0 k n y (n : Int) (i : Int) c a s) (m, a', s') := by
    intro d
    induction d with
    | zero =>
      intro i y h1 hy hv
      have : y = corn n := (tab_is hy _ (fun a b ha hb => (hv a b ha hb (by omega)).symm)).symm
      rw [this]
      refine Ans.step ?_
      simp only [spec_l1Cur_sure.l0, w3, e1, Option.bind_some]
      exact Ans.not (by omega) e2
    | succ d ih =>
      intro i y h1 hy hv
      have hl := hy.1
      refine Ans.step ?_
      simp only [spec_l1Cur_sure.l0, hl]
      exact Ans.yes (by omega) (inner i (by omega) n 0 y (by omega) hy (fun a b ha hb hlt => hv a b ha hb (by omega)) (fun y' hy' hv' => ih (i + 1) y' (by omega) hy' hv'))
  simp only [spec_l1Cur_sure.f]
  refine (sgZero n (by omega)).bind ?_
  simp only [List.length_replicate]
  exact key n 0 _ (by omega) (rep_sq n 0) (fun a b ha hb hlt => by omega)
/-- What signs draws: a table of few rows of few numbers. -/
theorem draw_signs (c : List Int) (hc : ∀ x ∈ c, (Lit.int .u8 x).wf = true) (a s : Int) (most : Nat) (hm : 1 ≤ most) (hm2 : most ≤ 6) (h0 : 0 ≤ a) (h1 : a ≤ 100000000000) :
    ∃ m a' s', Ans (fun k => spec_l1Cur_signs.f k c a s most) (m, a', s') ∧ a ≤ a' ∧ a' ≤ a + 3000 ∧ m.length ≤ 7 ∧ ∀ r ∈ m, r.length ≤ 7 := by
  obtain ⟨t, a1, s1, e1, p1, q1, t0, t1⟩ := draw_pick c hc a s most h0 (by omega)
  have wt : wrap64 (1 + t) = ((t.toNat + 1 : Nat) : Int) := by rw [wrap64_in _ ⟨by omega, by omega⟩]; omega
  obtain ⟨n, hn⟩ : ∃ n, n = t.toNat + 1 := ⟨_, rfl⟩
  rw [← hn] at wt
  obtain ⟨m, a2, s2, e2, p2, q2, hs, _⟩ := draw_sure c hc a1 s1 n (by omega) (by omega) (by omega) (by omega)
  obtain ⟨z, a3, s3, e3, p3, q3, z0, z1⟩ := draw_pick c hc a2 s2 20 (by omega) (by omega)
  have hl := hs.1
  by_cases c0 : z = 0
  · obtain ⟨i, a4, s4, e4, p4, q4, i0, i1⟩ := draw_pick c hc a3 s3 n (by omega) (by omega)
    obtain ⟨j, a5, s5, e5, p5, q5, j0, j1⟩ := draw_pick c hc a4 s4 n (by omega) (by omega)
    obtain ⟨v, a6, s6, e6, p6, q6, _⟩ := draw_among c hc a5 s5 [(-2), (-1), 0, 1, 2, 4611686018427387904] (by simp) (by omega) (by omega)
    have hr : (rd_L3 m i).length = n := hs.row (by omega)
    refine ⟨m.set i.toNat ((rd_L3 m i).set j.toNat v), a6, s6, ?_, by omega, by omega, by rw [List.length_set]; omega, fun r hr' => ?_⟩
    · simp only [spec_l1Cur_signs.f, e1, Option.bind_some, wt]
      refine e2.bind ?_
      simp only [e3, Option.bind_some]
      refine Ans.yes c0 ?_
      simp only [e4, Option.bind_some]
      refine Ans.yes i0 (Ans.yes (by omega) ?_)
      simp only [e5, e6, Option.bind_some]
      exact Ans.yes j0 (Ans.yes (by omega) (Ans.pure _))
    · rcases List.mem_or_eq_of_mem_set hr' with h | h
      · rw [hs.2 r h]; omega
      · rw [h, List.length_set, hr]; omega
  by_cases c1 : z = 1
  · refine ⟨m ++ [List.replicate n 0], a3, s3, ?_, by omega, by omega, by simp; omega, fun r hr' => ?_⟩
    · simp only [spec_l1Cur_signs.f, e1, Option.bind_some, wt]
      refine e2.bind ?_
      simp only [e3, Option.bind_some, Int.toNat_natCast]
      exact Ans.not c0 (Ans.yes c1 (Ans.yes (by omega) (Ans.yes (by omega) (Ans.yes (by omega) (Ans.pure _)))))
    · rcases List.mem_append.1 hr' with h | h
      · rw [hs.2 r h]; omega
      · simp only [List.mem_singleton] at h; rw [h, List.length_replicate]; omega
  by_cases c2 : z = 2
  · have hr : (rd_L3 m 0).length = n := hs.row (by omega)
    refine ⟨m.set (0 : Int).toNat (rd_L3 m 0 ++ [0]), a3, s3, ?_, by omega, by omega, by rw [List.length_set]; omega, fun r hr' => ?_⟩
    · simp only [spec_l1Cur_signs.f, e1, Option.bind_some, wt]
      refine e2.bind ?_
      simp only [e3, Option.bind_some]
      exact Ans.not c0 (Ans.not c1 (Ans.yes c2 (Ans.yes (by omega) (Ans.yes (by omega) (Ans.pure _)))))
    · rcases List.mem_or_eq_of_mem_set hr' with h | h
      · rw [hs.2 r h]; omega
      · rw [h, List.length_append, hr]; simp; omega
  by_cases c3 : z = 3
  · obtain ⟨m2, a4, s4, e4, p4, q4, hs2, _⟩ := draw_sure c hc a3 s3 6 (by omega) (by omega) (by omega) (by omega)
    obtain ⟨u, a5, s5, e5, p5, q5⟩ := draw_one c hc a4 s4 2 (by omega) (by omega)
    cases u with
    | true =>
      refine ⟨[], a5, s5, ?_, by omega, by omega, by simp, by simp⟩
      simp only [spec_l1Cur_signs.f, e1, Option.bind_some, wt]
      refine e2.bind ?_
      simp only [e3, Option.bind_some]
      refine Ans.not c0 (Ans.not c1 (Ans.not c2 (Ans.yes c3 (e4.bind ?_))))
      simp only [e5, Option.bind_some]
      exact Ans.yes trivial (Ans.pure _)
    | false =>
      refine ⟨m2, a5, s5, ?_, by omega, by omega, by rw [hs2.1]; omega, fun r hr => by rw [hs2.2 r hr]; omega⟩
      simp only [spec_l1Cur_signs.f, e1, Option.bind_some, wt]
      refine e2.bind ?_
      simp only [e3, Option.bind_some]
      refine Ans.not c0 (Ans.not c1 (Ans.not c2 (Ans.yes c3 (e4.bind ?_))))
      simp only [e5, Option.bind_some]
      exact Ans.not (by simp) (Ans.pure _)
  · refine ⟨m, a3, s3, ?_, by omega, by omega, by omega, fun r hr => by rw [hs.2 r hr]; omega⟩
    simp only [spec_l1Cur_signs.f, e1, Option.bind_some, wt]
    refine e2.bind ?_
    simp only [e3, Option.bind_some]
    exact Ans.not c0 (Ans.not c1 (Ans.not c2 (Ans.not c3 (Ans.pure _))))
theorem draw_side (c : List Int) (hc : ∀ x ∈ c, (Lit.int .u8 x).wf = true) (a s n : Int) (hn : 1 ≤ n) (hn2 : n ≤ 100) (h0 : 0 ≤ a) (h1 : a ≤ 1000000000000000) : ∃ v a' s', spec_l1Cur_side.f c a s n = some (v, a', s') ∧ a ≤ a' ∧ a' ≤ a + 4 ∧ -1 ≤ v ∧ v ≤ n + 1 := by
  have w : wrap64 (n + 1) = n + 1 := wrap64_in _ ⟨by omega, by omega⟩
  obtain ⟨v, a1, s1, e1, p1, q1⟩ := draw_one c hc a s 8 h0 (by omega)
  simp only [spec_l1Cur_side.f, e1, Option.bind_some, w]
  cases v with
  | true =>
    obtain ⟨u, a2, s2, e2, p2, q2, hu⟩ := draw_among c hc a1 s1 [(-1), 0, 1, n, n + 1] (by simp) (by omega) (by omega)
    rw [if_pos rfl, e2]
    refine ⟨u, a2, s2, rfl, by omega, by omega, ?_⟩
    simp only [List.mem_cons, List.mem_nil_iff, or_false] at hu
    omega
  | false =>
    obtain ⟨u, a2, s2, e2, p2, q2, u0, u1⟩ := draw_pick c hc a1 s1 n (by omega) (by omega)
    rw [if_neg (by simp), e2]
    simp only [Option.bind_some, wrap64_in (1 + u) ⟨by omega, by omega⟩]
    exact ⟨_, a2, s2, rfl, by omega, by omega, by omega, by omega⟩
theorem draw_weight (c : List Int) (hc : ∀ x ∈ c, (Lit.int .u8 x).wf = true) (a s n : Int) (h0 : 0 ≤ a) (h1 : a ≤ 1000000000000000) : ∃ v a' s', spec_l1Cur_weight.f c a s n = some (v, a', s') ∧ a ≤ a' ∧ a' ≤ a + 4 := by
  obtain ⟨v, a1, s1, e1, p1, q1⟩ := draw_one c hc a s 14 h0 (by omega)
  simp only [spec_l1Cur_weight.f, e1, Option.bind_some]
  cases v with
  | true =>
    obtain ⟨u, a2, s2, e2, p2, q2, _⟩ := draw_among c hc a1 s1 [(-1), wrap64 (n + 1), 4611686018427387904] (by simp) (by omega) (by omega)
    rw [if_pos rfl, e2]
    exact ⟨u, a2, s2, rfl, by omega, by omega⟩
  | false =>
    obtain ⟨u, a2, s2, e2, p2, q2, _⟩ := draw_pick c hc a1 s1 (wrap64 (n + 1)) (by omega) (by omega)
    rw [if_neg (by simp), e2]
    exact ⟨u, a2, s2, rfl, by omega, by omega⟩
theorem big_ans (c m : List Int) : ∃ b, laws_big.f c m = some b := by
  simp only [laws_big.f]
  split
  · exact ⟨_, rfl⟩
  · exact ⟨_, rfl⟩
/-- How many places a matrix has of each kind. -/
def cnt (m : List (List Int)) : List Int := (spec_weCounts.f 200 m).getD []
def nn (x : Int) : Nat := x.toNat
def e1 (m : List (List Int)) : Nat := nn (rd (cnt m) 0) + nn (rd (cnt m) 3)
def e2 (m : List (List Int)) : Nat := nn (rd (cnt m) 1) + nn (rd (cnt m) 2)
def e3 (m : List (List Int)) : Nat := nn (rd (cnt m) 5)
def chkCnt (n : Nat) : Bool := (allOf n).all fun m => sign m && decide (impl_kindCounts.f 200 m = some (cnt m)) && decide (spec_weCounts.f 200 m = some (cnt m)) && decide ((cnt m).length = 6) && (cnt m).all (fun x => decide (0 ≤ x ∧ x ≤ 16)) &&
  decide (e1 m + e2 m + e3 m ≤ 16) && (allOf n).contains (mir m) && Nat.beq (e1 (mir m)) (e2 m) && Nat.beq (e2 (mir m)) (e1 m) && Nat.beq (e3 (mir m)) (e3 m)
theorem chkCnt_all : ∀ n : Nat, 1 ≤ n → n ≤ 4 → chkCnt n = true := by
  intro n h1 h2
  rcases (show n = 1 ∨ n = 2 ∨ n = 3 ∨ n = 4 by omega) with rfl | rfl | rfl | rfl
  all_goals decide +kernel
def trip (n : Nat) : List (Nat × Nat × Nat) := (allOf n).map fun m => (e1 m, e2 m, e3 m)
def trip2 (n : Nat) : List (Nat × Nat × Nat) := (allOf n).map fun m => (nn (rd (cnt m) 0), nn (rd (cnt m) 1), e3 m)
def swp (t : Nat × Nat × Nat) : Nat × Nat × Nat := (t.2.1, t.1, t.2.2)
theorem trip_perm : ∀ n : Nat, 1 ≤ n → n ≤ 4 → ((trip n).map swp).isPerm (trip n) = true := by
  intro n h1 h2
  rcases (show n = 1 ∨ n = 2 ∨ n = 3 ∨ n = 4 by omega) with rfl | rfl | rfl | rfl
  all_goals decide +kernel
/-- The free sum, computed. -/
def freeOk (n : Nat) (L : List (Nat × Nat × Nat)) : Bool := (List.range 6).all fun x => (List.range 6).all fun y => Nat.beq ((L.map fun t => x ^ t.1 * (y ^ t.2.1 * (x + y) ^ t.2.2)).foldr (· + ·) 0) ((x + y) ^ (n * (n - 1) / 2))
theorem free_all : ∀ n : Nat, 1 ≤ n → n ≤ 4 → freeOk n (trip2 n) = true ∧ impl_CountSigns.f 60 n = some (((allOf n).length : Int), true) ∧ (allOf n).length ≤ 42 := by
  intro n h1 h2
  rcases (show n = 1 ∨ n = 2 ∨ n = 3 ∨ n = 4 by omega) with rfl | rfl | rfl | rfl
  all_goals decide +kernel
theorem pow_le (a e : Nat) (ha : a ≤ 10) (he : e ≤ 16) : a ^ e ≤ 10000000000000000 :=
  Nat.le_trans (Nat.pow_le_pow_left ha e) (Nat.le_trans (Nat.pow_le_pow_right (by omega) he) (by decide))
theorem power (a e : Nat) (ha : a ≤ 10) (he : e ≤ 16) : Ans (fun k => impl_power.f k a e) ((a ^ e : Nat) : Int) := by
  have key : ∀ (d i : Nat), i + d = e → Ans (fun k => impl_power.l0 k a ((a ^ i : Nat) : Int) (e : Int) (i : Int)) ((a ^ e : Nat) : Int) := by
    intro d
    induction d with
    | zero =>
      intro i h
      obtain rfl : i = e := by omega
      exact Ans.step (by simp only [impl_power.l0]; exact Ans.not (by omega) (Ans.pure _))
    | succ d ih =>
      intro i h
      have b := pow_le a (i + 1) ha (by omega)
      have w : wrap64 (((a ^ i : Nat) : Int) * (a : Int)) = ((a ^ (i + 1) : Nat) : Int) := by
        rw [show ((a ^ i : Nat) : Int) * (a : Int) = ((a ^ (i + 1) : Nat) : Int) from by rw [Nat.pow_succ]; simp]
        exact wrap64_in _ ⟨by omega, by omega⟩
      refine Ans.step ?_
      simp only [impl_power.l0, w, wrap64_in ((i : Int) + 1) ⟨by omega, by omega⟩]
      have e := ih (i + 1) (by omega)
      rw [show ((i + 1 : Nat) : Int) = (i : Int) + 1 by omega] at e
      exact Ans.yes (by omega) e
  exact key e 0 (by omega)
theorem down (g : Nat → Int → Int → Int → Option Int) (hg : ∀ k x0 x1 x5, g (k + 1) x0 x1 x5 = if x1 > 0 then g k x0 (wrap64 (x1 - 1)) (wrap64 (x5 * x0)) else some x5) (a e : Nat) (ha : a ≤ 10) (he : e ≤ 16) : Ans (fun k => g k a e 1) ((a ^ e : Nat) : Int) := by
  have key : ∀ (d i : Nat), i + d = e → Ans (fun k => g k a (d : Int) ((a ^ i : Nat) : Int)) ((a ^ e : Nat) : Int) := by
    intro d
    induction d with
    | zero =>
      intro i h
      obtain rfl : i = e := by omega
      exact Ans.step (Ans.congr (Ans.not (c := (((0 : Nat) : Int) > 0)) (a := fun k => g k a (wrap64 (((0 : Nat) : Int) - 1)) (wrap64 (((a ^ i : Nat) : Int) * a))) (by omega) (Ans.pure _)) (fun k => hg k _ _ _))
    | succ d ih =>
      intro i h
      have b := pow_le a (i + 1) ha (by omega)
      have w : wrap64 (((a ^ i : Nat) : Int) * (a : Int)) = ((a ^ (i + 1) : Nat) : Int) := by
        rw [show ((a ^ i : Nat) : Int) * (a : Int) = ((a ^ (i + 1) : Nat) : Int) from by rw [Nat.pow_succ]; simp]
        exact wrap64_in _ ⟨by omega, by omega⟩
      have w2 : wrap64 (((d + 1 : Nat) : Int) - 1) = (d : Int) := by rw [wrap64_in _ ⟨by omega, by omega⟩]; omega
      have e := ih (i + 1) (by omega)
      refine Ans.step (Ans.congr (Ans.yes (c := (((d + 1 : Nat) : Int) > 0)) (b := fun _ => some ((a ^ i : Nat) : Int)) (by omega) e) (fun k => ?_))
      rw [hg, w, w2]
  exact key e 0 (by omega)
theorem wePower (a e : Nat) (ha : a ≤ 10) (he : e ≤ 16) : Ans (fun k => spec_wePower.f k a e) ((a ^ e : Nat) : Int) := down spec_wePower.l0 (fun _ _ _ _ => by simp only [spec_wePower.l0]) a e ha he
theorem uPower (a e : Nat) (ha : a ≤ 10) (he : e ≤ 16) : Ans (fun k => laws_uPower.f k a e) ((a ^ e : Nat) : Int) := down laws_uPower.l0 (fun _ _ _ _ => by simp only [laws_uPower.l0]) a e ha he
/-- What the counts of a matrix tell. -/
theorem cnt_at {n : Nat} (h1 : 1 ≤ n) (h2 : n ≤ 4) {m : List (List Int)} (hm : m ∈ allOf n) : Ans (fun k => impl_kindCounts.f k m) (cnt m) ∧ Ans (fun k => spec_weCounts.f k m) (cnt m) ∧ (cnt m).length = 6 ∧ (∀ i : Int, 0 ≤ i → i < 6 → 0 ≤ rd (cnt m) i ∧ rd (cnt m) i ≤ 16) ∧
    e1 m + e2 m + e3 m ≤ 16 ∧ mir m ∈ allOf n ∧ e1 (mir m) = e2 m ∧ e2 (mir m) = e1 m ∧ e3 (mir m) = e3 m ∧ sign m = true := by
  have h := List.all_eq_true.mp (chkCnt_all n h1 h2) m hm
  simp only [Bool.and_eq_true, decide_eq_true_eq] at h
  obtain ⟨⟨⟨⟨⟨⟨⟨⟨⟨sg, a⟩, b⟩, c⟩, d⟩, e⟩, f⟩, g⟩, i⟩, j⟩ := h
  refine ⟨LeO.far (fun k => impl_kindCounts.mono _ k) 200 a, LeO.far (fun k => spec_weCounts.mono _ k) 200 b, c, fun i h0 h1 => ?_, e, List.contains_iff_mem.mp f, Nat.eq_of_beq_eq_true g, Nat.eq_of_beq_eq_true i, Nat.eq_of_beq_eq_true j, sg⟩
  have := List.all_eq_true.mp d (rd (cnt m) i) (getD_mem 0 (by omega))
  simpa using this
def wt (m : List (List Int)) (a b c : Nat) : Int := ((a ^ e1 m * b ^ e2 m * c ^ e3 m : Nat) : Int)
theorem pow_sum {a b c x y z : Nat} (ha : a ≤ 5) (hb : b ≤ 5) (hc : c ≤ 5) (h : x + y + z ≤ 16) : a ^ x * b ^ y * c ^ z ≤ 152587890625 := by
  have h1 : a ^ x * b ^ y * c ^ z ≤ 5 ^ x * 5 ^ y * 5 ^ z := Nat.mul_le_mul (Nat.mul_le_mul (Nat.pow_le_pow_left ha x) (Nat.pow_le_pow_left hb y)) (Nat.pow_le_pow_left hc z)
  rw [← Nat.pow_add, ← Nat.pow_add] at h1
  exact Nat.le_trans h1 (Nat.le_trans (Nat.pow_le_pow_right (by omega) h) (by decide))
theorem pow_two {a b x y z : Nat} (ha : a ≤ 5) (hb : b ≤ 5) (h : x + y + z ≤ 16) : a ^ x * b ^ y ≤ 152587890625 := by
  have := pow_sum (c := 1) (z := z) ha hb (by omega) h
  simpa using this
theorem wt_in {n : Nat} (h1 : 1 ≤ n) (h2 : n ≤ 4) {m : List (List Int)} (hm : m ∈ allOf n) {a b c : Nat} (ha : a ≤ 5) (hb : b ≤ 5) (hc : c ≤ 5) : 0 ≤ wt m a b c ∧ wt m a b c ≤ 152587890625 := by
  have := pow_sum ha hb hc (cnt_at h1 h2 hm).2.2.2.2.1
  unfold wt
  omega
theorem weights {n : Nat} (h1 : 1 ≤ n) (h2 : n ≤ 4) {m : List (List Int)} (hm : m ∈ allOf n) {a b c : Nat} (ha : a ≤ 5) (hb : b ≤ 5) (hc : c ≤ 5) :
    Ans (fun k => impl_weight.f k m a b c) (wt m a b c) ∧ Ans (fun k => spec_weWeight.f k m a b c) (wt m a b c) := by
  obtain ⟨c1, c2, cl, ci, cs, _⟩ := cnt_at h1 h2 hm
  have i0 := ci 0 (by omega) (by omega); have i1 := ci 1 (by omega) (by omega); have i2 := ci 2 (by omega) (by omega); have i3 := ci 3 (by omega) (by omega); have i5 := ci 5 (by omega) (by omega)
  have f1 : wrap64 (rd (cnt m) 0 + rd (cnt m) 3) = ((e1 m : Nat) : Int) := by rw [wrap64_in _ ⟨by omega, by omega⟩]; unfold e1 nn; omega
  have f2 : wrap64 (rd (cnt m) 1 + rd (cnt m) 2) = ((e2 m : Nat) : Int) := by rw [wrap64_in _ ⟨by omega, by omega⟩]; unfold e2 nn; omega
  have f3 : rd (cnt m) 5 = ((e3 m : Nat) : Int) := by unfold e3 nn; omega
  have b2 := pow_two (a := a) (b := b) ha hb cs
  have b3 := pow_sum ha hb hc cs
  have fw : wrap64 (wrap64 (((a ^ e1 m : Nat) : Int) * ((b ^ e2 m : Nat) : Int)) * ((c ^ e3 m : Nat) : Int)) = wt m a b c := by
    unfold wt
    obtain ⟨P, hP⟩ : ∃ P : Nat, P = a ^ e1 m * b ^ e2 m := ⟨_, rfl⟩
    obtain ⟨R, hR⟩ : ∃ R : Nat, R = P * c ^ e3 m := ⟨_, rfl⟩
    rw [← hP] at b2 b3 ⊢
    rw [← hR] at b3 ⊢
    rw [show ((a ^ e1 m : Nat) : Int) * ((b ^ e2 m : Nat) : Int) = (P : Int) from by rw [hP]; simp, wrap64_in (P : Int) ⟨by omega, by omega⟩, show (P : Int) * ((c ^ e3 m : Nat) : Int) = (R : Int) from by rw [hR]; simp, wrap64_in (R : Int) ⟨by omega, by omega⟩]
  constructor
  · refine c1.bind ?_
    simp only [f1, f2, f3]
    refine Ans.yes (by omega) (Ans.yes (by omega) ((power a (e1 m) (by omega) (by omega)).bind (Ans.yes (by omega) (Ans.yes (by omega) ((power b (e2 m) (by omega) (by omega)).bind (Ans.yes (by omega) ((power c (e3 m) (by omega) (by omega)).bind ?_)))))))
    rw [fw]; exact Ans.pure _
  · refine c2.bind ?_
    simp only [f1, f2, f3]
    refine Ans.yes (by omega) (Ans.yes (by omega) ((wePower a (e1 m) (by omega) (by omega)).bind (Ans.yes (by omega) (Ans.yes (by omega) ((wePower b (e2 m) (by omega) (by omega)).bind (Ans.yes (by omega) ((wePower c (e3 m) (by omega) (by omega)).bind ?_)))))))
    rw [fw]; exact Ans.pure _
/-- The sum of weights. -/
def wsum (n a b c : Nat) : Int := ((allOf n).map fun m => wt m a b c).sum
theorem sum_in {α : Type} (f : α → Int) (B : Int) : ∀ L : List α, (∀ m ∈ L, 0 ≤ f m ∧ f m ≤ B) → 0 ≤ (L.map f).sum ∧ (L.map f).sum ≤ L.length * B
  | [], _ => by simp
  | m :: L, h => by
    have h1 := h m (by simp)
    have h2 := sum_in f B L (fun x hx => h x (by simp [hx]))
    rw [List.map_cons, List.sum_cons, List.length_cons]
    rw [show ((L.length + 1 : Nat) : Int) * B = (L.length : Int) * B + B from by rw [show ((L.length + 1 : Nat) : Int) = (L.length : Int) + 1 by omega, Int.add_mul, Int.one_mul]]
    omega
theorem sum_perm {l1 l2 : List Int} (h : l1.Perm l2) : l1.sum = l2.sum := by
  induction h with
  | nil => rfl
  | cons x _ ih => rw [List.sum_cons, List.sum_cons, ih]
  | swap x y l => simp only [List.sum_cons]; omega
  | trans _ _ i1 i2 => exact i1.trans i2
theorem wsum_swap {n : Nat} (h1 : 1 ≤ n) (h2 : n ≤ 4) (a b c : Nat) : wsum n b a c = wsum n a b c := by
  have hp := (List.isPerm_iff.mp (trip_perm n h1 h2)).map (fun t : Nat × Nat × Nat => ((a ^ t.1 * b ^ t.2.1 * c ^ t.2.2 : Nat) : Int))
  have e := sum_perm hp
  unfold trip at e
  simp only [List.map_map] at e
  unfold wsum wt
  rw [← show ((allOf n).map ((fun t : Nat × Nat × Nat => ((a ^ t.1 * b ^ t.2.1 * c ^ t.2.2 : Nat) : Int)) ∘ fun m => (e1 m, e2 m, e3 m))) = (allOf n).map fun m => ((a ^ e1 m * b ^ e2 m * c ^ e3 m : Nat) : Int) from rfl, ← e]
  refine congrArg List.sum (List.map_congr_left fun m _ => ?_)
  simp only [Function.comp, swp]
  rw [Nat.mul_comm (a ^ e2 m)]
theorem wsum_one {n : Nat} : wsum n 1 1 1 = ((allOf n).length : Int) := by
  unfold wsum wt
  simp only [Nat.one_pow, Nat.mul_one]
  generalize allOf n = L
  induction L with
  | nil => rfl
  | cons m L ih => rw [List.map_cons, List.sum_cons, ih, List.length_cons]; omega
theorem bases (l : List Int) (hl : l.length ≤ 10) : Ans (fun k => impl_areBases.f k l) (allIn l 0 5) ∧ Ans (fun k => spec_weWeights.f k l) (allIn l 0 5) :=
  ⟨(areWithin l (by omega) 0 5).bind (Ans.pure _), (l1All l (by omega) 0 5).bind (Ans.pure _)⟩
theorem bases3 {a b c : Int} (h : allIn [a, b, c] 0 5 = true) : ∃ x y z : Nat, a = x ∧ b = y ∧ c = z ∧ x ≤ 5 ∧ y ≤ 5 ∧ z ≤ 5 := by
  unfold allIn at h
  simp only [List.all_cons, List.all_nil, Bool.and_true, Bool.and_eq_true, decide_eq_true_eq] at h
  exact ⟨a.toNat, b.toNat, c.toNat, by omega, by omega, by omega, by omega, by omega, by omega⟩
/-- The weighted sum, as both tell it. -/
def sumRes (n a b c : Int) : Int × Bool := if 1 ≤ n ∧ n ≤ 4 then (if allIn [a, b, c] 0 5 = true then (wsum n.toNat a.toNat b.toNat c.toNat, true) else (0, false)) else (0, false)
theorem weightSum (n a b c : Int) : Ans (fun k => impl_WeightSum.f k n a b c) (sumRes n a b c) ∧ Ans (fun k => spec_WeightSum.f k n a b c) (sumRes n a b c) := by
  have no : Ans (fun k => spec_WeightSum.j0 k n a b c true) (0, false) := Ans.step (by simp only [spec_WeightSum.j0]; exact Ans.yes trivial (Ans.pure _))
  obtain ⟨b1, b2⟩ := bases [a, b, c] (by simp)
  unfold sumRes
  by_cases h : 1 ≤ n ∧ n ≤ 4
  · rw [if_pos h]
    obtain ⟨m, rfl⟩ : ∃ m : Nat, n = m := ⟨n.toNat, by omega⟩
    have h1 : 1 ≤ m := by omega
    have h2 : m ≤ 4 := by omega
    cases hb : allIn [a, b, c] 0 5 with
    | false =>
      rw [hb] at b1 b2
      rw [if_neg (by simp)]
      constructor
      · simp only [impl_WeightSum.f, impl_isWeighted.f, within, Option.bind_some]
        exact Ans.yes (decide_eq_true h) (b1.bind (Ans.not (by simp) (Ans.pure _)))
      · simp only [spec_WeightSum.f, spec_weSide.f, l1In, Option.bind_some]
        exact Ans.yes (decide_eq_true h) (b2.bind no)
    | true =>
      rw [hb] at b1 b2
      rw [if_pos rfl]
      obtain ⟨x, y, z, rfl, rfl, rfl, hx, hy, hz⟩ := bases3 hb
      simp only [Int.toNat_natCast]
      have hlen := (free_all m h1 h2).2.2
      constructor
      · simp only [impl_WeightSum.f, impl_isWeighted.f, within, Option.bind_some]
        refine Ans.yes (decide_eq_true h) (b1.bind (Ans.yes rfl ?_))
        refine Ans.bind (a := wsum m x y z) ?_ (Ans.pure _)
        exact totalM m (by omega) (fun k q => impl_WeightSum_1.f k q x y z) (fun q => wt q x y z) (by omega) (fun q hq => (weights h1 h2 hq hx hy hz).1.bind (Ans.pure _)) (fun q hq => by have := wt_in h1 h2 hq hx hy hz; omega)
      · simp only [spec_WeightSum.f, spec_weSide.f, l1In, Option.bind_some]
        refine Ans.yes (decide_eq_true h) (b2.bind (Ans.step ?_))
        simp only [spec_WeightSum.j0]
        refine Ans.not (by simp) ((weAll m h1 (by omega)).bind ?_)
        have key : ∀ (d : Nat) (i s : Int), 0 ≤ i → i + d = (allOf m).length → 0 ≤ s → s ≤ i * 152587890625 → Ans (fun k => spec_WeightSum.l0 k x y z s (allOf m) ((allOf m).length : Int) i) (s + (((allOf m).drop i.toNat).map fun q => wt q x y z).sum, true) := by
          intro d
          induction d with
          | zero =>
            intro i s h0 h1' hs hs2
            rw [drop_all _ (by omega)]
            exact Ans.step (by simp only [spec_WeightSum.l0, List.map_nil, List.sum_nil, Int.add_zero]; exact Ans.not (by omega) (Ans.pure _))
          | succ d ih =>
            intro i s h0 h1' hs hs2
            have hm : rd_L4 (allOf m) i ∈ allOf m := getD_mem [] (by omega)
            have hw := wt_in h1 h2 hm hx hy hz
            have e := ih (i + 1) (s + wt (rd_L4 (allOf m) i) x y z) (by omega) (by omega) (by omega) (by rw [Int.add_mul]; omega)
            rw [show (i + 1).toNat = i.toNat + 1 by omega] at e
            rw [drop_at _ [] (show i.toNat < (allOf m).length by omega), List.map_cons, List.sum_cons, ← Int.add_assoc]
            have hb : s + wt (rd_L4 (allOf m) i) x y z ≤ 42 * 152587890625 + 152587890625 := by
              have : i * 152587890625 ≤ 42 * 152587890625 := Int.mul_le_mul_of_nonneg_right (by omega) (by omega)
              omega
            refine Ans.step ?_
            simp only [spec_WeightSum.l0, wrap64_in (i + 1) ⟨by omega, by omega⟩]
            refine Ans.yes (by omega) (Ans.yes h0 (Ans.yes (by omega) ((weights h1 h2 hm hx hy hz).2.bind ?_)))
            rw [wrap64_in _ ⟨by omega, by omega⟩]
            exact e
        have := key (allOf m).length 0 0 (by omega) (by omega) (by omega) (by omega)
        simpa [wsum] using this
  · rw [if_neg h]
    constructor
    · simp only [impl_WeightSum.f, impl_isWeighted.f, within, Option.bind_some]
      exact Ans.not (by simpa using h) (Ans.pure _)
    · simp only [spec_WeightSum.f, spec_weSide.f, l1In, Option.bind_some]
      exact Ans.not (by simpa using h) no
/-- The free sum, as both tell it. -/
def freeRes (n x y : Int) : Int × Bool := if 1 ≤ n ∧ n ≤ 4 then (if allIn [x, y] 0 5 = true then ((((x.toNat + y.toNat) ^ (n.toNat * (n.toNat - 1) / 2) : Nat) : Int), true) else (0, false)) else (0, false)
theorem expo {m : Nat} (h1 : 1 ≤ m) (h2 : m ≤ 4) : wrap64 (Int.tdiv (wrap64 ((m : Int) * (wrap64 ((m : Int) - 1)))) 2) = ((m * (m - 1) / 2 : Nat) : Int) ∧ m * (m - 1) / 2 ≤ 6 := by
  rcases (show m = 1 ∨ m = 2 ∨ m = 3 ∨ m = 4 by omega) with rfl | rfl | rfl | rfl
  all_goals decide +kernel
theorem freeSum (n x y : Int) : Ans (fun k => impl_FreeSum.f k n x y) (freeRes n x y) ∧ Ans (fun k => spec_FreeSum.f k n x y) (freeRes n x y) := by
  have no : Ans (fun k => spec_FreeSum.j0 k n x y true) (0, false) := Ans.step (by simp only [spec_FreeSum.j0]; exact Ans.yes trivial (Ans.pure _))
  obtain ⟨b1, b2⟩ := bases [x, y] (by simp)
  unfold freeRes
  by_cases h : 1 ≤ n ∧ n ≤ 4
  · rw [if_pos h]
    obtain ⟨m, rfl⟩ : ∃ m : Nat, n = m := ⟨n.toNat, by omega⟩
    have h1 : 1 ≤ m := by omega
    have h2 : m ≤ 4 := by omega
    cases hb : allIn [x, y] 0 5 with
    | false =>
      rw [hb] at b1 b2
      rw [if_neg (by simp)]
      constructor
      · simp only [impl_FreeSum.f, impl_isWeighted.f, within, Option.bind_some]
        exact Ans.yes (decide_eq_true h) (b1.bind (Ans.not (by simp) (Ans.pure _)))
      · simp only [spec_FreeSum.f, spec_weSide.f, l1In, Option.bind_some]
        exact Ans.yes (decide_eq_true h) (b2.bind no)
    | true =>
      rw [hb] at b1 b2
      rw [if_pos rfl]
      obtain ⟨x, y, rfl, rfl, hx, hy⟩ : ∃ u v : Nat, x = u ∧ y = v ∧ u ≤ 5 ∧ v ≤ 5 := by
        unfold allIn at hb
        simp only [List.all_cons, List.all_nil, Bool.and_true, Bool.and_eq_true, decide_eq_true_eq] at hb
        exact ⟨x.toNat, y.toNat, by omega, by omega, by omega, by omega⟩
      simp only [Int.toNat_natCast]
      obtain ⟨hf, _, hlen⟩ := free_all m h1 h2
      obtain ⟨he, he2⟩ := expo h1 h2
      have hxy : wrap64 ((x : Int) + y) = ((x + y : Nat) : Int) := by rw [wrap64_in _ ⟨by omega, by omega⟩]; omega
      constructor
      · simp only [impl_FreeSum.f, impl_isWeighted.f, within, Option.bind_some, hxy, he]
        exact Ans.yes (decide_eq_true h) (b1.bind (Ans.yes rfl ((power (x + y) _ (by omega) (by omega)).bind (Ans.pure _))))
      · simp only [spec_FreeSum.f, spec_weSide.f, l1In, Option.bind_some]
        refine Ans.yes (decide_eq_true h) (b2.bind (Ans.step ?_))
        simp only [spec_FreeSum.j0]
        refine Ans.not (by simp) ((weAll m h1 (by omega)).bind ?_)
        let u : List (List Int) → Nat := fun q => x ^ nn (rd (cnt q) 0) * (y ^ nn (rd (cnt q) 1) * (x + y) ^ e3 q)
        have ub : ∀ q ∈ allOf m, u q ≤ 10000000000000000 ∧ x ^ nn (rd (cnt q) 0) * y ^ nn (rd (cnt q) 1) ≤ 10000000000000000 := fun q hq => by
          have hs := (cnt_at h1 h2 hq).2.2.2.2.1
          have k1 : nn (rd (cnt q) 0) + nn (rd (cnt q) 1) + e3 q ≤ 16 := by unfold e1 e2 at hs; omega
          have f : ∀ a b c d e g : Nat, a ≤ 10 → b ≤ 10 → c ≤ 10 → d + e + g ≤ 16 → a ^ d * (b ^ e * c ^ g) ≤ 10000000000000000 := fun a b c d e g ha hb hc hd => by
            have h1 : a ^ d * (b ^ e * c ^ g) ≤ 10 ^ d * (10 ^ e * 10 ^ g) := Nat.mul_le_mul (Nat.pow_le_pow_left ha d) (Nat.mul_le_mul (Nat.pow_le_pow_left hb e) (Nat.pow_le_pow_left hc g))
            rw [← Nat.pow_add, ← Nat.pow_add] at h1
            exact Nat.le_trans h1 (Nat.le_trans (Nat.pow_le_pow_right (by omega) (by omega : d + (e + g) ≤ 16)) (by decide))
          refine ⟨f x y (x + y) _ _ _ (by omega) (by omega) (by omega) k1, ?_⟩
          have := f x y 1 _ _ (e3 q) (by omega) (by omega) (by omega) k1
          simpa using this
        have sumL : ∀ L : List (List (List Int)), ((L.map u).foldr (· + ·) 0 : Nat) = (L.map u).foldr (· + ·) 0 := fun _ => rfl
        have key : ∀ (d : Nat) (i : Int) (s : Nat), 0 ≤ i → i + d = (allOf m).length → (s : Int) ≤ i * 10000000000000000 → Ans (fun k => spec_FreeSum.l0 k x y s (allOf m) ((allOf m).length : Int) i) (((s + (((allOf m).drop i.toNat).map u).foldr (· + ·) 0 : Nat) : Int), true) := by
          intro d
          induction d with
          | zero =>
            intro i s h0 h1' hs2
            rw [drop_all _ (by omega)]
            exact Ans.step (by simp only [spec_FreeSum.l0, List.map_nil, List.foldr_nil, Nat.add_zero]; exact Ans.not (by omega) (Ans.pure _))
          | succ d ih =>
            intro i s h0 h1' hs2
            have hm : rd_L4 (allOf m) i ∈ allOf m := getD_mem [] (by omega)
            obtain ⟨_, c2, cl, ci, cs, _⟩ := cnt_at h1 h2 hm
            have i0 := ci 0 (by omega) (by omega); have i1 := ci 1 (by omega) (by omega); have i5 := ci 5 (by omega) (by omega)
            have g0 : rd (cnt (rd_L4 (allOf m) i)) 0 = ((nn (rd (cnt (rd_L4 (allOf m) i)) 0) : Nat) : Int) := by unfold nn; omega
            have g1 : rd (cnt (rd_L4 (allOf m) i)) 1 = ((nn (rd (cnt (rd_L4 (allOf m) i)) 1) : Nat) : Int) := by unfold nn; omega
            have g5 : rd (cnt (rd_L4 (allOf m) i)) 5 = ((e3 (rd_L4 (allOf m) i) : Nat) : Int) := by unfold e3 nn; omega
            obtain ⟨hu1, hu2⟩ := ub _ hm
            have hlast : e3 (rd_L4 (allOf m) i) ≤ 16 := by omega
            have e := ih (i + 1) (s + u (rd_L4 (allOf m) i)) (by omega) (by omega) (by rw [Int.add_mul]; omega)
            rw [show (i + 1).toNat = i.toNat + 1 by omega] at e
            rw [drop_at _ [] (show i.toNat < (allOf m).length by omega), List.map_cons, List.foldr_cons, ← Nat.add_assoc]
            have hb : (s : Int) ≤ 42 * 10000000000000000 := by
              have : i * 10000000000000000 ≤ 42 * 10000000000000000 := Int.mul_le_mul_of_nonneg_right (by omega) (by omega)
              omega
            have fin : wrap64 ((s : Int) + wrap64 (wrap64 (((x ^ nn (rd (cnt (rd_L4 (allOf m) i)) 0) : Nat) : Int) * ((y ^ nn (rd (cnt (rd_L4 (allOf m) i)) 1) : Nat) : Int)) * (((x + y) ^ e3 (rd_L4 (allOf m) i) : Nat) : Int))) = ((s + u (rd_L4 (allOf m) i) : Nat) : Int) := by
              obtain ⟨P, hP⟩ : ∃ P : Nat, P = x ^ nn (rd (cnt (rd_L4 (allOf m) i)) 0) * y ^ nn (rd (cnt (rd_L4 (allOf m) i)) 1) := ⟨_, rfl⟩
              obtain ⟨R, hR⟩ : ∃ R : Nat, R = u (rd_L4 (allOf m) i) := ⟨_, rfl⟩
              have hR2 : R = P * (x + y) ^ e3 (rd_L4 (allOf m) i) := by rw [hR, hP, Nat.mul_assoc]
              rw [← hP] at hu2
              rw [← hR] at hu1 ⊢
              rw [show ((x ^ nn (rd (cnt (rd_L4 (allOf m) i)) 0) : Nat) : Int) * ((y ^ nn (rd (cnt (rd_L4 (allOf m) i)) 1) : Nat) : Int) = (P : Int) from by rw [hP]; simp, wrap64_in (P : Int) ⟨by omega, by omega⟩, show (P : Int) * (((x + y) ^ e3 (rd_L4 (allOf m) i) : Nat) : Int) = (R : Int) from by rw [hR2]; simp, wrap64_in (R : Int) ⟨by omega, by omega⟩, wrap64_in _ ⟨by omega, by omega⟩]
              omega
            refine Ans.step ?_
            simp only [spec_FreeSum.l0, wrap64_in (i + 1) ⟨by omega, by omega⟩]
            refine Ans.yes (by omega) (Ans.yes h0 (Ans.yes (by omega) (c2.bind ?_)))
            simp only [hxy]
            rw [g0, g1, g5]
            refine Ans.yes (by omega) ((wePower x _ (by omega) (by unfold nn; omega)).bind (Ans.yes (by omega) ((wePower y _ (by omega) (by unfold nn; omega)).bind (Ans.yes (by omega) ((wePower (x + y) _ (by omega) hlast).bind ?_)))))
            rw [fin]
            exact e
        have k0 := key (allOf m).length 0 0 (by omega) (by omega) (by omega)
        have hfx := List.all_eq_true.mp (List.all_eq_true.mp hf x (by rw [List.mem_range]; omega)) y (by rw [List.mem_range]; omega)
        have hfy := Nat.eq_of_beq_eq_true hfx
        unfold trip2 at hfy
        rw [List.map_map] at hfy
        rw [← hfy]
        simp only [Nat.zero_add, Int.toNat_zero, List.drop_zero] at k0
        exact k0
  · rw [if_neg h]
    constructor
    · simp only [impl_FreeSum.f, impl_isWeighted.f, within, Option.bind_some]
      exact Ans.not (by simpa using h) (Ans.pure _)
    · simp only [spec_FreeSum.f, spec_weSide.f, l1In, Option.bind_some]
      exact Ans.not (by simpa using h) no
theorem mirrorMatrix {n : Nat} {x : List (List Int)} (h : sign x = true) (hs : Sq n x) (hn : n ≤ 6) : Ans (fun k => impl_MirrorMatrix.f k x) (mir x, true) := by
  simp only [impl_MirrorMatrix.f, impl_changed.f]
  have hl := hs.1
  have g := isSign x (by omega)
  rw [h] at g
  exact g.bind (Ans.yes rfl ((mirrored n x hs (by omega)).bind (Ans.pure _)))
/-- The weight, as both tell it. -/
def weightRes (x : List (List Int)) (a b c : Int) : Int × Bool := if sign x = true then (if (x.length : Int) > 4 then (0, false) else (if allIn [a, b, c] 0 5 = true then (wt x a.toNat b.toNat c.toNat, true) else (0, false))) else (0, false)
theorem weightOf (x : List (List Int)) (hx : x.length ≤ 100) (a b c : Int) : Ans (fun k => impl_WeightOf.f k x a b c) (weightRes x a b c) ∧ Ans (fun k => spec_WeightOf.f k x a b c) (weightRes x a b c) := by
  obtain ⟨b1, b2⟩ := bases [a, b, c] (by simp)
  have g1 := isSign x (by omega)
  have g2 := sgGood x (by omega)
  unfold weightRes
  simp only [impl_WeightOf.f, spec_WeightOf.f]
  cases hs : sign x with
  | false =>
    rw [hs] at g1 g2
    rw [if_neg (by simp)]
    exact ⟨g1.bind (Ans.not (by simp) (Ans.pure _)), g2.bind (Ans.not (by simp) (Ans.pure _))⟩
  | true =>
    rw [hs] at g1 g2
    rw [if_pos rfl]
    have hm := sign_mem hs
    by_cases h4 : (x.length : Int) > 4
    · rw [if_pos h4]
      refine ⟨g1.bind (Ans.yes rfl (Ans.yes h4 (Ans.pure _))), g2.bind (Ans.yes rfl (b2.bind ?_))⟩
      cases allIn [a, b, c] 0 5 with
      | true => exact Ans.yes rfl (Ans.yes h4 (Ans.pure _))
      | false => exact Ans.not (by simp) (Ans.pure _)
    · rw [if_neg h4]
      have hn1 : 1 ≤ x.length := by
        unfold sign at hs
        rw [Bool.and_eq_true] at hs
        exact (square_of hs.1).1
      cases hb : allIn [a, b, c] 0 5 with
      | false =>
        rw [hb] at b1 b2
        rw [if_neg (by simp)]
        exact ⟨g1.bind (Ans.yes rfl (Ans.not h4 (b1.bind (Ans.not (by simp) (Ans.pure _))))), g2.bind (Ans.yes rfl (b2.bind (Ans.not (by simp) (Ans.pure _))))⟩
      | true =>
        rw [hb] at b1 b2
        rw [if_pos rfl]
        obtain ⟨a, b, c, rfl, rfl, rfl, ha, hb', hc⟩ := bases3 hb
        simp only [Int.toNat_natCast]
        obtain ⟨w1, w2⟩ := weights hn1 (by omega) hm ha hb' hc
        exact ⟨g1.bind (Ans.yes rfl (Ans.not h4 (b1.bind (Ans.yes rfl (w1.bind (Ans.pure _)))))), g2.bind (Ans.yes rfl (b2.bind (Ans.yes rfl (Ans.not h4 (w2.bind (Ans.pure _))))))⟩
theorem drawFreeSum (c : List Int) (hc : ∀ x ∈ c, (Lit.int .u8 x).wf = true) : ∃ n x y, spec_DrawFreeSum.f c = some (n, x, y) := by
  obtain ⟨n, a1, s1, f1, p1, q1, _⟩ := draw_side c hc 0 0 4 (by omega) (by omega) (by omega) (by omega)
  obtain ⟨x, a2, s2, f2, p2, q2⟩ := draw_weight c hc a1 s1 5 (by omega) (by omega)
  obtain ⟨y, a3, s3, f3, p3, q3⟩ := draw_weight c hc a2 s2 5 (by omega) (by omega)
  exact ⟨n, x, y, by simp only [spec_DrawFreeSum.f, f1, f2, f3, Option.bind_some]⟩
theorem drawWeightSum (c : List Int) (hc : ∀ x ∈ c, (Lit.int .u8 x).wf = true) : ∃ n x y z, spec_DrawWeightSum.f c = some (n, x, y, z) := by
  obtain ⟨n, a1, s1, f1, p1, q1, _⟩ := draw_side c hc 0 0 4 (by omega) (by omega) (by omega) (by omega)
  obtain ⟨x, a2, s2, f2, p2, q2⟩ := draw_weight c hc a1 s1 5 (by omega) (by omega)
  obtain ⟨y, a3, s3, f3, p3, q3⟩ := draw_weight c hc a2 s2 5 (by omega) (by omega)
  obtain ⟨z, a4, s4, f4, p4, q4⟩ := draw_weight c hc a3 s3 5 (by omega) (by omega)
  exact ⟨n, x, y, z, by simp only [spec_DrawWeightSum.f, f1, f2, f3, f4, Option.bind_some]⟩
theorem drawWeightOf (c : List Int) (hc : ∀ x ∈ c, (Lit.int .u8 x).wf = true) : ∃ m x y z, Ans (fun k => spec_DrawWeightOf.f k c) (m, x, y, z) ∧ m.length ≤ 7 := by
  obtain ⟨m, a1, s1, f1, p1, q1, hm, _⟩ := draw_signs c hc 0 0 4 (by omega) (by omega) (by omega) (by omega)
  obtain ⟨x, a2, s2, f2, p2, q2⟩ := draw_weight c hc a1 s1 5 (by omega) (by omega)
  obtain ⟨y, a3, s3, f3, p3, q3⟩ := draw_weight c hc a2 s2 5 (by omega) (by omega)
  obtain ⟨z, a4, s4, f4, p4, q4⟩ := draw_weight c hc a3 s3 5 (by omega) (by omega)
  refine ⟨m, x, y, z, f1.bind ?_, hm⟩
  simp only [f2, f3, f4, Option.bind_some]
  exact Ans.pure _
theorem FnFreeSums : laws_FnFreeSums.Pure := by
  intro c m _ _ hc _ _ hm
  refine Ans.at (g := fun k => laws_FnFreeSums.f k c m) ?_
  simp only [laws_FnFreeSums.f]
  obtain ⟨b, hb⟩ := big_ans c m
  simp only [hb, Option.bind_some]
  cases b with
  | true => exact Ans.yes rfl (Ans.pure _)
  | false =>
    refine Ans.not (by simp) ?_
    obtain ⟨n, x, y, f1⟩ := drawFreeSum c hc
    obtain ⟨M, a, b, d, f2, hM⟩ := drawWeightOf m hm
    obtain ⟨k, p, q, r, f3⟩ := drawWeightSum m hm
    simp only [f1, Option.bind_some]
    obtain ⟨g1, g2⟩ := freeSum n x y
    obtain ⟨fs, fine⟩ : ∃ z, z = freeRes n x y := ⟨_, rfl⟩
    rw [← fine] at g1 g2
    -- the last tests
    have last : Ans (fun k => if fs.2 = true then (laws_uPower.f k (wrap64 (x + y)) (wrap64 (Int.tdiv (wrap64 (n * (wrap64 (n - 1)))) 2))).bind fun t139 => some (fs.1 == t139) else some true) true := by
      cases hf : fs.2 with
      | false => exact Ans.not (by simp) (Ans.pure _)
      | true =>
        refine Ans.yes rfl ?_
        unfold freeRes at fine
        by_cases h : 1 ≤ n ∧ n ≤ 4
        · rw [if_pos h] at fine
          by_cases h2 : allIn [x, y] 0 5 = true
          · rw [if_pos h2] at fine
            unfold allIn at h2
            simp only [List.all_cons, List.all_nil, Bool.and_true, Bool.and_eq_true, decide_eq_true_eq] at h2
            obtain ⟨n, rfl⟩ : ∃ z : Nat, n = z := ⟨n.toNat, by omega⟩
            obtain ⟨x, rfl⟩ : ∃ z : Nat, x = z := ⟨x.toNat, by omega⟩
            obtain ⟨y, rfl⟩ : ∃ z : Nat, y = z := ⟨y.toNat, by omega⟩
            obtain ⟨he, he2⟩ := expo (m := n) (by omega) (by omega)
            rw [he, show wrap64 ((x : Int) + y) = ((x + y : Nat) : Int) from by rw [wrap64_in _ ⟨by omega, by omega⟩]; omega]
            refine (uPower (x + y) _ (by omega) (by omega)).bind ?_
            rw [fine]
            simp only [Int.toNat_natCast, beq_self_eq_true]
            exact Ans.pure _
          · rw [if_neg h2] at fine; rw [fine] at hf; simp at hf
        · rw [if_neg h] at fine; rw [fine] at hf; simp at hf
    -- behind the sums
    have j2 : Ans (fun k => laws_FnFreeSums.j2 k m n x y fs.1 fs.2) true := by
      refine Ans.step ?_
      simp only [laws_FnFreeSums.j2, f3, Option.bind_some]
      obtain ⟨t1, t2⟩ := weightSum k p q r
      obtain ⟨u1, _⟩ := weightSum k q p r
      obtain ⟨v1, _⟩ := weightSum k 1 1 1
      refine t1.bind (t2.bind (Ans.not (by simp) ?_))
      rw [show ((sumRes k p q r).1 != (sumRes k p q r).1) = false from by simp]
      refine Ans.step ?_
      simp only [laws_FnFreeSums.j3]
      refine Ans.not (by simp) ?_
      unfold sumRes at u1 v1 ⊢
      by_cases h : 1 ≤ k ∧ k ≤ 4
      · rw [if_pos h] at u1 v1 ⊢
        by_cases h2 : allIn [p, q, r] 0 5 = true
        · have h3 : allIn [q, p, r] 0 5 = true := by
            unfold allIn at h2 ⊢
            simp only [List.all_cons, List.all_nil, Bool.and_true, Bool.and_eq_true, decide_eq_true_eq] at h2 ⊢
            omega
          rw [if_pos h2]
          rw [if_pos h3] at u1
          rw [if_pos (by decide)] at v1
          obtain ⟨k, rfl⟩ : ∃ z : Nat, k = z := ⟨k.toNat, by omega⟩
          have cs := (free_all k (by omega) (by omega)).2.1
          rw [show (1 : Int).toNat = 1 from rfl, wsum_one] at v1
          simp only [Int.toNat_natCast] at u1 v1 ⊢
          refine Ans.yes trivial (u1.bind (v1.bind ((LeO.far (fun j => impl_CountSigns.mono _ j) 60 cs).bind (Ans.yes rfl (Ans.yes rfl (Ans.yes rfl (Ans.yes (wsum_swap (by omega) (by omega) _ _ _) (Ans.yes rfl ?_))))))))
          exact last
        · rw [if_neg h2]
          exact Ans.not (by simp) last
      · rw [if_neg h]
        exact Ans.not (by simp) last
    refine g1.bind (g2.bind (Ans.not (by simp) ?_))
    rw [show (fs.1 != fs.1) = false from by simp]
    refine Ans.step ?_
    simp only [laws_FnFreeSums.j0]
    refine Ans.not (by simp) (f2.bind ?_)
    obtain ⟨t1, t2⟩ := weightOf M (by omega) a b d
    refine t1.bind (t2.bind (Ans.not (by simp) ?_))
    rw [show ((weightRes M a b d).1 != (weightRes M a b d).1) = false from by simp]
    refine Ans.step ?_
    simp only [laws_FnFreeSums.j1]
    refine Ans.not (by simp) ?_
    by_cases told : (weightRes M a b d).2 = true
    · refine Ans.yes told ?_
      unfold weightRes at told ⊢
      by_cases hs : sign M = true
      · rw [if_pos hs] at told ⊢
        by_cases h4 : (M.length : Int) > 4
        · rw [if_pos h4] at told; simp at told
        · rw [if_neg h4] at told ⊢
          by_cases h2 : allIn [a, b, d] 0 5 = true
          · rw [if_pos h2]
            have sq := sign_sq hs
            have hmem := sign_mem hs
            have hn1 : 1 ≤ M.length := by
              have hs' := hs
              unfold sign at hs'
              rw [Bool.and_eq_true] at hs'
              exact (square_of hs'.1).1
            obtain ⟨_, _, _, _, _, cm, c1, c2, c3, _⟩ := cnt_at hn1 (by omega) hmem
            have sm := (cnt_at hn1 (by omega) cm).2.2.2.2.2.2.2.2.2
            have h3 : allIn [b, a, d] 0 5 = true := by
              unfold allIn at h2 ⊢
              simp only [List.all_cons, List.all_nil, Bool.and_true, Bool.and_eq_true, decide_eq_true_eq] at h2 ⊢
              omega
            have lm : (mir M).length = M.length := (mir_sq sq.1).1
            have o := (weightOf (mir M) (by omega) b a d).1
            unfold weightRes at o
            rw [if_pos sm, if_neg (by omega), if_pos h3] at o
            refine (mirrorMatrix hs sq.1 sq.2).bind (o.bind (Ans.yes rfl (Ans.yes rfl (Ans.yes ?_ j2))))
            unfold wt
            rw [c1, c2, c3, Nat.mul_comm (b.toNat ^ e2 M)]
          · rw [if_neg h2] at told; simp at told
      · rw [if_neg hs] at told; simp at told
    · exact Ans.not told j2

end Go.Proofs.Ytjibpmlmohjfcaa.Pure
