/- For all bytes the statement on row sets answers true: no condition. -/
import Derived.Test.YtkagefbncfkjnaaCFnRowSetsx5
import Derived.Test.YtkagefbncfkjnaaQTwo
import Derived.Test.YtkagefbncfkjnaaQByte
import Derived.Test.YtkagefbncfkjnaaQByte
namespace Go.Proofs.Ytkagefbncfkjnaa.Pure
open Go.RowKit Go.Proofs.Ytkagefbncfkjnaa.X Go.Proofs.YtkagefbncfkjnaaW.PrintWords Go.Proofs.YtkagefbncfkjnaaW.PrintLast Go.Proofs.Ytkagefbncfkjnaa.Q
set_option linter.unusedVariables false
set_option linter.unusedSimpArgs false
theorem rd_L1_mem {x : List (List Int)} {i : Int} (h0 : 0 ≤ i) (h1 : i < x.length) : rd_L3 x i ∈ x := by unfold rd_L3; exact getD_mem _ (by omega)
theorem LeO.far {α : Type} {g : Nat → Option α} {r : α} (h : ∀ k, LeO (g k) (g (k + 1))) (m : Nat) (e : g m = some r) : Ans g r :=
  ⟨m, fun k hk => by
    obtain ⟨j, rfl⟩ : ∃ j, k = m + j := ⟨k - m, by omega⟩
    clear hk
    induction j with
    | zero => exact e
    | succ j ih => exact h _ r ih⟩
theorem l1In (a b c : Int) : spec_l1In.f a b c = some (decide (b ≤ a ∧ a ≤ c)) := by
  unfold spec_l1In.f
  by_cases h : a ≥ b
  · rw [if_pos h]; refine congrArg some (decide_eq_decide.mpr ⟨fun q => ⟨h, q⟩, fun q => q.2⟩)
  · rw [if_neg h, decide_eq_false (by omega)]
theorem within (a b c : Int) : impl_within.f a b c = some (decide (b ≤ a ∧ a ≤ c)) := by
  unfold impl_within.f
  by_cases h : b ≤ a
  · rw [if_pos h]; refine congrArg some (decide_eq_decide.mpr ⟨fun q => ⟨h, q⟩, fun q => q.2⟩)
  · rw [if_neg h, decide_eq_false (by omega)]
theorem containsL (x : List (List Int)) (hx : x.length ≤ 17592186044416) (g : List Int → Option Bool) (p : List Int → Bool) (hg : ∀ a, g a = some (p a)) : Ans (fun k => slices_ContainsFunc_int_int_128.f k x g) (x.any p) := by
  have key : ∀ (d : Nat) (i : Int), 0 ≤ i → i + d = x.length → ∃ z : Int, Ans (fun k => slices_IndexFunc_int_int_141.l0 k x g (x.length : Int) i) z ∧ decide (z ≥ 0) = (x.drop i.toNat).any p := by
    intro d
    induction d with
    | zero =>
      intro i h0 h1
      refine ⟨-1, Ans.step ?_, by rw [List.drop_eq_nil_of_le (by omega)]; rfl⟩
      simp only [slices_IndexFunc_int_int_141.l0]; exact Ans.not (by omega) (Ans.pure _)
    | succ d ih =>
      intro i h0 h1
      have hd := drop_at x [] (show i.toNat < x.length by omega)
      by_cases c : p (rd_L3 x i) = true
      · refine ⟨i, Ans.step ?_, by rw [hd, List.any_cons, show p (x.getD i.toNat []) = true from c]; simp [h0]⟩
        simp only [slices_IndexFunc_int_int_141.l0, hg, Option.bind_some]
        exact Ans.yes (by omega) (Ans.yes h0 (Ans.yes (by omega) (Ans.yes c (Ans.pure _))))
      · obtain ⟨z, e, hz⟩ := ih (i + 1) (by omega) (by omega)
        refine ⟨z, Ans.step ?_, by rw [hz, hd, List.any_cons, show p (x.getD i.toNat []) = false from Bool.eq_false_iff.mpr c, show (i + 1).toNat = i.toNat + 1 by omega]; simp⟩
        simp only [slices_IndexFunc_int_int_141.l0, hg, Option.bind_some, wrap64_up h0 (by omega : i ≤ 4611686018427387904)]
        exact Ans.yes (by omega) (Ans.yes h0 (Ans.yes (by omega) (Ans.not c e)))
  obtain ⟨z, e, hz⟩ := key x.length 0 (by omega) (by omega)
  simp only [slices_ContainsFunc_int_int_128.f, slices_IndexFunc_int_int_141.f]
  have := e.bind (h := fun _ t => some (decide (t ≥ 0))) (Ans.pure (decide (z ≥ 0)))
  rwa [hz] at this
def colOf (x : List (List Int)) (j : Int) : List Int := x.map fun r => rd r j
theorem range_drop {n i : Nat} (h : i < n) : (List.range n).drop i = i :: (List.range n).drop (i + 1) := by
  rw [drop_at (List.range n) 0 (by simpa using h), getD_at _ _ (by simpa using h), List.getElem_range]
theorem sgTurn (x : List (List Int)) (h : x.length ≤ 1048576) (hr : ∀ r ∈ x, r.length = x.length) : Ans (fun k => spec_sgTurn.f k x) ((List.range x.length).map fun (j : Nat) => colOf x j) := by
  have inner : ∀ (out : List (List Int)) (j : Int) (R : List (List Int)), 0 ≤ j → j < x.length → out.length ≤ 1048576 → ∀ (d : Nat) (i : Int) (acc : List Int), 0 ≤ i → i + d = x.length → acc.length + d ≤ 1048576 →
      Ans (fun k => spec_sgTurn.l0 k x (out ++ [acc ++ colOf (x.drop i.toNat) j]) (x.length : Int) (j + 1)) R → Ans (fun k => spec_sgTurn.l1 k x out j acc (x.length : Int) j x (x.length : Int) i) R := by
    intro out j R hj hj' ho d
    induction d with
    | zero =>
      intro i acc h0 h1 h2 e
      rw [List.drop_eq_nil_of_le (by omega), colOf, List.map_nil, List.append_nil] at e; refine Ans.step ?_
      simp only [spec_sgTurn.l1, wrap64_up hj (by omega : j ≤ 4611686018427387904)]; exact Ans.not (by omega) (Ans.yes (by omega) e)
    | succ d ih =>
      intro i acc h0 h1 h2 e
      have hm := rd_L1_mem h0 (show i < x.length by omega)
      rw [drop_at x [] (show i.toNat < x.length by omega), show x.getD i.toNat [] = rd_L3 x i from rfl] at e
      refine Ans.step ?_
      simp only [spec_sgTurn.l1, wrap64_up h0 (by omega : i ≤ 4611686018427387904)]
      refine Ans.yes (by omega) (Ans.yes h0 (Ans.yes (by omega) (Ans.yes hj (Ans.yes (by have := hr _ hm; omega) (Ans.yes (by omega) (ih (i + 1) _ (by omega) (by omega) (by simp only [List.length_append, List.length_singleton]; omega) ?_))))))
      rw [show (i + 1).toNat = i.toNat + 1 by omega, List.append_assoc, List.singleton_append]
      exact e
  have key : ∀ (d : Nat) (j : Int) (out : List (List Int)), 0 ≤ j → j + d = x.length → out.length + d ≤ 1048576 → Ans (fun k => spec_sgTurn.l0 k x out (x.length : Int) j) (out ++ ((List.range x.length).drop j.toNat).map fun (j : Nat) => colOf x j) := by
    intro d
    induction d with
    | zero =>
      intro j out h0 h1 h2
      rw [List.drop_eq_nil_of_le (by simp only [List.length_range]; omega), List.map_nil, List.append_nil]; refine Ans.step ?_
      simp only [spec_sgTurn.l0]; exact Ans.not (by omega) (Ans.pure _)
    | succ d ih =>
      intro j out h0 h1 h2
      have e := ih (j + 1) (out ++ [colOf x j]) (by omega) (by omega) (by simp only [List.length_append, List.length_singleton]; omega)
      rw [show (j + 1).toNat = j.toNat + 1 by omega, List.append_assoc, List.singleton_append] at e
      rw [range_drop (show j.toNat < x.length by omega), List.map_cons, show ((j.toNat : Nat) : Int) = j by omega]
      refine Ans.step ?_
      simp only [spec_sgTurn.l0]
      exact Ans.yes (by omega) (inner out j _ h0 (by omega) (by omega) x.length 0 [] (by omega) (by omega) (by simp only [List.length_nil]; omega) e)
  exact key x.length 0 [] (by omega) (by omega) (by simp only [List.length_nil]; omega)
theorem isSquare (x : List (List Int)) (hx : x.length ≤ 17592186044416) : Ans (fun k => impl_isSquare.f k x) (x.all fun r => decide (r.length = x.length)) := by
  have e := containsL x hx (fun x0_ => impl_isSquare_1.f x0_ x) (fun r => (r.length : Int) != (x.length : Int)) (fun a => rfl)
  have := e.bind (h := fun _ t => some (!t)) (Ans.pure _)
  rw [List.not_any_eq_all_not] at this
  rwa [show (fun r : List Int => !((r.length : Int) != (x.length : Int))) = fun r => decide (r.length = x.length) from funext fun r => by by_cases h : r.length = x.length <;> simp [bne, h]; omega] at this
/-- The numbers are -1, 0, 1, and their sums from s on are 0 or 1, the last one 1. -/
def walkOk : Int → List Int → Bool
  | s, [] => s == 1
  | s, a :: x => decide (-1 ≤ a ∧ a ≤ 1) && (decide (0 ≤ s + a ∧ s + a ≤ 1) && walkOk (s + a) x)
theorem alternate (x : List Int) (hx : x.length ≤ 17592186044416) : Ans (fun k => impl_alternate.f k x) (walkOk 0 x) := by
  have key : ∀ (d : Nat) (i s : Int), 0 ≤ i → i + d = x.length → 0 ≤ s → s ≤ 1 → Ans (fun k => impl_alternate.l0 k s x (x.length : Int) i) (walkOk s (x.drop i.toNat)) := by
    intro d
    induction d with
    | zero =>
      intro i s h0 h1 s0 s1
      rw [List.drop_eq_nil_of_le (by omega)]; refine Ans.step ?_
      simp only [impl_alternate.l0]; exact Ans.not (by omega) (Ans.pure _)
    | succ d ih =>
      intro i s h0 h1 s0 s1
      rw [drop_at x 0 (show i.toNat < x.length by omega), show x.getD i.toNat 0 = rd x i from rfl, walkOk]
      refine Ans.step ?_
      simp only [impl_alternate.l0, within, Option.bind_some, wrap64_up h0 (by omega : i ≤ 4611686018427387904)]
      refine Ans.yes (by omega) (Ans.yes h0 (Ans.yes (by omega) ?_))
      by_cases c1 : decide (-1 ≤ rd x i ∧ rd x i ≤ 1) = true
      · have b1 := of_decide_eq_true c1
        have hw : wrap64 (s + rd x i) = s + rd x i := wrap64_in _ ⟨by omega, by omega⟩
        simp only [hw]
        rw [c1, Bool.true_and]
        refine Ans.yes rfl ?_
        by_cases c2 : decide (0 ≤ s + rd x i ∧ s + rd x i ≤ 1) = true
        · have b2 := of_decide_eq_true c2
          have e := ih (i + 1) (s + rd x i) (by omega) (by omega) b2.1 b2.2
          rw [show (i + 1).toNat = i.toNat + 1 by omega] at e
          rw [c2, Bool.true_and]; exact Ans.yes rfl e
        · rw [Bool.eq_false_iff.mpr c2, Bool.false_and]; exact Ans.not (by simp) (Ans.pure _)
      · rw [Bool.eq_false_iff.mpr c1, Bool.false_and]; exact Ans.not (by simp) (Ans.pure _)
  exact key x.length 0 0 (by omega) (by omega) (by omega) (by omega)
theorem sgRows (x : List (List Int)) (hx : x.length ≤ 17592186044416) (hr : ∀ r ∈ x, r.length ≤ 17592186044416) : Ans (fun k => spec_sgRows.f k x) (x.all (walkOk 0)) := by
  have inner : ∀ (row : List Int) (m : Int) (R : Bool), row.length ≤ 17592186044416 → 0 ≤ m → m ≤ 17592186044416 → Ans (fun k => spec_sgRows.l0 k x (x.length : Int) (m + 1)) R →
      ∀ (d : Nat) (i s : Int), 0 ≤ i → i + d = row.length → 0 ≤ s → s ≤ 1 → Ans (fun k => spec_sgRows.l1 k s x (x.length : Int) m row (row.length : Int) i) (walkOk s (row.drop i.toNat) && R) := by
    intro row m R hrow hm hm' e d
    induction d with
    | zero =>
      intro i s h0 h1 s0 s1
      rw [List.drop_eq_nil_of_le (by omega), walkOk]; refine Ans.step ?_
      simp only [spec_sgRows.l1, wrap64_up hm (by omega : m ≤ 4611686018427387904)]
      refine Ans.not (by omega) ?_
      by_cases c : s = 1
      · rw [show (s == 1) = true by simp [c], Bool.true_and]; exact Ans.yes c e
      · rw [show (s == 1) = false by simp [c], Bool.false_and]; exact Ans.not c (Ans.pure _)
    | succ d ih =>
      intro i s h0 h1 s0 s1
      rw [drop_at row 0 (show i.toNat < row.length by omega), show row.getD i.toNat 0 = rd row i from rfl, walkOk]
      refine Ans.step ?_
      simp only [spec_sgRows.l1, l1In, Option.bind_some, wrap64_up h0 (by omega : i ≤ 4611686018427387904)]
      refine Ans.yes (by omega) (Ans.yes h0 (Ans.yes (by omega) ?_))
      by_cases c1 : decide (-1 ≤ rd row i ∧ rd row i ≤ 1) = true
      · have b1 := of_decide_eq_true c1
        have hw : wrap64 (s + rd row i) = s + rd row i := wrap64_in _ ⟨by omega, by omega⟩
        simp only [hw]
        rw [c1, Bool.true_and]
        refine Ans.yes rfl ?_
        by_cases c2 : decide (0 ≤ s + rd row i ∧ s + rd row i ≤ 1) = true
        · have b2 := of_decide_eq_true c2
          have e := ih (i + 1) (s + rd row i) (by omega) (by omega) b2.1 b2.2
          rw [show (i + 1).toNat = i.toNat + 1 by omega] at e
          rw [c2, Bool.true_and]; exact Ans.yes rfl e
        · rw [Bool.eq_false_iff.mpr c2, Bool.false_and, Bool.false_and]; exact Ans.not (by simp) (Ans.pure _)
      · rw [Bool.eq_false_iff.mpr c1, Bool.false_and, Bool.false_and]; exact Ans.not (by simp) (Ans.pure _)
  have key : ∀ (d : Nat) (i : Int), 0 ≤ i → i + d = x.length → Ans (fun k => spec_sgRows.l0 k x (x.length : Int) i) ((x.drop i.toNat).all (walkOk 0)) := by
    intro d
    induction d with
    | zero =>
      intro i h0 h1
      rw [List.drop_eq_nil_of_le (by omega)]; refine Ans.step ?_
      simp only [spec_sgRows.l0]; exact Ans.not (by omega) (Ans.pure _)
    | succ d ih =>
      intro i h0 h1
      have hm := rd_L1_mem h0 (show i < x.length by omega)
      rw [drop_at x [] (show i.toNat < x.length by omega), show x.getD i.toNat [] = rd_L3 x i from rfl, List.all_cons]
      have e := ih (i + 1) (by omega) (by omega)
      rw [show (i + 1).toNat = i.toNat + 1 by omega] at e
      refine Ans.step ?_
      simp only [spec_sgRows.l0]
      exact Ans.yes (by omega) (Ans.yes h0 (Ans.yes (by omega) (inner _ i _ (hr _ hm) h0 (by omega) e _ 0 0 (by omega) (show (0 : Int) + ((rd_L3 x i).length : Nat) = _ by omega) (by omega) (by omega))))
  exact key x.length 0 (by omega) (by omega)
theorem column (x : List (List Int)) (j : Int) (h : x.length ≤ 1048576) (hj : 0 ≤ j) (hr : ∀ r ∈ x, j < r.length) : Ans (fun k => impl_column.f k x j) (colOf x j) := by
  have key : ∀ (d : Nat) (i : Int) (acc : List Int), 0 ≤ i → i + d = x.length → acc.length + d ≤ 1048576 → Ans (fun k => impl_column.l0 k j acc x (x.length : Int) i) (acc ++ colOf (x.drop i.toNat) j) := by
    intro d
    induction d with
    | zero =>
      intro i acc h0 h1 h2
      rw [List.drop_eq_nil_of_le (by omega), colOf, List.map_nil, List.append_nil]; refine Ans.step ?_
      simp only [impl_column.l0]; exact Ans.not (by omega) (Ans.pure _)
    | succ d ih =>
      intro i acc h0 h1 h2
      have hm := rd_L1_mem h0 (show i < x.length by omega)
      have e := ih (i + 1) (acc ++ [rd (rd_L3 x i) j]) (by omega) (by omega) (by simp only [List.length_append, List.length_singleton]; omega)
      rw [show (i + 1).toNat = i.toNat + 1 by omega, List.append_assoc, List.singleton_append] at e
      rw [drop_at x [] (show i.toNat < x.length by omega), show x.getD i.toNat [] = rd_L3 x i from rfl]
      refine Ans.step ?_
      simp only [impl_column.l0, wrap64_up h0 (by omega : i ≤ 4611686018427387904)]
      exact Ans.yes (by omega) (Ans.yes h0 (Ans.yes (by omega) (Ans.yes hj (Ans.yes (hr _ hm) (Ans.yes (by omega) e)))))
  exact key x.length 0 [] (by omega) (by omega) (by simp only [List.length_nil]; omega)
theorem sgSquare (x : List (List Int)) (h : x.length ≤ 1048576) : Ans (fun k => spec_sgSquare.f k x) (decide (1 ≤ x.length ∧ x.length ≤ 6) && x.all fun r => decide (r.length = x.length)) := by
  have key : ∀ (d : Nat) (i : Int), 0 ≤ i → i + d = x.length → Ans (fun k => spec_sgSquare.l0 k x x (x.length : Int) i) ((x.drop i.toNat).all fun r => decide (r.length = x.length)) := by
    intro d
    induction d with
    | zero =>
      intro i h0 h1
      rw [List.drop_eq_nil_of_le (by omega)]; refine Ans.step ?_
      simp only [spec_sgSquare.l0]; exact Ans.not (by omega) (Ans.pure _)
    | succ d ih =>
      intro i h0 h1
      rw [drop_at x [] (show i.toNat < x.length by omega), show x.getD i.toNat [] = rd_L3 x i from rfl, List.all_cons]
      have e := ih (i + 1) (by omega) (by omega)
      rw [show (i + 1).toNat = i.toNat + 1 by omega] at e
      refine Ans.step ?_
      simp only [spec_sgSquare.l0, wrap64_up h0 (by omega : i ≤ 4611686018427387904)]
      refine Ans.yes (by omega) (Ans.yes h0 (Ans.yes (by omega) ?_))
      by_cases c : (rd_L3 x i).length = x.length
      · rw [decide_eq_true c, Bool.true_and]; exact Ans.yes (by omega) e
      · rw [decide_eq_false c, Bool.false_and]; exact Ans.not (by omega) (Ans.pure _)
  simp only [spec_sgSquare.f, l1In, Option.bind_some]
  by_cases c : decide ((1 : Int) ≤ (x.length : Int) ∧ (x.length : Int) ≤ 6) = true
  · have b := of_decide_eq_true c
    rw [show decide (1 ≤ x.length ∧ x.length ≤ 6) = true from decide_eq_true ⟨by omega, by omega⟩, Bool.true_and]
    exact Ans.yes c (key x.length 0 (by omega) (by omega))
  · have b : ¬ ((1 : Int) ≤ (x.length : Int) ∧ (x.length : Int) ≤ 6) := fun h => c (decide_eq_true h)
    rw [show decide (1 ≤ x.length ∧ x.length ≤ 6) = false from decide_eq_false (by omega), Bool.false_and]
    exact Ans.not c (Ans.pure _)
/-- What a sign matrix is, in plain words: square, up to six rows, rows and columns that alternate. -/
def sign (x : List (List Int)) : Bool :=
  (decide (1 ≤ x.length ∧ x.length ≤ 6) && x.all fun r => decide (r.length = x.length)) && (x.all (walkOk 0) && (List.range x.length).all fun (j : Nat) => walkOk 0 (colOf x j))
theorem square_of {x : List (List Int)} (h : (decide (1 ≤ x.length ∧ x.length ≤ 6) && x.all fun r => decide (r.length = x.length)) = true) : 1 ≤ x.length ∧ x.length ≤ 6 ∧ ∀ r ∈ x, r.length = x.length := by
  rw [Bool.and_eq_true] at h
  have b := of_decide_eq_true h.1
  exact ⟨b.1, b.2, fun r hr => of_decide_eq_true (List.all_eq_true.mp h.2 r hr)⟩
theorem sgGood (x : List (List Int)) (h : x.length ≤ 1048576) : Ans (fun k => spec_sgGood.f k x) (sign x) := by
  simp only [spec_sgGood.f]
  refine (sgSquare x h).bind ?_
  unfold sign
  by_cases c : (decide (1 ≤ x.length ∧ x.length ≤ 6) && x.all fun r => decide (r.length = x.length)) = true
  · obtain ⟨b1, b2, b3⟩ := square_of c
    rw [c, Bool.true_and]
    refine Ans.yes rfl ((sgRows x (by omega) (fun r hr => by have := b3 r hr; omega)).bind ?_)
    by_cases c2 : x.all (walkOk 0) = true
    · rw [c2, Bool.true_and]
      have e := sgRows ((List.range x.length).map fun (j : Nat) => colOf x j) (by simp only [List.length_map, List.length_range]; omega) (fun r hr => by
        obtain ⟨j, _, rfl⟩ := List.mem_map.1 hr
        simp only [colOf, List.length_map]; omega)
      rw [List.all_map] at e
      exact Ans.yes rfl ((sgTurn x h b3).bind (e.bind (Ans.pure _)))
    · rw [Bool.eq_false_iff.mpr c2, Bool.false_and]; exact Ans.not (by simp) (Ans.pure _)
  · rw [Bool.eq_false_iff.mpr c, Bool.false_and]; exact Ans.not (by simp) (Ans.pure _)
theorem isSign (x : List (List Int)) (h : x.length ≤ 1048576) : Ans (fun k => impl_IsSignMatrix.f k x) (sign x) := by
  have no : Ans (fun k => impl_IsSignMatrix.j0 k x true) false := by
    refine Ans.step ?_; simp only [impl_IsSignMatrix.j0]; exact Ans.yes (by simp) (Ans.pure _)
  simp only [impl_IsSignMatrix.f, impl_isSide.f, within, Option.bind_some]
  by_cases c : decide ((1 : Int) ≤ (x.length : Int) ∧ (x.length : Int) ≤ 6) = true
  · have b := of_decide_eq_true c
    refine Ans.yes c ((isSquare x (by omega)).bind ?_)
    unfold sign
    rw [show decide (1 ≤ x.length ∧ x.length ≤ 6) = true from decide_eq_true ⟨by omega, by omega⟩, Bool.true_and]
    by_cases c2 : (x.all fun r => decide (r.length = x.length)) = true
    · rw [c2, Bool.true_and]
      have b3 : ∀ r ∈ x, r.length = x.length := fun r hr => of_decide_eq_true (List.all_eq_true.mp c2 r hr)
      have key : ∀ (d : Nat) (i : Int), 0 ≤ i → i + d = x.length → Ans (fun k => impl_IsSignMatrix.l0 k x (x.length : Int) i) ((x.drop i.toNat).all (walkOk 0) && ((List.range x.length).drop i.toNat).all fun (j : Nat) => walkOk 0 (colOf x j)) := by
        intro d
        induction d with
        | zero =>
          intro i h0 h1
          rw [List.drop_eq_nil_of_le (by omega), List.drop_eq_nil_of_le (by simp only [List.length_range]; omega)]; refine Ans.step ?_
          simp only [impl_IsSignMatrix.l0]; exact Ans.not (by omega) (Ans.pure _)
        | succ d ih =>
          intro i h0 h1
          have hm := rd_L1_mem h0 (show i < x.length by omega)
          have e := ih (i + 1) (by omega) (by omega)
          rw [show (i + 1).toNat = i.toNat + 1 by omega] at e
          rw [drop_at x [] (show i.toNat < x.length by omega), show x.getD i.toNat [] = rd_L3 x i from rfl, range_drop (show i.toNat < x.length by omega), List.all_cons, List.all_cons, show ((i.toNat : Nat) : Int) = i by omega]
          refine Ans.step ?_
          simp only [impl_IsSignMatrix.l0, wrap64_up h0 (by omega : i ≤ 4611686018427387904)]
          refine Ans.yes (by omega) (Ans.yes h0 (Ans.yes (by omega) ((alternate _ (by have := b3 _ hm; omega)).bind ?_)))
          by_cases q1 : walkOk 0 (rd_L3 x i) = true
          · rw [q1, Bool.true_and]
            refine Ans.yes rfl ((column x i h h0 (fun r hr => by have := b3 r hr; omega)).bind ((alternate _ (by simp only [colOf, List.length_map]; omega)).bind ?_))
            by_cases q2 : walkOk 0 (colOf x i) = true
            · rw [q2, Bool.true_and]; exact Ans.yes rfl e
            · rw [Bool.eq_false_iff.mpr q2, Bool.false_and, Bool.and_false]; exact Ans.not (by simp) (Ans.pure _)
          · rw [Bool.eq_false_iff.mpr q1, Bool.false_and, Bool.false_and]; exact Ans.not (by simp) (Ans.pure _)
      refine Ans.step ?_
      simp only [impl_IsSignMatrix.j0]
      exact Ans.not (by simp) (key x.length 0 (by omega) (by omega))
    · rw [Bool.eq_false_iff.mpr c2, Bool.false_and]; exact no
  · have b : ¬ ((1 : Int) ≤ (x.length : Int) ∧ (x.length : Int) ≤ 6) := fun h => c (decide_eq_true h)
    unfold sign
    rw [show decide (1 ≤ x.length ∧ x.length ≤ 6) = false from decide_eq_false (by omega), Bool.false_and, Bool.false_and]
    exact Ans.not c no
def tab (r c : Nat) (v : Nat → Nat → Int) : List (List Int) := (List.range r).map fun i => (List.range c).map fun j => v i j
/-- Square, with n rows. -/
def Sq (n : Nat) (x : List (List Int)) : Prop := x.length = n ∧ ∀ r ∈ x, r.length = n
theorem Sq.row {n : Nat} {x : List (List Int)} (h : Sq n x) {i : Nat} (hi : i < n) : (x.getD i []).length = n := h.2 _ (getD_mem [] (by rw [h.1]; exact hi))
theorem tab_is {n : Nat} {y : List (List Int)} (h : Sq n y) (v : Nat → Nat → Int) (hv : ∀ i j : Nat, i < n → j < n → v i j = (y.getD i []).getD j 0) : tab n n v = y := by
  refine List.ext_getElem (by simp [tab, h.1]) fun i h1 h2 => ?_
  have hi : i < n := by rw [← h.1]; exact h2
  have hr := h.row hi
  rw [show (tab n n v)[i] = (List.range n).map (fun j => v i j) by simp [tab], ← getD_at y [] h2]
  refine List.ext_getElem (by simp only [List.length_map, List.length_range]; exact hr.symm) fun j g1 g2 => ?_
  rw [List.getElem_map, List.getElem_range, hv i j hi (by rw [← hr]; exact g2), getD_at _ _ g2]
theorem ext_sq {n : Nat} {x y : List (List Int)} (hx : Sq n x) (hy : Sq n y) (h : ∀ i j : Nat, i < n → j < n → (x.getD i []).getD j 0 = (y.getD i []).getD j 0) : x = y := by
  rw [← tab_is hx (fun i j => (x.getD i []).getD j 0) (fun _ _ _ _ => rfl), tab_is hy _ h]
def mir (x : List (List Int)) : List (List Int) := x.map List.reverse
def tr (x : List (List Int)) : List (List Int) := (List.range x.length).map fun (j : Nat) => colOf x j
def cw (x : List (List Int)) : List (List Int) := mir (tr x)
/-! sums over indices -/
def S : Nat → (Nat → Int) → Int
  | 0, _ => 0
  | n + 1, f => S n f + f n
theorem S_congr {f g : Nat → Int} : ∀ {n : Nat}, (∀ i, i < n → f i = g i) → S n f = S n g
  | 0, _ => rfl
  | n + 1, h => by rw [S, S, S_congr (fun i hi => h i (by omega)), h n (by omega)]
theorem S_add (f g : Nat → Int) : ∀ n, S n (fun i => f i + g i) = S n f + S n g
  | 0 => rfl
  | n + 1 => by rw [S, S, S, S_add f g n]; omega
theorem S_zero : ∀ n, S n (fun _ => 0) = 0
  | 0 => rfl
  | n + 1 => by rw [S, S_zero n]; rfl
theorem S_comm (F : Nat → Nat → Int) (m : Nat) : ∀ n, S n (fun i => S m (fun j => F i j)) = S m (fun j => S n (fun i => F i j))
  | 0 => by simp only [S]; rw [S_zero]
  | n + 1 => by rw [S, S_comm F m n, ← S_add]; rfl
theorem S_front (f : Nat → Int) : ∀ n, S (n + 1) f = f 0 + S n (fun i => f (i + 1))
  | 0 => by simp [S]
  | n + 1 => by rw [S, S_front f n, S]; omega
/-- The sum over all pairs k < i. -/
def T (n : Nat) (F : Nat → Nat → Int) : Int := S n (fun i => S i (fun k => F i k))
/-- An entry. -/
def en (x : List (List Int)) (i j : Nat) : Int := (x.getD i []).getD j 0
theorem walk_pre : ∀ (c : List Int) (s : Int), 0 ≤ s → s ≤ 1 → walkOk s c = true → (∀ i, i < c.length → (-1 ≤ c.getD i 0 ∧ c.getD i 0 ≤ 1) ∧ 0 ≤ s + S i (fun k => c.getD k 0) ∧ s + S i (fun k => c.getD k 0) ≤ 1 ∧ 0 ≤ s + S i (fun k => c.getD k 0) + c.getD i 0 ∧ s + S i (fun k => c.getD k 0) + c.getD i 0 ≤ 1) ∧ s + S c.length (fun k => c.getD k 0) = 1
  | [], s, _, _, h => ⟨fun i hi => absurd hi (by simp), by simp only [walkOk, beq_iff_eq] at h; simp [S, h]⟩
  | a :: c, s, h0, h1, h => by
    simp only [walkOk, Bool.and_eq_true, decide_eq_true_eq] at h
    obtain ⟨b1, b2, b3⟩ := h
    have ih := walk_pre c (s + a) b2.1 b2.2 b3
    have fr : ∀ m, S (m + 1) (fun k => (a :: c).getD k 0) = a + S m (fun k => c.getD k 0) := fun m => S_front _ m
    refine ⟨fun i hi => ?_, by rw [List.length_cons, fr]; omega⟩
    cases i with
    | zero => simp only [S, List.getD_cons_zero]; omega
    | succ i =>
      have := ih.1 i (by simpa using hi)
      rw [fr, List.getD_cons_succ]; omega
/-- What rows and columns of a sign matrix are. -/
theorem sign_en {x : List (List Int)} (s : sign x = true) {n : Nat} (hn : x.length = n) : Sq n x ∧ 1 ≤ n ∧ n ≤ 6 ∧
    (∀ i j, i < n → j < n → (-1 ≤ en x i j ∧ en x i j ≤ 1) ∧ (0 ≤ S j (en x i) ∧ S j (en x i) ≤ 1 ∧ 0 ≤ S j (en x i) + en x i j ∧ S j (en x i) + en x i j ≤ 1) ∧ (0 ≤ S i (fun k => en x k j) ∧ S i (fun k => en x k j) ≤ 1 ∧ 0 ≤ S i (fun k => en x k j) + en x i j ∧ S i (fun k => en x k j) + en x i j ≤ 1)) ∧
    (∀ i, i < n → S n (en x i) = 1) ∧ ∀ j, j < n → S n (fun k => en x k j) = 1 := by
  subst hn
  have s' := s
  unfold sign at s'
  simp only [Bool.and_eq_true] at s'
  obtain ⟨h1, h2, q⟩ := square_of (show (decide (1 ≤ x.length ∧ x.length ≤ 6) && x.all fun r => decide (r.length = x.length)) = true by simp only [Bool.and_eq_true]; exact s'.1)
  have sq : Sq x.length x := ⟨rfl, q⟩
  have R : ∀ i, i < x.length → walkOk 0 (x.getD i []) = true := fun i hi => List.all_eq_true.mp s'.2.1 _ (getD_mem [] hi)
  have C : ∀ j, j < x.length → walkOk 0 (colOf x j) = true := fun j hj => List.all_eq_true.mp s'.2.2 j (List.mem_range.mpr hj)
  have ce : ∀ i j, i < x.length → (colOf x (j : Nat)).getD i 0 = en x i j := fun i j hi => by
    rw [getD_at _ _ (by simpa [colOf] using hi)]
    simp only [colOf, List.getElem_map, rd, Int.toNat_natCast, en]
    rw [getD_at x [] hi]
  have cl : ∀ j : Nat, (colOf x j).length = x.length := fun j => by simp [colOf]
  refine ⟨sq, h1, h2, fun i j hi hj => ?_, fun i hi => ?_, fun j hj => ?_⟩
  · have a := (walk_pre _ 0 (by omega) (by omega) (R i hi)).1 j (by rw [sq.row hi]; exact hj)
    have b := (walk_pre _ 0 (by omega) (by omega) (C j hj)).1 i (by rw [cl]; exact hi)
    rw [S_congr (fun k hk => ce k j (by omega : k < x.length)), ce i j hi] at b
    have e : S j (en x i) = S j (fun k => (x.getD i []).getD k 0) := rfl
    rw [e]
    have e2 : en x i j = (x.getD i []).getD j 0 := rfl
    rw [← e2] at a
    omega
  · have a := (walk_pre _ 0 (by omega) (by omega) (R i hi)).2
    rw [sq.row hi] at a
    have e : S x.length (en x i) = S x.length (fun k => (x.getD i []).getD k 0) := rfl
    omega
  · have b := (walk_pre _ 0 (by omega) (by omega) (C j hj)).2
    rw [cl, S_congr (fun k hk => ce k j hk)] at b
    omega
theorem col_at (x : List (List Int)) (j i : Nat) (hi : i < x.length) : (colOf x (j : Nat)).getD i 0 = en x i j := by
  rw [getD_at _ _ (by simpa [colOf] using hi)]
  simp only [colOf, List.getElem_map, rd, Int.toNat_natCast, en]
  rw [getD_at x [] hi]
theorem wrap_add (a b : Int) : wrap64 (wrap64 a + b) = wrap64 (a + b) := by unfold wrap64; omega
theorem sumOf (r : List Int) (hr : r.length ≤ 1048576) : Ans (fun k => impl_sum.f k r) (wrap64 (S r.length (fun t => r.getD t 0))) := by
  have key : ∀ (d i : Nat) (a : Int), i + d = r.length → Ans (fun k => impl_sum.l0 k (wrap64 a) r (r.length : Int) (i : Int)) (wrap64 (a + S d (fun t => r.getD (i + t) 0))) := by
    intro d
    induction d with
    | zero =>
      intro i a h
      refine Ans.step ?_
      simp only [impl_sum.l0, S, Int.add_zero]
      exact Ans.not (by omega) (Ans.pure _)
    | succ d ih =>
      intro i a h
      have e := ih (i + 1) (a + r.getD i 0) (by omega)
      rw [S_front, Nat.add_zero, ← Int.add_assoc, S_congr (f := fun t => r.getD (i + (t + 1)) 0) (g := fun t => r.getD (i + 1 + t) 0) (fun t _ => by congr 1; omega)]
      rw [show ((i + 1 : Nat) : Int) = (i : Int) + 1 by omega] at e
      refine Ans.step ?_
      simp only [impl_sum.l0, wrap64_up (show (0 : Int) ≤ i by omega) (by omega)]
      refine Ans.yes (by omega) (Ans.yes (by omega) (Ans.yes (by omega) ?_))
      rw [show rd r (i : Int) = r.getD i 0 by simp only [rd, Int.toNat_natCast], wrap_add]
      exact e
  have := key r.length 0 0 (by omega)
  rw [show wrap64 0 = 0 from wrap64_in 0 ⟨by omega, by omega⟩, Int.zero_add, S_congr (g := fun t => r.getD t 0) (fun t _ => by rw [Nat.zero_add])] at this
  exact this
def allIn (x : List Int) (lo hi : Int) : Bool := x.all fun a => decide (lo ≤ a ∧ a ≤ hi)
theorem l1All (x : List Int) (hx : x.length ≤ 17592186044416) (lo hi : Int) : Ans (fun k => spec_l1All.f k x lo hi) (allIn x lo hi) := by
  have key : ∀ (d : Nat) (i : Int), 0 ≤ i → i + d = x.length → Ans (fun k => spec_l1All.l0 k lo hi x (x.length : Int) i) (allIn (x.drop i.toNat) lo hi) := by
    intro d
    induction d with
    | zero =>
      intro i h0 h1
      rw [List.drop_eq_nil_of_le (by omega)]; refine Ans.step ?_
      simp only [spec_l1All.l0]; exact Ans.not (by omega) (Ans.pure _)
    | succ d ih =>
      intro i h0 h1
      have hd := drop_at x 0 (show i.toNat < x.length by omega)
      have e := ih (i + 1) (by omega) (by omega)
      rw [hd, allIn, List.all_cons, show decide (lo ≤ x.getD i.toNat 0 ∧ x.getD i.toNat 0 ≤ hi) = decide (lo ≤ rd x i ∧ rd x i ≤ hi) from rfl]
      refine Ans.step ?_
      simp only [spec_l1All.l0, l1In, Option.bind_some, wrap64_up h0 (by omega : i ≤ 4611686018427387904)]
      refine Ans.yes (by omega) (Ans.yes h0 (Ans.yes (by omega) ?_))
      by_cases c : decide (lo ≤ rd x i ∧ rd x i ≤ hi) = true
      · rw [c, Bool.true_and]; rw [show (i + 1).toNat = i.toNat + 1 by omega] at e; exact Ans.yes rfl e
      · rw [Bool.eq_false_iff.mpr c, Bool.false_and]; exact Ans.not (by simp) (Ans.pure _)
  exact key x.length 0 (by omega) (by omega)
/-- Where every element's test answers, 'ContainsFunc' tells whether one passes. -/
theorem containsI (x : List Int) (hx : x.length ≤ 17592186044416) (g : Int → Option Bool) (p : Int → Bool) (hg : ∀ a, g a = some (p a)) : Ans (fun k => slices_ContainsFunc_int_int_136.f k x g) (x.any p) := by
  have key : ∀ (d : Nat) (i : Int), 0 ≤ i → i + d = x.length → ∃ z : Int, Ans (fun k => slices_IndexFunc_int_int_142.l0 k x g (x.length : Int) i) z ∧ decide (z ≥ 0) = (x.drop i.toNat).any p := by
    intro d
    induction d with
    | zero =>
      intro i h0 h1
      refine ⟨-1, Ans.step ?_, by rw [List.drop_eq_nil_of_le (by omega)]; rfl⟩
      simp only [slices_IndexFunc_int_int_142.l0]; exact Ans.not (by omega) (Ans.pure _)
    | succ d ih =>
      intro i h0 h1
      have hd := drop_at x 0 (show i.toNat < x.length by omega)
      by_cases c : p (rd x i) = true
      · refine ⟨i, Ans.step ?_, by rw [hd, List.any_cons, show p (x.getD i.toNat 0) = true from c]; simp [h0]⟩
        simp only [slices_IndexFunc_int_int_142.l0, hg, Option.bind_some]
        exact Ans.yes (by omega) (Ans.yes h0 (Ans.yes (by omega) (Ans.yes c (Ans.pure _))))
      · obtain ⟨z, e, hz⟩ := ih (i + 1) (by omega) (by omega)
        refine ⟨z, Ans.step ?_, by rw [hz, hd, List.any_cons, show p (x.getD i.toNat 0) = false from Bool.eq_false_iff.mpr c, show (i + 1).toNat = i.toNat + 1 by omega]; simp⟩
        simp only [slices_IndexFunc_int_int_142.l0, hg, Option.bind_some, wrap64_up h0 (by omega : i ≤ 4611686018427387904)]
        exact Ans.yes (by omega) (Ans.yes h0 (Ans.yes (by omega) (Ans.not c e)))
  obtain ⟨z, e, hz⟩ := key x.length 0 (by omega) (by omega)
  simp only [slices_ContainsFunc_int_int_136.f, slices_IndexFunc_int_int_142.f]
  have := e.bind (h := fun _ t => some (decide (t ≥ 0))) (Ans.pure (decide (z ≥ 0)))
  rwa [hz] at this
theorem areWithin (x : List Int) (hx : x.length ≤ 17592186044416) (lo hi : Int) : Ans (fun k => impl_areWithin.f k x lo hi) (allIn x lo hi) := by
  have e := containsI x hx (fun x0_ => impl_areWithin_1.f x0_ lo hi) (fun a => !decide (lo ≤ a ∧ a ≤ hi)) (fun a => by simp only [impl_areWithin_1.f, within, Option.bind_some])
  have := e.bind (h := fun _ t => some (!t)) (Ans.pure _)
  rw [List.not_any_eq_all_not] at this
  simp only [Bool.not_not] at this
  exact this
theorem l1Own (x : List Int) (h : x.length ≤ 1048576) : spec_l1Own.f x = some x := by
  simp only [spec_l1Own.f, Option.bind_some, List.length_nil, List.nil_append]
  rw [if_pos (by omega)]
/-- Whether a row keeps the sums of columns 0 or 1; the last row makes them 1. -/
def fitsB (last : Bool) (sums row : List Int) : Bool := (List.zipWith (fun s x => decide (0 ≤ s + x) && decide (s + x ≤ 1) && (!last || decide (s + x = 1))) sums row).all id
/-- All rows of d numbers whose signs go on to alternate from a sum s, in order. -/
def alt : Nat → Int → List (List Int)
  | 0, s => if s = 1 then [[]] else []
  | d + 1, s => (alt d 0).map ((-s) :: ·) ++ (alt d 1).map ((1 - s) :: ·)
theorem alt_len : ∀ (d : Nat) (s : Int), ∀ r ∈ alt d s, r.length = d
  | 0, s, r, h => by
    unfold alt at h
    split at h
    · rw [List.mem_singleton] at h; subst h; rfl
    · cases h
  | d + 1, s, r, h => by
    unfold alt at h
    rcases List.mem_append.1 h with h | h
    · obtain ⟨a, ha, rfl⟩ := List.mem_map.1 h; rw [List.length_cons, alt_len d 0 a ha]
    · obtain ⟨a, ha, rfl⟩ := List.mem_map.1 h; rw [List.length_cons, alt_len d 1 a ha]
theorem alt_many : ∀ (d : Nat) (s : Int), (alt d s).length ≤ 2 ^ d
  | 0, s => by unfold alt; split <;> simp
  | d + 1, s => by
    have h1 := alt_many d 0
    have h2 := alt_many d 1
    rw [alt, List.length_append, List.length_map, List.length_map, Nat.pow_succ]; omega
theorem alt_in : ∀ (d : Nat) (s : Int), 0 ≤ s → s ≤ 1 → ∀ r ∈ alt d s, ∀ x ∈ r, -1 ≤ x ∧ x ≤ 1
  | 0, s, _, _, r, h => by
    unfold alt at h
    split at h
    · rw [List.mem_singleton] at h; subst h; simp
    · cases h
  | d + 1, s, h0, h1, r, h => by
    unfold alt at h
    rcases List.mem_append.1 h with h | h
    · obtain ⟨a, ha, rfl⟩ := List.mem_map.1 h
      intro x hx
      rcases List.mem_cons.1 hx with rfl | hx
      · omega
      · exact alt_in d 0 (by omega) (by omega) a ha x hx
    · obtain ⟨a, ha, rfl⟩ := List.mem_map.1 h
      intro x hx
      rcases List.mem_cons.1 hx with rfl | hx
      · omega
      · exact alt_in d 1 (by omega) (by omega) a ha x hx
theorem mapApp (l : List Int) (x : Int) (z : List (List Int)) : (z.map (x :: ·)).map (l ++ ·) = z.map ((l ++ [x]) ++ ·) := by
  rw [List.map_map]; congr 1; funext t; simp
theorem signRows1 (n : Nat) (hn : n ≤ 1000) : ∀ (d : Nat) (l : List Int) (s : Int), 0 ≤ s → s ≤ 1 → l.length + d = n → Ans (fun k => impl_signRows_1.f k n l s) ((alt d s).map (l ++ ·)) := by
  intro d
  induction d with
  | zero =>
    intro l s h0 h1 hl
    refine Ans.step ?_
    simp only [impl_signRows_1.f]
    refine Ans.yes (by omega) ?_
    unfold alt
    by_cases c : s = 1
    · refine Ans.yes c ?_; rw [if_pos c, List.map_singleton, List.append_nil]; exact Ans.pure _
    · refine Ans.not c ?_; rw [if_neg c]; exact Ans.pure _
  | succ d ih =>
    intro l s h0 h1 hl
    have one : ∀ (x : Int) (R : List (List Int)), x = -s ∨ x = 1 - s → Ans (fun k => impl_signRows_1.l0 k n l s (x + 1)) R → Ans (fun k => impl_signRows_1.l0 k n l s x) ((alt d (s + x)).map ((l ++ [x]) ++ ·) ++ R) := by
      intro x R hx e
      refine Ans.step ?_
      simp only [impl_signRows_1.l0]
      refine Ans.yes (by omega) (Ans.yes (by omega) (Ans.yes (by omega) ((ih (l ++ [x]) (s + x) (by omega) (by omega) (by simp; omega)).bind (e.bind (Ans.pure _)))))
    have end_ : Ans (fun k => impl_signRows_1.l0 k n l s (1 - s + 1)) [] := by
      refine Ans.step ?_
      simp only [impl_signRows_1.l0]
      exact Ans.not (by omega) (Ans.pure _)
    refine Ans.step ?_
    simp only [impl_signRows_1.f]
    refine Ans.not (by omega) (Ans.yes h0 (Ans.yes h1 ?_))
    have e2 := one (1 - s) [] (.inr rfl) end_
    have e1 := one (-s) _ (.inl rfl) (by rw [show -s + 1 = 1 - s by omega]; exact e2)
    rw [alt, List.map_append, mapApp, mapApp]
    rw [List.append_nil, show s + -s = 0 by omega, show s + (1 - s) = 1 by omega] at e1
    exact e1
theorem signRows (n : Nat) (hn : n ≤ 6) : Ans (fun k => impl_signRows.f k n) (alt n 0) := by
  simp only [impl_signRows.f]
  refine (signRows1 n (by omega) n [] 0 (by omega) (by omega) (by simp)).bind ?_
  have h1 := alt_many n 0
  have h2 : 2 ^ n ≤ 2 ^ 6 := Nat.pow_le_pow_right (by omega) hn
  simp only [List.nil_append, List.map_id'] 
  exact Ans.yes (by omega) (Ans.pure _)
theorem fitsB_cons (last : Bool) (s x : Int) (ss xs : List Int) : fitsB last (s :: ss) (x :: xs) = ((decide (0 ≤ s + x) && decide (s + x ≤ 1) && (!last || decide (s + x = 1))) && fitsB last ss xs) := rfl
theorem fitsB_nil (last : Bool) (ss : List Int) : fitsB last ss [] = true := by cases ss <;> rfl
theorem rd_bits {x : List Int} {lo hi : Int} (h : ∀ a ∈ x, lo ≤ a ∧ a ≤ hi) {i : Int} (h0 : 0 ≤ i) (h1 : i < x.length) : lo ≤ rd x i ∧ rd x i ≤ hi := h _ (by unfold rd; exact getD_mem _ (by omega))
theorem fitsSums (sums row : List Int) (last : Bool) (hl : row.length ≤ sums.length) (hm : sums.length ≤ 1000) (hs : ∀ s ∈ sums, 0 ≤ s ∧ s ≤ 1) (hr : ∀ x ∈ row, -1 ≤ x ∧ x ≤ 1) : Ans (fun k => impl_fitsSums.f k sums row last) (fitsB last sums row) := by
  have key : ∀ (d : Nat) (i : Int), 0 ≤ i → i + d = row.length → Ans (fun k => impl_fitsSums.l0 k sums last row (row.length : Int) i) (fitsB last (sums.drop i.toNat) (row.drop i.toNat)) := by
    intro d
    induction d with
    | zero =>
      intro i h0 h1
      rw [List.drop_eq_nil_of_le (show row.length ≤ i.toNat by omega), fitsB_nil]; refine Ans.step ?_
      simp only [impl_fitsSums.l0]; exact Ans.not (by omega) (Ans.pure _)
    | succ d ih =>
      intro i h0 h1
      have e := ih (i + 1) (by omega) (by omega)
      rw [show (i + 1).toNat = i.toNat + 1 by omega] at e
      have b1 := rd_bits hs h0 (show i < sums.length by omega)
      have b2 := rd_bits hr h0 (show i < row.length by omega)
      rw [drop_at row 0 (show i.toNat < row.length by omega), drop_at sums 0 (show i.toNat < sums.length by omega), show row.getD i.toNat 0 = rd row i from rfl, show sums.getD i.toNat 0 = rd sums i from rfl, fitsB_cons]
      refine Ans.step ?_
      simp only [impl_fitsSums.l0, within, Option.bind_some, wrap64_up h0 (by omega : i ≤ 4611686018427387904), wrap64_in (rd sums i + rd row i) ⟨by omega, by omega⟩]
      refine Ans.yes (by omega) (Ans.yes h0 (Ans.yes (by omega) (Ans.yes (by omega) ?_)))
      by_cases c : 0 ≤ rd sums i + rd row i ∧ rd sums i + rd row i ≤ 1
      · rw [decide_eq_true c.1, decide_eq_true c.2]
        refine Ans.yes (decide_eq_true c) ?_
        cases last with
        | false => exact Ans.not (by simp) e
        | true =>
          by_cases c1 : rd sums i + rd row i = 1
          · rw [decide_eq_true c1]; exact Ans.yes rfl (Ans.yes c1 e)
          · rw [decide_eq_false c1]; exact Ans.yes rfl (Ans.not c1 (Ans.pure _))
      · refine Ans.not (by simp only [decide_eq_true_iff]; exact c) ?_
        have : (decide (0 ≤ rd sums i + rd row i) && decide (rd sums i + rd row i ≤ 1)) = false := by
          rw [Bool.eq_false_iff]; simpa using c
        rw [this, Bool.false_and, Bool.false_and]; exact Ans.pure _
  exact key row.length 0 (by omega) (by omega)
theorem filter_map_cons (last : Bool) (s x : Int) (ss : List Int) (z : List (List Int)) : (z.map (x :: ·)).filter (fun t => fitsB last (s :: ss) t) = if (decide (0 ≤ s + x) && decide (s + x ≤ 1) && (!last || decide (s + x = 1))) = true then (z.filter (fun t => fitsB last ss t)).map (x :: ·) else [] := by
  rw [List.filter_map]
  by_cases c : (decide (0 ≤ s + x) && decide (s + x ≤ 1) && (!last || decide (s + x = 1))) = true
  · rw [if_pos c]; congr 1; refine List.filter_congr fun t _ => ?_
    show fitsB last (s :: ss) (x :: t) = _
    rw [fitsB_cons, c, Bool.true_and]
  · rw [if_neg c, List.filter_eq_nil_iff.2 (fun t _ => by show ¬ (fitsB last (s :: ss) (x :: t) = true); rw [fitsB_cons, Bool.eq_false_iff.2 c]; simp)]; rfl
theorem weRows (sums : List Int) (hm : sums.length ≤ 6) (hs : ∀ s ∈ sums, 0 ≤ s ∧ s ≤ 1) : ∀ (d : Nat) (l : List Int) (s : Int), 0 ≤ s → s ≤ 1 → l.length + d = sums.length → Ans (fun k => spec_weRows.f k sums l s) (((alt d s).filter (fun t => fitsB false (sums.drop l.length) t)).map (l ++ ·)) := by
  intro d
  induction d with
  | zero =>
    intro l s h0 h1 hl
    refine Ans.step ?_
    simp only [spec_weRows.f]
    refine Ans.yes (by omega) ?_
    unfold alt
    by_cases c : s = 1
    · refine Ans.yes c ?_; rw [if_pos c, List.filter_cons, fitsB_nil, if_pos rfl, List.filter_nil, List.map_singleton, List.append_nil]; exact Ans.pure _
    · refine Ans.not c ?_; rw [if_neg c]; exact Ans.pure _
  | succ d ih =>
    intro l s h0 h1 hl
    have hlt : l.length < sums.length := by omega
    have hd := drop_at sums 0 hlt
    have hb := rd_bits hs (show (0 : Int) ≤ (l.length : Int) by omega) (show (l.length : Int) < sums.length by omega)
    have hrd : sums.getD l.length 0 = rd sums (l.length : Int) := by unfold rd; rw [Int.toNat_natCast]
    have many : ∀ (e : Nat) (z : Int) (l2 : List Int) (ss : List Int), (((alt e z).filter (fun t => fitsB false ss t)).map (l2 ++ ·)).length ≤ 2 ^ e := fun e z l2 ss => by
      rw [List.length_map]; exact Nat.le_trans (List.length_filter_le _ _) (alt_many e z)
    have h2d : 2 ^ d ≤ 2 ^ 6 := Nat.pow_le_pow_right (by omega) (by omega)
    -- one number x, tried behind what has been found
    have one : ∀ (x : Int) (out R : List (List Int)), -1 ≤ x → x ≤ 1 → out.length ≤ 1000 →
        Ans (fun k => spec_weRows.l0 k sums l s (out ++ (if 0 ≤ s + x ∧ s + x ≤ 1 then (((alt d (s + x)).map (x :: ·)).filter (fun t => fitsB false (sums.drop l.length) t)).map (l ++ ·) else [])) (x + 1)) R → Ans (fun k => spec_weRows.l0 k sums l s out x) R := by
      intro x out R hx1 hx2 ho e
      have w1 : wrap64 (s + x) = s + x := wrap64_in _ ⟨by omega, by omega⟩
      have w2 : wrap64 (rd sums (l.length : Int) + x) = rd sums (l.length : Int) + x := wrap64_in _ ⟨by omega, by omega⟩
      have w3 : wrap64 (x + 1) = x + 1 := wrap64_in _ ⟨by omega, by omega⟩
      refine Ans.step ?_
      simp only [spec_weRows.l0, l1In, Option.bind_some, w1, w2]
      refine Ans.yes (by omega) ?_
      by_cases c : 0 ≤ s + x ∧ s + x ≤ 1
      · rw [if_pos c, hd, filter_map_cons] at e
        refine Ans.yes (decide_eq_true c) (Ans.yes (by omega) (Ans.yes (by omega) (Ans.step ?_)))
        simp only [spec_weRows.j1, w1, w3]
        rw [hrd] at e
        by_cases c2 : 0 ≤ rd sums (l.length : Int) + x ∧ rd sums (l.length : Int) + x ≤ 1
        · rw [if_pos (by simp [c2.1, c2.2]), mapApp] at e
          refine Ans.yes (decide_eq_true c2) ?_
          simp only [l1Own l (by omega), Option.bind_some]
          have e1 := ih (l ++ [x]) (s + x) c.1 c.2 (by simp; omega)
          rw [show (l ++ [x]).length = l.length + 1 by simp] at e1
          refine Ans.yes (by omega) (e1.bind ?_)
          have hm1 := many d (s + x) (l ++ [x]) (sums.drop (l.length + 1))
          exact Ans.yes (by omega) e
        · rw [if_neg (by simp; omega), List.map_nil, List.append_nil] at e
          exact Ans.not (by simp only [decide_eq_true_iff]; exact c2) e
      · rw [if_neg c, List.append_nil] at e
        refine Ans.not (by simp only [decide_eq_true_iff]; exact c) (Ans.step ?_)
        simp only [spec_weRows.j1, w3]
        exact Ans.not (by simp) e
    have end_ : ∀ out : List (List Int), Ans (fun k => spec_weRows.l0 k sums l s out 2) out := fun out => by
      refine Ans.step ?_
      simp only [spec_weRows.l0]
      exact Ans.not (by omega) (Ans.pure _)
    have bnd : ∀ (x : Int), ((if 0 ≤ s + x ∧ s + x ≤ 1 then (((alt d (s + x)).map (x :: ·)).filter (fun t => fitsB false (sums.drop l.length) t)).map (l ++ ·) else []) : List (List Int)).length ≤ 64 := fun x => by
      split
      · rw [List.length_map]
        refine Nat.le_trans (List.length_filter_le _ _) ?_
        rw [List.length_map]
        exact Nat.le_trans (alt_many _ _) h2d
      · simp
    refine Ans.step ?_
    simp only [spec_weRows.f]
    refine Ans.not (by omega) ?_
    have b1 := bnd (-1)
    have b2 := bnd 0
    have e := one (-1) [] _ (by omega) (by omega) (by simp) (one 0 _ _ (by omega) (by omega) (by simp only [List.nil_append]; omega) (one 1 _ _ (by omega) (by omega) (by simp only [List.nil_append, List.length_append]; omega) (end_ _)))
    rcases (show s = 0 ∨ s = 1 by omega) with hs0 | hs1
    · subst hs0
      rw [if_neg (by omega), if_pos (by omega), if_pos (by omega)] at e
      rw [alt, List.filter_append, List.map_append]
      simpa using e
    · subst hs1
      rw [if_pos (by omega), if_pos (by omega), if_neg (by omega)] at e
      rw [alt, List.filter_append, List.map_append]
      simpa using e
/-- All matrices that go on rows with some sums of columns, in order. -/
def goOn (A : List (List Int)) : Nat → List (List Int) → List Int → List (List (List Int))
  | 0, m, _ => [m]
  | r + 1, m, sums => (A.filter (fun row => fitsB (decide (r = 0)) sums row)).flatMap fun row => goOn A r (m ++ [row]) (List.zipWith (· + ·) sums row)
/-- A callback over all of them, till it says no. -/
def foldT {σ : Type} (p : σ → List (List Int) → σ × Bool) : σ → List (List (List Int)) → σ × Bool
  | s, [] => (s, true)
  | s, m :: ms => if (p s m).2 = true then foldT p (p s m).1 ms else ((p s m).1, false)
theorem foldT_append {σ : Type} (p : σ → List (List Int) → σ × Bool) : ∀ (x y : List (List (List Int))) (s : σ), foldT p s (x ++ y) = if (foldT p s x).2 = true then foldT p (foldT p s x).1 y else foldT p s x
  | [], y, s => by simp [foldT]
  | m :: x, y, s => by
    rw [List.cons_append, foldT, foldT]
    by_cases c : (p s m).2 = true
    · rw [if_pos c, if_pos c, foldT_append p x y]
    · rw [if_neg c, if_neg c]; simp
theorem zip_bits : ∀ (last : Bool) (sums row : List Int), sums.length = row.length → fitsB last sums row = true → ∀ s ∈ List.zipWith (· + ·) sums row, 0 ≤ s ∧ s ≤ 1
  | _, [], [], _, _ => by simp
  | last, a :: sums, x :: row, h, hf => by
    rw [fitsB_cons, Bool.and_eq_true, Bool.and_eq_true, Bool.and_eq_true] at hf
    intro s hs
    rw [List.zipWith_cons_cons] at hs
    rcases List.mem_cons.1 hs with rfl | hs
    · exact ⟨of_decide_eq_true hf.1.1.1, of_decide_eq_true hf.1.1.2⟩
    · exact zip_bits last sums row (by simpa using h) hf.2 s hs
theorem rowOk_of {sums row : List Int} (hl : sums.length = row.length) (hs : ∀ s ∈ sums, 0 ≤ s ∧ s ≤ 1) (hr : ∀ x ∈ row, -1 ≤ x ∧ x ≤ 1) : rowOk sums row = true := by
  simp only [rowOk, Bool.and_eq_true, decide_eq_true_eq, List.all_eq_true]
  exact ⟨⟨hl, fun s h => hs s h⟩, fun x h => hr x h⟩
/-- The rows that can stand anywhere. -/
def RowsOf (n : Nat) (A : List (List Int)) : Prop := ∀ r ∈ A, r.length = n ∧ ∀ x ∈ r, -1 ≤ x ∧ x ≤ 1
theorem RowsOf.alt (n : Nat) : RowsOf n (alt n 0) := fun r h => ⟨alt_len n 0 r h, alt_in n 0 (by omega) (by omega) r h⟩
theorem goOn_sq {n : Nat} {A : List (List Int)} (hA : RowsOf n A) : ∀ (r : Nat) (m : List (List Int)) (sums : List Int), m.length + r = n → (∀ x ∈ m, x.length = n) → ∀ y ∈ goOn A r m sums, Sq n y
  | 0, m, sums, h, hm, y, hy => by
    rw [goOn, List.mem_singleton] at hy
    subst hy
    exact ⟨h, hm⟩
  | r + 1, m, sums, h, hm, y, hy => by
    rw [goOn, List.mem_flatMap] at hy
    obtain ⟨row, hrow, hy⟩ := hy
    have hr := hA row (List.mem_filter.1 hrow).1
    exact goOn_sq hA r (m ++ [row]) _ (by simp; omega) (fun x hx => by
      rcases List.mem_append.1 hx with hx | hx
      · exact hm x hx
      · rw [List.mem_singleton] at hx; rw [hx]; exact hr.1) y hy
/-- All sign matrices with n rows, in order. -/
def allOf (n : Nat) : List (List (List Int)) := goOn (alt n 0) n [] (List.replicate n 0)
theorem allOf_sq (n : Nat) : ∀ y ∈ allOf n, Sq n y := goOn_sq (RowsOf.alt n) n [] _ (by simp) (by simp)
/-- The reference's way to all of them. -/
def goOn2 (A : List (List Int)) : Nat → List (List Int) → List Int → List (List (List Int))
  | 0, m, sums => if allIn sums 1 1 = true then [m] else []
  | r + 1, m, sums => (A.filter (fun row => fitsB false sums row)).flatMap fun row => goOn2 A r (m ++ [row]) (List.zipWith (· + ·) sums row)
theorem fits_last : ∀ (sums row : List Int), sums.length = row.length → fitsB true sums row = (fitsB false sums row && allIn (List.zipWith (· + ·) sums row) 1 1)
  | [], [], _ => rfl
  | a :: sums, x :: row, h => by
    rw [fitsB_cons, fitsB_cons, fits_last sums row (by simpa using h), List.zipWith_cons_cons, show ∀ z, allIn ((a + x) :: z) 1 1 = (decide (1 ≤ a + x ∧ a + x ≤ 1) && allIn z 1 1) from fun _ => rfl]
    by_cases c : a + x = 1
    · have h1 : decide (0 ≤ a + x) = true := decide_eq_true (by omega)
      have h2 : decide (a + x ≤ 1) = true := decide_eq_true (by omega)
      have h3 : decide (1 ≤ a + x ∧ a + x ≤ 1) = true := decide_eq_true (by omega)
      rw [decide_eq_true c, h1, h2, h3]; simp
    · have h3 : decide (1 ≤ a + x ∧ a + x ≤ 1) = false := decide_eq_false (by omega)
      rw [decide_eq_false c, h3]; simp
theorem goOn_two {n : Nat} {A : List (List Int)} (hA : RowsOf n A) : ∀ (r : Nat) (m : List (List Int)) (sums : List Int), sums.length = n → goOn2 A (r + 1) m sums = goOn A (r + 1) m sums := by
  intro r
  induction r with
  | zero =>
    intro m sums hl
    rw [goOn2, goOn]
    simp only [goOn2, goOn]
    have key : ∀ (B : List (List Int)), (∀ b ∈ B, b.length = n) → ((B.filter (fun row => fitsB false sums row)).flatMap fun row => if allIn (List.zipWith (· + ·) sums row) 1 1 = true then [m ++ [row]] else []) = (B.filter (fun row => fitsB (decide (0 = 0)) sums row)).flatMap fun row => [m ++ [row]] := by
      intro B
      induction B with
      | nil => intro _; rfl
      | cons b B ih =>
        intro hB
        have hb := fits_last sums b (by rw [hl, hB b (by simp)])
        have h1 := ih (fun x hx => hB x (by simp [hx]))
        rw [show decide (0 = 0) = true from rfl] at h1 ⊢
        rw [List.filter_cons, List.filter_cons, hb]
        by_cases c1 : fitsB false sums b = true
        · rw [if_pos c1, List.flatMap_cons, c1, Bool.true_and]
          by_cases c2 : allIn (List.zipWith (· + ·) sums b) 1 1 = true
          · rw [if_pos c2, if_pos c2, List.flatMap_cons, h1]
          · rw [if_neg c2, if_neg c2, List.nil_append, h1]
        · rw [if_neg c1, Bool.eq_false_iff.2 c1, Bool.false_and, if_neg (by simp), h1]
    exact key A (fun b hb => (hA b hb).1)
  | succ r ih =>
    intro m sums hl
    rw [goOn2, goOn, show decide (r + 1 = 0) = false from rfl]
    have key : ∀ (B : List (List Int)), (∀ b ∈ B, b.length = n) → (B.flatMap fun row => goOn2 A (r + 1) (m ++ [row]) (List.zipWith (· + ·) sums row)) = B.flatMap fun row => goOn A (r + 1) (m ++ [row]) (List.zipWith (· + ·) sums row) := by
      intro B
      induction B with
      | nil => intro _; rfl
      | cons b B ihB =>
        intro hB
        rw [List.flatMap_cons, List.flatMap_cons, ihB (fun x hx => hB x (by simp [hx])), ih _ _ (by rw [List.length_zipWith, hl, hB b (by simp), Nat.min_self])]
    exact key _ (fun b hb => (hA b (List.mem_filter.1 hb).1).1)
theorem goOn2_many {A : List (List Int)} (hA : A.length ≤ 64) : ∀ (r : Nat) (m : List (List Int)) (sums : List Int), (goOn2 A r m sums).length ≤ 64 ^ r
  | 0, m, sums => by rw [goOn2]; split <;> simp
  | r + 1, m, sums => by
    rw [goOn2, List.length_flatMap]
    have key : ∀ (B : List (List Int)), (B.map fun row => (goOn2 A r (m ++ [row]) (List.zipWith (· + ·) sums row)).length).sum ≤ B.length * 64 ^ r := by
      intro B
      induction B with
      | nil => simp
      | cons b B ih =>
        have h2 := goOn2_many hA r (m ++ [b]) (List.zipWith (· + ·) sums b)
        rw [List.map_cons, List.sum_cons, List.length_cons, Nat.succ_mul]
        omega
    have hB : (A.filter (fun row => fitsB false sums row)).length ≤ 64 := Nat.le_trans (List.length_filter_le _ _) hA
    refine Nat.le_trans (key _) ?_
    rw [Nat.pow_succ, Nat.mul_comm]
    exact Nat.mul_le_mul_left _ hB
theorem weGoOn (n : Nat) (hn : n ≤ 6) : ∀ (r : Nat) (m : List (List Int)) (sums : List Int), m.length + r = n → sums.length = n → (∀ x ∈ sums, 0 ≤ x ∧ x ≤ 1) → Ans (fun k => spec_weGoOn.f k m sums) (goOn2 (alt n 0) r m sums) := by
  intro r
  induction r with
  | zero =>
    intro m sums h hl hs
    refine Ans.step ?_
    simp only [spec_weGoOn.f]
    refine Ans.yes (by omega) ((l1All sums (by omega) 1 1).bind ?_)
    rw [goOn2]
    by_cases c : allIn sums 1 1 = true
    · refine Ans.yes c ?_; rw [if_pos c]; exact Ans.pure _
    · refine Ans.not c ?_; rw [if_neg c]; exact Ans.pure _
  | succ r ih =>
    intro m sums h hl hs
    have hA : (alt n 0).length ≤ 64 := Nat.le_trans (alt_many n 0) (Nat.le_trans (Nat.pow_le_pow_right (by omega) hn) (by decide : 2 ^ 6 ≤ 64))
    have hr6 : 64 ^ (r + 1) ≤ 64 ^ 6 := Nat.pow_le_pow_right (by omega) (by omega)
    have h66 : (64 : Nat) ^ 6 = 68719476736 := by decide
    obtain ⟨rs, hrs⟩ : ∃ x, (alt n 0).filter (fun row => fitsB false sums row) = x := ⟨_, rfl⟩
    have hrl : rs.length ≤ 64 := by rw [← hrs]; exact Nat.le_trans (List.length_filter_le _ _) hA
    have key : ∀ (d : Nat) (i : Int) (out : List (List (List Int))), 0 ≤ i → i + d = rs.length → out.length + d * 64 ^ r ≤ 64 ^ (r + 1) →
        Ans (fun k => spec_weGoOn.l0 k m sums rs out i) (out ++ ((rs.drop i.toNat).flatMap fun row => goOn2 (alt n 0) r (m ++ [row]) (List.zipWith (· + ·) sums row))) := by
      intro d
      induction d with
      | zero =>
        intro i out h0 h1 h2
        rw [List.drop_eq_nil_of_le (by omega), List.flatMap_nil, List.append_nil]; refine Ans.step ?_
        simp only [spec_weGoOn.l0]
        exact Ans.not (by omega) (Ans.pure _)
      | succ d ihd =>
        intro i out h0 h1 h2
        rw [Nat.succ_mul] at h2
        have hlt : i.toNat < rs.length := by omega
        have hmem : rs.getD i.toNat [] ∈ rs := getD_mem [] hlt
        have hnx : ∀ out : List (List (List Int)), _ := fun out => ihd (i + 1) out (by omega) (by omega)
        rw [show (i + 1).toNat = i.toNat + 1 by omega] at hnx
        rw [drop_at rs [] hlt, List.flatMap_cons]
        generalize hg : rs.getD i.toNat [] = row at *
        rw [← hrs] at hmem
        obtain ⟨hm1, hm2⟩ := List.mem_filter.1 hmem
        have hrow := RowsOf.alt n row hm1
        have hmany := goOn2_many hA r (m ++ [row]) (List.zipWith (· + ·) sums row)
        refine Ans.step ?_
        simp only [spec_weGoOn.l0, hg, l1Own sums (by omega), Option.bind_some]
        refine Ans.yes (by omega) (Ans.yes h0 (Ans.yes (rowOk_of (by omega) hs hrow.2) (Ans.yes (by omega) ?_)))
        have e1 := ih (m ++ [row]) (List.zipWith (· + ·) sums row) (by simp; omega) (by rw [List.length_zipWith]; omega) (zip_bits false sums row (by omega) hm2)
        refine e1.bind (Ans.yes (by omega) ?_)
        have e2 := hnx (out ++ goOn2 (alt n 0) r (m ++ [row]) (List.zipWith (· + ·) sums row)) (by rw [List.length_append]; omega)
        rw [List.append_assoc] at e2
        exact e2
    refine Ans.step ?_
    simp only [spec_weGoOn.f]
    have hw := weRows sums (by omega) hs n [] 0 (by omega) (by omega) (by simp; omega)
    simp only [List.length_nil, List.drop_zero, List.nil_append, List.map_id', hrs] at hw
    refine Ans.not (by omega) (hw.bind ?_)
    have := key rs.length 0 [] (by omega) (by omega) (by rw [List.length_nil, Nat.pow_succ, Nat.zero_add, Nat.mul_comm]; exact Nat.mul_le_mul_left _ hrl)
    rw [goOn2, hrs]
    simpa using this
theorem weAll (n : Nat) (h1 : 1 ≤ n) (hn : n ≤ 6) : Ans (fun k => spec_weAll.f k n) (allOf n) := by
  simp only [spec_weAll.f]
  refine Ans.yes (by omega) (Ans.yes (by omega) ?_)
  have e := weGoOn n hn n [] (List.replicate n 0) (by simp) (by simp) (fun x hx => by rw [(List.mem_replicate.1 hx).2]; omega)
  obtain ⟨r, rfl⟩ : ∃ r, n = r + 1 := ⟨n - 1, by omega⟩
  rw [goOn_two (RowsOf.alt (r + 1)) r [] _ (by simp)] at e
  rw [Int.toNat_natCast]
  exact e
/-- What total adds up: a callback that always goes on. -/
theorem eachSigns1M {σ : Type} (n : Nat) (hn : n ≤ 6) (A : List (List Int)) (hA : RowsOf n A) (hc : A.length ≤ 1000) (p : Nat → σ → List (List Int) → Option (σ × Bool)) (pT : σ → List (List Int) → σ × Bool) :
    ∀ (r : Nat) (m : List (List Int)) (sums : List Int) (s : σ), m.length + r = n → (∀ x ∈ m, x.length = n) → sums.length = n → (∀ x ∈ sums, 0 ≤ x ∧ x ≤ 1) → (∀ s, ∀ y ∈ goOn A r m sums, Ans (fun k => p k s y) (pT s y)) → Ans2 (fun k j => impl_eachSigns_1.f k (p j) n A sums m s) (foldT pT s (goOn A r m sums)) := by
  intro r
  induction r with
  | zero =>
    intro m sums s h hm _ _ hp
    refine Ans2.step ?_
    simp only [impl_eachSigns_1.f]
    refine Ans2.yes (by omega) ?_
    have e : foldT pT s (goOn A 0 m sums) = pT s m := by
      simp only [goOn, foldT]
      by_cases c : (pT s m).2 = true
      · rw [if_pos c, ← c]
      · rw [if_neg c]; rw [show false = (pT s m).2 by simpa using c]
    rw [e]
    exact Ans2.two (hp s m (by simp [goOn]))
  | succ r ih =>
    intro m sums s h hm hl hs hp
    have key : ∀ (d : Nat) (i : Int) (s : σ), 0 ≤ i → i + d = A.length →
        Ans2 (fun k j => impl_eachSigns_1.l0 k (p j) n A sums m s i) (foldT pT s (((A.drop i.toNat).filter (fun row => fitsB (decide (r = 0)) sums row)).flatMap fun row => goOn A r (m ++ [row]) (List.zipWith (· + ·) sums row))) := by
      intro d
      induction d with
      | zero =>
        intro i s h0 h1
        rw [List.drop_eq_nil_of_le (by omega)]; refine Ans2.step ?_
        simp only [impl_eachSigns_1.l0]
        exact Ans2.not (by omega) (Ans2.pure _)
      | succ d ihd =>
        intro i s h0 h1
        have hlt : i.toNat < A.length := by omega
        have hrow := hA (A.getD i.toNat []) (getD_mem [] hlt)
        have hmem := getD_mem (x := A) [] hlt
        have hnx : ∀ s, _ := fun s => ihd (i + 1) s (by omega) (by omega)
        rw [show (i + 1).toNat = i.toNat + 1 by omega] at hnx
        rw [drop_at A [] hlt, List.filter_cons]
        generalize hg : A.getD i.toNat [] = row at *
        have hfit := fitsSums sums row (decide (r = 0)) (by omega) (by omega) hs hrow.2
        have hlast : ((m.length : Int) == (n : Int) - 1) = decide (r = 0) := by
          rw [Bool.eq_iff_iff, beq_iff_eq, decide_eq_true_iff]; omega
        refine Ans2.step ?_
        simp only [impl_eachSigns_1.l0, hg, hlast]
        refine Ans2.yes (by omega) (Ans2.yes h0 ((Ans2.one hfit).bind ?_))
        by_cases c : fitsB (decide (r = 0)) sums row = true
        · rw [if_pos c, List.flatMap_cons, foldT_append]
          refine Ans2.yes c (Ans2.yes (rowOk_of (by omega) hs hrow.2) ?_)
          have e1 := ih (m ++ [row]) (List.zipWith (· + ·) sums row) s (by simp; omega) (fun x hx => by
            rcases List.mem_append.1 hx with hx | hx
            · exact hm x hx
            · rw [List.mem_singleton] at hx; rw [hx]; exact hrow.1) (by rw [List.length_zipWith]; omega) (zip_bits _ sums row (by omega) c) (fun s y hy => hp s y (List.mem_flatMap.mpr ⟨row, List.mem_filter.mpr ⟨hmem, c⟩, hy⟩))
          refine e1.bind ?_
          by_cases c2 : (foldT pT s (goOn A r (m ++ [row]) (List.zipWith (· + ·) sums row))).2 = true
          · rw [if_pos c2]; exact Ans2.yes c2 (hnx _)
          · rw [if_neg c2]
            refine Ans2.not c2 ?_
            have e3 : foldT pT s (goOn A r (m ++ [row]) (List.zipWith (· + ·) sums row)) = ((foldT pT s (goOn A r (m ++ [row]) (List.zipWith (· + ·) sums row))).1, false) := by
              rw [show false = (foldT pT s (goOn A r (m ++ [row]) (List.zipWith (· + ·) sums row))).2 by simpa using c2]
            rw [← e3]
            exact Ans2.pure _
        · rw [if_neg c]
          exact Ans2.not c (hnx _)
    refine Ans2.step ?_
    simp only [impl_eachSigns_1.f]
    refine Ans2.not (by omega) (Ans2.yes (by omega) ?_)
    have := key A.length 0 s (by omega) (by omega)
    simpa [goOn] using this
theorem eachSignsM {σ : Type} (n : Nat) (hn : n ≤ 6) (p : Nat → σ → List (List Int) → Option (σ × Bool)) (pT : σ → List (List Int) → σ × Bool) (hp : ∀ s, ∀ m ∈ allOf n, Ans (fun k => p k s m) (pT s m)) (s : σ) :
    Ans (fun k => impl_eachSigns.f k n (p k) s) (foldT pT s (allOf n)).1 := by
  simp only [impl_eachSigns.f]
  refine Ans.yes (by omega) (Ans.yes (by omega) ((signRows n hn).bind ?_))
  have h1 := alt_many n 0
  have h2 : 2 ^ n ≤ 2 ^ 6 := Nat.pow_le_pow_right (by omega) hn
  have e := eachSigns1M n hn (alt n 0) (RowsOf.alt n) (by omega) p pT n [] (List.replicate n 0) s (by simp) (by simp) (by simp) (fun x hx => by rw [(List.mem_replicate.1 hx).2]; omega) hp
  rw [Int.toNat_natCast]
  exact e.join.bind (Ans.pure _)
theorem totalM (n : Nat) (hn : n ≤ 6) (of : Nat → List (List Int) → Option Int) (v : List (List Int) → Int) (hlen : (allOf n).length ≤ 10000) (hv : ∀ m ∈ allOf n, Ans (fun k => of k m) (v m)) (hb : ∀ m ∈ allOf n, 0 ≤ v m ∧ v m ≤ 100000000000000) :
    Ans (fun k => impl_total.f k n (of k)) ((allOf n).map v).sum := by
  simp only [impl_total.f]
  have e := eachSignsM (σ := Int) n hn (fun k => impl_total.step (of k)) (fun s m => (wrap64 (s + v m), true)) (fun s m hm => by
    simp only [impl_total.step]
    exact (hv m hm).bind (Ans.pure _)) 0
  have key : ∀ (L : List (List (List Int))) (s : Int), (∀ y ∈ L, y ∈ allOf n) → 0 ≤ s → s + L.length * 100000000000000 ≤ 9000000000000000000 → (foldT (fun s m => (wrap64 (s + v m), true)) s L).1 = s + (L.map v).sum := by
    intro L
    induction L with
    | nil => intro s _ _ _; simp [foldT]
    | cons y L ih =>
      intro s hL h0 h1
      have hy := hb y (hL y (by simp))
      rw [List.length_cons] at h1
      rw [foldT, if_pos rfl, wrap64_in _ ⟨by omega, by omega⟩, ih _ (fun z hz => hL z (by simp [hz])) (by omega) (by omega), List.map_cons, List.sum_cons]
      omega
  rw [key (allOf n) 0 (fun y hy => hy) (by omega) (by omega), Int.zero_add] at e
  exact e

/-- The reader of draws: from place a on, at most n places on. -/
theorem draw_next (c : List Int) (hc : ∀ x ∈ c, (Lit.int .u8 x).wf = true) (a s : Int) (h0 : 0 ≤ a) (h1 : a ≤ 2305843009213693952) : ∃ b s', spec_l1Cur_next.f c a s = some (b, a + 1, s') ∧ 0 ≤ b ∧ b ≤ 255 := by
  have hw : wrap64 (a + 1) = a + 1 := wrap64_in _ ⟨by omega, by omega⟩
  simp only [spec_l1Cur_next.f, hw]
  by_cases c1 : a < (c.length : Int)
  · have hr := byte_wf (hc (rd c a) (getD_mem 0 (by omega)))
    have hw2 : wrap64 (rd c a) = rd c a := wrap64_in _ ⟨by omega, by omega⟩
    rw [if_pos c1, if_pos h0, if_pos (by omega)]
    exact ⟨_, _, rfl, by rw [hw2]; exact hr.1, by rw [hw2]; exact hr.2⟩
  · rw [if_neg c1, if_neg (by omega)]
    exact ⟨_, _, rfl, (byte_and _).1, (byte_and _).2⟩
theorem tmod_in {x n : Int} (h : 0 ≤ x) (hn : 1 < n) : 0 ≤ Int.tmod x n ∧ Int.tmod x n < n := ⟨Int.tmod_nonneg _ h, Int.tmod_lt_of_pos _ (by omega)⟩
theorem draw_pick (c : List Int) (hc : ∀ x ∈ c, (Lit.int .u8 x).wf = true) (a s n : Int) (h0 : 0 ≤ a) (h1 : a ≤ 1152921504606846976) : ∃ v a' s', spec_l1Cur_pick.f c a s n = some (v, a', s') ∧ a ≤ a' ∧ a' ≤ a + 2 ∧ 0 ≤ v ∧ (v < n ∨ v = 0) := by
  simp only [spec_l1Cur_pick.f]
  by_cases c1 : n ≤ 1
  · rw [if_pos c1]; exact ⟨_, _, _, rfl, by omega, by omega, by omega, by omega⟩
  · rw [if_neg c1]
    obtain ⟨b, s1, e1, b0, b1⟩ := draw_next c hc a s h0 (by omega)
    rw [e1]; simp only [Option.bind_some]
    by_cases c2 : n > 200
    · rw [if_pos c2]
      obtain ⟨b', s2, e2, b0', b1'⟩ := draw_next c hc (a + 1) s1 (by omega) (by omega)
      rw [e2]; simp only [Option.bind_some]
      rw [if_neg (by omega), wrap64_in (b * 256) ⟨by omega, by omega⟩, wrap64_in (b * 256 + b') ⟨by omega, by omega⟩]
      have := tmod_in (x := b * 256 + b') (n := n) (by omega) (by omega)
      exact ⟨_, _, _, rfl, by omega, by omega, this.1, .inl this.2⟩
    · rw [if_neg c2, if_neg (by omega)]
      have := tmod_in (x := b) (n := n) (by omega) (by omega)
      exact ⟨_, _, _, rfl, by omega, by omega, this.1, .inl this.2⟩
theorem draw_one (c : List Int) (hc : ∀ x ∈ c, (Lit.int .u8 x).wf = true) (a s n : Int) (h0 : 0 ≤ a) (h1 : a ≤ 1152921504606846976) : ∃ v a' s', spec_l1Cur_one.f c a s n = some (v, a', s') ∧ a ≤ a' ∧ a' ≤ a + 2 := by
  obtain ⟨v, a', s', e, h2, h3, _⟩ := draw_pick c hc a s n h0 h1
  simp only [spec_l1Cur_one.f, e, Option.bind_some]
  exact ⟨_, _, _, rfl, h2, h3⟩
theorem draw_among (c : List Int) (hc : ∀ x ∈ c, (Lit.int .u8 x).wf = true) (a s : Int) (l : List Int) (hl : 0 < l.length) (h0 : 0 ≤ a) (h1 : a ≤ 1152921504606846976) : ∃ v a' s', spec_l1Cur_among.f c a s l = some (v, a', s') ∧ a ≤ a' ∧ a' ≤ a + 2 ∧ v ∈ l := by
  obtain ⟨v, a', s', e, h2, h3, h4, h5⟩ := draw_pick c hc a s (l.length : Int) h0 h1
  simp only [spec_l1Cur_among.f, e, Option.bind_some]
  rw [if_pos h4, if_pos (by omega)]
  exact ⟨_, _, _, rfl, h2, h3, getD_mem 0 (by omega)⟩
/-- A number of a square table is put. -/
theorem put_sq {n : Nat} {y : List (List Int)} (h : Sq n y) (i j : Nat) (hi : i < n) (hj : j < n) (v : Int) : Sq n (y.set i ((y.getD i []).set j v)) ∧
    ∀ a b : Nat, a < n → b < n → ((y.set i ((y.getD i []).set j v)).getD a []).getD b 0 = if a = i ∧ b = j then v else (y.getD a []).getD b 0 := by
  have hr := h.row hi
  refine ⟨⟨by rw [List.length_set]; exact h.1, fun r hr' => ?_⟩, fun a b ha hb => ?_⟩
  · rcases List.mem_or_eq_of_mem_set hr' with h1 | h1
    · exact h.2 r h1
    · rw [h1, List.length_set]; exact hr
  · have ra := h.row ha
    by_cases e : i = a
    · subst e
      rw [show (y.set i ((y.getD i []).set j v)).getD i [] = (y.getD i []).set j v from by rw [getD_at (y.set i _) [] (by rw [List.length_set, h.1]; exact hi), List.getElem_set_self]]
      by_cases e2 : j = b
      · subst e2; rw [if_pos ⟨rfl, rfl⟩, getD_at _ _ (by rw [List.length_set, hr]; exact hj), List.getElem_set_self]
      · rw [if_neg (fun h => e2 h.2.symm), getD_at _ _ (by rw [List.length_set, hr]; exact hb), List.getElem_set_ne e2, ← getD_at _ 0 (by rw [hr]; exact hb)]
    · rw [if_neg (fun h => e h.1.symm), getD_at _ [] (by rw [List.length_set, h.1]; exact ha), List.getElem_set_ne e, ← getD_at y [] (by rw [h.1]; exact ha)]
theorem rep_sq (n : Nat) (v : Int) : Sq n (List.replicate n (List.replicate n v)) := ⟨by simp, fun r hr => by rw [List.eq_of_mem_replicate hr]; simp⟩
theorem sgZero (n : Nat) (hn : n ≤ 1000) : Ans (fun k => spec_sgZero.f k n) (List.replicate n (List.replicate n 0)) := by
  have key : ∀ (d i : Nat), i + d = n → Ans (fun k => spec_sgZero.l0 k n (List.replicate i (List.replicate n 0)) (i : Int)) (List.replicate n (List.replicate n 0)) := by
    intro d
    induction d with
    | zero =>
      intro i h
      obtain rfl : i = n := by omega
      exact Ans.step (by simp only [spec_sgZero.l0]; exact Ans.not (by omega) (Ans.pure _))
    | succ d ih =>
      intro i h
      have e := ih (i + 1) (by omega)
      refine Ans.step ?_
      simp only [spec_sgZero.l0, wrap64_up (show (0 : Int) ≤ i by omega) (by omega), Int.toNat_natCast]
      rw [List.replicate_succ', show ((i + 1 : Nat) : Int) = (i : Int) + 1 by omega] at e
      exact Ans.yes (by omega) (Ans.yes (by omega) (Ans.yes (by omega) (Ans.yes (by rw [List.length_replicate]; omega) e)))
  exact key n 0 (by omega)
/-- A corner sum, 0 beside the table. -/
def sgat (x : List (List Int)) (i j : Int) : Int := if i < 0 then 0 else if j < 0 then 0 else rd (rd_L3 x i) j
theorem sgAt {n : Nat} {x : List (List Int)} (h : Sq n x) (i j : Int) (hi : i < n) (hj : j < n) : spec_sgAt.f x i j = some (sgat x i j) := by
  simp only [spec_sgAt.f, sgat]
  by_cases c1 : i < 0
  · rw [if_pos c1, if_pos c1]
  · by_cases c2 : j < 0
    · rw [if_neg c1, if_neg c1, if_pos c2, if_pos c2]
    · have hr : (rd_L3 x i).length = n := h.row (by omega)
      rw [if_neg c1, if_neg c1, if_neg c2, if_neg c2, if_pos (by omega), if_pos (by have := h.1; omega), if_pos (by omega), if_pos (by omega)]
/-- The number that corner sums leave. -/
def diff (x : List (List Int)) (i j : Int) : Int := wrap64 (wrap64 (wrap64 (sgat x i j - sgat x (i - 1) j) - sgat x i (j - 1)) + sgat x (i - 1) (j - 1))
def frm (x : List (List Int)) : List (List Int) := tab x.length x.length (fun i j => diff x i j)
theorem tab_sq (n : Nat) (v : Nat → Nat → Int) : Sq n (tab n n v) := ⟨by simp [tab], fun r hr => by obtain ⟨a, _, rfl⟩ := List.mem_map.1 hr; simp⟩
theorem sgFrom (n : Nat) (x : List (List Int)) (h : Sq n x) (hn : n ≤ 1000) : Ans (fun k => spec_sgFrom.f k x) (frm x) := by
  have hx := h.1
  have inner : ∀ (i : Nat), i < n → ∀ (d j : Nat) (y : List (List Int)), j + d = n → Sq n y → (∀ a b : Nat, a < n → b < n → (a < i ∨ a = i ∧ b < j) → (y.getD a []).getD b 0 = diff x a b) →
      (∀ y', Sq n y' → (∀ a b : Nat, a < n → b < n → a < i + 1 → (y'.getD a []).getD b 0 = diff x a b) → Ans (fun k => spec_sgFrom.l0 k x y' (n : Int) ((i + 1 : Nat) : Int)) (frm x)) →
      Ans (fun k => spec_sgFrom.l1 k x y (i : Int) (n : Int) (i : Int) (n : Int) (j : Int)) (frm x) := by
    intro i hi d
    induction d with
    | zero =>
      intro j y hj hy hv nx
      refine Ans.step ?_
      simp only [spec_sgFrom.l1, wrap64_up (show (0 : Int) ≤ i by omega) (by omega)]
      have := nx y hy (fun a b ha hb hlt => hv a b ha hb (by omega))
      rw [show ((i + 1 : Nat) : Int) = (i : Int) + 1 by omega] at this
      exact Ans.not (by omega) this
    | succ d ih =>
      intro j y hj hy hv nx
      obtain ⟨q1, q2⟩ := put_sq hy i j hi (by omega) (diff x i j)
      have e := ih (j + 1) _ (by omega) q1 (fun a b ha hb hlt => by
        rw [q2 a b ha hb]
        by_cases c : a = i ∧ b = j
        · rw [if_pos c, c.1, c.2]
        · rw [if_neg c]; exact hv a b ha hb (by omega)) nx
      have hr : (rd_L3 y (i : Int)).length = n := by unfold rd_L3; rw [Int.toNat_natCast]; exact hy.row hi
      have w1 : wrap64 ((i : Int) - 1) = (i : Int) - 1 := wrap64_in _ ⟨by omega, by omega⟩
      have w2 : wrap64 ((j : Int) - 1) = (j : Int) - 1 := wrap64_in _ ⟨by omega, by omega⟩
      refine Ans.step ?_
      simp only [spec_sgFrom.l1, w1, w2, wrap64_up (show (0 : Int) ≤ j by omega) (by omega), sgAt h i j (by omega) (by omega), sgAt h ((i : Int) - 1) j (by omega) (by omega), sgAt h i ((j : Int) - 1) (by omega) (by omega), sgAt h ((i : Int) - 1) ((j : Int) - 1) (by omega) (by omega), Option.bind_some, Int.toNat_natCast]
      rw [show ((j + 1 : Nat) : Int) = (j : Int) + 1 by omega] at e
      exact Ans.yes (by omega) (Ans.yes (by omega) (Ans.yes (by have := hy.1; omega) (Ans.yes (by omega) (Ans.yes (by omega) e))))
  have key : ∀ (d i : Nat) (y : List (List Int)), i + d = n → Sq n y → (∀ a b : Nat, a < n → b < n → a < i → (y.getD a []).getD b 0 = diff x a b) → Ans (fun k => spec_sgFrom.l0 k x y (n : Int) (i : Int)) (frm x) := by
    intro d
    induction d with
    | zero =>
      intro i y h1 hy hv
      have : y = frm x := by unfold frm; rw [hx]; exact (tab_is hy _ (fun a b ha hb => (hv a b ha hb (by omega)).symm)).symm
      rw [this]
      exact Ans.step (by simp only [spec_sgFrom.l0]; exact Ans.not (by omega) (Ans.pure _))
    | succ d ih =>
      intro i y h1 hy hv
      refine Ans.step ?_
      simp only [spec_sgFrom.l0, hx]
      exact Ans.yes (by omega) (inner i (by omega) n 0 y (by omega) hy (fun a b ha hb hlt => hv a b ha hb (by omega)) (fun y' hy' hv' => ih (i + 1) y' (by omega) hy' hv'))
  simp only [spec_sgFrom.f, hx]
  exact (sgZero n hn).bind (by
    have := key n 0 (List.replicate n (List.replicate n 0)) (by omega) (rep_sq n 0) (fun a b ha hb hlt => by omega)
    simpa [rep_sq] using this)
theorem frm_sq {n : Nat} {x : List (List Int)} (h : Sq n x) : Sq n (frm x) := by unfold frm; rw [h.1]; exact tab_sq n _
/-- The corner sums of the least sign matrix. -/
def corn (n : Nat) : List (List Int) := tab n n (fun i j => ((min i j : Nat) : Int) + 1)
theorem corn_sign : ∀ n : Nat, 1 ≤ n → n ≤ 6 → sign (frm (corn n)) = true := by
  intro n h1 h2
  rcases (show n = 1 ∨ n = 2 ∨ n = 3 ∨ n = 4 ∨ n = 5 ∨ n = 6 by omega) with rfl | rfl | rfl | rfl | rfl | rfl
  all_goals decide +kernel
/-- All numbers are in range. -/
def InZ (x : List (List Int)) : Prop := ∀ r ∈ x, ∀ v ∈ r, -9223372036854775808 ≤ v ∧ v ≤ 9223372036854775807
theorem wrap64_range (n : Int) : -9223372036854775808 ≤ wrap64 n ∧ wrap64 n ≤ 9223372036854775807 := by unfold wrap64; omega
theorem InZ.put {x : List (List Int)} (h : InZ x) (i j : Nat) (hi : i < x.length) (n : Int) : InZ (x.set i ((x.getD i []).set j (wrap64 n))) := by
  intro r hr v hv
  rcases List.mem_or_eq_of_mem_set hr with h1 | h1
  · exact h r h1 v hv
  · subst h1
    rcases List.mem_or_eq_of_mem_set hv with h2 | h2
    · exact h _ (getD_mem [] hi) v h2
    · rw [h2]; exact wrap64_range n
theorem draw_sure (c : List Int) (hc : ∀ x ∈ c, (Lit.int .u8 x).wf = true) (a s : Int) (n : Nat) (hn : 1 ≤ n) (hn2 : n ≤ 6) (h0 : 0 ≤ a) (h1 : a ≤ 1000000000000) :
    ∃ m a' s', Ans (fun k => spec_l1Cur_sure.f k c a s n) (m, a', s') ∧ a ≤ a' ∧ a' ≤ a + 1000 ∧ Sq n m ∧ sign m = true := by
  -- the flips
  have flips : ∀ (d : Nat) (x : List (List Int)) (a s : Int), Sq n x → InZ x → sign (frm x) = true → 0 ≤ a → a + 6 * d ≤ 1000000002000 →
      ∃ m a' s', Ans (fun k => spec_l1Cur_sure.l2 k n x (d : Int) c a s) (m, a', s') ∧ a ≤ a' ∧ a' ≤ a + 6 * d ∧ Sq n m ∧ sign m = true := by
    intro d
    induction d with
    | zero =>
      intro x a s hx hz hs h0 h1
      refine ⟨frm x, a, s, Ans.step ?_, by omega, by omega, frm_sq hx, hs⟩
      simp only [spec_l1Cur_sure.l2]
      refine Ans.not (by omega) (Ans.step ?_)
      simp only [spec_l1Cur_sure.j3]
      exact Ans.not (by simp) ((sgFrom n x hx (by omega)).bind (Ans.pure _))
    | succ d ih =>
      intro x a s hx hz hs h0 h1
      by_cases c1 : (n : Int) > 1
      · have wn : wrap64 ((n : Int) - 1) = (n : Int) - 1 := wrap64_in _ ⟨by omega, by omega⟩
        obtain ⟨i, a1, s1, e1, p1, q1, i0, i1⟩ := draw_pick c hc a s ((n : Int) - 1) h0 (by omega)
        obtain ⟨j, a2, s2, e2, p2, q2, j0, j1⟩ := draw_pick c hc a1 s1 ((n : Int) - 1) (by omega) (by omega)
        obtain ⟨v, a3, s3, e3, p3, q3, v0, v1⟩ := draw_pick c hc a2 s2 2 (by omega) (by omega)
        have hr : (rd_L3 x i).length = n := hx.row (by omega)
        have hl := hx.1
        obtain ⟨y, hy⟩ : ∃ y, y = x.set i.toNat ((rd_L3 x i).set j.toNat (wrap64 ((rd (rd_L3 x i) j) + (wrap64 ((wrap64 (2 * v)) - 1))))) := ⟨_, rfl⟩
        have ys : Sq n y := by rw [hy]; exact (put_sq hx i.toNat j.toNat (by omega) (by omega) _).1
        have yz : InZ y := by rw [hy]; exact hz.put i.toNat j.toNat (by omega) _
        have wd : wrap64 (((d + 1 : Nat) : Int) - 1) = d := by rw [wrap64_in _ ⟨by omega, by omega⟩]; omega
        by_cases c2 : sign (frm y) = true
        · obtain ⟨m, a', s', e, g1, g2, g3, g4⟩ := ih y a3 s3 ys yz c2 (by omega) (by omega)
          refine ⟨m, a', s', Ans.step ?_, by omega, by omega, g3, g4⟩
          simp only [spec_l1Cur_sure.l2]
          refine Ans.yes (by omega) (Ans.step ?_)
          simp only [spec_l1Cur_sure.j3, wn, wd, e1, e2, e3, Option.bind_some, ← hy]
          have gg := sgGood (frm y) (by rw [(frm_sq ys).1]; omega)
          rw [c2] at gg
          exact Ans.yes (by simp; omega) (Ans.yes i0 (Ans.yes (by omega) (Ans.yes j0 (Ans.yes (by omega) ((sgFrom n y ys (by omega)).bind (gg.bind (Ans.yes rfl e)))))))
        · have back : y.set i.toNat ((rd_L3 y i).set j.toNat (wrap64 ((rd (rd_L3 y i) j) - (wrap64 ((wrap64 (2 * v)) - 1))))) = x := by
            have hq := put_sq hx i.toNat j.toNat (by omega) (by omega) (wrap64 ((rd (rd_L3 x i) j) + (wrap64 ((wrap64 (2 * v)) - 1))))
            have hq2 := put_sq ys i.toNat j.toNat (by omega) (by omega) (wrap64 ((rd (rd_L3 y i) j) - (wrap64 ((wrap64 (2 * v)) - 1))))
            refine ext_sq hq2.1 hx (fun a b ha hb => ?_)
            have e1 := hq2.2 a b ha hb
            rw [show y.getD i.toNat [] = rd_L3 y i from rfl] at e1
            rw [e1]
            have hyv := hq.2 a b ha hb
            rw [show x.getD i.toNat [] = rd_L3 x i from rfl, ← hy] at hyv
            by_cases c3 : a = i.toNat ∧ b = j.toNat
            · rw [if_pos c3]
              rw [if_pos c3] at hyv
              have e4 : rd (rd_L3 y i) j = wrap64 ((rd (rd_L3 x i) j) + (wrap64 ((wrap64 (2 * v)) - 1))) := by rw [← hyv, c3.1, c3.2]; rfl
              rw [e4, c3.1, c3.2, show (x.getD i.toNat []).getD j.toNat 0 = rd (rd_L3 x i) j from rfl]
              have hz1 := hz (rd_L3 x i) (getD_mem [] (by omega)) (rd (rd_L3 x i) j) (getD_mem 0 (by omega))
              unfold wrap64
              omega
            · rw [if_neg c3]; rw [if_neg c3] at hyv; exact hyv
          have hry : (rd_L3 y i).length = n := ys.row (by omega)
          obtain ⟨m, a', s', e, g1, g2, g3, g4⟩ := ih x a3 s3 hx hz hs (by omega) (by omega)
          refine ⟨m, a', s', Ans.step ?_, by omega, by omega, g3, g4⟩
          simp only [spec_l1Cur_sure.l2]
          refine Ans.yes (by omega) (Ans.step ?_)
          simp only [spec_l1Cur_sure.j3, wn, wd, e1, e2, e3, Option.bind_some, ← hy, back]
          have gg := sgGood (frm y) (by rw [(frm_sq ys).1]; omega)
          rw [Bool.eq_false_iff.mpr c2] at gg
          exact Ans.yes (by simp; omega) (Ans.yes i0 (Ans.yes (by omega) (Ans.yes j0 (Ans.yes (by omega) ((sgFrom n y ys (by omega)).bind (gg.bind (Ans.not (by simp) (Ans.yes (by omega) e))))))))
      · refine ⟨frm x, a, s, Ans.step ?_, by omega, by omega, frm_sq hx, hs⟩
        simp only [spec_l1Cur_sure.l2]
        refine Ans.yes (by omega) (Ans.step ?_)
        simp only [spec_l1Cur_sure.j3]
        exact Ans.not (by simp; omega) ((sgFrom n x hx (by omega)).bind (Ans.pure _))
  -- the corner sums at first
  have w3 : wrap64 ((wrap64 (3 * (n : Int))) * n) = 3 * (n : Int) * n := by
    have : (3 * (n : Int)) * n ≤ 18 * 6 := Int.mul_le_mul (by omega) (by omega) (by omega) (by omega)
    have h0 : 0 ≤ 3 * (n : Int) * n := Int.mul_nonneg (by omega) (by omega)
    rw [wrap64_in (3 * (n : Int)) ⟨by omega, by omega⟩, wrap64_in _ ⟨by omega, by omega⟩]
  obtain ⟨t, a1, s1, e1, p1, q1, t0, t1⟩ := draw_pick c hc a s (3 * (n : Int) * n) h0 (by omega)
  have ht : t ≤ 108 := by
    have : (3 * (n : Int)) * n ≤ 18 * 6 := Int.mul_le_mul (by omega) (by omega) (by omega) (by omega)
    omega
  obtain ⟨m, a', s', e2, p2, q2, g3, g4⟩ := flips t.toNat (corn n) a1 s1 (tab_sq n _) (by
    intro r hr v hv
    obtain ⟨i, hi, rfl⟩ := List.mem_map.1 hr
    obtain ⟨j, hj, rfl⟩ := List.mem_map.1 hv
    rw [List.mem_range] at hi hj
    show -9223372036854775808 ≤ ((min i j : Nat) : Int) + 1 ∧ ((min i j : Nat) : Int) + 1 ≤ 9223372036854775807
    have := Nat.min_le_left i j
    omega) (corn_sign n hn hn2) (by omega) (by omega)
  rw [Int.toNat_of_nonneg t0] at e2
  refine ⟨m, a', s', ?_, by omega, by omega, g3, g4⟩
  have inner : ∀ (i : Nat), i < n → ∀ (d j : Nat) (y : List (List Int)), j + d = n → Sq n y → (∀ a b : Nat, a < n → b < n → (a < i ∨ a = i ∧ b < j) → (y.getD a []).getD b 0 = ((min a b : Nat) : Int) + 1) →
      (∀ y', Sq n y' → (∀ a b : Nat, a < n → b < n → a < i + 1 → (y'.getD a []).getD b 0 = ((min a b : Nat) : Int) + 1) → Ans (fun k => spec_l1Cur_sure.l0 k n y' (n : Int) ((i + 1 : Nat) : Int) c a s) (m, a', s')) →
      Ans (fun k => spec_l1Cur_sure.l1 k n y (i : Int) (n : Int) (i : Int) (n : Int) (j : Int) c a s) (m, a', s') := by
    intro i hi d
    induction d with
    | zero =>
      intro j y hj hy hv nx
      refine Ans.step ?_
      simp only [spec_l1Cur_sure.l1, wrap64_up (show (0 : Int) ≤ i by omega) (by omega)]
      have := nx y hy (fun a b ha hb hlt => hv a b ha hb (by omega))
      rw [show ((i + 1 : Nat) : Int) = (i : Int) + 1 by omega] at this
      exact Ans.not (by omega) this
    | succ d ih =>
      intro j y hj hy hv nx
      obtain ⟨q1, q2⟩ := put_sq hy i j hi (by omega) (((min i j : Nat) : Int) + 1)
      have e := ih (j + 1) _ (by omega) q1 (fun a b ha hb hlt => by
        rw [q2 a b ha hb]
        by_cases c : a = i ∧ b = j
        · rw [if_pos c, c.1, c.2]
        · rw [if_neg c]; exact hv a b ha hb (by omega)) nx
      have hr : (rd_L3 y (i : Int)).length = n := by unfold rd_L3; rw [Int.toNat_natCast]; exact hy.row hi
      have hl : spec_l1Least.f (i : Int) (j : Int) = some ((min i j : Nat) : Int) := by
        simp only [spec_l1Least.f]
        by_cases c : (i : Int) < j
        · rw [if_pos c, Nat.min_eq_left (by omega)]
        · rw [if_neg c, Nat.min_eq_right (by omega)]
      have w1 : wrap64 (((min i j : Nat) : Int) + 1) = ((min i j : Nat) : Int) + 1 := wrap64_in _ ⟨by omega, by omega⟩
      refine Ans.step ?_
      simp only [spec_l1Cur_sure.l1, hl, Option.bind_some, w1, wrap64_up (show (0 : Int) ≤ j by omega) (by omega), Int.toNat_natCast]
      rw [show ((j + 1 : Nat) : Int) = (j : Int) + 1 by omega] at e
      exact Ans.yes (by omega) (Ans.yes (by omega) (Ans.yes (by have := hy.1; omega) (Ans.yes (by omega) (Ans.yes (by omega) e))))
  have key : ∀ (d i : Nat) (y : List (List Int)), i + d = n → Sq n y → (∀ a b : Nat, a < n → b < n → a < i → (y.getD a []).getD b 0 = ((min a b : Nat) : Int) + 1) → Ans (fun k => spec_l1Cur_sure.l0 k n y (n : Int) (i : Int) c a s) (m, a', s') := by
    intro d
    induction d with
    | zero =>
      intro i y h1 hy hv
      have : y = corn n := (tab_is hy _ (fun a b ha hb => (hv a b ha hb (by omega)).symm)).symm
      rw [this]
      refine Ans.step ?_
      simp only [spec_l1Cur_sure.l0, w3, e1, Option.bind_some]
      exact Ans.not (by omega) e2
    | succ d ih =>
      intro i y h1 hy hv
      have hl := hy.1
      refine Ans.step ?_
      simp only [spec_l1Cur_sure.l0, hl]
      exact Ans.yes (by omega) (inner i (by omega) n 0 y (by omega) hy (fun a b ha hb hlt => hv a b ha hb (by omega)) (fun y' hy' hv' => ih (i + 1) y' (by omega) hy' hv'))
  simp only [spec_l1Cur_sure.f]
  refine (sgZero n (by omega)).bind ?_
  simp only [List.length_replicate]
  exact key n 0 _ (by omega) (rep_sq n 0) (fun a b ha hb hlt => by omega)
/-- What signs draws: a table of few rows of few numbers. -/
theorem draw_signs (c : List Int) (hc : ∀ x ∈ c, (Lit.int .u8 x).wf = true) (a s : Int) (most : Nat) (hm : 1 ≤ most) (hm2 : most ≤ 6) (h0 : 0 ≤ a) (h1 : a ≤ 100000000000) :
    ∃ m a' s', Ans (fun k => spec_l1Cur_signs.f k c a s most) (m, a', s') ∧ a ≤ a' ∧ a' ≤ a + 3000 ∧ m.length ≤ 7 ∧ ∀ r ∈ m, r.length ≤ 7 := by
  obtain ⟨t, a1, s1, e1, p1, q1, t0, t1⟩ := draw_pick c hc a s most h0 (by omega)
  have wt : wrap64 (1 + t) = ((t.toNat + 1 : Nat) : Int) := by rw [wrap64_in _ ⟨by omega, by omega⟩]; omega
  obtain ⟨n, hn⟩ : ∃ n, n = t.toNat + 1 := ⟨_, rfl⟩
  rw [← hn] at wt
  obtain ⟨m, a2, s2, e2, p2, q2, hs, _⟩ := draw_sure c hc a1 s1 n (by omega) (by omega) (by omega) (by omega)
  obtain ⟨z, a3, s3, e3, p3, q3, z0, z1⟩ := draw_pick c hc a2 s2 20 (by omega) (by omega)
  have hl := hs.1
  by_cases c0 : z = 0
  · obtain ⟨i, a4, s4, e4, p4, q4, i0, i1⟩ := draw_pick c hc a3 s3 n (by omega) (by omega)
    obtain ⟨j, a5, s5, e5, p5, q5, j0, j1⟩ := draw_pick c hc a4 s4 n (by omega) (by omega)
    obtain ⟨v, a6, s6, e6, p6, q6, _⟩ := draw_among c hc a5 s5 [(-2), (-1), 0, 1, 2, 4611686018427387904] (by simp) (by omega) (by omega)
    have hr : (rd_L3 m i).length = n := hs.row (by omega)
    refine ⟨m.set i.toNat ((rd_L3 m i).set j.toNat v), a6, s6, ?_, by omega, by omega, by rw [List.length_set]; omega, fun r hr' => ?_⟩
    · simp only [spec_l1Cur_signs.f, e1, Option.bind_some, wt]
      refine e2.bind ?_
      simp only [e3, Option.bind_some]
      refine Ans.yes c0 ?_
      simp only [e4, Option.bind_some]
      refine Ans.yes i0 (Ans.yes (by omega) ?_)
      simp only [e5, e6, Option.bind_some]
      exact Ans.yes j0 (Ans.yes (by omega) (Ans.pure _))
    · rcases List.mem_or_eq_of_mem_set hr' with h | h
      · rw [hs.2 r h]; omega
      · rw [h, List.length_set, hr]; omega
  by_cases c1 : z = 1
  · refine ⟨m ++ [List.replicate n 0], a3, s3, ?_, by omega, by omega, by simp; omega, fun r hr' => ?_⟩
    · simp only [spec_l1Cur_signs.f, e1, Option.bind_some, wt]
      refine e2.bind ?_
      simp only [e3, Option.bind_some, Int.toNat_natCast]
      exact Ans.not c0 (Ans.yes c1 (Ans.yes (by omega) (Ans.yes (by omega) (Ans.yes (by omega) (Ans.pure _)))))
    · rcases List.mem_append.1 hr' with h | h
      · rw [hs.2 r h]; omega
      · simp only [List.mem_singleton] at h; rw [h, List.length_replicate]; omega
  by_cases c2 : z = 2
  · have hr : (rd_L3 m 0).length = n := hs.row (by omega)
    refine ⟨m.set (0 : Int).toNat (rd_L3 m 0 ++ [0]), a3, s3, ?_, by omega, by omega, by rw [List.length_set]; omega, fun r hr' => ?_⟩
    · simp only [spec_l1Cur_signs.f, e1, Option.bind_some, wt]
      refine e2.bind ?_
      simp only [e3, Option.bind_some]
      exact Ans.not c0 (Ans.not c1 (Ans.yes c2 (Ans.yes (by omega) (Ans.yes (by omega) (Ans.pure _)))))
    · rcases List.mem_or_eq_of_mem_set hr' with h | h
      · rw [hs.2 r h]; omega
      · rw [h, List.length_append, hr]; simp; omega
  by_cases c3 : z = 3
  · obtain ⟨m2, a4, s4, e4, p4, q4, hs2, _⟩ := draw_sure c hc a3 s3 6 (by omega) (by omega) (by omega) (by omega)
    obtain ⟨u, a5, s5, e5, p5, q5⟩ := draw_one c hc a4 s4 2 (by omega) (by omega)
    cases u with
    | true =>
      refine ⟨[], a5, s5, ?_, by omega, by omega, by simp, by simp⟩
      simp only [spec_l1Cur_signs.f, e1, Option.bind_some, wt]
      refine e2.bind ?_
      simp only [e3, Option.bind_some]
      refine Ans.not c0 (Ans.not c1 (Ans.not c2 (Ans.yes c3 (e4.bind ?_))))
      simp only [e5, Option.bind_some]
      exact Ans.yes trivial (Ans.pure _)
    | false =>
      refine ⟨m2, a5, s5, ?_, by omega, by omega, by rw [hs2.1]; omega, fun r hr => by rw [hs2.2 r hr]; omega⟩
      simp only [spec_l1Cur_signs.f, e1, Option.bind_some, wt]
      refine e2.bind ?_
      simp only [e3, Option.bind_some]
      refine Ans.not c0 (Ans.not c1 (Ans.not c2 (Ans.yes c3 (e4.bind ?_))))
      simp only [e5, Option.bind_some]
      exact Ans.not (by simp) (Ans.pure _)
  · refine ⟨m, a3, s3, ?_, by omega, by omega, by omega, fun r hr => by rw [hs.2 r hr]; omega⟩
    simp only [spec_l1Cur_signs.f, e1, Option.bind_some, wt]
    refine e2.bind ?_
    simp only [e3, Option.bind_some]
    exact Ans.not c0 (Ans.not c1 (Ans.not c2 (Ans.not c3 (Ans.pure _))))
theorem draw_side (c : List Int) (hc : ∀ x ∈ c, (Lit.int .u8 x).wf = true) (a s n : Int) (hn : 1 ≤ n) (hn2 : n ≤ 100) (h0 : 0 ≤ a) (h1 : a ≤ 1000000000000000) : ∃ v a' s', spec_l1Cur_side.f c a s n = some (v, a', s') ∧ a ≤ a' ∧ a' ≤ a + 4 ∧ -1 ≤ v ∧ v ≤ n + 1 := by
  have w : wrap64 (n + 1) = n + 1 := wrap64_in _ ⟨by omega, by omega⟩
  obtain ⟨v, a1, s1, e1, p1, q1⟩ := draw_one c hc a s 8 h0 (by omega)
  simp only [spec_l1Cur_side.f, e1, Option.bind_some, w]
  cases v with
  | true =>
    obtain ⟨u, a2, s2, e2, p2, q2, hu⟩ := draw_among c hc a1 s1 [(-1), 0, 1, n, n + 1] (by simp) (by omega) (by omega)
    rw [if_pos rfl, e2]
    refine ⟨u, a2, s2, rfl, by omega, by omega, ?_⟩
    simp only [List.mem_cons, List.mem_nil_iff, or_false] at hu
    omega
  | false =>
    obtain ⟨u, a2, s2, e2, p2, q2, u0, u1⟩ := draw_pick c hc a1 s1 n (by omega) (by omega)
    rw [if_neg (by simp), e2]
    simp only [Option.bind_some, wrap64_in (1 + u) ⟨by omega, by omega⟩]
    exact ⟨_, a2, s2, rfl, by omega, by omega, by omega, by omega⟩
theorem draw_weight (c : List Int) (hc : ∀ x ∈ c, (Lit.int .u8 x).wf = true) (a s n : Int) (h0 : 0 ≤ a) (h1 : a ≤ 1000000000000000) : ∃ v a' s', spec_l1Cur_weight.f c a s n = some (v, a', s') ∧ a ≤ a' ∧ a' ≤ a + 4 := by
  obtain ⟨v, a1, s1, e1, p1, q1⟩ := draw_one c hc a s 14 h0 (by omega)
  simp only [spec_l1Cur_weight.f, e1, Option.bind_some]
  cases v with
  | true =>
    obtain ⟨u, a2, s2, e2, p2, q2, _⟩ := draw_among c hc a1 s1 [(-1), wrap64 (n + 1), 4611686018427387904] (by simp) (by omega) (by omega)
    rw [if_pos rfl, e2]
    exact ⟨u, a2, s2, rfl, by omega, by omega⟩
  | false =>
    obtain ⟨u, a2, s2, e2, p2, q2, _⟩ := draw_pick c hc a1 s1 (wrap64 (n + 1)) (by omega) (by omega)
    rw [if_neg (by simp), e2]
    exact ⟨u, a2, s2, rfl, by omega, by omega⟩
theorem big_ans (c m : List Int) : ∃ b, laws_big.f c m = some b := by
  simp only [laws_big.f]
  split
  · exact ⟨_, rfl⟩
  · exact ⟨_, rfl⟩
/-- The corner sums. -/
def co (x : List (List Int)) (i j : Nat) : Int := S i (fun k => S j (en x k))
theorem co_comm (x : List (List Int)) (i j : Nat) : co x i j = S j (fun l => S i (fun k => en x k l)) := S_comm _ _ _
theorem co_row (x : List (List Int)) (i j : Nat) : co x (i + 1) j = co x i j + S j (en x i) := rfl
theorem S_range {f : Nat → Int} {a b : Int} : ∀ {n : Nat}, (∀ i, i < n → a ≤ f i ∧ f i ≤ b) → a * n ≤ S n f ∧ S n f ≤ b * n
  | 0, _ => by simp [S]
  | n + 1, h => by
    have x := S_range (fun i hi => h i (by omega : i < n + 1)) (n := n)
    have y := h n (by omega)
    rw [S, Int.natCast_add, Int.natCast_one, Int.mul_add, Int.mul_add, Int.mul_one, Int.mul_one]; omega
/-- Sums of the first numbers of rows and of columns are 0 or 1. -/
theorem pre_in {x : List (List Int)} (s : sign x = true) {n : Nat} (hn : x.length = n) : (∀ k j, k < n → j ≤ n → 0 ≤ S j (en x k) ∧ S j (en x k) ≤ 1) ∧ ∀ i l, i ≤ n → l < n → 0 ≤ S i (fun k => en x k l) ∧ S i (fun k => en x k l) ≤ 1 := by
  obtain ⟨_, _, _, E, R, C⟩ := sign_en s hn
  refine ⟨fun k j hk hj => ?_, fun i l hi hl => ?_⟩
  · by_cases e : j < n
    · have := (E k j hk e).2.1; omega
    · have := R k hk
      rw [show j = n by omega]; omega
  · by_cases e : i < n
    · have := (E i l e hl).2.2; omega
    · have := C l hl
      rw [show i = n by omega]; omega
/-- The heights. -/
def hgt (x : List (List Int)) (i j : Nat) : Int := (i : Int) + j - 2 * co x i j
def HT (x : List (List Int)) : List (List Int) := tab (x.length + 1) (x.length + 1) (hgt x)
theorem S_one : ∀ m : Nat, S m (fun _ => 1) = (m : Int)
  | 0 => rfl
  | m + 1 => by rw [S, S_one m]; omega
/-- Places of what holds, in order. -/
def pos (p : Nat → Bool) : Nat → List Int
  | 0 => []
  | n + 1 => pos p n ++ (if p n = true then [(n : Int)] else [])
theorem pos_up {p : Nat → Bool} {n : Nat} (h : p n = true) : (pos p (n + 1)).length = (pos p n).length + 1 := by rw [pos, if_pos h, List.length_append, List.length_singleton]
theorem pos_not {p : Nat → Bool} {n : Nat} (h : ¬ p n = true) : pos p (n + 1) = pos p n := by rw [pos, if_neg h, List.append_nil]
theorem pos_len (p : Nat → Bool) : ∀ n, (pos p n).length ≤ n
  | 0 => by simp [pos]
  | n + 1 => by
    have := pos_len p n
    by_cases h : p n = true
    · rw [pos_up h]; omega
    · rw [pos_not h]; omega
theorem pos_mono (p : Nat → Bool) : ∀ {n m : Nat}, n ≤ m → (pos p n).length ≤ (pos p m).length
  | n, 0, h => by obtain rfl : n = 0 := by omega
                  exact Nat.le_refl _
  | n, m + 1, h => by
    by_cases e : n = m + 1
    · subst e; exact Nat.le_refl _
    · have := pos_mono p (show n ≤ m by omega)
      by_cases h : p m = true
      · rw [pos_up h]; omega
      · rw [pos_not h]; exact this
theorem pos_at (p : Nat → Bool) : ∀ (n i : Nat), i < (pos p n).length → ∃ a : Nat, (pos p n).getD i 0 = (a : Int) ∧ a < n ∧ p a = true ∧ (pos p a).length = i
  | 0, i, h => by simp [pos] at h
  | n + 1, i, h => by
    by_cases c : i < (pos p n).length
    · obtain ⟨a, e, l, q, z⟩ := pos_at p n i c
      refine ⟨a, ?_, by omega, q, z⟩
      rw [pos, getD_at _ 0 (by rw [List.length_append]; omega), List.getElem_append_left c, ← getD_at _ 0 c, e]
    · by_cases q : p n = true
      · rw [pos_up q] at h
        refine ⟨n, ?_, by omega, q, by omega⟩
        rw [pos, if_pos q, getD_at _ 0 (by rw [List.length_append, List.length_singleton]; omega), List.getElem_append_right (by omega)]
        simp
      · rw [pos_not q] at h; omega
theorem pos_mem {p : Nat → Bool} {v : Int} : ∀ {n : Nat}, v ∈ pos p n ↔ ∃ a : Nat, v = a ∧ a < n ∧ p a = true
  | 0 => by simp [pos]
  | n + 1 => by
    rw [pos, List.mem_append, pos_mem]
    constructor
    · rintro (⟨a, e, l, q⟩ | h)
      · exact ⟨a, e, by omega, q⟩
      · by_cases q : p n = true
        · rw [if_pos q, List.mem_singleton] at h; exact ⟨n, h, by omega, q⟩
        · rw [if_neg q] at h; simp at h
    · rintro ⟨a, e, l, q⟩
      by_cases c : a = n
      · subst c; right; rw [if_pos q, List.mem_singleton]; exact e
      · exact .inl ⟨a, e, by omega, q⟩
theorem pos_S (p : Nat → Bool) : ∀ n, ((pos p n).length : Int) = S n (fun l => if p l = true then 1 else 0)
  | 0 => rfl
  | n + 1 => by
    have := pos_S p n
    rw [S]
    by_cases h : p n = true
    · rw [pos_up h, if_pos h]; omega
    · rw [pos_not h, if_neg h]; omega
/-- The columns whose sums down to a row are 1. -/
def cp (x : List (List Int)) (k j : Nat) : Bool := decide (S (k + 1) (fun i => en x i j) = 1)
def tri (x : List (List Int)) : List (List Int) := (List.range x.length).map fun k => pos (cp x k) x.length
theorem tri_len (x : List (List Int)) : (tri x).length = x.length := by simp [tri]
theorem tri_at {x : List (List Int)} {n k : Nat} (hn : x.length = n) (hk : k < n) : (tri x).getD k [] = pos (cp x k) n := by
  rw [getD_at _ _ (by rw [tri_len]; omega)]; simp [tri, hn]
theorem cp_bit {x : List (List Int)} (s : sign x = true) {n : Nat} (hn : x.length = n) {k j : Nat} (hk : k < n) (hj : j < n) : S (k + 1) (fun i => en x i j) = if cp x k j = true then 1 else 0 := by
  have := (pre_in s hn).2 (k + 1) j (by omega) hj
  unfold cp
  by_cases c : S (k + 1) (fun i => en x i j) = 1
  · rw [if_pos (decide_eq_true c)]; exact c
  · rw [if_neg (by simpa using c)]; omega
theorem cp_count {x : List (List Int)} (s : sign x = true) {n : Nat} (hn : x.length = n) {k j : Nat} (hk : k < n) (hj : j ≤ n) : ((pos (cp x k) j).length : Int) = co x (k + 1) j := by
  rw [pos_S, co_comm]
  exact (S_congr fun l hl => (cp_bit s hn hk (by omega)).symm)
theorem tri_row {x : List (List Int)} (s : sign x = true) {n : Nat} (hn : x.length = n) {k : Nat} (hk : k < n) : (pos (cp x k) n).length = k + 1 := by
  have := cp_count s hn hk (Nat.le_refl n)
  have d : co x (k + 1) n = ((k + 1 : Nat) : Int) := by unfold co; rw [S_congr (g := fun _ => 1) (fun i hi => (sign_en s hn).2.2.2.2.1 i (by omega)), S_one]
  omega
theorem cp_next {x : List (List Int)} (s : sign x = true) {n : Nat} (hn : x.length = n) {k j : Nat} (hk : k + 1 < n) (hj : j ≤ n) : (pos (cp x k) j).length ≤ (pos (cp x (k + 1)) j).length ∧ (pos (cp x (k + 1)) j).length ≤ (pos (cp x k) j).length + 1 := by
  have a := cp_count s hn (show k < n by omega) hj
  have b := cp_count s hn hk hj
  have c := co_row x (k + 1) j
  have d := (pre_in s hn).1 (k + 1) j hk hj
  omega
/-- A set's number by its index. -/
def tn (x : List (List Int)) (k i : Nat) : Int := ((tri x).getD k []).getD i 0
theorem tn_in {x : List (List Int)} (s : sign x = true) {n : Nat} (hn : x.length = n) {k i : Nat} (hk : k < n) (hi : i ≤ k) : ∃ a : Nat, tn x k i = a ∧ a < n ∧ cp x k a = true ∧ (pos (cp x k) a).length = i := by
  have e := tri_at hn hk
  have := pos_at (cp x k) n i (by rw [tri_row s hn hk]; omega)
  unfold tn; rw [e]; exact this
theorem tn_up {x : List (List Int)} (s : sign x = true) {n : Nat} (hn : x.length = n) {k i : Nat} (hk : k < n) (hi : i < k) : tn x k i < tn x k (i + 1) := by
  obtain ⟨a, ea, la, pa, ca⟩ := tn_in s hn hk (show i ≤ k by omega)
  obtain ⟨b, eb, lb, pb, cb⟩ := tn_in s hn hk (show i + 1 ≤ k by omega)
  rw [ea, eb]
  have : a < b := Nat.lt_of_not_le fun h => by have := pos_mono (cp x k) h; omega
  omega
theorem tn_between {x : List (List Int)} (s : sign x = true) {n : Nat} (hn : x.length = n) {k i : Nat} (hk : k + 1 < n) (hi : i ≤ k) : tn x (k + 1) i ≤ tn x k i ∧ tn x k i ≤ tn x (k + 1) (i + 1) := by
  obtain ⟨a, ea, la, pa, ca⟩ := tn_in s hn (show k < n by omega) hi
  obtain ⟨b, eb, lb, pb, cb⟩ := tn_in s hn hk (show i ≤ k + 1 by omega)
  obtain ⟨d, ed, ld, pd, cd⟩ := tn_in s hn hk (show i + 1 ≤ k + 1 by omega)
  rw [ea, eb, ed]
  constructor
  · have : ¬ a < b := fun h => by
      have h1 := pos_mono (cp x (k + 1)) (show a + 1 ≤ b by omega)
      have h2 := cp_next s hn hk (show a + 1 ≤ n by omega)
      have h3 := pos_up pa
      omega
    omega
  · have : ¬ d < a := fun h => by
      have h1 := pos_mono (cp x (k + 1)) (show d + 1 ≤ a by omega)
      have h2 := cp_next s hn hk (show a ≤ n by omega)
      have h3 := pos_up pd
      omega
    omega
/-- Both sides make these sets. -/
theorem triangle {x : List (List Int)} (s : sign x = true) {n : Nat} (hn : x.length = n) : Ans (fun k => impl_triangle.f k x) (tri x) := by
  obtain ⟨q, _, h6, _⟩ := sign_en s hn
  have inner : ∀ (R : List (List Int)) (i : Nat), i < n → ∀ (y : List (List Int)), y.length = i → Ans (fun k => impl_triangle.l0 k x (y ++ [pos (cp x i) n]) (n : Int) ((i + 1 : Nat) : Int)) R → ∀ (d j : Nat), j + d = n →
      Ans (fun k => impl_triangle.l1 k x y (i : Int) (pos (cp x i) j) (n : Int) (i : Int) (n : Int) (j : Int)) R := by
    intro R i hi y hy nx d
    induction d with
    | zero =>
      intro j h
      obtain rfl : j = n := by omega
      rw [show ((i + 1 : Nat) : Int) = (i : Int) + 1 by omega] at nx
      refine Ans.step ?_
      simp only [impl_triangle.l1, wrap64_up (show (0 : Int) ≤ i by omega) (by omega)]
      exact Ans.not (by omega) (Ans.yes (by omega) nx)
    | succ d ih =>
      intro j h
      have e := ih (j + 1) (by omega)
      have pl := pos_len (cp x i) j
      rw [show ((j + 1 : Nat) : Int) = (j : Int) + 1 by omega] at e
      have c := column x (j : Int) (by omega) (by omega) (fun r hr => by rw [q.2 r hr]; omega)
      have cl : (colOf x (j : Nat)).length = n := by simp [colOf, q.1]
      have tl : ((colOf x (j : Nat)).take (i + 1)).length = i + 1 := by rw [List.length_take]; omega
      have sm := sumOf ((colOf x (j : Nat)).take (i + 1)) (by omega)
      rw [tl, S_congr (g := fun k => en x k j) (fun k hk => by
        rw [getD_at _ 0 (by omega), List.getElem_take, ← getD_at _ 0 (by omega)]
        exact col_at x j k (by omega))] at sm
      have ci := (pre_in s hn).2 (i + 1) j (by omega) (by omega)
      rw [wrap64_in _ ⟨by omega, by omega⟩] at sm
      refine Ans.step ?_
      simp only [impl_triangle.l1, wrap64_up (show (0 : Int) ≤ i by omega) (by omega), wrap64_up (show (0 : Int) ≤ j by omega) (by omega), show ((i : Int) + 1).toNat = i + 1 by omega]
      refine Ans.yes (by omega) (c.bind (Ans.yes (by omega) (Ans.yes (by omega) (sm.bind ?_))))
      by_cases z : S (i + 1) (fun k => en x k j) = 1
      · rw [pos, if_pos (show cp x i j = true from decide_eq_true z)] at e
        exact Ans.yes z (Ans.yes (by omega) e)
      · rw [pos_not (show ¬ cp x i j = true by unfold cp; simpa using z)] at e
        exact Ans.not z e
  have key : ∀ (d i : Nat), i + d = n → Ans (fun k => impl_triangle.l0 k x ((List.range i).map fun k => pos (cp x k) n) (n : Int) (i : Int)) (tri x) := by
    intro d
    induction d with
    | zero =>
      intro i h
      obtain rfl : i = n := by omega
      refine Ans.step ?_
      simp only [impl_triangle.l0]
      unfold tri; rw [hn]
      exact Ans.not (by omega) (Ans.pure _)
    | succ d ih =>
      intro i h
      have e := ih (i + 1) (by omega)
      rw [List.range_succ, List.map_append] at e
      refine Ans.step ?_
      simp only [impl_triangle.l0, hn]
      exact Ans.yes (by omega) (inner _ i (by omega) _ (by rw [List.length_map, List.length_range]) e n 0 (by omega))
  simp only [impl_triangle.f, hn]
  exact key n 0 (by omega)
/-- The reference's sets. -/
def mapR (n : Nat) (f : Nat → Int) : List Int := (List.range n).map f
theorem mapR_len (n : Nat) (f : Nat → Int) : (mapR n f).length = n := by simp [mapR]
theorem mapR_at {n i : Nat} (f : Nat → Int) (h : i < n) : (mapR n f).getD i 0 = f i := by rw [getD_at _ _ (by rw [mapR_len]; exact h)]; simp [mapR]
theorem mapR_set {n j : Nat} (f g : Nat → Int) (h : j < n) (e : ∀ l, l < n → l ≠ j → g l = f l) : (mapR n f).set j (g j) = mapR n g := by
  refine List.ext_getElem (by simp [mapR]) fun i h1 h2 => ?_
  rw [mapR_len] at h2
  by_cases c : i = j
  · subst c; simp [mapR]
  · rw [List.getElem_set_ne (by omega)]; simp [mapR, e i h2 c]
theorem weSets {x : List (List Int)} (s : sign x = true) {n : Nat} (hn : x.length = n) : Ans (fun k => spec_weSets.f k x) (tri x) := by
  obtain ⟨q, _, h6, _⟩ := sign_en s hn
  have inner : ∀ (R : List (List Int)) (i : Nat), i < n → ∀ (y : List (List Int)), y.length = i → Ans (fun k => spec_weSets.l0 k (y ++ [pos (cp x i) n]) (mapR n fun l => S (i + 1) (fun k => en x k l)) x (n : Int) ((i + 1 : Nat) : Int)) R → ∀ (d j : Nat), j + d = n →
      Ans (fun k => spec_weSets.l1 k y (mapR n fun l => if l < j then S (i + 1) (fun k => en x k l) else S i (fun k => en x k l)) (pos (cp x i) j) x (n : Int) (i : Int) (x.getD i []) (n : Int) (j : Int)) R := by
    intro R i hi y hy nx d
    induction d with
    | zero =>
      intro j h
      obtain rfl : j = n := by omega
      rw [show ((i + 1 : Nat) : Int) = (i : Int) + 1 by omega] at nx
      rw [show (mapR j fun l => if l < j then S (i + 1) (fun k => en x k l) else S i (fun k => en x k l)) = mapR j fun l => S (i + 1) (fun k => en x k l) from List.map_congr_left fun l hl => if_pos (List.mem_range.mp hl)]
      refine Ans.step ?_
      simp only [spec_weSets.l1, wrap64_up (show (0 : Int) ≤ i by omega) (by omega)]
      exact Ans.not (by omega) (Ans.yes (by omega) nx)
    | succ d ih =>
      intro j h
      have e := ih (j + 1) (by omega)
      have pl := pos_len (cp x i) j
      rw [show ((j + 1 : Nat) : Int) = (j : Int) + 1 by omega] at e
      have ci := (pre_in s hn).2 (i + 1) j (by omega) (by omega)
      have rl := q.row hi
      have ml := mapR_len n fun l => if l < j then S (i + 1) (fun k => en x k l) else S i (fun k => en x k l)
      have ev : wrap64 (rd (mapR n fun l => if l < j then S (i + 1) (fun k => en x k l) else S i (fun k => en x k l)) (j : Int) + rd (x.getD i []) (j : Int)) = S (i + 1) (fun k => en x k j) := by
        simp only [rd, Int.toNat_natCast]
        rw [mapR_at _ (by omega), if_neg (by omega)]
        rw [show (x.getD i []).getD j 0 = en x i j from rfl]
        rw [S] at ci
        exact wrap64_in _ ⟨by omega, by omega⟩
      have em := mapR_set (n := n) (j := j) (fun l => if l < j then S (i + 1) (fun k => en x k l) else S i (fun k => en x k l)) (fun l => if l < j + 1 then S (i + 1) (fun k => en x k l) else S i (fun k => en x k l)) (by omega) (fun l hl hne => by
        by_cases c : l < j
        · rw [if_pos (by omega), if_pos c]
        · rw [if_neg (by omega), if_neg c])
      rw [if_pos (by omega)] at em
      refine Ans.step ?_
      simp only [spec_weSets.l1, ev, Int.toNat_natCast, em, Option.bind_some, wrap64_up (show (0 : Int) ≤ j by omega) (by omega)]
      clear ev em
      have er : rd (mapR n fun l => if l < j + 1 then S (i + 1) (fun k => en x k l) else S i (fun k => en x k l)) (j : Int) = S (i + 1) (fun k => en x k j) := by
        simp only [rd, Int.toNat_natCast]
        rw [mapR_at _ (by omega), if_pos (by omega)]
      rw [er]
      refine Ans.yes (by omega) (Ans.yes (by omega) (Ans.yes (by omega) (Ans.yes (by omega) ?_)))
      by_cases z : S (i + 1) (fun k => en x k j) = 1
      · rw [pos, if_pos (show cp x i j = true from decide_eq_true z)] at e
        exact Ans.yes z (Ans.yes (by omega) e)
      · rw [pos_not (show ¬ cp x i j = true by unfold cp; simpa using z)] at e
        exact Ans.not z e
  have key : ∀ (d i : Nat), i + d = n → Ans (fun k => spec_weSets.l0 k ((List.range i).map fun k => pos (cp x k) n) (mapR n fun l => S i (fun k => en x k l)) x (n : Int) (i : Int)) (tri x) := by
    intro d
    induction d with
    | zero =>
      intro i h
      obtain rfl : i = n := by omega
      refine Ans.step ?_
      simp only [spec_weSets.l0]
      unfold tri; rw [hn]
      exact Ans.not (by omega) (Ans.pure _)
    | succ d ih =>
      intro i h
      have e := ih (i + 1) (by omega)
      have rl : (rd_L3 x (i : Int)).length = n := by unfold rd_L3; rw [Int.toNat_natCast]; exact q.row (by omega)
      rw [List.range_succ, List.map_append] at e
      have := inner _ i (by omega) _ (by rw [List.length_map, List.length_range]) e n 0 (by omega)
      rw [show (mapR n fun l => if l < 0 then S (i + 1) (fun k => en x k l) else S i (fun k => en x k l)) = mapR n fun l => S i (fun k => en x k l) from List.map_congr_left fun l hl => if_neg (by omega)] at this
      refine Ans.step ?_
      simp only [spec_weSets.l0, rl]
      exact Ans.yes (by omega) (Ans.yes (by omega) (Ans.yes (by omega) (by simpa only [rd_L3, Int.toNat_natCast, pos, Int.natCast_zero] using this)))
  simp only [spec_weSets.f, hn, Int.toNat_natCast]
  have := key n 0 (by omega)
  rw [show (mapR n fun l => S 0 (fun k => en x k l)) = List.replicate n 0 by
    refine List.ext_getElem (by simp [mapR]) fun i h1 h2 => ?_
    simp [mapR, S]] at this
  exact Ans.yes (by omega) (Ans.yes (by omega) this)
/-- The weight of row sets: both sides answer it modulo 2^64. -/
theorem wrap_mulN (a b : Nat) : wrap64 (wrap64 (a : Int) * (b : Int)) = wrap64 ((a * b : Nat) : Int) := by
  obtain ⟨q, hq⟩ : ∃ q : Int, wrap64 (a : Int) = a + 18446744073709551616 * q := by unfold wrap64; exact ⟨-(((a : Int) + 9223372036854775808) / 18446744073709551616), by omega⟩
  rw [hq, Int.add_mul, Int.mul_assoc, Int.natCast_mul]
  generalize (a : Int) * (b : Int) = c
  generalize q * (b : Int) = d
  unfold wrap64; omega
theorem wrap_mulN2 (a b : Nat) : wrap64 (wrap64 (a : Int) * wrap64 (b : Int)) = wrap64 ((a * b : Nat) : Int) := by
  obtain ⟨q, hq⟩ : ∃ q : Int, wrap64 (b : Int) = b + 18446744073709551616 * q := by unfold wrap64; exact ⟨-(((b : Int) + 9223372036854775808) / 18446744073709551616), by omega⟩
  rw [← wrap_mulN, hq, Int.mul_add, Int.mul_left_comm]
  generalize wrap64 (a : Int) * (b : Int) = c
  generalize wrap64 (a : Int) * q = d
  unfold wrap64; omega
theorem powerW (a : Nat) (e : Int) (he : e ≤ 1000000) : Ans (fun k => impl_power.f k a e) (wrap64 ((a ^ e.toNat : Nat) : Int)) := by
  have key : ∀ (d i : Nat), i + d = e.toNat → Ans (fun k => impl_power.l0 k a (wrap64 ((a ^ i : Nat) : Int)) e (i : Int)) (wrap64 ((a ^ e.toNat : Nat) : Int)) := by
    intro d
    induction d with
    | zero =>
      intro i h
      refine Ans.step ?_
      simp only [impl_power.l0]
      rw [show i = e.toNat by omega]
      exact Ans.not (by omega) (Ans.pure _)
    | succ d ih =>
      intro i h
      have e1 := ih (i + 1) (by omega)
      rw [show ((i + 1 : Nat) : Int) = (i : Int) + 1 by omega, Nat.pow_succ] at e1
      refine Ans.step ?_
      simp only [impl_power.l0, wrap_mulN, wrap64_up (show (0 : Int) ≤ i by omega) (by omega)]
      exact Ans.yes (by omega) e1
  have := key e.toNat 0 (by omega)
  rw [Nat.pow_zero, show wrap64 ((1 : Nat) : Int) = 1 from wrap64_in 1 ⟨by omega, by omega⟩] at this
  exact this
theorem wePowerW (a : Nat) (e : Int) (he : e ≤ 1000000) : Ans (fun k => spec_wePower.f k a e) (wrap64 ((a ^ e.toNat : Nat) : Int)) := by
  have key : ∀ (d i : Nat) (e' : Int), i + d = e.toNat → e'.toNat = d → e' ≤ 1000000 → Ans (fun k => spec_wePower.l0 k a e' (wrap64 ((a ^ i : Nat) : Int))) (wrap64 ((a ^ e.toNat : Nat) : Int)) := by
    intro d
    induction d with
    | zero =>
      intro i e' h1 h2 h3
      refine Ans.step ?_
      simp only [spec_wePower.l0]
      rw [show i = e.toNat by omega]
      exact Ans.not (by omega) (Ans.pure _)
    | succ d ih =>
      intro i e' h1 h2 h3
      have e1 := ih (i + 1) (e' - 1) (by omega) (by omega) (by omega)
      rw [Nat.pow_succ] at e1
      refine Ans.step ?_
      simp only [spec_wePower.l0, wrap_mulN, wrap64_in (e' - 1) ⟨by omega, by omega⟩]
      exact Ans.yes (by omega) e1
  have := key e.toNat 0 e (by omega) rfl he
  rw [Nat.pow_zero, show wrap64 ((1 : Nat) : Int) = 1 from wrap64_in 1 ⟨by omega, by omega⟩] at this
  exact this
/-- A set's number left (0), right (1), or free (2). -/
def code (x : List (List Int)) (k i : Nat) : Nat := if tn x k i = tn x (k + 1) i then 0 else if tn x k i = tn x (k + 1) (i + 1) then 1 else 2
def fc (t c : Nat) : Nat := if c = 0 then t else if c = 1 then 1 else 1 + t
def PF (t : Nat) : List Nat → Nat
  | [] => 1
  | c :: cs => fc t c * PF t cs
def codesOf (x : List (List Int)) (n k : Nat) : List Nat := if k + 1 < n then (List.range (k + 1)).map (code x k) else []
def smS (x : List (List Int)) (k : Nat) : Int := S (k + 1) (fun i => tn x k i)
def dif (x : List (List Int)) (k : Nat) : Int := smS x k - (if k = 0 then 0 else smS x (k - 1))
def dat (x : List (List Int)) (n : Nat) : List (Nat × List Nat) := (List.range n).map fun k => ((dif x k).toNat, codesOf x n k)
def VD (t : Nat) : List (Nat × List Nat) → List Nat → Nat
  | [], _ => 1
  | _, [] => 1
  | (e, cs) :: D, b :: bs => (b ^ e * PF t cs) * VD t D bs
theorem dat_drop {x : List (List Int)} {n k : Nat} (h : k < n) : (dat x n).drop k = ((dif x k).toNat, codesOf x n k) :: (dat x n).drop (k + 1) := by
  rw [drop_at _ (0, []) (by simp [dat]; exact h), getD_at _ _ (by simp [dat]; exact h)]
  simp [dat]
theorem codes_drop {x : List (List Int)} {n k q : Nat} (h : k + 1 < n) (hq : q ≤ k) : (codesOf x n k).drop q = code x k q :: (codesOf x n k).drop (q + 1) := by
  have l : (codesOf x n k).length = k + 1 := by simp [codesOf, h]
  rw [drop_at _ 0 (by omega), getD_at _ _ (by omega)]
  simp [codesOf, h]
def toZ (b : List Nat) : List Int := b.map fun (n : Nat) => (n : Int)
theorem toZ_len (b : List Nat) : (toZ b).length = b.length := by simp [toZ]
theorem toZ_at (b : List Nat) (k : Nat) : rd (toZ b) (k : Int) = ((b.getD k 0 : Nat) : Int) := by
  simp only [rd, Int.toNat_natCast]
  by_cases h : k < b.length
  · rw [getD_at _ _ (by rw [toZ_len]; exact h), getD_at _ _ h]; simp [toZ]
  · rw [getD_out _ _ (by rw [toZ_len]; omega), getD_out _ _ (by omega)]; rfl
theorem sm_in {x : List (List Int)} (s : sign x = true) {n : Nat} (hn : x.length = n) {k q : Nat} (hk : k < n) (hq : q ≤ k + 1) : 0 ≤ S q (fun i => tn x k i) ∧ S q (fun i => tn x k i) ≤ 1000 := by
  have h6 := (sign_en s hn).2.2.1
  have := S_range (n := q) (f := fun i => tn x k i) (a := 0) (b := 6) (fun i hi => by
    obtain ⟨a, e, l, _⟩ := tn_in s hn hk (show i ≤ k by omega)
    rw [e]; omega)
  omega
theorem sumRow {x : List (List Int)} (s : sign x = true) {n : Nat} (hn : x.length = n) {k : Nat} (hk : k < n) : Ans (fun r => impl_sum.f r ((tri x).getD k [])) (smS x k) := by
  have l : ((tri x).getD k []).length = k + 1 := by rw [tri_at hn hk, tri_row s hn hk]
  have h6 := (sign_en s hn).2.2.1
  have := sumOf ((tri x).getD k []) (by omega)
  rw [l] at this
  have b := sm_in s hn hk (Nat.le_refl (k + 1))
  rw [wrap64_in _ ⟨by unfold tn at b; omega, by unfold tn at b; omega⟩] at this
  exact this
theorem rowAt {x : List (List Int)} (k : Nat) : rd_L3 (tri x) (k : Int) = (tri x).getD k [] := by unfold rd_L3; rw [Int.toNat_natCast]
theorem tnAt {x : List (List Int)} (k i : Nat) : rd ((tri x).getD k []) (i : Int) = tn x k i := by simp only [rd, Int.toNat_natCast]; rfl
theorem setWeight {x : List (List Int)} (s : sign x = true) {n : Nat} (hn : x.length = n) {b : List Nat} (hb : b.length = n) (t : Nat) (ht : t ≤ 1000) : Ans (fun k => impl_setWeight.f k x (toZ b) t) (wrap64 ((VD t (dat x n) b : Nat) : Int)) := by
  obtain ⟨_, h1, h6, _⟩ := sign_en s hn
  have tl := tri_len x
  rw [hn] at tl
  have rl : ∀ k, k < n → ((tri x).getD k []).length = k + 1 := fun k hk => by rw [tri_at hn hk, tri_row s hn hk]
  have zl := toZ_len b
  have inner : ∀ (R : Int) (k : Nat), k + 1 < n → ∀ (d q v : Nat), q + d = k + 1 → Ans (fun r => impl_setWeight.l0 r (toZ b) t (tri x) (wrap64 ((v * PF t ((codesOf x n k).drop q) : Nat) : Int)) (tri x) (n : Int) ((k + 1 : Nat) : Int)) R →
      Ans (fun r => impl_setWeight.l1 r (toZ b) t (tri x) (wrap64 (v : Int)) (k : Int) (tri x) (n : Int) (k : Int) ((tri x).getD k []) ((k + 1 : Nat) : Int) (q : Int)) R := by
    intro R k hk d
    induction d with
    | zero =>
      intro q v h nx
      rw [drop_all _ (by simp [codesOf, hk]; omega), PF, Nat.mul_one, show ((k + 1 : Nat) : Int) = (k : Int) + 1 by omega] at nx
      refine Ans.step ?_
      simp only [impl_setWeight.l1, wrap64_up (show (0 : Int) ≤ k by omega) (by omega)]
      exact Ans.not (by omega) nx
    | succ d ih =>
      intro q v h nx
      rw [codes_drop hk (by omega), PF, ← Nat.mul_assoc] at nx
      have e := ih (q + 1) (v * fc t (code x k q)) (by omega) nx
      rw [show ((q + 1 : Nat) : Int) = (q : Int) + 1 by omega] at e
      have w1 : ((k : Int) + 1) = ((k + 1 : Nat) : Int) := by omega
      have r1 := rl k (by omega)
      have r2 := rl (k + 1) hk
      refine Ans.step ?_
      simp only [impl_setWeight.l1, wrap64_up (show (0 : Int) ≤ k by omega) (by omega), wrap64_up (show (0 : Int) ≤ q by omega) (by omega), wrap_mulN]
      simp only [show ((k : Int) + 1) = ((k + 1 : Nat) : Int) by omega, rowAt, tnAt]
      simp only [show ((q : Int) + 1) = ((q + 1 : Nat) : Int) by omega, tnAt]
      simp only [show ((q + 1 : Nat) : Int) = (q : Int) + 1 by omega]
      refine Ans.yes (by omega) (Ans.yes (by omega) (Ans.yes (by omega) (Ans.yes (by omega) (Ans.yes (by omega) (Ans.yes (by omega) ?_)))))
      by_cases c1 : tn x k q = tn x (k + 1) q
      · rw [show code x k q = 0 from if_pos c1, show fc t 0 = t from rfl] at e
        exact Ans.yes c1 e
      · by_cases c2 : tn x k q = tn x (k + 1) (q + 1)
        · rw [show code x k q = 1 by unfold code; rw [if_neg c1, if_pos c2], show fc t 1 = 1 from rfl, Nat.mul_one] at e
          exact Ans.not c1 (Ans.yes (by omega) (Ans.yes (by omega) (Ans.yes c2 e)))
        · rw [show code x k q = 2 by unfold code; rw [if_neg c1, if_neg c2], show fc t 2 = 1 + t from rfl] at e
          rw [show wrap64 (1 + (t : Int)) = ((1 + t : Nat) : Int) by rw [wrap64_in _ ⟨by omega, by omega⟩]; omega, wrap_mulN]
          exact Ans.not c1 (Ans.yes (by omega) (Ans.yes (by omega) (Ans.not c2 e)))
  have key : ∀ (d k v : Nat), k + d = n → Ans (fun r => impl_setWeight.l0 r (toZ b) t (tri x) (wrap64 (v : Int)) (tri x) (n : Int) (k : Int)) (wrap64 ((v * VD t ((dat x n).drop k) (b.drop k) : Nat) : Int)) := by
    intro d
    induction d with
    | zero =>
      intro k v h
      rw [drop_all (dat x n) (by simp [dat]; omega), VD, Nat.mul_one]
      refine Ans.step ?_
      simp only [impl_setWeight.l0]
      exact Ans.not (by omega) (Ans.pure _)
    | succ d ih =>
      intro k v h
      have hk : k < n := by omega
      have sk := sumRow s hn hk
      have bk := sm_in s hn hk (Nat.le_refl (k + 1))
      have pw := powerW (b.getD k 0) (dif x k) (by
        unfold dif smS
        split
        · omega
        · have := sm_in s hn (show k - 1 < n by omega) (Nat.le_refl (k - 1 + 1)); omega)
      rw [dat_drop hk, drop_at b 0 (by omega), VD]
      -- behind the power
      have behind : Ans (fun r => if wrap64 ((k : Int) + 1) = ((tri x).length : Int) then some (wrap64 (wrap64 (v : Int) * wrap64 ((b.getD k 0 ^ (dif x k).toNat : Nat) : Int))) else impl_setWeight.l1 r (toZ b) t (tri x) (wrap64 (wrap64 (v : Int) * wrap64 ((b.getD k 0 ^ (dif x k).toNat : Nat) : Int))) (k : Int) (tri x) (n : Int) (k : Int) ((tri x).getD k []) (((tri x).getD k []).length : Int) 0)
          (wrap64 ((v * (b.getD k 0 ^ (dif x k).toNat * PF t (codesOf x n k) * VD t ((dat x n).drop (k + 1)) (b.drop (k + 1))) : Nat) : Int)) := by
        rw [wrap_mulN2, wrap64_up (show (0 : Int) ≤ k by omega) (by omega)]
        by_cases c : k + 1 < n
        · refine Ans.not (by omega) ?_
          rw [rl k hk]
          have nx := ih (k + 1) (v * b.getD k 0 ^ (dif x k).toNat * PF t (codesOf x n k)) (by omega)
          rw [show v * b.getD k 0 ^ (dif x k).toNat * PF t (codesOf x n k) * VD t ((dat x n).drop (k + 1)) (b.drop (k + 1)) = v * (b.getD k 0 ^ (dif x k).toNat * PF t (codesOf x n k) * VD t ((dat x n).drop (k + 1)) (b.drop (k + 1))) by simp only [Nat.mul_assoc]] at nx
          exact inner _ k c (k + 1) 0 _ (by omega) (by rw [List.drop_zero]; exact nx)
        · refine Ans.yes (by omega) ?_
          rw [show codesOf x n k = [] from if_neg c, PF, Nat.mul_one, drop_all (dat x n) (by simp [dat]; omega), VD, Nat.mul_one]
          exact Ans.pure _
      refine Ans.step ?_
      simp only [impl_setWeight.l0, rowAt, toZ_at]
      refine Ans.yes (by omega) (Ans.yes (by omega) (Ans.yes (by omega) (sk.bind ?_)))
      by_cases c : k = 0
      · subst c
        rw [show dif x 0 = smS x 0 by unfold dif; rw [if_pos rfl, Int.sub_zero]] at pw behind ⊢
        exact Ans.not (by omega) (Ans.yes (by omega) (pw.bind behind))
      · have sp := sumRow s hn (show k - 1 < n by omega)
        have bp := sm_in s hn (show k - 1 < n by omega) (Nat.le_refl (k - 1 + 1))
        rw [show wrap64 ((k : Int) - 1) = ((k - 1 : Nat) : Int) by rw [wrap64_in _ ⟨by omega, by omega⟩]; omega, rowAt]
        refine Ans.yes (by omega) (Ans.yes (by omega) (Ans.yes (by omega) (sp.bind (Ans.yes (by omega) ?_))))
        rw [show wrap64 (smS x k - smS x (k - 1)) = dif x k by unfold dif; rw [if_neg c]; exact wrap64_in _ ⟨by unfold smS; omega, by unfold smS; omega⟩]
        exact pw.bind behind
  simp only [impl_setWeight.f]
  refine (triangle s hn).bind ?_
  rw [tl]
  have := key n 0 1 (by omega)
  rw [Nat.one_mul, List.drop_zero, List.drop_zero, show wrap64 ((1 : Nat) : Int) = 1 from wrap64_in 1 ⟨by omega, by omega⟩] at this
  exact this
theorem weSetWeight {x : List (List Int)} (s : sign x = true) {n : Nat} (hn : x.length = n) {b : List Nat} (hb : b.length = n) (t : Nat) (ht : t ≤ 1000) : Ans (fun k => spec_weSetWeight.f k x (toZ b) t) (wrap64 ((VD t (dat x n) b : Nat) : Int)) := by
  obtain ⟨_, h1, h6, _⟩ := sign_en s hn
  have tl := tri_len x
  rw [hn] at tl
  have rl : ∀ k, k < n → ((tri x).getD k []).length = k + 1 := fun k hk => by rw [tri_at hn hk, tri_row s hn hk]
  have zl := toZ_len b
  have inner : ∀ (R L : Int) (k : Nat), k < n → ∀ (d q v : Nat), q + d = k + 1 → Ans (fun r => spec_weSetWeight.l1 r (toZ b) t (tri x) (wrap64 ((v * PF t ((codesOf x n k).drop q) : Nat) : Int)) L (k : Int) (smS x k) (tri x) (n : Int) (k : Int) ((tri x).getD k []) ((k + 1 : Nat) : Int) ((k + 1 : Nat) : Int)) R →
      Ans (fun r => spec_weSetWeight.l1 r (toZ b) t (tri x) (wrap64 (v : Int)) L (k : Int) (S q (fun i => tn x k i)) (tri x) (n : Int) (k : Int) ((tri x).getD k []) ((k + 1 : Nat) : Int) (q : Int)) R := by
    intro R L k hk d
    induction d with
    | zero =>
      intro q v h nx
      obtain rfl : q = k + 1 := by omega
      rw [drop_all _ (by unfold codesOf; split <;> simp), PF, Nat.mul_one] at nx
      exact nx
    | succ d ih =>
      intro q v h nx
      have r1 := rl k hk
      have b1 := sm_in s hn hk (show q + 1 ≤ k + 1 by omega)
      have es : S (q + 1) (fun i => tn x k i) = S q (fun i => tn x k i) + tn x k q := rfl
      refine Ans.step ?_
      simp only [spec_weSetWeight.l1, wrap64_up (show (0 : Int) ≤ k by omega) (by omega), wrap64_up (show (0 : Int) ≤ q by omega) (by omega), wrap_mulN, tnAt]
      rw [← es, wrap64_in (S (q + 1) (fun i => tn x k i)) ⟨by omega, by omega⟩]
      refine Ans.yes (by omega) (Ans.yes (by omega) (Ans.yes (by omega) ?_))
      by_cases c : k + 1 < n
      · rw [codes_drop c (by omega), PF, ← Nat.mul_assoc] at nx
        have e := ih (q + 1) (v * fc t (code x k q)) (by omega) nx
        rw [show ((q + 1 : Nat) : Int) = (q : Int) + 1 by omega] at e
        have r2 := rl (k + 1) c
        refine Ans.not (by omega) ?_
        simp only [show ((k : Int) + 1) = ((k + 1 : Nat) : Int) by omega, rowAt, tnAt]
        simp only [show ((q : Int) + 1) = ((q + 1 : Nat) : Int) by omega, tnAt]
        simp only [show ((q + 1 : Nat) : Int) = (q : Int) + 1 by omega]
        refine Ans.yes (by omega) (Ans.yes (by omega) (Ans.yes (by omega) ?_))
        by_cases c1 : tn x k q = tn x (k + 1) q
        · rw [show code x k q = 0 from if_pos c1, show fc t 0 = t from rfl] at e
          exact Ans.yes c1 e
        · by_cases c2 : tn x k q = tn x (k + 1) (q + 1)
          · rw [show code x k q = 1 by unfold code; rw [if_neg c1, if_pos c2], show fc t 1 = 1 from rfl, Nat.mul_one] at e
            exact Ans.not c1 (Ans.yes (by omega) (Ans.yes (by omega) (Ans.yes c2 e)))
          · rw [show code x k q = 2 by unfold code; rw [if_neg c1, if_neg c2], show fc t 2 = 1 + t from rfl] at e
            rw [show wrap64 (1 + (t : Int)) = ((1 + t : Nat) : Int) by rw [wrap64_in _ ⟨by omega, by omega⟩]; omega, wrap_mulN]
            exact Ans.not c1 (Ans.yes (by omega) (Ans.yes (by omega) (Ans.not c2 e)))
      · rw [show codesOf x n k = [] from if_neg c, List.drop_nil] at nx
        have e := ih (q + 1) v (by omega) (by rw [show codesOf x n k = [] from if_neg c, List.drop_nil]; exact nx)
        rw [show ((q + 1 : Nat) : Int) = (q : Int) + 1 by omega] at e
        exact Ans.yes (by omega) e
  have key : ∀ (d k v : Nat), k + d = n → Ans (fun r => spec_weSetWeight.l0 r (toZ b) t (tri x) (wrap64 (v : Int)) (if k = 0 then 0 else smS x (k - 1)) (tri x) (n : Int) (k : Int)) (wrap64 ((v * VD t ((dat x n).drop k) (b.drop k) : Nat) : Int)) := by
    intro d
    induction d with
    | zero =>
      intro k v h
      rw [drop_all (dat x n) (by simp [dat]; omega), VD, Nat.mul_one]
      refine Ans.step ?_
      simp only [spec_weSetWeight.l0]
      exact Ans.not (by omega) (Ans.pure _)
    | succ d ih =>
      intro k v h
      have hk : k < n := by omega
      have bk := sm_in s hn hk (Nat.le_refl (k + 1))
      have bd : -1000 ≤ dif x k ∧ dif x k ≤ 1000 := by
        unfold dif smS
        split
        · omega
        · have := sm_in s hn (show k - 1 < n by omega) (Nat.le_refl (k - 1 + 1)); omega
      have pw := wePowerW (b.getD k 0) (dif x k) (by omega)
      rw [dat_drop hk, drop_at b 0 (by omega), VD]
      have nx := ih (k + 1) (v * PF t (codesOf x n k) * b.getD k 0 ^ (dif x k).toNat) (by omega)
      rw [if_neg (by omega), show k + 1 - 1 = k by omega, show v * PF t (codesOf x n k) * b.getD k 0 ^ (dif x k).toNat * VD t ((dat x n).drop (k + 1)) (b.drop (k + 1)) = v * (b.getD k 0 ^ (dif x k).toNat * PF t (codesOf x n k) * VD t ((dat x n).drop (k + 1)) (b.drop (k + 1))) by
        rw [Nat.mul_assoc v, Nat.mul_comm (PF t (codesOf x n k)), Nat.mul_assoc v], show ((k + 1 : Nat) : Int) = (k : Int) + 1 by omega] at nx
      refine Ans.step ?_
      simp only [spec_weSetWeight.l0, rowAt, rl k hk]
      refine Ans.yes (by omega) (Ans.yes (by omega) (Ans.yes (by omega) ?_))
      refine inner _ _ k hk (k + 1) 0 v (by omega) ?_
      rw [List.drop_zero]
      refine Ans.step ?_
      simp only [spec_weSetWeight.l1, wrap64_up (show (0 : Int) ≤ k by omega) (by omega), toZ_at]
      rw [show wrap64 (smS x k - (if k = 0 then 0 else smS x (k - 1))) = dif x k from wrap64_in (dif x k) ⟨by omega, by omega⟩]
      refine Ans.not (by omega) (Ans.yes (by omega) (Ans.yes (by omega) (pw.bind ?_)))
      rw [wrap_mulN2]
      exact nx
  simp only [spec_weSetWeight.f]
  refine (weSets s hn).bind ?_
  rw [tl]
  have := key n 0 1 (by omega)
  rw [Nat.one_mul, List.drop_zero, List.drop_zero, show wrap64 ((1 : Nat) : Int) = 1 from wrap64_in 1 ⟨by omega, by omega⟩, if_pos rfl] at this
  exact this
/-- What a change of a sign matrix answers. -/
def chg (f : List (List Int) → List (List Int)) (x : List (List Int)) : List (List Int) × Bool := if sign x = true then (f x, true) else ([], false)
theorem chg_of {x : List (List Int)} (s : sign x = true) (f : List (List Int) → List (List Int)) : chg f x = (f x, true) := if_pos s
theorem changed {x : List (List Int)} (hx : x.length ≤ 1048576) (p : Nat → List (List Int) → Option (List (List Int))) (f : List (List Int) → List (List Int)) (h : sign x = true → Ans (fun k => p k x) (f x)) : Ans (fun k => impl_changed.f k x (p k)) (chg f x) := by
  simp only [impl_changed.f, chg]
  refine (isSign x hx).bind ?_
  by_cases s : sign x = true
  · rw [if_pos s]; exact Ans.yes s ((h s).bind (Ans.pure _))
  · rw [if_neg s]; exact Ans.not s (Ans.pure _)
/-- The sum of all weights: computed. -/
def zc : List Nat → Nat
  | [] => 0
  | c :: cs => (if c = 0 then 1 else 0) + zc cs
def fcn : List Nat → Nat
  | [] => 0
  | c :: cs => (if c = 0 then 0 else if c = 1 then 0 else 1) + fcn cs
theorem PF_eq (t : Nat) : ∀ cs, PF t cs = t ^ zc cs * (1 + t) ^ fcn cs
  | [] => rfl
  | c :: cs => by
    rw [PF, PF_eq t cs, zc, fcn, fc]
    split
    · rw [Nat.zero_add, Nat.pow_add, Nat.pow_one, Nat.mul_assoc]
    · split
      · rw [Nat.zero_add, Nat.zero_add, Nat.one_mul]
      · rw [Nat.zero_add, Nat.pow_add, Nat.pow_one, Nat.mul_left_comm]
def ZD (D : List (Nat × List Nat)) : Nat := (D.map fun d => zc d.2).foldr (· + ·) 0
def FD (D : List (Nat × List Nat)) : Nat := (D.map fun d => fcn d.2).foldr (· + ·) 0
def BD : List Nat → List Nat → Nat
  | e :: es, b :: bs => b ^ e * BD es bs
  | _, _ => 1
theorem VD_eq (t : Nat) : ∀ (D : List (Nat × List Nat)) (b : List Nat), D.length = b.length → VD t D b = (t ^ ZD D * (1 + t) ^ FD D) * BD (D.map (·.1)) b
  | [], b, _ => by simp [VD, ZD, FD, BD]
  | _ :: _, [], h => by simp at h
  | (e, cs) :: D, b :: bs, h => by
    have ih := VD_eq t D bs (by simpa using h)
    rw [VD, ih, PF_eq]
    show _ = (t ^ (zc cs + ZD D) * (1 + t) ^ (fcn cs + FD D)) * (b ^ e * BD (D.map (·.1)) bs)
    rw [Nat.pow_add, Nat.pow_add]
    simp only [Nat.mul_assoc, Nat.mul_left_comm, Nat.mul_comm]
def valL (t : Nat) (b : List Nat) : List (Nat × Nat × List Nat) → Nat
  | [] => 0
  | (z, f, es) :: L => (t ^ z * (1 + t) ^ f) * BD es b + valL t b L
def pr1 (a t : Nat) : List Nat → Nat
  | [] => 1
  | y :: l => (a + t * y) * pr1 a t l
def prN (t : Nat) : List Nat → Nat
  | [] => 1
  | a :: l => pr1 a t l * prN t l
def rec1 : List (Nat × Nat × List Nat) := [(0, 0, [0])]
def rec2 : List (Nat × Nat × List Nat) := [(0, 0, [1, 0]), (1, 0, [0, 1])]
def rec3 : List (Nat × Nat × List Nat) := [(0, 0, [2, 1, 0]), (1, 0, [2, 0, 1]), (1, 0, [1, 2, 0]), (1, 1, [1, 1, 1]), (2, 0, [1, 0, 2]), (2, 0, [0, 2, 1]), (3, 0, [0, 1, 2])]
def rec4 : List (Nat × Nat × List Nat) := [(0, 0, [3, 2, 1, 0]), (1, 0, [3, 2, 0, 1]), (1, 0, [3, 1, 2, 0]), (1, 1, [3, 1, 1, 1]), (2, 0, [3, 1, 0, 2]), (2, 0, [3, 0, 2, 1]), (3, 0, [3, 0, 1, 2]), (1, 0, [2, 3, 1, 0]), (2, 0, [2, 3, 0, 1]), (1, 1, [2, 2, 2, 0]), (1, 2, [2, 2, 1, 1]), (2, 1, [2, 2, 0, 2]), (2, 0, [2, 1, 3, 0]), (2, 1, [2, 1, 2, 1]), (2, 1, [2, 1, 1, 2]), (3, 0, [2, 1, 0, 3]), (2, 1, [2, 1, 2, 1]), (3, 1, [2, 1, 1, 2]), (3, 0, [2, 0, 3, 1]), (3, 1, [2, 0, 2, 2]), (4, 0, [2, 0, 1, 3]), (2, 0, [1, 3, 2, 0]), (2, 1, [1, 3, 1, 1]), (3, 0, [1, 3, 0, 2]), (3, 0, [1, 2, 3, 0]), (3, 1, [1, 2, 2, 1]), (3, 1, [1, 2, 1, 2]), (4, 0, [1, 2, 0, 3]), (2, 1, [1, 2, 2, 1]), (3, 1, [1, 2, 1, 2]), (3, 1, [1, 1, 3, 1]), (3, 2, [1, 1, 2, 2]), (4, 1, [1, 1, 1, 3]), (4, 0, [1, 0, 3, 2]), (5, 0, [1, 0, 2, 3]), (3, 0, [0, 3, 2, 1]), (4, 0, [0, 3, 1, 2]), (4, 0, [0, 2, 3, 1]), (4, 1, [0, 2, 2, 2]), (5, 0, [0, 2, 1, 3]), (5, 0, [0, 1, 3, 2]), (6, 0, [0, 1, 2, 3])]
def recN : Nat → List (Nat × Nat × List Nat)
  | 1 => rec1
  | 2 => rec2
  | 3 => rec3
  | _ => rec4
def lists : Nat → List (List Nat)
  | 0 => [[]]
  | n + 1 => (lists n).flatMap fun l => [0 :: l, 1 :: l, 2 :: l, 3 :: l, 4 :: l]
theorem lists_mem : ∀ (n : Nat) (b : List Nat), b.length = n → (∀ x ∈ b, x ≤ 4) → b ∈ lists n
  | 0, b, h, _ => by rw [List.length_eq_zero_iff.mp h]; simp [lists]
  | n + 1, [], h, _ => by simp at h
  | n + 1, a :: l, h, hb => by
    have ih := lists_mem n l (by simpa using h) (fun x hx => hb x (by simp [hx]))
    have ha := hb a (by simp)
    rw [lists, List.mem_flatMap]
    refine ⟨l, ih, ?_⟩
    rcases (show a = 0 ∨ a = 1 ∨ a = 2 ∨ a = 3 ∨ a = 4 by omega) with rfl | rfl | rfl | rfl | rfl <;> simp
def chk (n : Nat) (L : List (Nat × Nat × List Nat)) (t : Nat) : Bool := (lists n).all fun b => Nat.beq (valL t b L) (prN t b) && Nat.ble (prN t b) 64000000
theorem chk_all : ∀ n : Nat, 1 ≤ n → n ≤ 4 → ∀ t : Nat, t ≤ 4 → chk n (recN n) t = true := by
  intro n h1 h2 t ht
  rcases (show n = 1 ∨ n = 2 ∨ n = 3 ∨ n = 4 by omega) with rfl | rfl | rfl | rfl
  all_goals rcases (show t = 0 ∨ t = 1 ∨ t = 2 ∨ t = 3 ∨ t = 4 by omega) with rfl | rfl | rfl | rfl | rfl
  all_goals decide +kernel
def chkMem (n : Nat) : Bool := (allOf n).all fun m => sign m
theorem rec_ok : ∀ n : Nat, 1 ≤ n → n ≤ 4 → ((allOf n).map fun m => (ZD (dat m n), FD (dat m n), (dat m n).map (·.1))) = recN n ∧ chkMem n = true ∧ (allOf n).length ≤ 42 := by
  intro n h1 h2
  rcases (show n = 1 ∨ n = 2 ∨ n = 3 ∨ n = 4 by omega) with rfl | rfl | rfl | rfl
  all_goals decide +kernel
theorem valL_map (t : Nat) (b : List Nat) {n : Nat} (hb : b.length = n) : ∀ (L : List (List (List Int))), valL t b (L.map fun m => (ZD (dat m n), FD (dat m n), (dat m n).map (·.1))) = (L.map fun m => VD t (dat m n) b).sum
  | [] => rfl
  | m :: L => by
    rw [List.map_cons, List.map_cons, List.sum_cons, valL, valL_map t b hb L, VD_eq t (dat m n) b (by simp [dat, hb])]
theorem sumVD {n : Nat} (h1 : 1 ≤ n) (h2 : n ≤ 4) {b : List Nat} (hb : b.length = n) (h4 : ∀ x ∈ b, x ≤ 4) {t : Nat} (ht : t ≤ 4) : ((allOf n).map fun m => VD t (dat m n) b).sum = prN t b ∧ prN t b ≤ 64000000 := by
  have h := List.all_eq_true.mp (chk_all n h1 h2 t ht) b (lists_mem n b hb h4)
  rw [Bool.and_eq_true] at h
  rw [← valL_map t b hb, (rec_ok n h1 h2).1]
  exact ⟨Nat.eq_of_beq_eq_true h.1, Nat.le_of_ble_eq_true h.2⟩
theorem all_sign {n : Nat} (h1 : 1 ≤ n) (h2 : n ≤ 4) {m : List (List Int)} (hm : m ∈ allOf n) : sign m = true := List.all_eq_true.mp (rec_ok n h1 h2).2.1 m hm
theorem le_sum : ∀ {l : List Nat} {a : Nat}, a ∈ l → a ≤ l.sum
  | [], _, h => by simp at h
  | b :: l, a, h => by
    rw [List.sum_cons]
    rcases List.mem_cons.mp h with rfl | h
    · omega
    · have := le_sum h; omega
theorem sum_cast : ∀ l : List Nat, (l.map fun (n : Nat) => (n : Int)).sum = (l.sum : Int)
  | [] => rfl
  | a :: l => by rw [List.map_cons, List.sum_cons, List.sum_cons, sum_cast l]; omega
/-- What is given, as both sides look at it. -/
def given (l : List Int) (t : Int) : Bool := decide (1 ≤ (l.length : Int) ∧ (l.length : Int) ≤ 4) && (allIn l 0 4 && decide (0 ≤ t ∧ t ≤ 4))
theorem given_both (l : List Int) (hl : l.length ≤ 1000) (t : Int) : Ans (fun k => impl_areSet.f k l t) (given l t) ∧ Ans (fun k => spec_weGiven.f k l t) (given l t) := by
  have a := areWithin l (by omega) 0 4
  have b := l1All l (by omega) 0 4
  unfold given
  simp only [impl_areSet.f, impl_isWeighted.f, within, spec_weGiven.f, spec_weSide.f, l1In, Option.bind_some]
  by_cases c : decide (1 ≤ (l.length : Int) ∧ (l.length : Int) ≤ 4) = true
  · rw [c, Bool.true_and]
    cases d : allIn l 0 4 with
    | true => rw [d] at a b; rw [Bool.true_and]; exact ⟨Ans.yes rfl (a.bind (Ans.yes rfl (Ans.pure _))), Ans.yes rfl (b.bind (Ans.yes rfl (Ans.pure _)))⟩
    | false => rw [d] at a b; rw [Bool.false_and]; exact ⟨Ans.yes rfl (a.bind (Ans.not (by simp) (Ans.pure _))), Ans.yes rfl (b.bind (Ans.not (by simp) (Ans.pure _)))⟩
  · rw [Bool.eq_false_iff.mpr c, Bool.false_and]; exact ⟨Ans.not (by simp) (Ans.pure _), Ans.not (by simp) (Ans.pure _)⟩
theorem given_of {l : List Int} {t : Int} (g : given l t = true) : ∃ (b : List Nat) (u : Nat), l = toZ b ∧ t = u ∧ u ≤ 4 ∧ 1 ≤ b.length ∧ b.length ≤ 4 ∧ ∀ x ∈ b, x ≤ 4 := by
  unfold given allIn at g
  simp only [Bool.and_eq_true, decide_eq_true_eq, List.all_eq_true] at g
  obtain ⟨a, b, c⟩ := g
  refine ⟨l.map Int.toNat, t.toNat, ?_, by omega, by omega, by rw [List.length_map]; omega, by rw [List.length_map]; omega, fun x hx => ?_⟩
  · unfold toZ
    rw [List.map_map]
    refine (List.map_id l).symm.trans (List.map_congr_left fun x hx => ?_)
    have := b x hx
    simp only [id, Function.comp]; omega
  · obtain ⟨y, hy, rfl⟩ := List.mem_map.mp hx
    have := b y hy
    omega
theorem toZ_nat (b : List Nat) : (toZ b).map Int.toNat = b := by
  unfold toZ
  rw [List.map_map]
  exact (List.map_congr_left fun x _ => by simp).trans (List.map_id b)
def swRes (x : List (List Int)) (l : List Int) (t : Int) : Int × Bool := if sign x = true then (if given l t = true then (if l.length = x.length then (wrap64 ((VD t.toNat (dat x x.length) (l.map Int.toNat) : Nat) : Int), true) else (0, false)) else (0, false)) else (0, false)
theorem setWeights (x : List (List Int)) (hx : x.length ≤ 1000) (l : List Int) (hl : l.length ≤ 1000) (t : Int) : Ans (fun k => impl_SetWeight.f k x l t) (swRes x l t) ∧ Ans (fun k => spec_SetWeight.f k x l t) (swRes x l t) := by
  have s1 := isSign x (by omega)
  have s2 := sgGood x (by omega)
  obtain ⟨g1, g2⟩ := given_both l hl t
  unfold swRes
  simp only [impl_SetWeight.f, spec_SetWeight.f]
  by_cases s : sign x = true
  · rw [if_pos s]
    by_cases g : given l t = true
    · rw [if_pos g]
      rw [s] at s1 s2
      rw [g] at g1 g2
      by_cases c : l.length = x.length
      · rw [if_pos c]
        obtain ⟨b, u, rfl, rfl, hu, b1, b4, _⟩ := given_of g
        rw [toZ_len] at c
        rw [toZ_nat, Int.toNat_natCast]
        have w1 := setWeight s rfl c u (by omega)
        have w2 := weSetWeight s rfl c u (by omega)
        have zl := toZ_len b
        exact ⟨s1.bind (Ans.yes rfl (g1.bind (Ans.yes rfl (Ans.yes (by omega) (w1.bind (Ans.pure _)))))), s2.bind (Ans.yes rfl (g2.bind (Ans.yes rfl (Ans.yes (by omega) (w2.bind (Ans.pure _))))))⟩
      · rw [if_neg c]
        exact ⟨s1.bind (Ans.yes rfl (g1.bind (Ans.yes rfl (Ans.not (by omega) (Ans.pure _))))), s2.bind (Ans.yes rfl (g2.bind (Ans.yes rfl (Ans.not (by omega) (Ans.pure _)))))⟩
    · rw [if_neg g]
      rw [s] at s1 s2
      rw [Bool.eq_false_iff.mpr g] at g1 g2
      exact ⟨s1.bind (Ans.yes rfl (g1.bind (Ans.not (by simp) (Ans.pure _)))), s2.bind (Ans.yes rfl (g2.bind (Ans.not (by simp) (Ans.pure _))))⟩
  · rw [if_neg s]
    rw [Bool.eq_false_iff.mpr s] at s1 s2
    exact ⟨s1.bind (Ans.not (by simp) (Ans.pure _)), s2.bind (Ans.not (by simp) (Ans.pure _))⟩
theorem setLoop (z : List Int) (u T : Nat) (hT : T ≤ 64000000) (f : List (List Int) → Nat) (L : List (List (List Int))) (hL : L.length ≤ 1000) (hf : ∀ m ∈ L, Ans (fun k => spec_weSetWeight.f k m z u) ((f m : Nat) : Int)) :
    ∀ (d i s : Nat), i + d = L.length → s + ((L.drop i).map f).sum = T → Ans (fun k => spec_SetSum.l0 k z u (s : Int) L (L.length : Int) (i : Int)) ((T : Int), true) := by
  intro d
  induction d with
  | zero =>
    intro i s h e
    rw [drop_all _ (by omega)] at e
    rw [List.map_nil, List.sum_nil, Nat.add_zero] at e
    refine Ans.step ?_
    simp only [spec_SetSum.l0, e]
    exact Ans.not (by omega) (Ans.pure _)
  | succ d ih =>
    intro i s h e
    have hm := getD_mem (x := L) [] (show i < L.length by omega)
    rw [drop_at _ [] (show i < L.length by omega), List.map_cons, List.sum_cons, ← Nat.add_assoc] at e
    have e1 := ih (i + 1) _ (by omega) e
    have w := hf _ hm
    rw [show ((i + 1 : Nat) : Int) = (i : Int) + 1 by omega] at e1
    refine Ans.step ?_
    simp only [spec_SetSum.l0, rd_L4, Int.toNat_natCast, wrap64_up (show (0 : Int) ≤ i by omega) (by omega)]
    refine Ans.yes (by omega) (Ans.yes (by omega) (Ans.yes (by omega) (w.bind ?_)))
    generalize f (L.getD i []) = v at *
    rw [show wrap64 ((s : Int) + (v : Int)) = ((s + v : Nat) : Int) by rw [wrap64_in _ ⟨by omega, by omega⟩]; omega]
    exact e1
def ssRes (l : List Int) (t : Int) : Int × Bool := if given l t = true then (((prN t.toNat (l.map Int.toNat) : Nat) : Int), true) else (0, false)
theorem setSums (l : List Int) (hl : l.length ≤ 1000) (t : Int) : Ans (fun k => impl_SetSum.f k l t) (ssRes l t) ∧ Ans (fun k => spec_SetSum.f k l t) (ssRes l t) := by
  obtain ⟨g1, g2⟩ := given_both l hl t
  unfold ssRes
  simp only [impl_SetSum.f, spec_SetSum.f]
  by_cases g : given l t = true
  case neg =>
    rw [if_neg g]
    rw [Bool.eq_false_iff.mpr g] at g1 g2
    exact ⟨g1.bind (Ans.not (by simp) (Ans.pure _)), g2.bind (Ans.not (by simp) (Ans.pure _))⟩
  rw [if_pos g]
  rw [g] at g1 g2
  obtain ⟨b, u, rfl, rfl, hu, b1, b4, bx⟩ := given_of g
  rw [toZ_nat, Int.toNat_natCast]
  obtain ⟨n, hn⟩ : ∃ n, b.length = n := ⟨_, rfl⟩
  rw [hn] at b1 b4
  have zl := toZ_len b
  rw [hn] at zl
  obtain ⟨sm, sb⟩ := sumVD b1 b4 hn bx hu
  have each : ∀ m ∈ allOf n, wrap64 ((VD u (dat m n) b : Nat) : Int) = ((VD u (dat m n) b : Nat) : Int) ∧ VD u (dat m n) b ≤ 64000000 := fun m hm => by
    have := le_sum (List.mem_map.mpr ⟨m, hm, rfl⟩ : VD u (dat m n) b ∈ (allOf n).map fun m => VD u (dat m n) b)
    exact ⟨wrap64_in _ ⟨by omega, by omega⟩, by omega⟩
  have len := (rec_ok n b1 b4).2.2
  have lenm : ∀ m ∈ allOf n, m.length = n := fun m hm => (allOf_sq n m hm).1
  have tot : ((allOf n).map fun m => ((VD u (dat m n) b : Nat) : Int)).sum = ((prN u b : Nat) : Int) := by
    rw [← sm, ← sum_cast, List.map_map]; rfl
  constructor
  · refine g1.bind (Ans.yes rfl ?_)
    rw [zl]
    have T := totalM n (by omega) (fun k q => impl_SetSum_1.f k q (toZ b) u) (fun m => ((VD u (dat m n) b : Nat) : Int)) (by omega) (fun m hm => by
      have w := setWeight (all_sign b1 b4 hm) (lenm m hm) hn u (by omega)
      rw [(each m hm).1] at w
      simp only [impl_SetSum_1.f]
      exact w.bind (Ans.pure _)) (fun m hm => by have := (each m hm).2; omega)
    rw [tot] at T
    exact T.bind (Ans.pure _)
  · refine g2.bind (Ans.yes rfl ?_)
    rw [zl]
    refine (weAll n b1 (by omega)).bind ?_
    have := setLoop (toZ b) u (prN u b) (by omega) (fun m => VD u (dat m n) b) (allOf n) (by omega) (fun m hm => by
      have w := weSetWeight (all_sign b1 b4 hm) (lenm _ hm) hn u (by omega)
      rw [(each m hm).1] at w
      exact w) (allOf n).length 0 0 (by omega) (by rw [List.drop_zero, Nat.zero_add]; exact sm)
    exact this
theorem uSame (x y : List Int) (hx : x.length ≤ 17592186044416) : Ans (fun k => laws_uSame.f k x y) (decide (x = y)) := by
  simp only [laws_uSame.f]
  by_cases hl : (x.length : Int) = (y.length : Int)
  · refine Ans.yes hl ?_
    have key : ∀ (d : Nat) (i : Int), 0 ≤ i → i + d = x.length → Ans (fun k => laws_uSame.l0 k x y (x.length : Int) i) (decide (x.drop i.toNat = y.drop i.toNat)) := by
      intro d
      induction d with
      | zero =>
        intro i h0 h1
        refine Ans.step ?_
        simp only [laws_uSame.l0]
        rw [drop_all x (by omega), drop_all y (by omega)]
        exact Ans.not (by omega) (Ans.pure _)
      | succ d ih =>
        intro i h0 h1
        refine Ans.step ?_
        simp only [laws_uSame.l0]
        refine Ans.yes (by omega) (Ans.yes h0 (Ans.yes (by omega) (Ans.yes (by omega) ?_)))
        rw [drop_at x 0 (show i.toNat < x.length by omega), drop_at y 0 (show i.toNat < y.length by omega)]
        by_cases c : rd x i = rd y i
        · have e := ih (i + 1) (by omega) (by omega)
          rw [wrap64_in (i + 1) ⟨by omega, by omega⟩]
          rw [show (i + 1).toNat = i.toNat + 1 by omega] at e
          refine Ans.yes c ?_
          rw [show x.getD i.toNat 0 = y.getD i.toNat 0 from c]
          simpa using e
        · refine Ans.not c ?_
          rw [show decide (x.getD i.toNat 0 :: x.drop (i.toNat + 1) = y.getD i.toNat 0 :: y.drop (i.toNat + 1)) = false from decide_eq_false (fun h => c (by injection h))]
          exact Ans.pure _
    exact key x.length 0 (by omega) (by omega)
  · refine Ans.not hl ?_
    rw [decide_eq_false (fun h => hl (by rw [h]))]
    exact Ans.pure _
theorem uSameRows (x : List (List Int)) (hx : x.length ≤ 1000000) (hr : ∀ r ∈ x, r.length ≤ 1000000) : Ans (fun k => laws_uSameRows.f k x x) true := by
  simp only [laws_uSameRows.f]
  refine Ans.yes trivial ?_
  have key : ∀ (d : Nat) (i : Int), 0 ≤ i → i + d = x.length → Ans (fun k => laws_uSameRows.l0 k x x (x.length : Int) i) true := by
    intro d
    induction d with
    | zero => intro i h0 h1; exact Ans.step (by simp only [laws_uSameRows.l0]; exact Ans.not (by omega) (Ans.pure _))
    | succ d ih =>
      intro i h0 h1
      have hm := hr _ (rd_L1_mem h0 (show i < x.length by omega))
      refine Ans.step ?_
      simp only [laws_uSameRows.l0, wrap64_in (i + 1) ⟨by omega, by omega⟩]
      exact Ans.yes (by omega) (Ans.yes h0 (Ans.yes (by omega) (Ans.yes (by omega) ((uSame _ _ (by omega)).bind (Ans.yes (by simp) (ih (i + 1) (by omega) (by omega)))))))
  exact key x.length 0 (by omega) (by omega)
theorem wrap_pred' {i : Nat} (h : 1 ≤ i) (h2 : i ≤ 1000000) : wrap64 ((i : Int) - 1) = ((i - 1 : Nat) : Int) := by rw [wrap64_in _ ⟨by omega, by omega⟩]; omega
theorem wrap_succ' {i : Nat} (h2 : i ≤ 1000000) : wrap64 ((i : Int) + 1) = ((i + 1 : Nat) : Int) := by rw [wrap64_in _ ⟨by omega, by omega⟩]; omega
theorem uHasD (v : Int) (l : List Int) (hl : l.length ≤ 1000) : Ans (fun k => laws_uHas.f k l v) (decide (v ∈ l)) := by
  have key : ∀ (d i : Nat), i + d = l.length → Ans (fun k => laws_uHas.l0 k v l (l.length : Int) (i : Int)) (decide (v ∈ l.drop i)) := by
    intro d
    induction d with
    | zero =>
      intro i h
      rw [drop_all _ (by omega)]
      refine Ans.step ?_
      simp only [laws_uHas.l0]
      rw [decide_eq_false (by simp)]
      exact Ans.not (by omega) (Ans.pure _)
    | succ d ih =>
      intro i h
      have e := ih (i + 1) (by omega)
      rw [show ((i + 1 : Nat) : Int) = (i : Int) + 1 by omega] at e
      rw [drop_at l 0 (by omega)]
      refine Ans.step ?_
      simp only [laws_uHas.l0, wrap64_up (show (0 : Int) ≤ i by omega) (by omega), rd, Int.toNat_natCast]
      refine Ans.yes (by omega) (Ans.yes (by omega) (Ans.yes (by omega) ?_))
      by_cases c : l.getD i 0 = v
      · rw [decide_eq_true (by rw [c]; simp)]; exact Ans.yes c (Ans.pure _)
      · rw [show decide (v ∈ l.getD i 0 :: l.drop (i + 1)) = decide (v ∈ l.drop (i + 1)) by
          rw [decide_eq_decide, List.mem_cons]
          exact ⟨fun h => h.resolve_left (fun h => c h.symm), .inr⟩]
        exact Ans.not c e
  have := key l.length 0 (by omega)
  rwa [List.drop_zero] at this
theorem law_sets (c : List Int) {x : List (List Int)} (s : sign x = true) {n : Nat} (hn : x.length = n) (J : Ans (fun k => laws_FnRowSets.j4 k c) true) : Ans (fun k => laws_FnRowSets.l0 k c x (tri x) (tri x) (n : Int) 0) true := by
  obtain ⟨q, _, h6, _⟩ := sign_en s hn
  have tl := tri_len x
  rw [hn] at tl
  have rl : ∀ k, k < n → ((tri x).getD k []).length = k + 1 := fun k hk => by rw [tri_at hn hk, tri_row s hn hk]
  -- a number of a set
  have one : ∀ (i j : Nat), i < n → j ≤ i → Ans (fun k => laws_FnRowSets.l1 k c x (tri x) (i : Int) ((tri x).getD i []) (tri x) (n : Int) (i : Int) ((tri x).getD i []) ((i + 1 : Nat) : Int) ((j : Int) + 1)) true →
      Ans (fun k => laws_FnRowSets.j3 k c x (tri x) (i : Int) ((tri x).getD i []) (tn x i j) (tri x) (n : Int) (i : Int) ((tri x).getD i []) ((i + 1 : Nat) : Int) (j : Int) false) true := by
    intro i j hi hj nx
    obtain ⟨a, ea, la, pa, _⟩ := tn_in s hn hi hj
    have rx : (rd_L3 x (i : Int)).length = n := by unfold rd_L3; rw [Int.toNat_natCast]; exact q.row hi
    have ex : rd (rd_L3 x (i : Int)) (a : Int) = en x i a := by simp only [rd, rd_L3, Int.toNat_natCast, en]
    have c1 := cp_bit s hn hi la
    rw [if_pos pa] at c1
    have nw := wrap64_up (show (0 : Int) ≤ j by omega) (by omega)
    refine Ans.step ?_
    simp only [laws_FnRowSets.j3, ea, ex, nw]
    clear nw
    refine Ans.not (by simp) ?_
    by_cases z : i = 0
    · subst z
      rw [show S (0 + 1) (fun k => en x k a) = 0 + en x 0 a from rfl] at c1
      exact Ans.not (by omega) (Ans.yes (by omega) (Ans.yes (by omega) (Ans.yes (by omega) (Ans.yes (by omega) (Ans.yes (by omega) nx)))))
    · have u := uHasD (a : Int) ((tri x).getD (i - 1) []) (by rw [rl (i - 1) (by omega)]; omega)
      have c2 := cp_bit s hn (show i - 1 < n by omega) la
      rw [show S (i + 1) (fun k => en x k a) = S i (fun k => en x k a) + en x i a from rfl] at c1
      rw [show i - 1 + 1 = i by omega] at c2
      have um : decide ((a : Int) ∈ (tri x).getD (i - 1) []) = cp x (i - 1) a := by
        rw [Bool.eq_iff_iff, decide_eq_true_eq, tri_at hn (by omega), pos_mem]
        exact ⟨fun ⟨b, e, _, p⟩ => by rw [show a = b by omega]; exact p, fun p => ⟨a, rfl, la, p⟩⟩
      rw [um] at u
      rw [wrap_pred' (show 1 ≤ i by omega) (by omega), rowAt]
      refine Ans.yes (by omega) (Ans.yes (by omega) (Ans.yes (by omega) (u.bind (Ans.yes (by omega) (Ans.yes (by omega) (Ans.yes (by omega) (Ans.yes (by omega) ?_)))))))
      cases p : cp x (i - 1) a with
      | true =>
        rw [p, if_pos rfl] at c2
        exact Ans.not (by omega) (Ans.yes rfl (Ans.yes (by omega) nx))
      | false =>
        rw [p, if_neg (by simp)] at c2
        exact Ans.yes (by omega) (Ans.not (by simp) nx)
  have inner : ∀ (i : Nat), i < n → Ans (fun k => laws_FnRowSets.l0 k c x (tri x) (tri x) (n : Int) ((i : Int) + 1)) true → ∀ (d j : Nat), j + d = i + 1 →
      Ans (fun k => laws_FnRowSets.l1 k c x (tri x) (i : Int) ((tri x).getD i []) (tri x) (n : Int) (i : Int) ((tri x).getD i []) ((i + 1 : Nat) : Int) (j : Int)) true := by
    intro i hi nx d
    induction d with
    | zero =>
      intro j h
      refine Ans.step ?_
      simp only [laws_FnRowSets.l1, wrap64_up (show (0 : Int) ≤ i by omega) (by omega)]
      exact Ans.not (by omega) nx
    | succ d ih =>
      intro j h
      have e := ih (j + 1) (by omega)
      rw [show ((j + 1 : Nat) : Int) = (j : Int) + 1 by omega] at e
      have O := one i j hi (by omega) e
      have ri := rl i hi
      -- what stands below
      have low : Ans (fun k => if wrap64 ((i : Int) + 1) < ((tri x).length : Int) then (if 0 ≤ wrap64 ((i : Int) + 1) then (if (j : Int) < ((rd_L3 (tri x) (wrap64 ((i : Int) + 1))).length : Int) then (if tn x i j < rd (rd_L3 (tri x) (wrap64 ((i : Int) + 1))) (j : Int) then laws_FnRowSets.j3 k c x (tri x) (i : Int) ((tri x).getD i []) (tn x i j) (tri x) (n : Int) (i : Int) ((tri x).getD i []) ((i + 1 : Nat) : Int) (j : Int) true else (if 0 ≤ wrap64 ((j : Int) + 1) then (if wrap64 ((j : Int) + 1) < ((rd_L3 (tri x) (wrap64 ((i : Int) + 1))).length : Int) then laws_FnRowSets.j3 k c x (tri x) (i : Int) ((tri x).getD i []) (tn x i j) (tri x) (n : Int) (i : Int) ((tri x).getD i []) ((i + 1 : Nat) : Int) (j : Int) (decide (tn x i j > rd (rd_L3 (tri x) (wrap64 ((i : Int) + 1))) (wrap64 ((j : Int) + 1)))) else none) else none)) else none) else none) else laws_FnRowSets.j3 k c x (tri x) (i : Int) ((tri x).getD i []) (tn x i j) (tri x) (n : Int) (i : Int) ((tri x).getD i []) ((i + 1 : Nat) : Int) (j : Int) false) true := by
        rw [wrap_succ' (show i ≤ 1000000 by omega), wrap_succ' (show j ≤ 1000000 by omega), rowAt, tnAt, tnAt]
        by_cases z : i + 1 < n
        · have b := tn_between s hn z (show j ≤ i by omega)
          have r1 := rl (i + 1) z
          rw [decide_eq_false (show ¬ tn x i j > tn x (i + 1) (j + 1) by omega)]
          exact Ans.yes (by omega) (Ans.yes (by omega) (Ans.yes (by omega) (Ans.not (by omega) (Ans.yes (by omega) (Ans.yes (by omega) O)))))
        · exact Ans.not (by omega) O
      refine Ans.step ?_
      simp only [laws_FnRowSets.l1, tnAt]
      refine Ans.yes (by omega) (Ans.yes (by omega) (Ans.yes (by omega) ?_))
      by_cases z : j = 0
      · exact Ans.not (by omega) low
      · have b := tn_up s hn hi (show j - 1 < i by omega)
        rw [show j - 1 + 1 = j by omega] at b
        rw [wrap_pred' (show 1 ≤ j by omega) (by omega), tnAt]
        exact Ans.yes (by omega) (Ans.yes (by omega) (Ans.yes (by omega) (Ans.not (by omega) low)))
  have key : ∀ (d i : Nat), i + d = n → Ans (fun k => laws_FnRowSets.l0 k c x (tri x) (tri x) (n : Int) (i : Int)) true := by
    intro d
    induction d with
    | zero =>
      intro i h
      refine Ans.step ?_
      simp only [laws_FnRowSets.l0]
      exact Ans.not (by omega) J
    | succ d ih =>
      intro i h
      have e := ih (i + 1) (by omega)
      rw [show ((i + 1 : Nat) : Int) = (i : Int) + 1 by omega] at e
      have ri := rl i (by omega)
      have := inner i (by omega) e (i + 1) 0 (by omega)
      refine Ans.step ?_
      simp only [laws_FnRowSets.l0, rowAt, wrap_succ' (show i ≤ 1000000 by omega), ri]
      exact Ans.yes (by omega) (Ans.yes (by omega) (Ans.yes (by omega) (Ans.yes trivial this)))
  exact key n 0 (by omega)
theorem law_product (b : List Nat) (hb : b.length ≤ 4) (bx : ∀ x ∈ b, x ≤ 4) (t : Nat) (ht : t ≤ 4) (hp : prN t b ≤ 64000000) : Ans (fun k => laws_FnRowSets.l2 k (toZ b) t ((prN t b : Nat) : Int) 1 (b.length : Int) 0) true := by
  have zl := toZ_len b
  have bd : ∀ i, b.getD i 0 ≤ 4 := fun i => by
    by_cases h : i < b.length
    · exact bx _ (getD_mem 0 h)
    · rw [getD_out _ _ (by omega)]; omega
  have inner : ∀ (i : Nat), i < b.length → ∀ (d j v : Nat), j + d = b.length → Ans (fun k => laws_FnRowSets.l2 k (toZ b) t ((prN t b : Nat) : Int) (wrap64 ((v * pr1 (b.getD i 0) t (b.drop j) : Nat) : Int)) (b.length : Int) ((i : Int) + 1)) true →
      Ans (fun k => laws_FnRowSets.l3 k (toZ b) t ((prN t b : Nat) : Int) (wrap64 (v : Int)) (i : Int) (j : Int) (b.length : Int) (i : Int)) true := by
    intro i hi d
    induction d with
    | zero =>
      intro j v h nx
      rw [drop_all b (by omega), pr1, Nat.mul_one] at nx
      refine Ans.step ?_
      simp only [laws_FnRowSets.l3, zl, wrap64_up (show (0 : Int) ≤ i by omega) (by omega)]
      exact Ans.not (by omega) nx
    | succ d ih =>
      intro j v h nx
      rw [drop_at b 0 (by omega), pr1, ← Nat.mul_assoc] at nx
      have e := ih (j + 1) _ (by omega) nx
      rw [show ((j + 1 : Nat) : Int) = (j : Int) + 1 by omega] at e
      have m : t * b.getD j 0 ≤ 4 * 4 := Nat.mul_le_mul ht (bd j)
      have bi := bd i
      refine Ans.step ?_
      simp only [laws_FnRowSets.l3, zl, toZ_at, wrap64_up (show (0 : Int) ≤ j by omega) (by omega)]
      rw [show wrap64 ((t : Int) * ((b.getD j 0 : Nat) : Int)) = ((t * b.getD j 0 : Nat) : Int) by rw [← Int.natCast_mul]; exact wrap64_in _ ⟨by omega, by omega⟩,
        show wrap64 (((b.getD i 0 : Nat) : Int) + ((t * b.getD j 0 : Nat) : Int)) = ((b.getD i 0 + t * b.getD j 0 : Nat) : Int) by rw [← Int.natCast_add]; exact wrap64_in _ ⟨by omega, by omega⟩, wrap_mulN]
      exact Ans.yes (by omega) (Ans.yes (by omega) (Ans.yes (by omega) (Ans.yes (by omega) e)))
  have key : ∀ (d i v : Nat), i + d = b.length → v * prN t (b.drop i) = prN t b → Ans (fun k => laws_FnRowSets.l2 k (toZ b) t ((prN t b : Nat) : Int) (wrap64 (v : Int)) (b.length : Int) (i : Int)) true := by
    intro d
    induction d with
    | zero =>
      intro i v h e
      rw [drop_all b (by omega), prN, Nat.mul_one] at e
      refine Ans.step ?_
      simp only [laws_FnRowSets.l2, e]
      rw [wrap64_in ((prN t b : Nat) : Int) ⟨by omega, by omega⟩, beq_self_eq_true]
      exact Ans.not (by omega) (Ans.pure _)
    | succ d ih =>
      intro i v h e
      rw [drop_at b 0 (by omega), prN, ← Nat.mul_assoc] at e
      have e1 := ih (i + 1) _ (by omega) e
      rw [show ((i + 1 : Nat) : Int) = (i : Int) + 1 by omega] at e1
      have := inner i (by omega) d (i + 1) v (by omega) e1
      refine Ans.step ?_
      simp only [laws_FnRowSets.l2, wrap_succ' (show i ≤ 1000000 by omega)]
      exact Ans.yes (by omega) this
  have := key b.length 0 1 (by omega) (by rw [List.drop_zero, Nat.one_mul])
  rw [show wrap64 ((1 : Nat) : Int) = 1 from wrap64_in 1 ⟨by omega, by omega⟩] at this
  exact this
theorem draw_bases (c : List Int) (hc : ∀ x ∈ c, (Lit.int .u8 x).wf = true) (n : Int) : ∀ (d : Nat) (l : List Int) (a s : Int), (n - l.length).toNat ≤ d → l.length + d ≤ 900 → 0 ≤ a → a + 4 * d ≤ 100000000000 → ∃ l' a' s', Ans (fun k => spec_l1Cur_bases.l0 k n l c a s) (l', a', s') ∧ a ≤ a' ∧ a' ≤ a + 4 * d ∧ l'.length ≤ 1000
  | 0, l, a, s, h, hl, h0, h1 => ⟨l, a, s, Ans.step (by simp only [spec_l1Cur_bases.l0]; exact Ans.not (by omega) (Ans.pure _)), by omega, by omega, by omega⟩
  | d + 1, l, a, s, h, hl, h0, h1 => by
    by_cases z : (l.length : Int) < n
    · obtain ⟨v, a1, s1, e1, p1, q1⟩ := draw_weight c hc a s 4 h0 (by omega)
      obtain ⟨l', a', s', e2, p2, q2, r2⟩ := draw_bases c hc n d (l ++ [v]) a1 s1 (by rw [List.length_append, List.length_singleton]; omega) (by rw [List.length_append, List.length_singleton]; omega) (by omega) (by omega)
      refine ⟨l', a', s', Ans.step ?_, by omega, by omega, r2⟩
      simp only [spec_l1Cur_bases.l0, e1, Option.bind_some]
      exact Ans.yes z (Ans.yes (by omega) e2)
    · exact ⟨l, a, s, Ans.step (by simp only [spec_l1Cur_bases.l0]; exact Ans.not z (Ans.pure _)), by omega, by omega, by omega⟩
theorem drawW (c : List Int) (hc : ∀ x ∈ c, (Lit.int .u8 x).wf = true) : ∃ m l t, Ans (fun k => spec_DrawSetWeight.f k c) (m, l, t) ∧ m.length ≤ 7 ∧ l.length ≤ 1000 := by
  obtain ⟨m, a1, s1, f1, p1, q1, m1, m2⟩ := draw_signs c hc 0 0 4 (by omega) (by omega) (by omega) (by omega)
  obtain ⟨v, a2, s2, e2, p2, q2, v0, v1⟩ := draw_pick c hc a1 s1 12 (by omega) (by omega)
  obtain ⟨n, hn⟩ : ∃ n, n = wrap64 ((m.length : Int) + (wrap64 (Int.tdiv v 11))) := ⟨_, rfl⟩
  have nb : n ≤ 100 := by
    have t1 : 0 ≤ Int.tdiv v 11 := Int.tdiv_nonneg v0 (by omega)
    have t2 : Int.tdiv v 11 ≤ v := Int.tdiv_le_self _ v0
    rw [hn, wrap64_in (Int.tdiv v 11) ⟨by omega, by omega⟩, wrap64_in _ ⟨by omega, by omega⟩]; omega
  obtain ⟨l, a3, s3, f3, p3, q3, hl⟩ := draw_bases c hc n 100 [] a2 s2 (by simp; omega) (by simp) (by omega) (by omega)
  obtain ⟨t, a4, s4, e4, p4, q4⟩ := draw_weight c hc a3 s3 4 (by omega) (by omega)
  refine ⟨m, l, t, ?_, m1, hl⟩
  simp only [spec_DrawSetWeight.f]
  refine f1.bind ?_
  simp only [e2, Option.bind_some, ← hn]
  refine Ans.bind (a := (l, a3, s3)) (by simp only [spec_l1Cur_bases.f]; exact f3) ?_
  simp only [e4, Option.bind_some]
  exact Ans.pure _
theorem drawS (c : List Int) (hc : ∀ x ∈ c, (Lit.int .u8 x).wf = true) : ∃ l t, Ans (fun k => spec_DrawSetSum.f k c) (l, t) ∧ l.length ≤ 1000 := by
  obtain ⟨v, a1, s1, e1, p1, q1, v0, v1⟩ := draw_side c hc 0 0 4 (by omega) (by omega) (by omega) (by omega)
  obtain ⟨n, hn, nb⟩ : ∃ n, spec_l1Most.f 0 v = some n ∧ n ≤ 100 := by
    simp only [spec_l1Most.f]
    split
    · exact ⟨_, rfl, by omega⟩
    · exact ⟨_, rfl, by omega⟩
  obtain ⟨l, a3, s3, f3, p3, q3, hl⟩ := draw_bases c hc n 100 [] a1 s1 (by simp; omega) (by simp) (by omega) (by omega)
  obtain ⟨t, a4, s4, e4, p4, q4⟩ := draw_weight c hc a3 s3 4 (by omega) (by omega)
  refine ⟨l, t, ?_, hl⟩
  simp only [spec_DrawSetSum.f, e1, hn, Option.bind_some]
  refine Ans.bind (a := (l, a3, s3)) (by simp only [spec_l1Cur_bases.f]; exact f3) ?_
  simp only [e4, Option.bind_some]
  exact Ans.pure _
theorem law_j4 (c : List Int) (hc : ∀ x ∈ c, (Lit.int .u8 x).wf = true) : Ans (fun k => laws_FnRowSets.j4 k c) true := by
  obtain ⟨m, l, t, D, hm, hl⟩ := drawW c hc
  obtain ⟨w1, w2⟩ := setWeights m (by omega) l hl t
  obtain ⟨l', u, E, hl'⟩ := drawS c hc
  obtain ⟨v1, v2⟩ := setSums l' hl' u
  refine Ans.step ?_
  simp only [laws_FnRowSets.j4]
  refine D.bind (w1.bind (w2.bind (Ans.not (by simp) (Ans.step ?_))))
  simp only [laws_FnRowSets.j5]
  refine Ans.not (by simp) (E.bind (v1.bind (v2.bind (Ans.not (by simp) (Ans.step ?_)))))
  simp only [laws_FnRowSets.j6]
  refine Ans.not (by simp) ?_
  by_cases g : given l' u = true
  · rw [show ssRes l' u = (((prN u.toNat (l'.map Int.toNat) : Nat) : Int), true) from if_pos g]
    obtain ⟨b, w, rfl, rfl, hu, b1, b4, bx⟩ := given_of g
    obtain ⟨_, sb⟩ := sumVD b1 b4 rfl bx hu
    rw [toZ_nat, Int.toNat_natCast, toZ_len]
    exact Ans.yes rfl (law_product b b4 bx w hu sb)
  · rw [show ssRes l' u = (0, false) from if_neg g]
    exact Ans.not (by simp) (Ans.pure _)
theorem FnRowSets : laws_FnRowSets.Pure := by
  intro c m _ _ hc _ _ hm
  refine Ans.at (g := fun k => laws_FnRowSets.f k c m) ?_
  simp only [laws_FnRowSets.f]
  obtain ⟨b, hb⟩ := big_ans c m
  simp only [hb, Option.bind_some]
  cases b with
  | true => exact Ans.yes rfl (Ans.pure _)
  | false =>
    refine Ans.not (by simp) ?_
    obtain ⟨x, a, s, f, _, _, h1, h2⟩ := draw_signs c hc 0 0 5 (by omega) (by omega) (by omega) (by omega)
    have D : Ans (fun k => spec_DrawRowSets.f k c) x := by
      simp only [spec_DrawRowSets.f, spec_DrawKindsOf.f]
      exact (f.bind (h := fun _ bt => some bt.1) (Ans.pure _)).bind (Ans.pure _)
    have I : Ans (fun k => impl_RowSets.f k x) (chg tri x) := by
      simp only [impl_RowSets.f, impl_TriangleOf.f]
      exact (changed (x := x) (by omega) (fun k x => impl_triangle.f k x) tri fun s => triangle s rfl).bind (Ans.pure _)
    have J : Ans (fun k => spec_RowSets.f k x) (chg tri x) := by
      simp only [spec_RowSets.f, chg]
      refine (sgGood x (by omega)).bind ?_
      by_cases s : sign x = true
      · rw [if_pos s]; exact Ans.yes s ((weSets s rfl).bind (Ans.pure _))
      · rw [if_neg s]; exact Ans.not s (Ans.pure _)
    refine D.bind (I.bind (J.bind (Ans.not (by simp) ?_)))
    by_cases sg : sign x = true
    · rw [chg_of sg] at *
      obtain ⟨q, _, h6, _⟩ := sign_en sg rfl
      have tl := tri_len x
      have sm : ∀ r ∈ tri x, r.length ≤ 1000000 := fun r hr => by
        obtain ⟨k, hk, rfl⟩ := List.mem_map.mp hr
        have := pos_len (cp x k) x.length; omega
      refine (uSameRows (tri x) (by omega) sm).bind (Ans.step ?_)
      simp only [laws_FnRowSets.j0]
      rw [tl]
      exact Ans.not (by simp) (Ans.yes trivial (law_sets m sg rfl (law_j4 m hm)))
    · rw [show chg tri x = ([], false) from if_neg sg] at *
      refine (uSameRows [] (by simp) (by simp)).bind (Ans.step ?_)
      simp only [laws_FnRowSets.j0]
      exact Ans.not (by simp) (Ans.not (by simp) (law_j4 m hm))

end Go.Proofs.Ytkagefbncfkjnaa.Pure
