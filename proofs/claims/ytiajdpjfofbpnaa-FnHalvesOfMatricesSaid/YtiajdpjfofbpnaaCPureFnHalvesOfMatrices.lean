/- For all bytes the statement on the halves of symmetric matrices answers true: no condition. -/
import Derived.Test.YtiajdpjfofbpnaaCFnHalvesOfMatricesx6
import Derived.Test.YtiajdpjfofbpnaaQTwo
import Derived.Test.YtiajdpjfofbpnaaQByte
import Derived.Test.YtiajdpjfofbpnaaQByte
namespace Go.Proofs.Ytiajdpjfofbpnaa.Pure
open Go.RowKit Go.Proofs.Ytiajdpjfofbpnaa.X Go.Proofs.YtiajdpjfofbpnaaW.PrintWords Go.Proofs.YtiajdpjfofbpnaaW.PrintLast Go.Proofs.Ytiajdpjfofbpnaa.Q
set_option linter.unusedVariables false
set_option linter.unusedSimpArgs false
theorem rd_L1_mem {x : List (List Int)} {i : Int} (h0 : 0 ≤ i) (h1 : i < x.length) : rd_L3 x i ∈ x := by unfold rd_L3; exact getD_mem _ (by omega)
theorem LeO.far {α : Type} {g : Nat → Option α} {r : α} (h : ∀ k, LeO (g k) (g (k + 1))) (m : Nat) (e : g m = some r) : Ans g r :=
  ⟨m, fun k hk => by
    obtain ⟨j, rfl⟩ : ∃ j, k = m + j := ⟨k - m, by omega⟩
    clear hk
    induction j with
    | zero => exact e
    | succ j ih => exact h _ r ih⟩
theorem l1In (a b c : Int) : spec_l1In.f a b c = some (decide (b ≤ a ∧ a ≤ c)) := by
  unfold spec_l1In.f
  by_cases h : a ≥ b
  · rw [if_pos h]; refine congrArg some (decide_eq_decide.mpr ⟨fun q => ⟨h, q⟩, fun q => q.2⟩)
  · rw [if_neg h, decide_eq_false (by omega)]
theorem within (a b c : Int) : impl_within.f a b c = some (decide (b ≤ a ∧ a ≤ c)) := by
  unfold impl_within.f
  by_cases h : b ≤ a
  · rw [if_pos h]; refine congrArg some (decide_eq_decide.mpr ⟨fun q => ⟨h, q⟩, fun q => q.2⟩)
  · rw [if_neg h, decide_eq_false (by omega)]
theorem containsL (x : List (List Int)) (hx : x.length ≤ 17592186044416) (g : List Int → Option Bool) (p : List Int → Bool) (hg : ∀ a, g a = some (p a)) : Ans (fun k => slices_ContainsFunc_int_int.f k x g) (x.any p) := by
  have key : ∀ (d : Nat) (i : Int), 0 ≤ i → i + d = x.length → ∃ z : Int, Ans (fun k => slices_IndexFunc_int_int.l0 k x g (x.length : Int) i) z ∧ decide (z ≥ 0) = (x.drop i.toNat).any p := by
    intro d
    induction d with
    | zero =>
      intro i h0 h1
      refine ⟨-1, Ans.step ?_, by rw [List.drop_eq_nil_of_le (by omega)]; rfl⟩
      simp only [slices_IndexFunc_int_int.l0]; exact Ans.not (by omega) (Ans.pure _)
    | succ d ih =>
      intro i h0 h1
      have hd := drop_at x [] (show i.toNat < x.length by omega)
      by_cases c : p (rd_L3 x i) = true
      · refine ⟨i, Ans.step ?_, by rw [hd, List.any_cons, show p (x.getD i.toNat []) = true from c]; simp [h0]⟩
        simp only [slices_IndexFunc_int_int.l0, hg, Option.bind_some]
        exact Ans.yes (by omega) (Ans.yes h0 (Ans.yes (by omega) (Ans.yes c (Ans.pure _))))
      · obtain ⟨z, e, hz⟩ := ih (i + 1) (by omega) (by omega)
        refine ⟨z, Ans.step ?_, by rw [hz, hd, List.any_cons, show p (x.getD i.toNat []) = false from Bool.eq_false_iff.mpr c, show (i + 1).toNat = i.toNat + 1 by omega]; simp⟩
        simp only [slices_IndexFunc_int_int.l0, hg, Option.bind_some, wrap64_up h0 (by omega : i ≤ 4611686018427387904)]
        exact Ans.yes (by omega) (Ans.yes h0 (Ans.yes (by omega) (Ans.not c e)))
  obtain ⟨z, e, hz⟩ := key x.length 0 (by omega) (by omega)
  simp only [slices_ContainsFunc_int_int.f, slices_IndexFunc_int_int.f]
  have := e.bind (h := fun _ t => some (decide (t ≥ 0))) (Ans.pure (decide (z ≥ 0)))
  rwa [hz] at this
theorem isSquare (x : List (List Int)) (hx : x.length ≤ 17592186044416) : Ans (fun k => impl_isSquare.f k x) (x.all fun r => decide (r.length = x.length)) := by
  have e := containsL x hx (fun x0_ => impl_isSquare_1.f x0_ x) (fun r => (r.length : Int) != (x.length : Int)) (fun a => rfl)
  have := e.bind (h := fun _ t => some (!t)) (Ans.pure _)
  rw [List.not_any_eq_all_not] at this
  rwa [show (fun r : List Int => !((r.length : Int) != (x.length : Int))) = fun r => decide (r.length = x.length) from funext fun r => by by_cases h : r.length = x.length <;> simp [bne, h]; omega] at this
def colOf (x : List (List Int)) (j : Int) : List Int := x.map fun r => rd r j
theorem range_drop {n i : Nat} (h : i < n) : (List.range n).drop i = i :: (List.range n).drop (i + 1) := by
  rw [drop_at (List.range n) 0 (by simpa using h), getD_at _ _ (by simpa using h), List.getElem_range]
theorem sgTurn (x : List (List Int)) (h : x.length ≤ 1048576) (hr : ∀ r ∈ x, r.length = x.length) : Ans (fun k => spec_sgTurn.f k x) ((List.range x.length).map fun (j : Nat) => colOf x j) := by
  have inner : ∀ (out : List (List Int)) (j : Int) (R : List (List Int)), 0 ≤ j → j < x.length → out.length ≤ 1048576 → ∀ (d : Nat) (i : Int) (acc : List Int), 0 ≤ i → i + d = x.length → acc.length + d ≤ 1048576 →
      Ans (fun k => spec_sgTurn.l0 k x (out ++ [acc ++ colOf (x.drop i.toNat) j]) (x.length : Int) (j + 1)) R → Ans (fun k => spec_sgTurn.l1 k x out j acc (x.length : Int) j x (x.length : Int) i) R := by
    intro out j R hj hj' ho d
    induction d with
    | zero =>
      intro i acc h0 h1 h2 e
      rw [List.drop_eq_nil_of_le (by omega), colOf, List.map_nil, List.append_nil] at e; refine Ans.step ?_
      simp only [spec_sgTurn.l1, wrap64_up hj (by omega : j ≤ 4611686018427387904)]; exact Ans.not (by omega) (Ans.yes (by omega) e)
    | succ d ih =>
      intro i acc h0 h1 h2 e
      have hm := rd_L1_mem h0 (show i < x.length by omega)
      rw [drop_at x [] (show i.toNat < x.length by omega), show x.getD i.toNat [] = rd_L3 x i from rfl] at e
      refine Ans.step ?_
      simp only [spec_sgTurn.l1, wrap64_up h0 (by omega : i ≤ 4611686018427387904)]
      refine Ans.yes (by omega) (Ans.yes h0 (Ans.yes (by omega) (Ans.yes hj (Ans.yes (by have := hr _ hm; omega) (Ans.yes (by omega) (ih (i + 1) _ (by omega) (by omega) (by simp only [List.length_append, List.length_singleton]; omega) ?_))))))
      rw [show (i + 1).toNat = i.toNat + 1 by omega, List.append_assoc, List.singleton_append]
      exact e
  have key : ∀ (d : Nat) (j : Int) (out : List (List Int)), 0 ≤ j → j + d = x.length → out.length + d ≤ 1048576 → Ans (fun k => spec_sgTurn.l0 k x out (x.length : Int) j) (out ++ ((List.range x.length).drop j.toNat).map fun (j : Nat) => colOf x j) := by
    intro d
    induction d with
    | zero =>
      intro j out h0 h1 h2
      rw [List.drop_eq_nil_of_le (by simp only [List.length_range]; omega), List.map_nil, List.append_nil]; refine Ans.step ?_
      simp only [spec_sgTurn.l0]; exact Ans.not (by omega) (Ans.pure _)
    | succ d ih =>
      intro j out h0 h1 h2
      have e := ih (j + 1) (out ++ [colOf x j]) (by omega) (by omega) (by simp only [List.length_append, List.length_singleton]; omega)
      rw [show (j + 1).toNat = j.toNat + 1 by omega, List.append_assoc, List.singleton_append] at e
      rw [range_drop (show j.toNat < x.length by omega), List.map_cons, show ((j.toNat : Nat) : Int) = j by omega]
      refine Ans.step ?_
      simp only [spec_sgTurn.l0]
      exact Ans.yes (by omega) (inner out j _ h0 (by omega) (by omega) x.length 0 [] (by omega) (by omega) (by simp only [List.length_nil]; omega) e)
  exact key x.length 0 [] (by omega) (by omega) (by simp only [List.length_nil]; omega)
/-- The numbers are -1, 0, 1, and their sums from s on are 0 or 1, the last one 1. -/
def walkOk : Int → List Int → Bool
  | s, [] => s == 1
  | s, a :: x => decide (-1 ≤ a ∧ a ≤ 1) && (decide (0 ≤ s + a ∧ s + a ≤ 1) && walkOk (s + a) x)
theorem alternate (x : List Int) (hx : x.length ≤ 17592186044416) : Ans (fun k => impl_alternate.f k x) (walkOk 0 x) := by
  have key : ∀ (d : Nat) (i s : Int), 0 ≤ i → i + d = x.length → 0 ≤ s → s ≤ 1 → Ans (fun k => impl_alternate.l0 k s x (x.length : Int) i) (walkOk s (x.drop i.toNat)) := by
    intro d
    induction d with
    | zero =>
      intro i s h0 h1 s0 s1
      rw [List.drop_eq_nil_of_le (by omega)]; refine Ans.step ?_
      simp only [impl_alternate.l0]; exact Ans.not (by omega) (Ans.pure _)
    | succ d ih =>
      intro i s h0 h1 s0 s1
      rw [drop_at x 0 (show i.toNat < x.length by omega), show x.getD i.toNat 0 = rd x i from rfl, walkOk]
      refine Ans.step ?_
      simp only [impl_alternate.l0, within, Option.bind_some, wrap64_up h0 (by omega : i ≤ 4611686018427387904)]
      refine Ans.yes (by omega) (Ans.yes h0 (Ans.yes (by omega) ?_))
      by_cases c1 : decide (-1 ≤ rd x i ∧ rd x i ≤ 1) = true
      · have b1 := of_decide_eq_true c1
        have hw : wrap64 (s + rd x i) = s + rd x i := wrap64_in _ ⟨by omega, by omega⟩
        simp only [hw]
        rw [c1, Bool.true_and]
        refine Ans.yes rfl ?_
        by_cases c2 : decide (0 ≤ s + rd x i ∧ s + rd x i ≤ 1) = true
        · have b2 := of_decide_eq_true c2
          have e := ih (i + 1) (s + rd x i) (by omega) (by omega) b2.1 b2.2
          rw [show (i + 1).toNat = i.toNat + 1 by omega] at e
          rw [c2, Bool.true_and]; exact Ans.yes rfl e
        · rw [Bool.eq_false_iff.mpr c2, Bool.false_and]; exact Ans.not (by simp) (Ans.pure _)
      · rw [Bool.eq_false_iff.mpr c1, Bool.false_and]; exact Ans.not (by simp) (Ans.pure _)
  exact key x.length 0 0 (by omega) (by omega) (by omega) (by omega)
theorem sgRows (x : List (List Int)) (hx : x.length ≤ 17592186044416) (hr : ∀ r ∈ x, r.length ≤ 17592186044416) : Ans (fun k => spec_sgRows.f k x) (x.all (walkOk 0)) := by
  have inner : ∀ (row : List Int) (m : Int) (R : Bool), row.length ≤ 17592186044416 → 0 ≤ m → m ≤ 17592186044416 → Ans (fun k => spec_sgRows.l0 k x (x.length : Int) (m + 1)) R →
      ∀ (d : Nat) (i s : Int), 0 ≤ i → i + d = row.length → 0 ≤ s → s ≤ 1 → Ans (fun k => spec_sgRows.l1 k s x (x.length : Int) m row (row.length : Int) i) (walkOk s (row.drop i.toNat) && R) := by
    intro row m R hrow hm hm' e d
    induction d with
    | zero =>
      intro i s h0 h1 s0 s1
      rw [List.drop_eq_nil_of_le (by omega), walkOk]; refine Ans.step ?_
      simp only [spec_sgRows.l1, wrap64_up hm (by omega : m ≤ 4611686018427387904)]
      refine Ans.not (by omega) ?_
      by_cases c : s = 1
      · rw [show (s == 1) = true by simp [c], Bool.true_and]; exact Ans.yes c e
      · rw [show (s == 1) = false by simp [c], Bool.false_and]; exact Ans.not c (Ans.pure _)
    | succ d ih =>
      intro i s h0 h1 s0 s1
      rw [drop_at row 0 (show i.toNat < row.length by omega), show row.getD i.toNat 0 = rd row i from rfl, walkOk]
      refine Ans.step ?_
      simp only [spec_sgRows.l1, l1In, Option.bind_some, wrap64_up h0 (by omega : i ≤ 4611686018427387904)]
      refine Ans.yes (by omega) (Ans.yes h0 (Ans.yes (by omega) ?_))
      by_cases c1 : decide (-1 ≤ rd row i ∧ rd row i ≤ 1) = true
      · have b1 := of_decide_eq_true c1
        have hw : wrap64 (s + rd row i) = s + rd row i := wrap64_in _ ⟨by omega, by omega⟩
        simp only [hw]
        rw [c1, Bool.true_and]
        refine Ans.yes rfl ?_
        by_cases c2 : decide (0 ≤ s + rd row i ∧ s + rd row i ≤ 1) = true
        · have b2 := of_decide_eq_true c2
          have e := ih (i + 1) (s + rd row i) (by omega) (by omega) b2.1 b2.2
          rw [show (i + 1).toNat = i.toNat + 1 by omega] at e
          rw [c2, Bool.true_and]; exact Ans.yes rfl e
        · rw [Bool.eq_false_iff.mpr c2, Bool.false_and, Bool.false_and]; exact Ans.not (by simp) (Ans.pure _)
      · rw [Bool.eq_false_iff.mpr c1, Bool.false_and, Bool.false_and]; exact Ans.not (by simp) (Ans.pure _)
  have key : ∀ (d : Nat) (i : Int), 0 ≤ i → i + d = x.length → Ans (fun k => spec_sgRows.l0 k x (x.length : Int) i) ((x.drop i.toNat).all (walkOk 0)) := by
    intro d
    induction d with
    | zero =>
      intro i h0 h1
      rw [List.drop_eq_nil_of_le (by omega)]; refine Ans.step ?_
      simp only [spec_sgRows.l0]; exact Ans.not (by omega) (Ans.pure _)
    | succ d ih =>
      intro i h0 h1
      have hm := rd_L1_mem h0 (show i < x.length by omega)
      rw [drop_at x [] (show i.toNat < x.length by omega), show x.getD i.toNat [] = rd_L3 x i from rfl, List.all_cons]
      have e := ih (i + 1) (by omega) (by omega)
      rw [show (i + 1).toNat = i.toNat + 1 by omega] at e
      refine Ans.step ?_
      simp only [spec_sgRows.l0]
      exact Ans.yes (by omega) (Ans.yes h0 (Ans.yes (by omega) (inner _ i _ (hr _ hm) h0 (by omega) e _ 0 0 (by omega) (show (0 : Int) + ((rd_L3 x i).length : Nat) = _ by omega) (by omega) (by omega))))
  exact key x.length 0 (by omega) (by omega)
theorem column (x : List (List Int)) (j : Int) (h : x.length ≤ 1048576) (hj : 0 ≤ j) (hr : ∀ r ∈ x, j < r.length) : Ans (fun k => impl_column.f k x j) (colOf x j) := by
  have key : ∀ (d : Nat) (i : Int) (acc : List Int), 0 ≤ i → i + d = x.length → acc.length + d ≤ 1048576 → Ans (fun k => impl_column.l0 k j acc x (x.length : Int) i) (acc ++ colOf (x.drop i.toNat) j) := by
    intro d
    induction d with
    | zero =>
      intro i acc h0 h1 h2
      rw [List.drop_eq_nil_of_le (by omega), colOf, List.map_nil, List.append_nil]; refine Ans.step ?_
      simp only [impl_column.l0]; exact Ans.not (by omega) (Ans.pure _)
    | succ d ih =>
      intro i acc h0 h1 h2
      have hm := rd_L1_mem h0 (show i < x.length by omega)
      have e := ih (i + 1) (acc ++ [rd (rd_L3 x i) j]) (by omega) (by omega) (by simp only [List.length_append, List.length_singleton]; omega)
      rw [show (i + 1).toNat = i.toNat + 1 by omega, List.append_assoc, List.singleton_append] at e
      rw [drop_at x [] (show i.toNat < x.length by omega), show x.getD i.toNat [] = rd_L3 x i from rfl]
      refine Ans.step ?_
      simp only [impl_column.l0, wrap64_up h0 (by omega : i ≤ 4611686018427387904)]
      exact Ans.yes (by omega) (Ans.yes h0 (Ans.yes (by omega) (Ans.yes hj (Ans.yes (hr _ hm) (Ans.yes (by omega) e)))))
  exact key x.length 0 [] (by omega) (by omega) (by simp only [List.length_nil]; omega)
theorem sgSquare (x : List (List Int)) (h : x.length ≤ 1048576) : Ans (fun k => spec_sgSquare.f k x) (decide (1 ≤ x.length ∧ x.length ≤ 6) && x.all fun r => decide (r.length = x.length)) := by
  have key : ∀ (d : Nat) (i : Int), 0 ≤ i → i + d = x.length → Ans (fun k => spec_sgSquare.l0 k x x (x.length : Int) i) ((x.drop i.toNat).all fun r => decide (r.length = x.length)) := by
    intro d
    induction d with
    | zero =>
      intro i h0 h1
      rw [List.drop_eq_nil_of_le (by omega)]; refine Ans.step ?_
      simp only [spec_sgSquare.l0]; exact Ans.not (by omega) (Ans.pure _)
    | succ d ih =>
      intro i h0 h1
      rw [drop_at x [] (show i.toNat < x.length by omega), show x.getD i.toNat [] = rd_L3 x i from rfl, List.all_cons]
      have e := ih (i + 1) (by omega) (by omega)
      rw [show (i + 1).toNat = i.toNat + 1 by omega] at e
      refine Ans.step ?_
      simp only [spec_sgSquare.l0, wrap64_up h0 (by omega : i ≤ 4611686018427387904)]
      refine Ans.yes (by omega) (Ans.yes h0 (Ans.yes (by omega) ?_))
      by_cases c : (rd_L3 x i).length = x.length
      · rw [decide_eq_true c, Bool.true_and]; exact Ans.yes (by omega) e
      · rw [decide_eq_false c, Bool.false_and]; exact Ans.not (by omega) (Ans.pure _)
  simp only [spec_sgSquare.f, l1In, Option.bind_some]
  by_cases c : decide ((1 : Int) ≤ (x.length : Int) ∧ (x.length : Int) ≤ 6) = true
  · have b := of_decide_eq_true c
    rw [show decide (1 ≤ x.length ∧ x.length ≤ 6) = true from decide_eq_true ⟨by omega, by omega⟩, Bool.true_and]
    exact Ans.yes c (key x.length 0 (by omega) (by omega))
  · have b : ¬ ((1 : Int) ≤ (x.length : Int) ∧ (x.length : Int) ≤ 6) := fun h => c (decide_eq_true h)
    rw [show decide (1 ≤ x.length ∧ x.length ≤ 6) = false from decide_eq_false (by omega), Bool.false_and]
    exact Ans.not c (Ans.pure _)
/-- What a sign matrix is, in plain words: square, up to six rows, rows and columns that alternate. -/
def sign (x : List (List Int)) : Bool :=
  (decide (1 ≤ x.length ∧ x.length ≤ 6) && x.all fun r => decide (r.length = x.length)) && (x.all (walkOk 0) && (List.range x.length).all fun (j : Nat) => walkOk 0 (colOf x j))
theorem square_of {x : List (List Int)} (h : (decide (1 ≤ x.length ∧ x.length ≤ 6) && x.all fun r => decide (r.length = x.length)) = true) : 1 ≤ x.length ∧ x.length ≤ 6 ∧ ∀ r ∈ x, r.length = x.length := by
  rw [Bool.and_eq_true] at h
  have b := of_decide_eq_true h.1
  exact ⟨b.1, b.2, fun r hr => of_decide_eq_true (List.all_eq_true.mp h.2 r hr)⟩
theorem sgGood (x : List (List Int)) (h : x.length ≤ 1048576) : Ans (fun k => spec_sgGood.f k x) (sign x) := by
  simp only [spec_sgGood.f]
  refine (sgSquare x h).bind ?_
  unfold sign
  by_cases c : (decide (1 ≤ x.length ∧ x.length ≤ 6) && x.all fun r => decide (r.length = x.length)) = true
  · obtain ⟨b1, b2, b3⟩ := square_of c
    rw [c, Bool.true_and]
    refine Ans.yes rfl ((sgRows x (by omega) (fun r hr => by have := b3 r hr; omega)).bind ?_)
    by_cases c2 : x.all (walkOk 0) = true
    · rw [c2, Bool.true_and]
      have e := sgRows ((List.range x.length).map fun (j : Nat) => colOf x j) (by simp only [List.length_map, List.length_range]; omega) (fun r hr => by
        obtain ⟨j, _, rfl⟩ := List.mem_map.1 hr
        simp only [colOf, List.length_map]; omega)
      rw [List.all_map] at e
      exact Ans.yes rfl ((sgTurn x h b3).bind (e.bind (Ans.pure _)))
    · rw [Bool.eq_false_iff.mpr c2, Bool.false_and]; exact Ans.not (by simp) (Ans.pure _)
  · rw [Bool.eq_false_iff.mpr c, Bool.false_and]; exact Ans.not (by simp) (Ans.pure _)
theorem isSign (x : List (List Int)) (h : x.length ≤ 1048576) : Ans (fun k => impl_IsSignMatrix.f k x) (sign x) := by
  have no : Ans (fun k => impl_IsSignMatrix.j0 k x true) false := by
    refine Ans.step ?_; simp only [impl_IsSignMatrix.j0]; exact Ans.yes (by simp) (Ans.pure _)
  simp only [impl_IsSignMatrix.f, impl_isSide.f, within, Option.bind_some]
  by_cases c : decide ((1 : Int) ≤ (x.length : Int) ∧ (x.length : Int) ≤ 6) = true
  · have b := of_decide_eq_true c
    refine Ans.yes c ((isSquare x (by omega)).bind ?_)
    unfold sign
    rw [show decide (1 ≤ x.length ∧ x.length ≤ 6) = true from decide_eq_true ⟨by omega, by omega⟩, Bool.true_and]
    by_cases c2 : (x.all fun r => decide (r.length = x.length)) = true
    · rw [c2, Bool.true_and]
      have b3 : ∀ r ∈ x, r.length = x.length := fun r hr => of_decide_eq_true (List.all_eq_true.mp c2 r hr)
      have key : ∀ (d : Nat) (i : Int), 0 ≤ i → i + d = x.length → Ans (fun k => impl_IsSignMatrix.l0 k x (x.length : Int) i) ((x.drop i.toNat).all (walkOk 0) && ((List.range x.length).drop i.toNat).all fun (j : Nat) => walkOk 0 (colOf x j)) := by
        intro d
        induction d with
        | zero =>
          intro i h0 h1
          rw [List.drop_eq_nil_of_le (by omega), List.drop_eq_nil_of_le (by simp only [List.length_range]; omega)]; refine Ans.step ?_
          simp only [impl_IsSignMatrix.l0]; exact Ans.not (by omega) (Ans.pure _)
        | succ d ih =>
          intro i h0 h1
          have hm := rd_L1_mem h0 (show i < x.length by omega)
          have e := ih (i + 1) (by omega) (by omega)
          rw [show (i + 1).toNat = i.toNat + 1 by omega] at e
          rw [drop_at x [] (show i.toNat < x.length by omega), show x.getD i.toNat [] = rd_L3 x i from rfl, range_drop (show i.toNat < x.length by omega), List.all_cons, List.all_cons, show ((i.toNat : Nat) : Int) = i by omega]
          refine Ans.step ?_
          simp only [impl_IsSignMatrix.l0, wrap64_up h0 (by omega : i ≤ 4611686018427387904)]
          refine Ans.yes (by omega) (Ans.yes h0 (Ans.yes (by omega) ((alternate _ (by have := b3 _ hm; omega)).bind ?_)))
          by_cases q1 : walkOk 0 (rd_L3 x i) = true
          · rw [q1, Bool.true_and]
            refine Ans.yes rfl ((column x i h h0 (fun r hr => by have := b3 r hr; omega)).bind ((alternate _ (by simp only [colOf, List.length_map]; omega)).bind ?_))
            by_cases q2 : walkOk 0 (colOf x i) = true
            · rw [q2, Bool.true_and]; exact Ans.yes rfl e
            · rw [Bool.eq_false_iff.mpr q2, Bool.false_and, Bool.and_false]; exact Ans.not (by simp) (Ans.pure _)
          · rw [Bool.eq_false_iff.mpr q1, Bool.false_and, Bool.false_and]; exact Ans.not (by simp) (Ans.pure _)
      refine Ans.step ?_
      simp only [impl_IsSignMatrix.j0]
      exact Ans.not (by simp) (key x.length 0 (by omega) (by omega))
    · rw [Bool.eq_false_iff.mpr c2, Bool.false_and]; exact no
  · have b : ¬ ((1 : Int) ≤ (x.length : Int) ∧ (x.length : Int) ≤ 6) := fun h => c (decide_eq_true h)
    unfold sign
    rw [show decide (1 ≤ x.length ∧ x.length ≤ 6) = false from decide_eq_false (by omega), Bool.false_and, Bool.false_and]
    exact Ans.not c no
def tab (r c : Nat) (v : Nat → Nat → Int) : List (List Int) := (List.range r).map fun i => (List.range c).map fun j => v i j
theorem table_row (c : Nat) (hc : c ≤ 1048576) (g : Int → Int → Option Int) (v : Nat → Int) (n : Int) (i : Nat) (hi : i ≤ 1048576) (hg : ∀ j : Nat, j < c → g i j = some (v j)) {R : List (List Int)} :
    ∀ (d j : Nat) (y : List (List Int)), j + d = c → i < y.length → (y.getD i []).length = c → Ans (fun k => impl_table.l0 k c g (y.set i ((y.getD i []).take j ++ ((List.range c).drop j).map v)) n ((i + 1 : Nat) : Int)) R →
      Ans (fun k => impl_table.l1 k c g y i n i (c : Int) j) R := by
  intro d
  induction d with
  | zero =>
    intro j y h1 h2 h3 e
    rw [List.drop_eq_nil_of_le (by simp only [List.length_range]; omega), List.map_nil, List.append_nil, List.take_of_length_le (by omega), set_same y [] i h2] at e
    refine Ans.step ?_
    simp only [impl_table.l1, wrap64_up (show (0 : Int) ≤ (i : Int) by omega) (by omega : (i : Int) ≤ 4611686018427387904)]
    refine Ans.not (by omega) ?_
    rw [show ((i + 1 : Nat) : Int) = (i : Int) + 1 by omega] at e
    exact e
  | succ d ih =>
    intro j y h1 h2 h3 e
    have hrow : rd_L3 y (i : Int) = y.getD i [] := by unfold rd_L3; rw [Int.toNat_natCast]
    refine Ans.step ?_
    simp only [impl_table.l1, hg j (by omega), Option.bind_some, wrap64_up (show (0 : Int) ≤ (j : Int) by omega) (by omega : (j : Int) ≤ 4611686018427387904), hrow, Int.toNat_natCast]
    refine Ans.yes (by omega) (Ans.yes (by omega) (Ans.yes (by omega) (Ans.yes (by omega) (Ans.yes (by omega) ?_))))
    have hj : j < (y.getD i []).length := by omega
    obtain ⟨t1, _⟩ := take_set_drop (y.getD i []) j (v j) hj
    have hget : (y.set i ((y.getD i []).set j (v j))).getD i [] = (y.getD i []).set j (v j) := by
      rw [getD_at _ _ (by simpa using h2)]; simp
    have := ih (j + 1) (y.set i ((y.getD i []).set j (v j))) (by omega) (by simpa using h2) (by rw [hget]; simpa using h3) (by
      rw [hget, List.set_set, t1, List.append_assoc]
      rw [range_drop (show j < c by omega), List.map_cons] at e
      exact e)
    rwa [show ((j + 1 : Nat) : Int) = (j : Int) + 1 by omega] at this
theorem table (r c : Nat) (hr : r ≤ 1048576) (hc : c ≤ 1048576) (g : Int → Int → Option Int) (v : Nat → Nat → Int) (hg : ∀ i j : Nat, i < r → j < c → g i j = some (v i j)) : Ans (fun k => impl_table.f k r c g) (tab r c v) := by
  have key : ∀ (d i : Nat) (y : List (List Int)), i + d = r → y.length = r → Ans (fun k => impl_table.l0 k c g y (r : Int) i) (y.take i ++ ((List.range r).drop i).map fun i => (List.range c).map fun j => v i j) := by
    intro d
    induction d with
    | zero =>
      intro i y h1 h2
      rw [List.drop_eq_nil_of_le (by simp only [List.length_range]; omega), List.map_nil, List.append_nil, List.take_of_length_le (by omega)]; refine Ans.step ?_
      simp only [impl_table.l0]; exact Ans.not (by omega) (Ans.pure _)
    | succ d ih =>
      intro i y h1 h2
      have hi : i < y.length := by omega
      have hget : (y.set i (List.replicate c 0)).getD i [] = List.replicate c 0 := by rw [getD_at _ _ (by simpa using hi)]; simp
      obtain ⟨t1, _⟩ := take_set_drop y i ((List.range c).map fun j => v i j) hi
      have e := ih (i + 1) (y.set i ((List.range c).map fun j => v i j)) (by omega) (by simpa using h2)
      rw [t1, List.append_assoc, List.singleton_append] at e
      rw [range_drop (show i < r by omega), List.map_cons]
      have hrow : rd_L3 (y.set i (List.replicate c 0)) (i : Int) = List.replicate c 0 := by unfold rd_L3; rw [Int.toNat_natCast]; exact hget
      refine Ans.step ?_
      simp only [impl_table.l0, Option.bind_some, Int.toNat_natCast, hrow, List.length_replicate]
      refine Ans.yes (by omega) (Ans.yes (by omega) (Ans.yes (by omega) (Ans.yes (by omega) (Ans.yes (by omega) ?_))))
      have := table_row c hc g (v i) (r : Int) i (by omega) (fun j hj => hg i j (by omega) hj) c 0 (y.set i (List.replicate c 0)) (by omega) (by simpa using hi) (by rw [hget]; simp) (by
        rw [List.set_set, List.take_zero, List.drop_zero, List.nil_append]; exact e)
      exact this
  simp only [impl_table.f, Option.bind_some, Int.toNat_natCast, List.length_replicate]
  refine Ans.yes (by omega) (Ans.yes (by omega) ?_)
  have := key r 0 (List.replicate r []) (by omega) (by simp)
  simpa [tab] using this
def cmpI (a b : Int) : Int := if a < b then -1 else if a > b then 1 else 0
theorem cmpI_zero {a b : Int} : cmpI a b = 0 ↔ a = b := by
  unfold cmpI; split
  · constructor <;> intro h <;> omega
  · split
    · constructor <;> intro h <;> omega
    · constructor <;> intro h <;> omega
def lexBy {α : Type} (c : α → α → Int) : List α → List α → Int
  | [], [] => 0
  | [], _ :: _ => -1
  | _ :: _, [] => 1
  | a :: x, b :: y => if c a b = 0 then lexBy c x y else c a b
theorem lexBy_zero {α : Type} {c : α → α → Int} (hc : ∀ a b, c a b = 0 ↔ a = b) : ∀ (x y : List α), lexBy c x y = 0 ↔ x = y
  | [], [] => by simp [lexBy]
  | [], _ :: _ => by simp [lexBy]
  | _ :: _, [] => by simp [lexBy]
  | a :: x, b :: y => by
    rw [lexBy]
    by_cases h : c a b = 0
    · rw [if_pos h, lexBy_zero hc x y, (hc a b).mp h]; simp
    · rw [if_neg h]; constructor
      · intro e; exact absurd e h
      · intro e; exact absurd ((hc a b).mpr (List.cons.inj e).1) h
def cmpL : List Int → List Int → Int := lexBy cmpI
def cmpLL : List (List Int) → List (List Int) → Int := lexBy cmpL
theorem cmpL_zero (x y : List Int) : cmpL x y = 0 ↔ x = y := lexBy_zero (fun _ _ => cmpI_zero) x y
theorem cmpLL_zero (x y : List (List Int)) : cmpLL x y = 0 ↔ x = y := lexBy_zero cmpL_zero x y
theorem cmpInt (a b : Int) : cmp_Compare_int.f a b = some (cmpI a b) := by
  simp only [cmp_Compare_int.f, cmp_isNaN_int.f, Option.bind_some, cmpI]
  simp
  repeat' split
  all_goals rfl
theorem compare (x y : List Int) (hx : x.length ≤ 17592186044416) (hy : y.length ≤ 17592186044416) (k : Nat) (hk : x.length < k) : slices_Compare_int_int.f k x y = some (cmpL x y) := by
  have key : ∀ (d : Nat) (i : Int), 0 ≤ i → i + d = x.length → i ≤ y.length → ∀ k, d < k → slices_Compare_int_int.l0 k x y x (x.length : Int) i = some (cmpL (x.drop i.toNat) (y.drop i.toNat)) := by
    intro d
    induction d with
    | zero =>
      intro i h0 h1 h2 k hk; obtain ⟨j, rfl⟩ : ∃ j, k = j + 1 := ⟨k - 1, by omega⟩
      unfold slices_Compare_int_int.l0
      rw [if_neg (by omega), drop_all x (by omega)]
      by_cases c : (x.length : Int) < (y.length : Int)
      · rw [if_pos c, drop_at y 0 (show i.toNat < y.length by omega)]; rfl
      · rw [if_neg c, drop_all y (by omega)]; rfl
    | succ d ih =>
      intro i h0 h1 h2 k hk; obtain ⟨j, rfl⟩ : ∃ j, k = j + 1 := ⟨k - 1, by omega⟩
      unfold slices_Compare_int_int.l0
      rw [if_pos (by omega), if_pos h0, if_pos (by omega), drop_at x 0 (show i.toNat < x.length by omega)]
      by_cases c : i ≥ (y.length : Int)
      · rw [if_pos c, drop_all y (by omega)]; rfl
      · rw [if_neg c, if_pos (by omega), cmpInt, Option.bind_some, drop_at y 0 (show i.toNat < y.length by omega), wrap64_up h0 (by omega)]
        show (if cmpI (rd x i) (rd y i) = 0 then _ else _) = some (if cmpI (rd x i) (rd y i) = 0 then lexBy cmpI (x.drop (i.toNat + 1)) (y.drop (i.toNat + 1)) else cmpI (rd x i) (rd y i))
        by_cases q : cmpI (rd x i) (rd y i) = 0
        · rw [if_pos q, if_pos q, ih (i + 1) (by omega) (by omega) (by omega) j (by omega), show (i + 1).toNat = i.toNat + 1 by omega]; rfl
        · rw [if_neg q, if_neg q]
  exact key x.length 0 (by omega) (by omega) (by omega) k (by omega)
theorem compareTables (x y : List (List Int)) (hx : x.length ≤ 1048576) (hy : y.length ≤ 1048576) (hrx : ∀ r ∈ x, r.length ≤ 1048576) (hry : ∀ r ∈ y, r.length ≤ 1048576) : Ans (fun k => impl_compareTables.f k x y) (cmpLL x y) := by
  refine Ans.from 1048577 fun k0 hk0 => ?_
  unfold impl_compareTables.f slices_CompareFunc_int_int_int_int.f
  have key : ∀ (d : Nat) (i : Int), 0 ≤ i → i + d = x.length → i ≤ y.length → ∀ k, d < k → slices_CompareFunc_int_int_int_int.l0 k x y (fun x0_ x1_ => impl_compareTables_1.f k0 x0_ x1_) x (x.length : Int) i = some (cmpLL (x.drop i.toNat) (y.drop i.toNat)) := by
    intro d
    induction d with
    | zero =>
      intro i h0 h1 h2 k hk; obtain ⟨j, rfl⟩ : ∃ j, k = j + 1 := ⟨k - 1, by omega⟩
      unfold slices_CompareFunc_int_int_int_int.l0
      rw [if_neg (by omega), drop_all x (by omega)]
      by_cases c : (x.length : Int) < (y.length : Int)
      · rw [if_pos c, drop_at y [] (show i.toNat < y.length by omega)]; rfl
      · rw [if_neg c, drop_all y (by omega)]; rfl
    | succ d ih =>
      intro i h0 h1 h2 k hk; obtain ⟨j, rfl⟩ : ∃ j, k = j + 1 := ⟨k - 1, by omega⟩
      unfold slices_CompareFunc_int_int_int_int.l0
      rw [if_pos (by omega), if_pos h0, if_pos (by omega), drop_at x [] (show i.toNat < x.length by omega)]
      by_cases c : i ≥ (y.length : Int)
      · rw [if_pos c, drop_all y (by omega)]; rfl
      · have m1 := hrx _ (rd_L1_mem h0 (show i < x.length by omega))
        have m2 := hry _ (rd_L1_mem h0 (show i < y.length by omega))
        rw [if_neg c, if_pos (by omega)]
        simp only [impl_compareTables_1.f]
        rw [compare _ _ (by omega) (by omega) k0 (by omega), Option.bind_some, Option.bind_some, drop_at y [] (show i.toNat < y.length by omega), wrap64_up h0 (by omega)]
        show (if cmpL (rd_L3 x i) (rd_L3 y i) = 0 then _ else _) = some (if cmpL (rd_L3 x i) (rd_L3 y i) = 0 then lexBy cmpL (x.drop (i.toNat + 1)) (y.drop (i.toNat + 1)) else cmpL (rd_L3 x i) (rd_L3 y i))
        by_cases q : cmpL (rd_L3 x i) (rd_L3 y i) = 0
        · rw [if_pos q, if_pos q]
          have := ih (i + 1) (by omega) (by omega) (by omega) j (by omega)
          simp only [impl_compareTables_1.f] at this
          rw [this, show (i + 1).toNat = i.toNat + 1 by omega]; rfl
        · rw [if_neg q, if_neg q]
  have := key x.length 0 (by omega) (by omega) (by omega) k0 (by omega)
  rw [this]; rfl
theorem l1Same (x y : List Int) (hx : x.length ≤ 17592186044416) : Ans (fun k => spec_l1Same.f k x y) (decide (x = y)) := by
  simp only [spec_l1Same.f]
  by_cases hl : (x.length : Int) = (y.length : Int)
  case neg => rw [decide_eq_false (fun h => hl (by rw [h]))]; exact Ans.not hl (Ans.pure _)
  have key : ∀ (d : Nat) (i : Int), 0 ≤ i → i + d = x.length → Ans (fun k => spec_l1Same.l0 k x y (x.length : Int) i) (decide (x.drop i.toNat = y.drop i.toNat)) := by
    intro d
    induction d with
    | zero =>
      intro i h0 h1
      rw [List.drop_eq_nil_of_le (by omega), List.drop_eq_nil_of_le (by omega)]; refine Ans.step ?_
      simp only [spec_l1Same.l0]; exact Ans.not (by omega) (Ans.pure _)
    | succ d ih =>
      intro i h0 h1
      have e := ih (i + 1) (by omega) (by omega)
      rw [show (i + 1).toNat = i.toNat + 1 by omega] at e
      rw [drop_at x 0 (show i.toNat < x.length by omega), drop_at y 0 (show i.toNat < y.length by omega), show x.getD i.toNat 0 = rd x i from rfl, show y.getD i.toNat 0 = rd y i from rfl]
      refine Ans.step ?_
      simp only [spec_l1Same.l0, wrap64_up h0 (by omega : i ≤ 4611686018427387904)]
      refine Ans.yes (by omega) (Ans.yes h0 (Ans.yes (by omega) (Ans.yes (by omega) ?_)))
      by_cases c : rd x i = rd y i
      · rw [show decide (rd x i :: x.drop (i.toNat + 1) = rd y i :: y.drop (i.toNat + 1)) = decide (x.drop (i.toNat + 1) = y.drop (i.toNat + 1)) from decide_eq_decide.mpr ⟨fun h => (List.cons.inj h).2, fun h => by rw [c, h]⟩]; exact Ans.yes c e
      · rw [decide_eq_false (fun h => c (List.cons.inj h).1)]; exact Ans.not c (Ans.pure _)
  exact Ans.yes hl (key x.length 0 (by omega) (by omega))
theorem weSame (x y : List (List Int)) (hx : x.length ≤ 17592186044416) (hr : ∀ r ∈ x, r.length ≤ 17592186044416) : Ans (fun k => spec_weSame.f k x y) (decide (x = y)) := by
  simp only [spec_weSame.f]
  by_cases hl : (x.length : Int) = (y.length : Int)
  case neg => rw [decide_eq_false (fun h => hl (by rw [h]))]; exact Ans.not hl (Ans.pure _)
  have key : ∀ (d : Nat) (i : Int), 0 ≤ i → i + d = x.length → Ans (fun k => spec_weSame.l0 k y x (x.length : Int) i) (decide (x.drop i.toNat = y.drop i.toNat)) := by
    intro d
    induction d with
    | zero =>
      intro i h0 h1
      rw [List.drop_eq_nil_of_le (by omega), List.drop_eq_nil_of_le (by omega)]; refine Ans.step ?_
      simp only [spec_weSame.l0]; exact Ans.not (by omega) (Ans.pure _)
    | succ d ih =>
      intro i h0 h1
      have e := ih (i + 1) (by omega) (by omega)
      rw [show (i + 1).toNat = i.toNat + 1 by omega] at e
      have hm := hr _ (rd_L1_mem h0 (show i < x.length by omega))
      rw [drop_at x [] (show i.toNat < x.length by omega), drop_at y [] (show i.toNat < y.length by omega), show x.getD i.toNat [] = rd_L3 x i from rfl, show y.getD i.toNat [] = rd_L3 y i from rfl]
      refine Ans.step ?_
      simp only [spec_weSame.l0, wrap64_up h0 (by omega : i ≤ 4611686018427387904)]
      refine Ans.yes (by omega) (Ans.yes h0 (Ans.yes (by omega) (Ans.yes (by omega) ((l1Same _ _ hm).bind ?_))))
      by_cases c : rd_L3 x i = rd_L3 y i
      · rw [decide_eq_true c, show decide (rd_L3 x i :: x.drop (i.toNat + 1) = rd_L3 y i :: y.drop (i.toNat + 1)) = decide (x.drop (i.toNat + 1) = y.drop (i.toNat + 1)) from decide_eq_decide.mpr ⟨fun h => (List.cons.inj h).2, fun h => by rw [c, h]⟩]; exact Ans.yes rfl e
      · rw [decide_eq_false c, decide_eq_false (fun h => c (List.cons.inj h).1)]; exact Ans.not (by simp) (Ans.pure _)
  exact Ans.yes hl (key x.length 0 (by omega) (by omega))
/-- Square, with n rows. -/
def Sq (n : Nat) (x : List (List Int)) : Prop := x.length = n ∧ ∀ r ∈ x, r.length = n
theorem Sq.row {n : Nat} {x : List (List Int)} (h : Sq n x) {i : Nat} (hi : i < n) : (x.getD i []).length = n := h.2 _ (getD_mem [] (by rw [h.1]; exact hi))
theorem tab_is {n : Nat} {y : List (List Int)} (h : Sq n y) (v : Nat → Nat → Int) (hv : ∀ i j : Nat, i < n → j < n → v i j = (y.getD i []).getD j 0) : tab n n v = y := by
  refine List.ext_getElem (by simp [tab, h.1]) fun i h1 h2 => ?_
  have hi : i < n := by rw [← h.1]; exact h2
  have hr := h.row hi
  rw [show (tab n n v)[i] = (List.range n).map (fun j => v i j) by simp [tab], ← getD_at y [] h2]
  refine List.ext_getElem (by simp only [List.length_map, List.length_range]; exact hr.symm) fun j g1 g2 => ?_
  rw [List.getElem_map, List.getElem_range, hv i j hi (by rw [← hr]; exact g2), getD_at _ _ g2]
theorem ext_sq {n : Nat} {x y : List (List Int)} (hx : Sq n x) (hy : Sq n y) (h : ∀ i j : Nat, i < n → j < n → (x.getD i []).getD j 0 = (y.getD i []).getD j 0) : x = y := by
  rw [← tab_is hx (fun i j => (x.getD i []).getD j 0) (fun _ _ _ _ => rfl), tab_is hy _ h]
def mir (x : List (List Int)) : List (List Int) := x.map List.reverse
def tr (x : List (List Int)) : List (List Int) := (List.range x.length).map fun (j : Nat) => colOf x j
def cw (x : List (List Int)) : List (List Int) := mir (tr x)
theorem mir_sq {n : Nat} {x : List (List Int)} (h : Sq n x) : Sq n (mir x) := ⟨by simp [mir, h.1], fun r hr => by obtain ⟨a, ha, rfl⟩ := List.mem_map.1 hr; rw [List.length_reverse]; exact h.2 a ha⟩
theorem tr_sq {n : Nat} {x : List (List Int)} (h : Sq n x) : Sq n (tr x) := ⟨by simp [tr, h.1], fun r hr => by obtain ⟨a, ha, rfl⟩ := List.mem_map.1 hr; simp [colOf, h.1]⟩
theorem cw_sq {n : Nat} {x : List (List Int)} (h : Sq n x) : Sq n (cw x) := mir_sq (tr_sq h)
theorem rev_at (x : List Int) {n j : Nat} (hl : x.length = n) (h : j < n) : x.reverse.getD j 0 = x.getD (n - 1 - j) 0 := by
  rw [getD_at _ _ (by simp; omega), getD_at _ _ (by omega), List.getElem_reverse]; congr 1; omega
theorem mir_at {n : Nat} {x : List (List Int)} (h : Sq n x) {i j : Nat} (hi : i < n) (hj : j < n) : ((mir x).getD i []).getD j 0 = (x.getD i []).getD (n - 1 - j) 0 := by
  rw [show (mir x).getD i [] = (x.getD i []).reverse by rw [getD_at _ _ (by simp [mir, h.1]; exact hi), getD_at _ _ (by rw [h.1]; exact hi)]; simp [mir], rev_at _ (h.row hi) hj]
theorem tr_at {n : Nat} {x : List (List Int)} (h : Sq n x) {i j : Nat} (hi : i < n) (hj : j < n) : ((tr x).getD i []).getD j 0 = (x.getD j []).getD i 0 := by
  have e : (tr x).getD i [] = colOf x (i : Int) := by rw [getD_at _ _ (by simp [tr, h.1]; exact hi)]; simp [tr]
  rw [e, getD_at _ _ (by simp [colOf, h.1]; exact hj), getD_at x [] (by rw [h.1]; exact hj)]
  simp [colOf, rd]
theorem turned (n : Nat) (x : List (List Int)) (h : Sq n x) (hn : n ≤ 1048576) : Ans (fun k => impl_turned.f k x) (cw x) := by
  simp only [impl_turned.f, h.1]
  have hg : ∀ i j : Nat, i < n → j < n → impl_turned_1.f i j x (n : Int) = some ((x.getD (n - 1 - j) []).getD i 0) := by
    intro i j hi hj
    have w1 : wrap64 ((n : Int) - 1) = (n : Int) - 1 := wrap64_in _ ⟨by omega, by omega⟩
    have w2 : wrap64 ((n : Int) - 1 - (j : Int)) = ((n - 1 - j : Nat) : Int) := by rw [wrap64_in _ ⟨by omega, by omega⟩]; omega
    have hr : (rd_L3 x ((n - 1 - j : Nat) : Int)).length = n := h.2 _ (rd_L1_mem (by omega) (by rw [h.1]; omega))
    have hl := h.1
    simp only [impl_turned_1.f, w1, w2]
    rw [if_pos (by omega), if_pos (by omega), if_pos (by omega), if_pos (by omega)]
    simp only [rd, rd_L3, Int.toNat_natCast]
  have e := table n n hn hn (fun x0_ x1_ => impl_turned_1.f x0_ x1_ x (n : Int)) _ hg
  rw [tab_is (cw_sq h) _ (fun i j hi hj => by rw [cw, mir_at (tr_sq h) hi hj, tr_at h hi (by omega)])] at e
  exact e.bind (Ans.pure _)
theorem mirrored (n : Nat) (x : List (List Int)) (h : Sq n x) (hn : n ≤ 1048576) : Ans (fun k => impl_mirrored.f k x) (mir x) := by
  simp only [impl_mirrored.f, h.1]
  have hg : ∀ i j : Nat, i < n → j < n → impl_mirrored_1.f i j x (n : Int) = some ((x.getD i []).getD (n - 1 - j) 0) := by
    intro i j hi hj
    have w1 : wrap64 ((n : Int) - 1) = (n : Int) - 1 := wrap64_in _ ⟨by omega, by omega⟩
    have w2 : wrap64 ((n : Int) - 1 - (j : Int)) = ((n - 1 - j : Nat) : Int) := by rw [wrap64_in _ ⟨by omega, by omega⟩]; omega
    have hr : (rd_L3 x (i : Int)).length = n := h.2 _ (rd_L1_mem (by omega) (by rw [h.1]; omega))
    have hl := h.1
    simp only [impl_mirrored_1.f, w1, w2]
    rw [if_pos (by omega), if_pos (by omega), if_pos (by omega), if_pos (by omega)]
    simp only [rd, rd_L3, Int.toNat_natCast]
  have e := table n n hn hn (fun x0_ x1_ => impl_mirrored_1.f x0_ x1_ x (n : Int)) _ hg
  rw [tab_is (mir_sq h) _ (fun i j hi hj => by rw [mir_at h hi hj])] at e
  exact e.bind (Ans.pure _)
theorem sgMirror (x : List (List Int)) (h : x.length ≤ 1048576) (hr : ∀ r ∈ x, r.length ≤ 1048576) : Ans (fun k => spec_sgMirror.f k x) (mir x) := by
  have inner : ∀ (out : List (List Int)) (row : List Int) (m : Int) (R : List (List Int)), row.length ≤ 1048576 → 0 ≤ m → m ≤ 1048576 → out.length ≤ 1048576 → ∀ (d : Nat) (acc : List Int), d ≤ row.length → acc.length + d ≤ 1048576 →
      Ans (fun k => spec_sgMirror.l0 k (out ++ [acc ++ (row.take d).reverse]) x (x.length : Int) (m + 1)) R → Ans (fun k => spec_sgMirror.l1 k out row acc ((d : Int) - 1) x (x.length : Int) m) R := by
    intro out row m R hrow hm hm' ho d
    induction d with
    | zero =>
      intro acc h2 h3 e
      rw [List.take_zero, List.reverse_nil, List.append_nil] at e
      refine Ans.step ?_
      simp only [spec_sgMirror.l1, wrap64_up hm (by omega : m ≤ 4611686018427387904)]
      exact Ans.not (by omega) (Ans.yes (by omega) e)
    | succ d ih =>
      intro acc h2 h3 e
      rw [take_up row 0 (show d < row.length by omega), List.reverse_append, List.reverse_singleton, List.singleton_append] at e
      have hj : ((d + 1 : Nat) : Int) - 1 = (d : Int) := by omega
      have := ih (acc ++ [rd row d]) (by omega) (by simp only [List.length_append, List.length_singleton]; omega) (by
        rw [List.append_assoc, List.singleton_append, show rd row (d : Int) = row.getD d 0 by unfold rd; rw [Int.toNat_natCast]]; exact e)
      refine Ans.step ?_
      simp only [spec_sgMirror.l1, hj, wrap64_down (show (0 : Int) ≤ (d : Int) by omega) (by omega : (d : Int) ≤ 4611686018427387904)]
      exact Ans.yes (by omega) (Ans.yes (by omega) (Ans.yes (by omega) (Ans.yes (by omega) this)))
  have key : ∀ (d : Nat) (i : Int) (out : List (List Int)), 0 ≤ i → i + d = x.length → out.length + d ≤ 1048576 → Ans (fun k => spec_sgMirror.l0 k out x (x.length : Int) i) (out ++ mir (x.drop i.toNat)) := by
    intro d
    induction d with
    | zero =>
      intro i out h0 h1 h2
      rw [List.drop_eq_nil_of_le (by omega), mir, List.map_nil, List.append_nil]; refine Ans.step ?_
      simp only [spec_sgMirror.l0]; exact Ans.not (by omega) (Ans.pure _)
    | succ d ih =>
      intro i out h0 h1 h2
      have hm := hr _ (rd_L1_mem h0 (show i < x.length by omega))
      have e := ih (i + 1) (out ++ [(rd_L3 x i).reverse]) (by omega) (by omega) (by simp only [List.length_append, List.length_singleton]; omega)
      rw [show (i + 1).toNat = i.toNat + 1 by omega, List.append_assoc, List.singleton_append] at e
      rw [drop_at x [] (show i.toNat < x.length by omega), show x.getD i.toNat [] = rd_L3 x i from rfl]
      have hw : wrap64 (((rd_L3 x i).length : Int) - 1) = ((rd_L3 x i).length : Int) - 1 := wrap64_in _ ⟨by omega, by omega⟩
      refine Ans.step ?_
      simp only [spec_sgMirror.l0, hw]
      refine Ans.yes (by omega) (Ans.yes h0 (Ans.yes (by omega) (inner out _ i _ hm h0 (by omega) (by omega) _ [] (Nat.le_refl _) (by simp only [List.length_nil]; omega) ?_)))
      rw [List.nil_append, List.take_length]; exact e
  exact key x.length 0 [] (by omega) (by omega) (by simp only [List.length_nil]; omega)
theorem sgClockwise (n : Nat) (x : List (List Int)) (h : Sq n x) (hn : n ≤ 1048576) : Ans (fun k => spec_sgClockwise.f k x) (cw x) := by
  have hl := h.1
  simp only [spec_sgClockwise.f]
  have s := tr_sq h
  exact (sgTurn x (by omega) (fun r hr => by rw [h.2 r hr, hl])).bind ((sgMirror (tr x) (by rw [s.1]; omega) (fun r hr => by rw [s.2 r hr]; omega)).bind (Ans.pure _))
/-- All images. -/
def images (x : List (List Int)) : List (List (List Int)) := [x, cw x, cw (cw x), cw (cw (cw x)), mir x, mir (cw x), mir (cw (cw x)), mir (cw (cw (cw x)))]
theorem smSymmetries (n : Nat) (x : List (List Int)) (h : Sq n x) (hn : n ≤ 1048576) : Ans (fun k => spec_smSymmetries.f k x) (images x) := by
  have s1 := cw_sq h; have s2 := cw_sq s1; have s3 := cw_sq s2
  have M : ∀ y, Sq n y → Ans (fun k => spec_sgMirror.f k y) (mir y) := fun y hy => sgMirror y (by rw [hy.1]; exact hn) (fun r hr => by rw [hy.2 r hr]; exact hn)
  simp only [spec_smSymmetries.f]
  refine Ans.step ?_; simp only [spec_smSymmetries.l0, w01, w12, w23, w34]
  refine Ans.yes (by decide) ((sgClockwise n x h hn).bind (Ans.yes (by simp) (Ans.step ?_))); simp only [spec_smSymmetries.l0, w01, w12, w23, w34]
  refine Ans.yes (by decide) ((sgClockwise n _ s1 hn).bind (Ans.yes (by simp) (Ans.step ?_))); simp only [spec_smSymmetries.l0, w01, w12, w23, w34]
  refine Ans.yes (by decide) ((sgClockwise n _ s2 hn).bind (Ans.yes (by simp) (Ans.step ?_))); simp only [spec_smSymmetries.l0, w01, w12, w23, w34]
  refine Ans.not (by decide) (Ans.step ?_); simp only [spec_smSymmetries.l1, w01, w12, w23, w34]
  refine Ans.yes (by decide) (Ans.yes (by decide) (Ans.yes (by simp) (Ans.bind (a := mir x) (M x h) (Ans.yes (by simp) (Ans.step ?_))))); simp only [spec_smSymmetries.l1, w01, w12, w23, w34]
  refine Ans.yes (by decide) (Ans.yes (by decide) (Ans.yes (by first | (simp; done) | (simp; decide)) (Ans.bind (a := mir (cw x)) (M _ s1) (Ans.yes (by simp) (Ans.step ?_))))); simp only [spec_smSymmetries.l1, w01, w12, w23, w34]
  refine Ans.yes (by decide) (Ans.yes (by decide) (Ans.yes (by first | (simp; done) | (simp; decide)) (Ans.bind (a := mir (cw (cw x))) (M _ s2) (Ans.yes (by simp) (Ans.step ?_))))); simp only [spec_smSymmetries.l1, w01, w12, w23, w34]
  refine Ans.yes (by decide) (Ans.yes (by decide) (Ans.yes (by first | (simp; done) | (simp; decide)) (Ans.bind (a := mir (cw (cw (cw x)))) (M _ s3) (Ans.yes (by simp) (Ans.step ?_))))); simp only [spec_smSymmetries.l1, w01, w12, w23, w34]
  exact Ans.not (by decide) (Ans.pure _)
theorem eight (n : Nat) (x : List (List Int)) (h : Sq n x) (hn : n ≤ 1048576) : Ans (fun k => impl_eight.f k x) (images x) := by
  have s1 := cw_sq h; have s2 := cw_sq s1; have s3 := cw_sq s2
  simp only [impl_eight.f]
  refine Ans.step ?_; simp only [impl_eight.l0, w01, w12, w23, w34]
  refine Ans.yes (by decide) (Ans.yes (by simp) ((turned n x h hn).bind (Ans.step ?_))); simp only [impl_eight.l0, w01, w12, w23, w34]
  refine Ans.yes (by decide) (Ans.yes (by simp) ((turned n _ s1 hn).bind (Ans.step ?_))); simp only [impl_eight.l0, w01, w12, w23, w34]
  refine Ans.yes (by decide) (Ans.yes (by simp) ((turned n _ s2 hn).bind (Ans.step ?_))); simp only [impl_eight.l0, w01, w12, w23, w34]
  refine Ans.yes (by decide) (Ans.yes (by simp) ((turned n _ s3 hn).bind (Ans.step ?_))); simp only [impl_eight.l0, w01, w12, w23, w34]
  refine Ans.not (by decide) (Ans.step ?_); simp only [impl_eight.l1, w01, w12, w23, w34]
  refine Ans.yes (by decide) (Ans.yes (by decide) (Ans.yes (by simp) (Ans.bind (a := mir x) (mirrored n x h hn) (Ans.yes (by simp) (Ans.step ?_))))); simp only [impl_eight.l1, w01, w12, w23, w34]
  refine Ans.yes (by decide) (Ans.yes (by decide) (Ans.yes (by first | (simp; done) | (simp; decide)) (Ans.bind (a := mir (cw x)) (mirrored n _ s1 hn) (Ans.yes (by simp) (Ans.step ?_))))); simp only [impl_eight.l1, w01, w12, w23, w34]
  refine Ans.yes (by decide) (Ans.yes (by decide) (Ans.yes (by first | (simp; done) | (simp; decide)) (Ans.bind (a := mir (cw (cw x))) (mirrored n _ s2 hn) (Ans.yes (by simp) (Ans.step ?_))))); simp only [impl_eight.l1, w01, w12, w23, w34]
  refine Ans.yes (by decide) (Ans.yes (by decide) (Ans.yes (by first | (simp; done) | (simp; decide)) (Ans.bind (a := mir (cw (cw (cw x)))) (mirrored n _ s3 hn) (Ans.yes (by simp) (Ans.step ?_))))); simp only [impl_eight.l1, w01, w12, w23, w34]
  exact Ans.not (by decide) (Ans.pure _)
theorem cmpSame (x y : List (List Int)) : (cmpLL x y == 0) = decide (x = y) := by
  rw [Bool.eq_iff_iff, beq_iff_eq, decide_eq_true_iff, cmpLL_zero]
theorem tablesSame (n : Nat) (x y : List (List Int)) (hx : Sq n x) (hy : Sq n y) (hn : n ≤ 1048576) : Ans (fun k => impl_compareTables.f k x y) (cmpLL x y) :=
  compareTables x y (by rw [hx.1]; exact hn) (by rw [hy.1]; exact hn) (fun r hr => by rw [hx.2 r hr]; exact hn) (fun r hr => by rw [hy.2 r hr]; exact hn)
theorem sameW (n : Nat) (x y : List (List Int)) (hx : Sq n x) (hn : n ≤ 1048576) : Ans (fun k => spec_weSame.f k x y) (decide (x = y)) :=
  weSame x y (by rw [hx.1]; omega) (fun r hr => by rw [hx.2 r hr]; omega)
theorem sign_sq {x : List (List Int)} (s : sign x = true) : Sq x.length x ∧ x.length ≤ 6 := by
  unfold sign at s
  rw [Bool.and_eq_true] at s
  obtain ⟨b1, b2, b3⟩ := square_of s.1
  exact ⟨⟨rfl, b3⟩, b2⟩
/-- Whether a matrix has the symmetries of a kind. -/
def hasK (x : List (List Int)) (k : Int) : Bool :=
  if k = 0 then decide (cw (cw x) = x) else if k = 1 then decide (cw x = x) else if k = 2 then decide (mir x = x) else if k = 3 then decide (tr x = x) else decide (mir x = x) && decide (mir (cw (cw x)) = x)
theorem smHas (n : Nat) (x : List (List Int)) (h : Sq n x) (hn : n ≤ 1048576) (a : Int) : Ans (fun k => spec_smHas.f k x a) (hasK x a) := by
  have s1 := cw_sq h; have s2 := cw_sq s1
  have hl := h.1
  simp only [spec_smHas.f]
  refine (smSymmetries n x h hn).bind ?_
  unfold hasK
  by_cases c0 : a = 0
  · simp only [if_pos c0]; exact Ans.yes (by simp [images]) ((sameW n _ x s2 hn).bind (Ans.pure _))
  simp only [if_neg c0]
  by_cases c1 : a = 1
  · simp only [if_pos c1]; exact Ans.yes (by simp [images]) ((sameW n _ x s1 hn).bind (Ans.pure _))
  simp only [if_neg c1]
  by_cases c2 : a = 2
  · simp only [if_pos c2]; exact Ans.yes (by simp [images]) ((sameW n _ x (mir_sq h) hn).bind (Ans.pure _))
  simp only [if_neg c2]
  by_cases c3 : a = 3
  · simp only [if_pos c3]; exact (sgTurn x (by omega) (fun r hr => by rw [h.2 r hr, hl])).bind ((sameW n _ x (tr_sq h) hn).bind (Ans.pure _))
  simp only [if_neg c3]
  refine Ans.yes (by simp [images]) ((sameW n _ x (mir_sq h) hn).bind ?_)
  by_cases q : mir x = x
  · rw [decide_eq_true q, Bool.true_and]
    exact Ans.yes rfl (Ans.yes (by simp [images]) ((sameW n _ x (mir_sq s2) hn).bind (Ans.pure _)))
  · rw [decide_eq_false q, Bool.false_and]; exact Ans.not (by simp) (Ans.pure _)
theorem hasKind (n : Nat) (x : List (List Int)) (h : Sq n x) (hn : n ≤ 1048576) (a : Int) : Ans (fun k => impl_hasKind.f k x a) (hasK x a) := by
  have s1 := cw_sq h; have s2 := cw_sq s1
  have same : ∀ y, Sq n y → Ans (fun k => impl_hasKind_1.f k y x) (decide (y = x)) := fun y hy => by
    simp only [impl_hasKind_1.f]
    have := (tablesSame n y x hy h hn).bind (h := fun _ t => some (t == 0)) (Ans.pure _)
    rwa [cmpSame] at this
  have trans : Ans (fun k => impl_transposed.f k x) (tr x) := by
    simp only [impl_transposed.f, h.1]
    have hg : ∀ i j : Nat, i < n → j < n → impl_transposed_1.f i j x = some ((x.getD j []).getD i 0) := by
      intro i j hi hj
      have hr : (rd_L3 x (j : Int)).length = n := h.2 _ (rd_L1_mem (by omega) (by rw [h.1]; omega))
      have hl := h.1
      simp only [impl_transposed_1.f]
      rw [if_pos (by omega), if_pos (by omega), if_pos (by omega), if_pos (by omega)]
      simp only [rd, rd_L3, Int.toNat_natCast]
    have e := table n n hn hn (fun x0_ x1_ => impl_transposed_1.f x0_ x1_ x) _ hg
    rw [tab_is (tr_sq h) _ (fun i j hi hj => by rw [tr_at h hi hj])] at e
    exact e.bind (Ans.pure _)
  simp only [impl_hasKind.f]
  refine (eight n x h hn).bind ?_
  unfold hasK
  by_cases c0 : a = 0
  · simp only [if_pos c0]; exact Ans.yes (by simp [images]) ((same _ s2).bind (Ans.pure _))
  simp only [if_neg c0]
  by_cases c1 : a = 1
  · simp only [if_pos c1]; exact Ans.yes (by simp [images]) ((same _ s1).bind (Ans.pure _))
  simp only [if_neg c1]
  by_cases c2 : a = 2
  · simp only [if_pos c2]; exact Ans.yes (by simp [images]) ((same _ (mir_sq h)).bind (Ans.pure _))
  simp only [if_neg c2]
  by_cases c3 : a = 3
  · simp only [if_pos c3]; exact trans.bind ((same _ (tr_sq h)).bind (Ans.pure _))
  simp only [if_neg c3]
  refine Ans.yes (by simp [images]) ((same _ (mir_sq h)).bind ?_)
  by_cases q : mir x = x
  · rw [decide_eq_true q, Bool.true_and]
    exact Ans.yes rfl (Ans.yes (by simp [images]) ((same _ (mir_sq s2)).bind (Ans.pure _)))
  · rw [decide_eq_false q, Bool.false_and]; exact Ans.not (by simp) (Ans.pure _)
theorem hasSymmetry (x : List (List Int)) (hx : x.length ≤ 1048576) (a : Int) (res : Bool × Bool) (hres : res = if sign x = true then (if (0 ≤ a ∧ a ≤ 4) then (hasK x a, true) else (false, false)) else (false, false)) :
    Ans (fun k => impl_HasSymmetry.f k x a) res := by
  simp only [impl_HasSymmetry.f, impl_isKind.f, within, Option.bind_some]
  refine (isSign x hx).bind ?_
  by_cases s : sign x = true
  · obtain ⟨q, hq⟩ := sign_sq s
    rw [if_pos s] at hres
    refine Ans.yes s ?_
    by_cases c : 0 ≤ a ∧ a ≤ 4
    · rw [if_pos c] at hres; subst hres; exact Ans.yes (decide_eq_true c) ((hasKind _ x q (by omega) a).bind (Ans.pure _))
    · rw [if_neg c] at hres; subst hres; exact Ans.not (by simp only [decide_eq_true_iff]; exact c) (Ans.pure _)
  · rw [if_neg s] at hres; subst hres; exact Ans.not s (Ans.pure _)
def allIn (x : List Int) (lo hi : Int) : Bool := x.all fun a => decide (lo ≤ a ∧ a ≤ hi)
theorem l1All (x : List Int) (hx : x.length ≤ 17592186044416) (lo hi : Int) : Ans (fun k => spec_l1All.f k x lo hi) (allIn x lo hi) := by
  have key : ∀ (d : Nat) (i : Int), 0 ≤ i → i + d = x.length → Ans (fun k => spec_l1All.l0 k lo hi x (x.length : Int) i) (allIn (x.drop i.toNat) lo hi) := by
    intro d
    induction d with
    | zero =>
      intro i h0 h1
      rw [List.drop_eq_nil_of_le (by omega)]; refine Ans.step ?_
      simp only [spec_l1All.l0]; exact Ans.not (by omega) (Ans.pure _)
    | succ d ih =>
      intro i h0 h1
      have hd := drop_at x 0 (show i.toNat < x.length by omega)
      have e := ih (i + 1) (by omega) (by omega)
      rw [hd, allIn, List.all_cons, show decide (lo ≤ x.getD i.toNat 0 ∧ x.getD i.toNat 0 ≤ hi) = decide (lo ≤ rd x i ∧ rd x i ≤ hi) from rfl]
      refine Ans.step ?_
      simp only [spec_l1All.l0, l1In, Option.bind_some, wrap64_up h0 (by omega : i ≤ 4611686018427387904)]
      refine Ans.yes (by omega) (Ans.yes h0 (Ans.yes (by omega) ?_))
      by_cases c : decide (lo ≤ rd x i ∧ rd x i ≤ hi) = true
      · rw [c, Bool.true_and]; rw [show (i + 1).toNat = i.toNat + 1 by omega] at e; exact Ans.yes rfl e
      · rw [Bool.eq_false_iff.mpr c, Bool.false_and]; exact Ans.not (by simp) (Ans.pure _)
  exact key x.length 0 (by omega) (by omega)
theorem smCopy (x : List (List Int)) (h : x.length ≤ 1048576) (hr : ∀ r ∈ x, r.length ≤ 1048576) : Ans (fun k => spec_smCopy.f k x) x := by
  have key : ∀ (d : Nat) (i : Int) (acc : List (List Int)), 0 ≤ i → i + d = x.length → acc.length + d ≤ 1048576 → Ans (fun k => spec_smCopy.l0 k acc x (x.length : Int) i) (acc ++ x.drop i.toNat) := by
    intro d
    induction d with
    | zero =>
      intro i acc h0 h1 h2
      rw [List.drop_eq_nil_of_le (by omega), List.append_nil]; refine Ans.step ?_
      simp only [spec_smCopy.l0]; exact Ans.not (by omega) (Ans.pure _)
    | succ d ih =>
      intro i acc h0 h1 h2
      have hm := hr _ (rd_L1_mem h0 (show i < x.length by omega))
      have e := ih (i + 1) (acc ++ [rd_L3 x i]) (by omega) (by omega) (by simp only [List.length_append, List.length_singleton]; omega)
      rw [show (i + 1).toNat = i.toNat + 1 by omega, List.append_assoc, List.singleton_append] at e
      rw [drop_at x [] (show i.toNat < x.length by omega), show x.getD i.toNat [] = rd_L3 x i from rfl]
      refine Ans.step ?_
      simp only [spec_smCopy.l0, spec_l1Own.f, Option.bind_some, List.nil_append, List.length_nil, if_pos (by omega : 0 + (rd_L3 x i).length < 17592186044416), wrap64_up h0 (by omega : i ≤ 4611686018427387904)]
      exact Ans.yes (by omega) (Ans.yes h0 (Ans.yes (by omega) (Ans.yes (by omega) e)))
  exact key x.length 0 [] (by omega) (by omega) (by simp only [List.length_nil]; omega)
theorem copyTable (x : List (List Int)) (h : x.length ≤ 1048576) (hr : ∀ r ∈ x, r.length ≤ 1048576) : Ans (fun k => impl_copyTable.f k x) x := by
  have key : ∀ (d : Nat) (i : Int) (acc : List (List Int)), 0 ≤ i → i + d = x.length → acc.length + d ≤ 1048576 → Ans (fun k => impl_copyTable.l0 k acc x (x.length : Int) i) (acc ++ x.drop i.toNat) := by
    intro d
    induction d with
    | zero =>
      intro i acc h0 h1 h2
      rw [List.drop_eq_nil_of_le (by omega), List.append_nil]; refine Ans.step ?_
      simp only [impl_copyTable.l0]; exact Ans.not (by omega) (Ans.pure _)
    | succ d ih =>
      intro i acc h0 h1 h2
      have hm := hr _ (rd_L1_mem h0 (show i < x.length by omega))
      have e := ih (i + 1) (acc ++ [rd_L3 x i]) (by omega) (by omega) (by simp only [List.length_append, List.length_singleton]; omega)
      rw [show (i + 1).toNat = i.toNat + 1 by omega, List.append_assoc, List.singleton_append] at e
      rw [drop_at x [] (show i.toNat < x.length by omega), show x.getD i.toNat [] = rd_L3 x i from rfl]
      refine Ans.step ?_
      simp only [impl_copyTable.l0, slices_Clone_int_int.f, Option.bind_some, if_pos (by omega : (rd_L3 x i).length < 17592186044416), wrap64_up h0 (by omega : i ≤ 4611686018427387904)]
      exact Ans.yes (by omega) (Ans.yes h0 (Ans.yes (by omega) (Ans.yes (by omega) e)))
  exact key x.length 0 [] (by omega) (by omega) (by simp only [List.length_nil]; omega)
theorem tab_rect {r c : Nat} {y : List (List Int)} (h1 : y.length = r) (h2 : ∀ a ∈ y, a.length = c) (v : Nat → Nat → Int) (hv : ∀ i j : Nat, i < r → j < c → v i j = (y.getD i []).getD j 0) : tab r c v = y := by
  refine List.ext_getElem (by simp [tab, h1]) fun i g1 g2 => ?_
  have hi : i < r := by rw [← h1]; exact g2
  have hr : (y.getD i []).length = c := h2 _ (getD_mem [] g2)
  rw [show (tab r c v)[i] = (List.range c).map (fun j => v i j) by simp [tab], ← getD_at y [] g2]
  refine List.ext_getElem (by simp only [List.length_map, List.length_range]; exact hr.symm) fun j p1 p2 => ?_
  rw [List.getElem_map, List.getElem_range, hv i j hi (by rw [← hr]; exact p2), getD_at _ _ p2]
theorem leftRows (x : List (List Int)) (n m : Nat) (h : Sq n x) (hn : n ≤ 100) (hm : m ≤ n) (hw : wrap64 ((x.length : Int) / 2) = (m : Int)) : ∀ (d : Nat) (i : Int) (acc : List (List Int)), 0 ≤ i → i + d = x.length → acc.length + d ≤ 100 →
    Ans (fun k => spec_LeftHalf.l0 k x acc x (x.length : Int) i) (acc ++ (x.drop i.toNat).map (List.take m), true) := by
  have hl := h.1
  intro d
  induction d with
  | zero =>
    intro i acc h0 h1 h2
    rw [drop_all x (by omega), List.map_nil, List.append_nil]; refine Ans.step ?_
    simp only [spec_LeftHalf.l0]; exact Ans.not (by omega) (Ans.pure _)
  | succ d ih =>
    intro i acc h0 h1 h2
    have hr := h.2 _ (rd_L1_mem h0 (show i < x.length by omega))
    have ht : ((rd_L3 x i).take m).length = m := by rw [List.length_take]; omega
    have e := ih (i + 1) (acc ++ [(rd_L3 x i).take m]) (by omega) (by omega) (by simp only [List.length_append, List.length_singleton]; omega)
    rw [show (i + 1).toNat = i.toNat + 1 by omega, List.append_assoc, List.singleton_append] at e
    rw [drop_at x [] (show i.toNat < x.length by omega), show x.getD i.toNat [] = rd_L3 x i from rfl]
    refine Ans.step ?_
    simp only [spec_LeftHalf.l0, hw, Int.toNat_natCast, spec_l1Own.f, Option.bind_some, List.nil_append, List.length_nil, if_pos (by omega : 0 + ((rd_L3 x i).take m).length < 17592186044416), wrap64_up h0 (by omega : i ≤ 4611686018427387904)]
    exact Ans.yes (by omega) (Ans.yes h0 (Ans.yes (by omega) (Ans.yes (by omega) (Ans.yes (by omega) (Ans.yes (by omega) e)))))
/-- What LeftHalf answers. -/
def leftRes (x : List (List Int)) : List (List Int) × Bool := if sign x = true then (if hasK x 2 = true then (x.map (List.take (x.length / 2)), true) else ([], false)) else ([], false)
theorem leftHalf (x : List (List Int)) (hx : x.length ≤ 1048576) : Ans (fun k => spec_LeftHalf.f k x) (leftRes x) ∧ Ans (fun k => impl_LeftHalf.f k x) (leftRes x) := by
  have no : Ans (fun k => spec_LeftHalf.j0 k x true) ([], false) := by
    refine Ans.step ?_; simp only [spec_LeftHalf.j0]; exact Ans.yes (by simp) (Ans.pure _)
  have hw : wrap64 ((x.length : Int) / 2) = ((x.length / 2 : Nat) : Int) := by rw [wrap64_in _ ⟨by omega, by omega⟩]; omega
  have hS := hasSymmetry x hx 2 _ rfl
  simp only [spec_LeftHalf.f, impl_LeftHalf.f, hw]
  by_cases s : sign x = true
  · obtain ⟨q, hq⟩ := sign_sq s
    rw [if_pos s, if_pos (by omega)] at hS
    by_cases c : hasK x 2 = true
    · rw [c] at hS
      have tl : ∀ r ∈ x.map (List.take (x.length / 2)), r.length = x.length / 2 := fun r hr => by
        obtain ⟨a, ha, rfl⟩ := List.mem_map.1 hr
        have := q.2 a ha
        rw [List.length_take]; omega
      have hg : ∀ i j : Nat, i < x.length → j < x.length / 2 → impl_LeftHalf_1.f i j x = some ((x.getD i []).getD j 0) := by
        intro i j hi hj
        have hr : (rd_L3 x (i : Int)).length = x.length := q.2 _ (rd_L1_mem (by omega) (by omega))
        simp only [impl_LeftHalf_1.f]
        rw [if_pos (by omega), if_pos (by omega), if_pos (by omega), if_pos (by omega)]
        simp only [rd, rd_L3, Int.toNat_natCast]
      have eT := table x.length (x.length / 2) hx (by omega) (fun x0_ x1_ => impl_LeftHalf_1.f x0_ x1_ x) _ hg
      rw [tab_rect (y := x.map (List.take (x.length / 2))) (by simp) tl _ (fun i j hi hj => by
        have hri : (x.getD i []).length = x.length := q.row hi
        have e1 : (x.map (List.take (x.length / 2))).getD i [] = (x.getD i []).take (x.length / 2) := by rw [getD_at _ _ (by simpa using hi), getD_at x [] hi]; simp
        have e2 : ((x.getD i []).take (x.length / 2)).getD j 0 = (x.getD i []).getD j 0 := by
          generalize x.getD i [] = row at hri
          rw [getD_at (row.take (x.length / 2)) 0 (by rw [List.length_take]; omega), getD_at row 0 (by omega), List.getElem_take]
        rw [e1, e2])] at eT
      rw [show leftRes x = (x.map (List.take (x.length / 2)), true) from by simp [leftRes, s, c]]
      refine ⟨(sgGood x hx).bind (Ans.yes s ((smHas _ x q hx 2).bind ?_)), hS.bind (Ans.yes rfl (eT.bind (Ans.pure _)))⟩
      rw [c]; refine Ans.step ?_; simp only [spec_LeftHalf.j0]
      exact Ans.not (by simp) (leftRows x x.length (x.length / 2) q (by omega) (by omega) hw x.length 0 [] (by omega) (by omega) (by simp only [List.length_nil]; omega))
    · rw [Bool.eq_false_iff.mpr c] at hS
      rw [show leftRes x = ([], false) from by simp [leftRes, s, c]]
      refine ⟨(sgGood x hx).bind (Ans.yes s ((smHas _ x q hx 2).bind ?_)), hS.bind (Ans.not (by simp) (Ans.pure _))⟩
      rw [Bool.eq_false_iff.mpr c]; exact no
  · rw [if_neg s] at hS
    rw [show leftRes x = ([], false) from by simp [leftRes, s]]
    exact ⟨(sgGood x hx).bind (Ans.not s no), hS.bind (Ans.not (by simp) (Ans.pure _))⟩
/-- What UpperHalf answers. -/
def upRes (x : List (List Int)) : List (List Int) × Bool := if sign x = true then (if (x.length : Int) % 2 = 1 then ([], false) else (if hasK x 0 = true then (x.take (x.length / 2), true) else ([], false))) else ([], false)
theorem upperHalf (x : List (List Int)) (hx : x.length ≤ 1048576) : Ans (fun k => spec_UpperHalf.f k x) (upRes x) ∧ Ans (fun k => impl_UpperHalf.f k x) (upRes x) := by
  have hw : wrap64 ((x.length : Int) / 2) = ((x.length / 2 : Nat) : Int) := by rw [wrap64_in _ ⟨by omega, by omega⟩]; omega
  have hS := hasSymmetry x hx 0 _ rfl
  simp only [spec_UpperHalf.f, impl_UpperHalf.f, hw, Int.toNat_natCast]
  by_cases s : sign x = true
  · obtain ⟨q, hq⟩ := sign_sq s
    rw [if_pos s, if_pos (by omega)] at hS
    by_cases od : (x.length : Int) % 2 = 1
    · rw [show upRes x = ([], false) from by unfold upRes; rw [if_pos s, if_pos od]]
      refine ⟨(sgGood x hx).bind (Ans.yes s (Ans.yes od (Ans.pure _))), hS.bind ?_⟩
      by_cases c : hasK x 0 = true
      · rw [c]; exact Ans.yes rfl (Ans.yes od (Ans.pure _))
      · rw [Bool.eq_false_iff.mpr c]; exact Ans.not (by simp) (Ans.pure _)
    by_cases c : hasK x 0 = true
    · rw [c] at hS
      have tl : ∀ r ∈ x.take (x.length / 2), r.length ≤ 6 := fun r hr => by rw [q.2 r (List.mem_of_mem_take hr)]; exact hq
      have tn : (x.take (x.length / 2)).length ≤ 6 := by rw [List.length_take]; omega
      rw [show upRes x = (x.take (x.length / 2), true) from by unfold upRes; rw [if_pos s, if_neg od, if_pos c]]
      refine ⟨(sgGood x hx).bind (Ans.yes s (Ans.not od ((smHas _ x q hx 0).bind ?_))), hS.bind (Ans.yes rfl (Ans.not od (Ans.yes (by omega) (Ans.yes (by omega) ((copyTable _ (by omega) (fun r hr => by have := tl r hr; omega)).bind (Ans.pure _))))))⟩
      rw [c]; exact Ans.yes rfl (Ans.yes (by omega) (Ans.yes (by omega) ((smCopy _ (by omega) (fun r hr => by have := tl r hr; omega)).bind (Ans.pure _))))
    · rw [Bool.eq_false_iff.mpr c] at hS
      rw [show upRes x = ([], false) from by unfold upRes; rw [if_pos s, if_neg od, if_neg c]]
      refine ⟨(sgGood x hx).bind (Ans.yes s (Ans.not od ((smHas _ x q hx 0).bind ?_))), hS.bind (Ans.not (by simp) (Ans.pure _))⟩
      rw [Bool.eq_false_iff.mpr c]; exact Ans.not (by simp) (Ans.pure _)
  · rw [if_neg s] at hS
    rw [show upRes x = ([], false) from by unfold upRes; rw [if_neg s]]
    exact ⟨(sgGood x hx).bind (Ans.not s (Ans.pure _)), hS.bind (Ans.not (by simp) (Ans.pure _))⟩
theorem middle (x : List (List Int)) (n m : Nat) (h : Sq n x) (hn : n ≤ 100) (hm : m < n) (hw : wrap64 ((x.length : Int) / 2) = (m : Int)) : ∀ (d : Nat) (i : Int) (acc : List Int), 0 ≤ i → i + d = x.length → acc.length + d ≤ 100 →
    Ans (fun k => spec_MiddleOf.l0 k x acc x (x.length : Int) i) (acc ++ colOf (x.drop i.toNat) m, true) := by
  have hl := h.1
  intro d
  induction d with
  | zero =>
    intro i acc h0 h1 h2
    rw [drop_all x (by omega), colOf, List.map_nil, List.append_nil]; refine Ans.step ?_
    simp only [spec_MiddleOf.l0]; exact Ans.not (by omega) (Ans.pure _)
  | succ d ih =>
    intro i acc h0 h1 h2
    have hr := h.2 _ (rd_L1_mem h0 (show i < x.length by omega))
    have e := ih (i + 1) (acc ++ [rd (rd_L3 x i) m]) (by omega) (by omega) (by simp only [List.length_append, List.length_singleton]; omega)
    rw [show (i + 1).toNat = i.toNat + 1 by omega, List.append_assoc, List.singleton_append] at e
    rw [drop_at x [] (show i.toNat < x.length by omega), show x.getD i.toNat [] = rd_L3 x i from rfl]
    refine Ans.step ?_
    simp only [spec_MiddleOf.l0, hw, wrap64_up h0 (by omega : i ≤ 4611686018427387904)]
    exact Ans.yes (by omega) (Ans.yes h0 (Ans.yes (by omega) (Ans.yes (by omega) (Ans.yes (by omega) (Ans.yes (by omega) e)))))
/-- What MiddleOf answers. -/
def midRes (x : List (List Int)) : List Int × Bool := if sign x = true then (if hasK x 2 = true then (colOf x ((x.length / 2 : Nat) : Int), true) else ([], false)) else ([], false)
theorem middleOf (x : List (List Int)) (hx : x.length ≤ 1048576) : Ans (fun k => spec_MiddleOf.f k x) (midRes x) ∧ Ans (fun k => impl_MiddleOf.f k x) (midRes x) := by
  have no : Ans (fun k => spec_MiddleOf.j0 k x true) ([], false) := by
    refine Ans.step ?_; simp only [spec_MiddleOf.j0]; exact Ans.yes (by simp) (Ans.pure _)
  have hw : wrap64 ((x.length : Int) / 2) = ((x.length / 2 : Nat) : Int) := by rw [wrap64_in _ ⟨by omega, by omega⟩]; omega
  have hS := hasSymmetry x hx 2 _ rfl
  simp only [spec_MiddleOf.f, impl_MiddleOf.f]
  by_cases s : sign x = true
  · obtain ⟨q, hq⟩ := sign_sq s
    have h1 : 1 ≤ x.length := by
      unfold sign at s; rw [Bool.and_eq_true] at s; exact (square_of s.1).1
    rw [if_pos s, if_pos (by omega)] at hS
    by_cases c : hasK x 2 = true
    · rw [c] at hS
      rw [show midRes x = (colOf x ((x.length / 2 : Nat) : Int), true) from by simp [midRes, s, c]]
      refine ⟨(sgGood x hx).bind (Ans.yes s ((smHas _ x q hx 2).bind ?_)), hS.bind (Ans.yes rfl ?_)⟩
      · rw [c]; refine Ans.step ?_; simp only [spec_MiddleOf.j0]
        exact Ans.not (by simp) (middle x x.length (x.length / 2) q (by omega) (by omega) hw x.length 0 [] (by omega) (by omega) (by simp only [List.length_nil]; omega))
      · simp only [hw]
        exact (column x _ hx (by omega) (fun r hr => by rw [q.2 r hr]; omega)).bind (Ans.pure _)
    · rw [Bool.eq_false_iff.mpr c] at hS
      rw [show midRes x = ([], false) from by simp [midRes, s, c]]
      refine ⟨(sgGood x hx).bind (Ans.yes s ((smHas _ x q hx 2).bind ?_)), hS.bind (Ans.not (by simp) (Ans.pure _))⟩
      rw [Bool.eq_false_iff.mpr c]; exact no
  · rw [if_neg s] at hS
    rw [show midRes x = ([], false) from by simp [midRes, s]]
    exact ⟨(sgGood x hx).bind (Ans.not s no), hS.bind (Ans.not (by simp) (Ans.pure _))⟩
theorem walk_sum : ∀ (x : List Int) (s : Int), walkOk s x = true → s + x.sum = 1
  | [], s, h => by simpa [walkOk] using h
  | a :: x, s, h => by
    rw [walkOk, Bool.and_eq_true, Bool.and_eq_true] at h
    have := walk_sum x (s + a) h.2.2
    rw [List.sum_cons]; omega
theorem walkBetween : ∀ (x : List Int) (s : Int), walkOk s x = true → ∀ a ∈ x, -1 ≤ a ∧ a ≤ 1
  | [], _, _ => by simp
  | b :: x, s, h => by
    rw [walkOk, Bool.and_eq_true, Bool.and_eq_true] at h
    intro a ha
    rcases List.mem_cons.1 ha with rfl | ha
    · exact of_decide_eq_true h.1
    · exact walkBetween x (s + b) h.2.2 a ha
/-- Where all are odd, they are 1 and -1 in turn. -/
theorem walk_odd : ∀ (x : List Int) (s : Int), 0 ≤ s → s ≤ 1 → walkOk s x = true → (∀ a ∈ x, a % 2 = 1) → ∀ i : Nat, i < x.length → x.getD i 0 = 1 - 2 * (((i : Int) + s) % 2)
  | [], _, _, _, _, _ => by simp
  | a :: x, s, s0, s1, h, ho => by
    rw [walkOk, Bool.and_eq_true, Bool.and_eq_true] at h
    have h1 := of_decide_eq_true h.1
    have h2 := of_decide_eq_true h.2.1
    have ha := ho a (by simp)
    intro i hi
    cases i with
    | zero => simp only [List.getD_cons_zero]; omega
    | succ i =>
      have := walk_odd x (s + a) h2.1 h2.2 h.2.2 (fun b hb => ho b (by simp [hb])) i (by simpa using hi)
      rw [List.getD_cons_succ, this]; omega
def specRow (h : List Int) : List Int := h ++ [1 - 2 * h.sum] ++ h.reverse
def implRow (h : List Int) (i : Nat) : List Int := h ++ [1 - 2 * ((i : Int) % 2)] ++ h.reverse
def specOut (x : List (List Int)) : List (List Int) := x.map specRow
def implOut (x : List (List Int)) : List (List Int) := (List.range x.length).map fun (i : Nat) => implRow (x.getD i []) i
def final (o : List (List Int)) : List (List Int) × Bool := if sign o = true then (o, true) else ([], false)
theorem backs (n m : Nat) (hn : n ≤ 6) (x out : List (List Int)) (half : List Int) (i : Int) (h0 : 0 ≤ i) (hi : i ≤ 100) (hh : half.length ≤ 6) (ho : out.length ≤ 100) {R : List (List Int) × Bool} : ∀ (d : Nat) (acc : List Int), d ≤ half.length → acc.length + d ≤ 100 →
    Ans (fun k => spec_FromLeftHalf.l0 k (n : Int) (out ++ [acc ++ (half.take d).reverse]) x (x.length : Int) (i + 1)) R → Ans (fun k => spec_FromLeftHalf.l2 k (n : Int) out half acc ((d : Int) - 1) x (x.length : Int) i) R := by
  intro d
  induction d with
  | zero =>
    intro acc h2 h3 e
    rw [List.take_zero, List.reverse_nil, List.append_nil] at e
    refine Ans.step ?_
    simp only [spec_FromLeftHalf.l2, wrap64_up h0 (by omega : i ≤ 4611686018427387904)]
    exact Ans.not (by omega) (Ans.yes (by omega) e)
  | succ d ih =>
    intro acc h2 h3 e
    rw [take_up half 0 (show d < half.length by omega), List.reverse_append, List.reverse_singleton, List.singleton_append] at e
    have hj : ((d + 1 : Nat) : Int) - 1 = (d : Int) := by omega
    have := ih (acc ++ [rd half d]) (by omega) (by simp only [List.length_append, List.length_singleton]; omega) (by
      rw [List.append_assoc, List.singleton_append, show rd half (d : Int) = half.getD d 0 by unfold rd; rw [Int.toNat_natCast]]; exact e)
    refine Ans.step ?_
    simp only [spec_FromLeftHalf.l2, hj, wrap64_down (show (0 : Int) ≤ (d : Int) by omega) (by omega : (d : Int) ≤ 4611686018427387904)]
    exact Ans.yes (by omega) (Ans.yes (by omega) (Ans.yes (by omega) (Ans.yes (by omega) this)))
theorem sums (n m : Nat) (hn : n ≤ 6) (hm : wrap64 ((n : Int) / 2) = (m : Int)) (x out : List (List Int)) (half : List Int) (i : Int) (h0 : 0 ≤ i) (hi : i ≤ 100) (hh : half.length = m) (hm6 : m ≤ 6) (hin : ∀ a ∈ half, -1 ≤ a ∧ a ≤ 1) (ho : out.length ≤ 100) {R : List (List Int) × Bool}
    (e : Ans (fun k => spec_FromLeftHalf.l0 k (n : Int) (out ++ [specRow half]) x (x.length : Int) (i + 1)) R) : ∀ (d : Nat) (j s : Int), 0 ≤ j → j + d = half.length → s + (half.drop j.toNat).sum = half.sum → -j ≤ s → s ≤ j →
    Ans (fun k => spec_FromLeftHalf.l1 k (n : Int) out half s half x (x.length : Int) i half (half.length : Int) j) R := by
  intro d
  induction d with
  | zero =>
    intro j s j0 j1 hs s0 s1
    rw [drop_all half (by omega), List.sum_nil] at hs
    have w1 : wrap64 (2 * s) = 2 * s := wrap64_in _ ⟨by omega, by omega⟩
    have w2 : wrap64 (1 - 2 * s) = 1 - 2 * s := wrap64_in _ ⟨by omega, by omega⟩
    have w3 : wrap64 ((m : Int) - 1) = (m : Int) - 1 := wrap64_in _ ⟨by omega, by omega⟩
    refine Ans.step ?_
    simp only [spec_FromLeftHalf.l1, hm, w1, w2, w3]
    refine Ans.not (by omega) (Ans.yes (by omega) ?_)
    have := backs n m hn x out half i h0 hi (by omega) ho (R := R) m (half ++ [1 - 2 * s]) (by omega) (by simp only [List.length_append, List.length_singleton]; omega)
    refine this ?_
    rw [List.take_of_length_le (by omega), show s = half.sum by omega]
    exact e
  | succ d ih =>
    intro j s j0 j1 hs s0 s1
    have hmem : rd half j ∈ half := by unfold rd; exact getD_mem 0 (by omega)
    have hb := hin _ hmem
    rw [drop_at half 0 (show j.toNat < half.length by omega), List.sum_cons, show half.getD j.toNat 0 = rd half j from rfl] at hs
    have w1 : wrap64 (s + rd half j) = s + rd half j := wrap64_in _ ⟨by omega, by omega⟩
    refine Ans.step ?_
    simp only [spec_FromLeftHalf.l1, w1, wrap64_up j0 (by omega : j ≤ 4611686018427387904)]
    exact Ans.yes (by omega) (Ans.yes j0 (Ans.yes (by omega) (ih (j + 1) _ (by omega) (by omega) (by rw [show (j + 1).toNat = j.toNat + 1 by omega]; omega) (by omega) (by omega))))
def okHalf (m : Nat) (h : List Int) : Bool := decide (h.length = m) && allIn h (-1) 1
theorem specLoop (n m : Nat) (hn : n ≤ 6) (hm : wrap64 ((n : Int) / 2) = (m : Int)) (hm6 : m ≤ 6) (x : List (List Int)) (hx : x.length ≤ 6) (hr : ∀ r ∈ x, r.length ≤ 1048576) : ∀ (d : Nat) (i : Int) (out : List (List Int)), 0 ≤ i → i + d = x.length → out.length + d ≤ 100 →
    Ans (fun k => spec_FromLeftHalf.l0 k (n : Int) out x (x.length : Int) i) (if (x.drop i.toNat).all (okHalf m) then final (out ++ specOut (x.drop i.toNat)) else ([], false)) := by
  intro d
  induction d with
  | zero =>
    intro i out h0 h1 h2
    rw [drop_all x (by omega), specOut, List.map_nil, List.append_nil, List.all_nil, if_pos rfl, final]; refine Ans.step ?_
    simp only [spec_FromLeftHalf.l0]
    refine Ans.not (by omega) ((sgGood out (by omega)).bind ?_)
    by_cases c : sign out = true
    · simp only [if_pos c]; exact Ans.pure _
    · simp only [if_neg c]; exact Ans.pure _
  | succ d ih =>
    intro i out h0 h1 h2
    have hl := hr _ (rd_L1_mem h0 (show i < x.length by omega))
    have e := ih (i + 1) (out ++ [specRow (rd_L3 x i)]) (by omega) (by omega) (by simp only [List.length_append, List.length_singleton]; omega)
    rw [show (i + 1).toNat = i.toNat + 1 by omega, List.append_assoc, List.singleton_append] at e
    have no : Ans (fun k => spec_FromLeftHalf.j2 k (n : Int) out (rd_L3 x i) x (x.length : Int) i true) ([], false) := by
      refine Ans.step ?_; simp only [spec_FromLeftHalf.j2]; exact Ans.yes (by simp) (Ans.pure _)
    rw [drop_at x [] (show i.toNat < x.length by omega), show x.getD i.toNat [] = rd_L3 x i from rfl, List.all_cons, okHalf]
    refine Ans.step ?_
    simp only [spec_FromLeftHalf.l0, hm]
    refine Ans.yes (by omega) (Ans.yes h0 (Ans.yes (by omega) ?_))
    by_cases c1 : (rd_L3 x i).length = m
    case neg => rw [decide_eq_false c1, Bool.false_and, Bool.false_and, if_neg (by simp)]; exact Ans.not (by omega) no
    rw [decide_eq_true c1, Bool.true_and]
    refine Ans.yes (by omega) ((l1All _ (by omega) (-1) 1).bind ?_)
    by_cases c2 : allIn (rd_L3 x i) (-1) 1 = true
    case neg => rw [Bool.eq_false_iff.mpr c2, Bool.false_and, if_neg (by simp)]; exact no
    rw [c2, Bool.true_and]
    have hin : ∀ a ∈ rd_L3 x i, -1 ≤ a ∧ a ≤ 1 := fun a ha => of_decide_eq_true (List.all_eq_true.mp c2 a ha)
    refine Ans.step ?_
    simp only [spec_FromLeftHalf.j2, spec_l1Own.f, Option.bind_some, List.nil_append, List.length_nil, if_pos (by omega : 0 + (rd_L3 x i).length < 17592186044416)]
    exact Ans.not (by simp) (sums n m hn hm x out _ i h0 (by omega) c1 hm6 hin (by omega) e _ 0 0 (by omega) (show (0 : Int) + ((rd_L3 x i).length : Nat) = _ by omega) (by simp) (by omega) (by omega))
theorem sign_row {x : List (List Int)} (s : sign x = true) : ∀ r ∈ x, walkOk 0 r = true := by
  unfold sign at s; rw [Bool.and_eq_true] at s
  have t := s.2; rw [Bool.and_eq_true] at t
  exact fun r hr => List.all_eq_true.mp t.1 r hr
theorem sign_col {x : List (List Int)} (s : sign x = true) (j : Nat) (hj : j < x.length) : walkOk 0 (colOf x j) = true := by
  unfold sign at s; rw [Bool.and_eq_true] at s
  have t := s.2; rw [Bool.and_eq_true] at t
  exact List.all_eq_true.mp t.2 j (List.mem_range.mpr hj)
theorem sum_rev (h : List Int) : h.reverse.sum = h.sum := by
  induction h with
  | nil => rfl
  | cons a h ih => simp only [List.reverse_cons, List.sum_append, List.sum_cons, List.sum_nil, ih]; omega
theorem implOut_at (x : List (List Int)) (i : Nat) (hi : i < x.length) : (implOut x).getD i [] = implRow (x.getD i []) i := by
  rw [getD_at _ _ (by simpa [implOut] using hi)]; simp [implOut]
theorem out_same (x : List (List Int)) (m : Nat) (hl : ∀ r ∈ x, r.length = m) (hm : m < x.length) (s : sign (specOut x) = true ∨ sign (implOut x) = true) : specOut x = implOut x := by
  refine List.ext_getElem (by simp [specOut, implOut]) fun i h1 h2 => ?_
  have hi : i < x.length := by simpa [specOut] using h1
  have e1 : (specOut x)[i] = specRow (x.getD i []) := by rw [getD_at x [] hi]; simp [specOut]
  have e2 : (implOut x)[i] = implRow (x.getD i []) i := by rw [← getD_at (implOut x) [] h2]; exact implOut_at x i hi
  rw [e1, e2]
  have key : 1 - 2 * (x.getD i []).sum = 1 - 2 * ((i : Int) % 2) := by
    rcases s with s | s
    · have hc := sign_col s m (by simpa [specOut] using hm)
      have ec : colOf (specOut x) (m : Int) = x.map fun h => 1 - 2 * h.sum := by
        simp only [colOf, specOut, List.map_map]
        refine List.map_congr_left fun h hh => ?_
        have := hl h hh
        simp only [Function.comp, rd, Int.toNat_natCast, specRow]
        rw [getD_at _ _ (by simp only [List.length_append, List.length_singleton]; omega), List.getElem_append_left (by simp only [List.length_append, List.length_singleton]; omega), List.getElem_append_right (by omega)]
        simp [this]
      rw [ec] at hc
      have := walk_odd _ 0 (by omega) (by omega) hc (fun a ha => by obtain ⟨h, _, rfl⟩ := List.mem_map.1 ha; omega) i (by simpa using hi)
      rw [getD_at _ _ (by simpa using hi), List.getElem_map, ← getD_at x [] hi] at this
      rw [this]; omega
    · have hw := sign_row s (implRow (x.getD i []) i) (by rw [← implOut_at x i hi]; exact getD_mem [] (by simpa [implOut] using hi))
      have := walk_sum _ 0 hw
      simp only [implRow, List.sum_append, List.sum_cons, List.sum_nil, sum_rev] at this
      omega
  rw [specRow, implRow, key]
theorem final_same (x : List (List Int)) (m : Nat) (hl : ∀ r ∈ x, r.length = m) (hm : m < x.length) : final (specOut x) = final (implOut x) := by
  by_cases s : sign (specOut x) = true ∨ sign (implOut x) = true
  · rw [out_same x m hl hm s]
  · have h := not_or.mp s
    rw [final, final, if_neg h.1, if_neg h.2]
theorem final_small (o : List (List Int)) : (final o).1.length ≤ 6 ∧ ∀ r ∈ (final o).1, r.length ≤ 6 := by
  unfold final
  by_cases s : sign o = true
  · rw [if_pos s]
    unfold sign at s
    rw [Bool.and_eq_true] at s
    obtain ⟨b1, b2, b3⟩ := square_of s.1
    exact ⟨b2, fun r hr => by rw [b3 r hr]; exact b2⟩
  · rw [if_neg s]; simp
theorem tab_impl (x : List (List Int)) (n m : Nat) (hn : x.length = n) (hnm : n = 2 * m + 1) (hl : ∀ r ∈ x, r.length = m) (v : Nat → Nat → Int)
    (hv : ∀ i j : Nat, i < n → j < n → v i j = if j < m then (x.getD i []).getD j 0 else if m < j then (x.getD i []).getD (n - 1 - j) 0 else 1 - 2 * ((i : Int) % 2)) : tab n n v = implOut x := by
  refine List.ext_getElem (by simp [tab, implOut, hn]) fun i h1 h2 => ?_
  have hi : i < n := by simpa [tab] using h1
  rw [show (tab n n v)[i] = (List.range n).map (fun j => v i j) by simp [tab], ← getD_at (implOut x) [] h2, implOut_at x i (by omega)]
  have hr : (x.getD i []).length = m := hl _ (getD_mem [] (by omega))
  refine List.ext_getElem (by simp only [List.length_map, List.length_range, implRow, List.length_append, List.length_singleton, List.length_reverse]; omega) fun j g1 g2 => ?_
  have hj : j < n := by simpa using g1
  rw [List.getElem_map, List.getElem_range, hv i j hi hj]
  generalize x.getD i [] = row at hr g2
  simp only [implRow]
  by_cases c1 : j < m
  · rw [if_pos c1, List.getElem_append_left (by simp only [List.length_append, List.length_singleton]; omega), List.getElem_append_left (by omega), getD_at _ _ (by omega)]
  · rw [if_neg c1]
    by_cases c2 : m < j
    · rw [if_pos c2, List.getElem_append_right (by simp only [List.length_append, List.length_singleton]; omega), List.getElem_reverse, getD_at _ _ (by omega)]
      congr 1; simp only [List.length_append, List.length_singleton]; omega
    · rw [if_neg c2, List.getElem_append_left (by simp only [List.length_append, List.length_singleton]; omega), List.getElem_append_right (by omega)]
      simp
/-- What FromLeftHalf answers. -/
def fromRes (x : List (List Int)) : List (List Int) × Bool := if 1 ≤ x.length ∧ x.length ≤ 6 then (if x.length % 2 = 0 then ([], false) else (if x.all (okHalf (x.length / 2)) then final (specOut x) else ([], false))) else ([], false)
theorem fromLeft (x : List (List Int)) (h : x.length ≤ 1048576) (hr : ∀ r ∈ x, r.length ≤ 1048576) :
    Ans (fun k => spec_FromLeftHalf.f k x) (fromRes x) ∧ Ans (fun k => impl_FromLeftHalf.f k x) (fromRes x) := by
  have noS : Ans (fun k => spec_FromLeftHalf.j0 k x (x.length : Int) true) ([], false) := by
    refine Ans.step ?_; simp only [spec_FromLeftHalf.j0]; exact Ans.yes (by simp) (Ans.pure _)
  have noI : Ans (fun k => impl_FromLeftHalf.j0 k true x (x.length : Int)) ([], false) := by
    refine Ans.step ?_; simp only [impl_FromLeftHalf.j0]; exact Ans.yes (by simp) (Ans.pure _)
  simp only [spec_FromLeftHalf.f, impl_FromLeftHalf.f, impl_isSide.f, l1In, within, Option.bind_some]
  by_cases c : 1 ≤ x.length ∧ x.length ≤ 6
  case neg =>
    rw [show fromRes x = ([], false) from by unfold fromRes; rw [if_neg c]]
    exact ⟨Ans.not (by simp; omega) noS, Ans.not (by simp; omega) noI⟩
  by_cases od : (x.length : Int) % 2 = 0
  · rw [show fromRes x = ([], false) from by unfold fromRes; rw [if_pos c, if_pos (by omega)]]
    refine ⟨Ans.yes (by simp; omega) ?_, Ans.yes (by simp; omega) (Ans.yes od noI)⟩
    rw [show (((x.length : Int) % 2) == 0) = true by simp [od]]; exact noS
  obtain ⟨m, hm⟩ : ∃ m, x.length = 2 * m + 1 := ⟨x.length / 2, by omega⟩
  have hw : wrap64 ((x.length : Int) / 2) = (m : Int) := by rw [wrap64_in _ ⟨by omega, by omega⟩]; omega
  have hw2 : wrap64 (Int.tdiv (x.length : Int) 2) = (m : Int) := by rw [Int.tdiv_eq_ediv_of_nonneg (by omega)]; exact hw
  have eS := specLoop x.length m c.2 hw (by omega) x c.2 hr x.length 0 [] (by omega) (by omega) (by simp only [List.length_nil]; omega)
  rw [show (0 : Int).toNat = 0 from rfl, List.drop_zero, List.nil_append] at eS
  have eS' : Ans (fun k => spec_FromLeftHalf.j0 k x (x.length : Int) (((x.length : Int) % 2) == 0)) (if x.all (okHalf m) then final (specOut x) else ([], false)) := by
    rw [show (((x.length : Int) % 2) == 0) = false by simp [od]]
    refine Ans.step ?_; simp only [spec_FromLeftHalf.j0]; exact Ans.not (by simp) eS
  have eC := containsL x (by omega) (fun x0_ => impl_FromLeftHalf_1.f x0_ (x.length : Int)) (fun r => (r.length : Int) != (m : Int)) (fun a => by simp only [impl_FromLeftHalf_1.f, hw2])
  rw [show fromRes x = (if x.all (okHalf m) then final (specOut x) else ([], false)) from by unfold fromRes; rw [if_pos c, if_neg (by omega), show x.length / 2 = m by omega]]
  refine ⟨Ans.yes (by simp; omega) eS', Ans.yes (by simp; omega) (Ans.not od (Ans.not (by rw [hw]; omega) (eC.bind ?_)))⟩
  by_cases q : ∀ r ∈ x, r.length = m
  case neg =>
    have hq : (x.any fun r => (r.length : Int) != (m : Int)) = true := by
      obtain ⟨r, hm'⟩ := Classical.not_forall.mp q
      obtain ⟨hm', hne⟩ := Classical.not_imp.mp hm'
      refine List.any_eq_true.mpr ⟨r, hm', ?_⟩
      simp only [bne_iff_ne, ne_eq]; omega
    have ha : ¬ x.all (okHalf m) = true := fun ha => q fun r hr => by
      have := List.all_eq_true.mp ha r hr
      rw [okHalf, Bool.and_eq_true] at this
      exact of_decide_eq_true this.1
    rw [hq, if_neg ha]; exact noI
  have hq : (x.any fun r => (r.length : Int) != (m : Int)) = false := by
    rw [Bool.eq_false_iff]; intro hc
    obtain ⟨r, hmem, hne⟩ := List.any_eq_true.mp hc
    have := q r hmem
    simp [this] at hne
  rw [hq]
  have hg : ∀ i j : Nat, i < x.length → j < x.length → impl_FromLeftHalf_2.f i j (x.length : Int) x = some (if j < m then rd (rd_L3 x (i : Int)) (j : Int) else if m < j then rd (rd_L3 x (i : Int)) ((x.length - 1 - j : Nat) : Int) else 1 - 2 * ((i : Int) % 2)) := by
    intro i j hi hj
    have hrow : (rd_L3 x (i : Int)).length = m := q _ (rd_L1_mem (by omega) (by omega))
    have w2 : wrap64 ((x.length : Int) - 1) = (x.length : Int) - 1 := wrap64_in _ ⟨by omega, by omega⟩
    have w3 : wrap64 ((x.length : Int) - 1 - (j : Int)) = ((x.length - 1 - j : Nat) : Int) := by rw [wrap64_in _ ⟨by omega, by omega⟩]; omega
    have w4 : Int.tmod (i : Int) 2 = (i : Int) % 2 := Int.tmod_eq_emod_of_nonneg (by omega)
    have w5 : wrap64 ((i : Int) % 2 * 2) = (i : Int) % 2 * 2 := wrap64_in _ ⟨by omega, by omega⟩
    have w6 : wrap64 (1 - (i : Int) % 2 * 2) = 1 - 2 * ((i : Int) % 2) := by rw [wrap64_in _ ⟨by omega, by omega⟩]; omega
    simp only [impl_FromLeftHalf_2.f, hw2, w2, w3, w4, w5, w6]
    by_cases c1 : j < m
    · rw [if_pos c1, if_pos (by omega), if_pos (by omega), if_pos (by omega), if_pos (by omega), if_pos (by omega)]
    · rw [if_neg c1, if_neg (show ¬ (j : Int) < (m : Int) by omega)]
      by_cases c2 : m < j
      · rw [if_pos c2, if_pos (show (j : Int) > (m : Int) by omega), if_pos (by omega), if_pos (by omega), if_pos (by omega), if_pos (by omega)]
      · rw [if_neg c2, if_neg (show ¬ (j : Int) > (m : Int) by omega)]
  have eT := table x.length x.length h h (fun x0_ x1_ => impl_FromLeftHalf_2.f x0_ x1_ (x.length : Int) x) _ hg
  rw [tab_impl x x.length m rfl hm q _ (fun i j _ _ => by simp only [rd, rd_L3, Int.toNat_natCast])] at eT
  have il : (implOut x).length ≤ 1048576 := by simp only [implOut, List.length_map, List.length_range]; exact h
  have eI : Ans (fun k => impl_FromLeftHalf.j0 k false x (x.length : Int)) (final (implOut x)) := by
    refine Ans.step ?_
    simp only [impl_FromLeftHalf.j0]
    refine Ans.not (by simp) (eT.bind ((isSign (implOut x) il).bind ?_))
    unfold final
    by_cases s : sign (implOut x) = true
    · simp only [if_pos s]; exact Ans.pure _
    · simp only [if_neg s]; exact Ans.pure _
  by_cases A : x.all (okHalf m) = true
  · rw [if_pos A, final_same x m q (by omega)]; exact eI
  · rw [if_neg A]
    have ns : ¬ sign (implOut x) = true := fun s => A (List.all_eq_true.mpr fun r hrm => by
      rw [okHalf, Bool.and_eq_true]
      refine ⟨decide_eq_true (q r hrm), List.all_eq_true.mpr fun a ha => decide_eq_true ?_⟩
      obtain ⟨i, hi, rfl⟩ := List.getElem_of_mem hrm
      have hw := sign_row s (implRow (x.getD i []) i) (by rw [← implOut_at x i hi]; exact getD_mem [] (by simpa [implOut] using hi))
      refine walkBetween _ 0 hw a ?_
      rw [getD_at x [] hi, implRow]
      simp [ha])
    rw [final, if_neg ns] at eI
    exact eI
/-- The row, turned round. -/
theorem back (x out : List (List Int)) (i : Int) (h0 : 0 ≤ i) (h1 : i < x.length) (hx : x.length ≤ 1048576) (ho : out.length ≤ 1048576) (hr : ∀ r ∈ x, r.length ≤ 1048576) {R : List (List Int) × Bool} : ∀ (d : Nat) (acc : List Int), d ≤ (rd_L3 x i).length → acc.length + d ≤ 1048576 →
    Ans (fun k => spec_FromUpperHalf.l0 k x (out ++ [acc ++ ((rd_L3 x i).take d).reverse]) (i - 1)) R → Ans (fun k => spec_FromUpperHalf.l1 k x out i acc ((d : Int) - 1)) R := by
  intro d
  induction d with
  | zero =>
    intro acc h2 h3 e
    rw [List.take_zero, List.reverse_nil, List.append_nil] at e
    refine Ans.step ?_
    simp only [spec_FromUpperHalf.l1, wrap64_down h0 (by omega : i ≤ 4611686018427387904)]
    exact Ans.not (by omega) (Ans.yes (by omega) e)
  | succ d ih =>
    intro acc h2 h3 e
    have hl := hr _ (rd_L1_mem h0 h1)
    rw [take_up (rd_L3 x i) 0 (show d < (rd_L3 x i).length by omega), List.reverse_append, List.reverse_singleton, List.singleton_append] at e
    have hj : ((d + 1 : Nat) : Int) - 1 = (d : Int) := by omega
    have := ih (acc ++ [rd (rd_L3 x i) d]) (by omega) (by simp only [List.length_append, List.length_singleton]; omega) (by
      rw [List.append_assoc, List.singleton_append]; rw [show rd (rd_L3 x i) (d : Int) = (rd_L3 x i).getD d 0 by unfold rd; rw [Int.toNat_natCast]]; exact e)
    refine Ans.step ?_
    simp only [spec_FromUpperHalf.l1, hj, wrap64_down (show (0 : Int) ≤ (d : Int) by omega) (by omega : (d : Int) ≤ 4611686018427387904)]
    exact Ans.yes (by omega) (Ans.yes h0 (Ans.yes h1 (Ans.yes (by omega) (Ans.yes (by omega) (Ans.yes (by omega) this)))))
def whole (x : List (List Int)) : List (List Int) := x ++ x.reverse.map List.reverse
theorem specFrom (x : List (List Int)) (h : x.length ≤ 1048576) (hr : ∀ r ∈ x, r.length ≤ 1048576) : ∀ (d : Nat) (out : List (List Int)), d ≤ x.length → d ≤ 3 → out.length + d ≤ 6 →
    Ans (fun k => spec_FromUpperHalf.l0 k x out ((d : Int) - 1)) (if sign (out ++ (x.take d).reverse.map List.reverse) = true then (out ++ (x.take d).reverse.map List.reverse, true) else ([], false)) := by
  intro d
  induction d with
  | zero =>
    intro out h1 h2 h3
    rw [List.take_zero, List.reverse_nil, List.map_nil, List.append_nil]
    refine Ans.step ?_
    simp only [spec_FromUpperHalf.l0]
    refine Ans.not (by omega) ((sgGood out (by omega)).bind ?_)
    by_cases c : sign out = true
    · simp only [if_pos c]; exact Ans.pure _
    · simp only [if_neg c]; exact Ans.pure _
  | succ d ih =>
    intro out h1 h2 h3
    have hd : d < x.length := by omega
    have hm := rd_L1_mem (show (0 : Int) ≤ (d : Int) by omega) (show (d : Int) < x.length by omega)
    have hl := hr _ hm
    have e := ih (out ++ [(rd_L3 x (d : Int)).reverse]) (by omega) (by omega) (by simp only [List.length_append, List.length_singleton]; omega)
    rw [List.append_assoc, List.singleton_append] at e
    rw [take_up x [] hd, List.reverse_append, List.reverse_singleton, List.singleton_append, List.map_cons, show x.getD d [] = rd_L3 x (d : Int) by unfold rd_L3; rw [Int.toNat_natCast]]
    have hj : ((d + 1 : Nat) : Int) - 1 = (d : Int) := by omega
    have hw : wrap64 (((rd_L3 x (d : Int)).length : Int) - 1) = ((rd_L3 x (d : Int)).length : Int) - 1 := wrap64_in _ ⟨by omega, by omega⟩
    refine Ans.step ?_
    simp only [spec_FromUpperHalf.l0, hj, hw]
    refine Ans.yes (by omega) (Ans.yes (by omega) (Ans.yes (by omega) (back x out d (by omega) (by omega) h (by omega) hr _ [] (Nat.le_refl _) (by simp only [List.length_nil]; omega) ?_)))
    rw [List.nil_append, List.take_length]
    exact e
theorem getD_append {α : Type} (x y : List α) (d : α) (n : Nat) : (x ++ y).getD n d = if n < x.length then x.getD n d else y.getD (n - x.length) d := by
  simp only [List.getD_eq_getElem?_getD, List.getElem?_append]; split <;> rfl
theorem tab_whole (x : List (List Int)) (hr : ∀ r ∈ x, r.length = 2 * x.length) (v : Nat → Nat → Int) (hv : ∀ i j : Nat, i < 2 * x.length → j < 2 * x.length → v i j = if i < x.length then (x.getD i []).getD j 0 else (x.getD (2 * x.length - 1 - i) []).getD (2 * x.length - 1 - j) 0) :
    tab (2 * x.length) (2 * x.length) v = whole x := by
  refine List.ext_getElem (by simp [tab, whole]; omega) fun i h1 h2 => ?_
  have hi : i < 2 * x.length := by simpa [tab] using h1
  have e1 : (tab (2 * x.length) (2 * x.length) v)[i] = (List.range (2 * x.length)).map fun j => v i j := by simp [tab]
  rw [e1]
  have hrow : (whole x)[i] = if i < x.length then x.getD i [] else (x.getD (2 * x.length - 1 - i) []).reverse := by
    rw [← getD_at (whole x) [] h2, whole, getD_append]
    by_cases c : i < x.length
    · rw [if_pos c, if_pos c]
    · rw [if_neg c, if_neg c, getD_at _ _ (by simp; omega), List.getElem_map, List.getElem_reverse, getD_at _ _ (by omega)]
      congr 2; omega
  rw [hrow]
  have hlen : ∀ n, n < x.length → (x.getD n []).length = 2 * x.length := fun n hn => hr _ (getD_mem [] hn)
  by_cases c : i < x.length
  · rw [if_pos c]
    refine List.ext_getElem (by simp only [List.length_map, List.length_range]; exact (hlen i c).symm) fun j g1 g2 => ?_
    have hj : j < 2 * x.length := by simpa using g1
    rw [List.getElem_map, List.getElem_range, hv i j hi hj, if_pos c, getD_at _ _ g2]
  · rw [if_neg c]
    have hl := hlen (2 * x.length - 1 - i) (by omega)
    refine List.ext_getElem (by simp only [List.length_map, List.length_range, List.length_reverse]; exact hl.symm) fun j g1 g2 => ?_
    have hj : j < 2 * x.length := by simpa using g1
    rw [List.getElem_map, List.getElem_range, hv i j hi hj, if_neg c, List.getElem_reverse, getD_at _ _ (by omega)]
    congr 1; omega
/-- What FromUpperHalf answers. -/
def wholeRes (x : List (List Int)) : List (List Int) × Bool := if 1 ≤ x.length ∧ x.length ≤ 3 then (if sign (whole x) = true then (whole x, true) else ([], false)) else ([], false)
theorem fromUpper (x : List (List Int)) (h : x.length ≤ 1048576) (hr : ∀ r ∈ x, r.length ≤ 1048576) :
    Ans (fun k => spec_FromUpperHalf.f k x) (wholeRes x) ∧ Ans (fun k => impl_FromUpperHalf.f k x) (wholeRes x) := by
  have h2 : wrap64 (2 * (x.length : Int)) = ((2 * x.length : Nat) : Int) := by rw [wrap64_in _ ⟨by omega, by omega⟩]; omega
  simp only [spec_FromUpperHalf.f, impl_FromUpperHalf.f, impl_isSide.f, l1In, within, Option.bind_some, h2]
  have no : Ans (fun k => impl_FromUpperHalf.j0 k true x ((2 * x.length : Nat) : Int)) ([], false) := by
    refine Ans.step ?_; simp only [impl_FromUpperHalf.j0]; exact Ans.yes (by simp) (Ans.pure _)
  by_cases c : 1 ≤ x.length ∧ x.length ≤ 3
  case neg =>
    rw [show wholeRes x = ([], false) from by unfold wholeRes; rw [if_neg c]]
    exact ⟨Ans.not (by simp; omega) (Ans.pure _), Ans.not (by simp; omega) no⟩
  have hw : wrap64 ((x.length : Int) - 1) = (x.length : Int) - 1 := wrap64_in _ ⟨by omega, by omega⟩
  simp only [hw]
  have eS := specFrom x h hr x.length x (Nat.le_refl _) c.2 (by omega)
  rw [List.take_length, show x ++ x.reverse.map List.reverse = whole x from rfl] at eS
  have eC := containsL x (by omega) (fun x0_ => impl_FromUpperHalf_1.f x0_ ((2 * x.length : Nat) : Int)) (fun r => (r.length : Int) != ((2 * x.length : Nat) : Int)) (fun a => rfl)
  have wl : (whole x).length = 2 * x.length := by simp [whole]; omega
  rw [show wholeRes x = (if sign (whole x) = true then (whole x, true) else ([], false)) from by unfold wholeRes; rw [if_pos c]]
  refine ⟨Ans.yes (by simp; omega) ((smCopy x h hr).bind eS), Ans.yes (by simp; omega) (eC.bind ?_)⟩
  · by_cases q : ∀ r ∈ x, r.length = 2 * x.length
    · have hq : (x.any fun r => (r.length : Int) != ((2 * x.length : Nat) : Int)) = false := by
        rw [Bool.eq_false_iff]; intro hc
        obtain ⟨r, hm, hne⟩ := List.any_eq_true.mp hc
        have := q r hm
        simp [this] at hne
      rw [hq]
      have hg : ∀ i j : Nat, i < 2 * x.length → j < 2 * x.length → impl_FromUpperHalf_2.f i j ((2 * x.length : Nat) : Int) x = some (if i < x.length then rd (rd_L3 x (i : Int)) (j : Int) else rd (rd_L3 x ((2 * x.length - 1 - i : Nat) : Int)) ((2 * x.length - 1 - j : Nat) : Int)) := by
        intro i j hi hj
        have w1 : wrap64 (Int.tdiv ((2 * x.length : Nat) : Int) 2) = (x.length : Int) := by
          rw [show Int.tdiv ((2 * x.length : Nat) : Int) 2 = (x.length : Int) by rw [Int.tdiv_eq_ediv_of_nonneg (by omega)]; omega]; exact wrap64_in _ ⟨by omega, by omega⟩
        have w2 : wrap64 (((2 * x.length : Nat) : Int) - 1) = ((2 * x.length : Nat) : Int) - 1 := wrap64_in _ ⟨by omega, by omega⟩
        have w3 : wrap64 (((2 * x.length : Nat) : Int) - 1 - (i : Int)) = ((2 * x.length - 1 - i : Nat) : Int) := by rw [wrap64_in _ ⟨by omega, by omega⟩]; omega
        have w4 : wrap64 (((2 * x.length : Nat) : Int) - 1 - (j : Int)) = ((2 * x.length - 1 - j : Nat) : Int) := by rw [wrap64_in _ ⟨by omega, by omega⟩]; omega
        have hget : ∀ n : Nat, n < x.length → (rd_L3 x (n : Int)).length = 2 * x.length := fun n hn => q _ (rd_L1_mem (by omega) (by omega))
        simp only [impl_FromUpperHalf_2.f, w1, w2, w3, w4]
        by_cases ci : i < x.length
        · have := hget i ci
          rw [if_pos ci, if_pos (by omega), if_pos (by omega), if_pos (by omega), if_pos (by omega), if_pos (by omega)]
        · have := hget (2 * x.length - 1 - i) (by omega)
          rw [if_neg ci, if_neg (by omega), if_pos (by omega), if_pos (by omega), if_pos (by omega), if_pos (by omega)]
      have eT := table (2 * x.length) (2 * x.length) (by omega) (by omega) (fun x0_ x1_ => impl_FromUpperHalf_2.f x0_ x1_ ((2 * x.length : Nat) : Int) x) _ hg
      rw [tab_whole x q _ (fun i j _ _ => by simp only [rd, rd_L3, Int.toNat_natCast])] at eT
      refine Ans.step ?_
      simp only [impl_FromUpperHalf.j0]
      refine Ans.not (by simp) (eT.bind ((isSign (whole x) (by omega)).bind ?_))
      by_cases s : sign (whole x) = true
      · simp only [if_pos s]; exact Ans.pure _
      · simp only [if_neg s]; exact Ans.pure _
    · have hq : (x.any fun r => (r.length : Int) != ((2 * x.length : Nat) : Int)) = true := by
        obtain ⟨r, hm⟩ := Classical.not_forall.mp q
        obtain ⟨hm, hne⟩ := Classical.not_imp.mp hm
        refine List.any_eq_true.mpr ⟨r, hm, ?_⟩
        simp only [bne_iff_ne, ne_eq]; omega
      have hs : ¬ sign (whole x) = true := fun s => q fun r hm => by
        unfold sign at s
        rw [Bool.and_eq_true] at s
        obtain ⟨b1, b2, b3⟩ := square_of s.1
        rw [← wl]; exact b3 r (by simp [whole, hm])
      rw [hq, if_neg hs]; exact no
theorem l1Own (x : List Int) (h : x.length ≤ 1048576) : spec_l1Own.f x = some x := by
  simp only [spec_l1Own.f, Option.bind_some, List.length_nil, List.nil_append]
  rw [if_pos (by omega)]
/-- Whether a row keeps the sums of columns 0 or 1; the last row makes them 1. -/
def fitsB (last : Bool) (sums row : List Int) : Bool := (List.zipWith (fun s x => decide (0 ≤ s + x) && decide (s + x ≤ 1) && (!last || decide (s + x = 1))) sums row).all id
/-- All rows of d numbers whose signs go on to alternate from a sum s, in order. -/
def alt : Nat → Int → List (List Int)
  | 0, s => if s = 1 then [[]] else []
  | d + 1, s => (alt d 0).map ((-s) :: ·) ++ (alt d 1).map ((1 - s) :: ·)
theorem alt_len : ∀ (d : Nat) (s : Int), ∀ r ∈ alt d s, r.length = d
  | 0, s, r, h => by
    unfold alt at h
    split at h
    · rw [List.mem_singleton] at h; subst h; rfl
    · cases h
  | d + 1, s, r, h => by
    unfold alt at h
    rcases List.mem_append.1 h with h | h
    · obtain ⟨a, ha, rfl⟩ := List.mem_map.1 h; rw [List.length_cons, alt_len d 0 a ha]
    · obtain ⟨a, ha, rfl⟩ := List.mem_map.1 h; rw [List.length_cons, alt_len d 1 a ha]
theorem alt_many : ∀ (d : Nat) (s : Int), (alt d s).length ≤ 2 ^ d
  | 0, s => by unfold alt; split <;> simp
  | d + 1, s => by
    have h1 := alt_many d 0
    have h2 := alt_many d 1
    rw [alt, List.length_append, List.length_map, List.length_map, Nat.pow_succ]; omega
theorem alt_in : ∀ (d : Nat) (s : Int), 0 ≤ s → s ≤ 1 → ∀ r ∈ alt d s, ∀ x ∈ r, -1 ≤ x ∧ x ≤ 1
  | 0, s, _, _, r, h => by
    unfold alt at h
    split at h
    · rw [List.mem_singleton] at h; subst h; simp
    · cases h
  | d + 1, s, h0, h1, r, h => by
    unfold alt at h
    rcases List.mem_append.1 h with h | h
    · obtain ⟨a, ha, rfl⟩ := List.mem_map.1 h
      intro x hx
      rcases List.mem_cons.1 hx with rfl | hx
      · omega
      · exact alt_in d 0 (by omega) (by omega) a ha x hx
    · obtain ⟨a, ha, rfl⟩ := List.mem_map.1 h
      intro x hx
      rcases List.mem_cons.1 hx with rfl | hx
      · omega
      · exact alt_in d 1 (by omega) (by omega) a ha x hx
theorem mapApp (l : List Int) (x : Int) (z : List (List Int)) : (z.map (x :: ·)).map (l ++ ·) = z.map ((l ++ [x]) ++ ·) := by
  rw [List.map_map]; congr 1; funext t; simp
theorem fitsB_cons (last : Bool) (s x : Int) (ss xs : List Int) : fitsB last (s :: ss) (x :: xs) = ((decide (0 ≤ s + x) && decide (s + x ≤ 1) && (!last || decide (s + x = 1))) && fitsB last ss xs) := rfl
theorem fitsB_nil (last : Bool) (ss : List Int) : fitsB last ss [] = true := by cases ss <;> rfl
theorem rd_bits {x : List Int} {lo hi : Int} (h : ∀ a ∈ x, lo ≤ a ∧ a ≤ hi) {i : Int} (h0 : 0 ≤ i) (h1 : i < x.length) : lo ≤ rd x i ∧ rd x i ≤ hi := h _ (by unfold rd; exact getD_mem _ (by omega))
theorem filter_map_cons (last : Bool) (s x : Int) (ss : List Int) (z : List (List Int)) : (z.map (x :: ·)).filter (fun t => fitsB last (s :: ss) t) = if (decide (0 ≤ s + x) && decide (s + x ≤ 1) && (!last || decide (s + x = 1))) = true then (z.filter (fun t => fitsB last ss t)).map (x :: ·) else [] := by
  rw [List.filter_map]
  by_cases c : (decide (0 ≤ s + x) && decide (s + x ≤ 1) && (!last || decide (s + x = 1))) = true
  · rw [if_pos c]; congr 1; refine List.filter_congr fun t _ => ?_
    show fitsB last (s :: ss) (x :: t) = _
    rw [fitsB_cons, c, Bool.true_and]
  · rw [if_neg c, List.filter_eq_nil_iff.2 (fun t _ => by show ¬ (fitsB last (s :: ss) (x :: t) = true); rw [fitsB_cons, Bool.eq_false_iff.2 c]; simp)]; rfl
theorem weRows (sums : List Int) (hm : sums.length ≤ 6) (hs : ∀ s ∈ sums, 0 ≤ s ∧ s ≤ 1) : ∀ (d : Nat) (l : List Int) (s : Int), 0 ≤ s → s ≤ 1 → l.length + d = sums.length → Ans (fun k => spec_weRows.f k sums l s) (((alt d s).filter (fun t => fitsB false (sums.drop l.length) t)).map (l ++ ·)) := by
  intro d
  induction d with
  | zero =>
    intro l s h0 h1 hl
    refine Ans.step ?_
    simp only [spec_weRows.f]
    refine Ans.yes (by omega) ?_
    unfold alt
    by_cases c : s = 1
    · refine Ans.yes c ?_; rw [if_pos c, List.filter_cons, fitsB_nil, if_pos rfl, List.filter_nil, List.map_singleton, List.append_nil]; exact Ans.pure _
    · refine Ans.not c ?_; rw [if_neg c]; exact Ans.pure _
  | succ d ih =>
    intro l s h0 h1 hl
    have hlt : l.length < sums.length := by omega
    have hd := drop_at sums 0 hlt
    have hb := rd_bits hs (show (0 : Int) ≤ (l.length : Int) by omega) (show (l.length : Int) < sums.length by omega)
    have hrd : sums.getD l.length 0 = rd sums (l.length : Int) := by unfold rd; rw [Int.toNat_natCast]
    have many : ∀ (e : Nat) (z : Int) (l2 : List Int) (ss : List Int), (((alt e z).filter (fun t => fitsB false ss t)).map (l2 ++ ·)).length ≤ 2 ^ e := fun e z l2 ss => by
      rw [List.length_map]; exact Nat.le_trans (List.length_filter_le _ _) (alt_many e z)
    have h2d : 2 ^ d ≤ 2 ^ 6 := Nat.pow_le_pow_right (by omega) (by omega)
    -- one number x, tried behind what has been found
    have one : ∀ (x : Int) (out R : List (List Int)), -1 ≤ x → x ≤ 1 → out.length ≤ 1000 →
        Ans (fun k => spec_weRows.l0 k sums l s (out ++ (if 0 ≤ s + x ∧ s + x ≤ 1 then (((alt d (s + x)).map (x :: ·)).filter (fun t => fitsB false (sums.drop l.length) t)).map (l ++ ·) else [])) (x + 1)) R → Ans (fun k => spec_weRows.l0 k sums l s out x) R := by
      intro x out R hx1 hx2 ho e
      have w1 : wrap64 (s + x) = s + x := wrap64_in _ ⟨by omega, by omega⟩
      have w2 : wrap64 (rd sums (l.length : Int) + x) = rd sums (l.length : Int) + x := wrap64_in _ ⟨by omega, by omega⟩
      have w3 : wrap64 (x + 1) = x + 1 := wrap64_in _ ⟨by omega, by omega⟩
      refine Ans.step ?_
      simp only [spec_weRows.l0, l1In, Option.bind_some, w1, w2]
      refine Ans.yes (by omega) ?_
      by_cases c : 0 ≤ s + x ∧ s + x ≤ 1
      · rw [if_pos c, hd, filter_map_cons] at e
        refine Ans.yes (decide_eq_true c) (Ans.yes (by omega) (Ans.yes (by omega) (Ans.step ?_)))
        simp only [spec_weRows.j1, w1, w3]
        rw [hrd] at e
        by_cases c2 : 0 ≤ rd sums (l.length : Int) + x ∧ rd sums (l.length : Int) + x ≤ 1
        · rw [if_pos (by simp [c2.1, c2.2]), mapApp] at e
          refine Ans.yes (decide_eq_true c2) ?_
          simp only [l1Own l (by omega), Option.bind_some]
          have e1 := ih (l ++ [x]) (s + x) c.1 c.2 (by simp; omega)
          rw [show (l ++ [x]).length = l.length + 1 by simp] at e1
          refine Ans.yes (by omega) (e1.bind ?_)
          have hm1 := many d (s + x) (l ++ [x]) (sums.drop (l.length + 1))
          exact Ans.yes (by omega) e
        · rw [if_neg (by simp; omega), List.map_nil, List.append_nil] at e
          exact Ans.not (by simp only [decide_eq_true_iff]; exact c2) e
      · rw [if_neg c, List.append_nil] at e
        refine Ans.not (by simp only [decide_eq_true_iff]; exact c) (Ans.step ?_)
        simp only [spec_weRows.j1, w3]
        exact Ans.not (by simp) e
    have end_ : ∀ out : List (List Int), Ans (fun k => spec_weRows.l0 k sums l s out 2) out := fun out => by
      refine Ans.step ?_
      simp only [spec_weRows.l0]
      exact Ans.not (by omega) (Ans.pure _)
    have bnd : ∀ (x : Int), ((if 0 ≤ s + x ∧ s + x ≤ 1 then (((alt d (s + x)).map (x :: ·)).filter (fun t => fitsB false (sums.drop l.length) t)).map (l ++ ·) else []) : List (List Int)).length ≤ 64 := fun x => by
      split
      · rw [List.length_map]
        refine Nat.le_trans (List.length_filter_le _ _) ?_
        rw [List.length_map]
        exact Nat.le_trans (alt_many _ _) h2d
      · simp
    refine Ans.step ?_
    simp only [spec_weRows.f]
    refine Ans.not (by omega) ?_
    have b1 := bnd (-1)
    have b2 := bnd 0
    have e := one (-1) [] _ (by omega) (by omega) (by simp) (one 0 _ _ (by omega) (by omega) (by simp only [List.nil_append]; omega) (one 1 _ _ (by omega) (by omega) (by simp only [List.nil_append, List.length_append]; omega) (end_ _)))
    rcases (show s = 0 ∨ s = 1 by omega) with hs0 | hs1
    · subst hs0
      rw [if_neg (by omega), if_pos (by omega), if_pos (by omega)] at e
      rw [alt, List.filter_append, List.map_append]
      simpa using e
    · subst hs1
      rw [if_pos (by omega), if_pos (by omega), if_neg (by omega)] at e
      rw [alt, List.filter_append, List.map_append]
      simpa using e
/-- All matrices that go on rows with some sums of columns, in order. -/
def goOn (A : List (List Int)) : Nat → List (List Int) → List Int → List (List (List Int))
  | 0, m, _ => [m]
  | r + 1, m, sums => (A.filter (fun row => fitsB (decide (r = 0)) sums row)).flatMap fun row => goOn A r (m ++ [row]) (List.zipWith (· + ·) sums row)
theorem zip_bits : ∀ (last : Bool) (sums row : List Int), sums.length = row.length → fitsB last sums row = true → ∀ s ∈ List.zipWith (· + ·) sums row, 0 ≤ s ∧ s ≤ 1
  | _, [], [], _, _ => by simp
  | last, a :: sums, x :: row, h, hf => by
    rw [fitsB_cons, Bool.and_eq_true, Bool.and_eq_true, Bool.and_eq_true] at hf
    intro s hs
    rw [List.zipWith_cons_cons] at hs
    rcases List.mem_cons.1 hs with rfl | hs
    · exact ⟨of_decide_eq_true hf.1.1.1, of_decide_eq_true hf.1.1.2⟩
    · exact zip_bits last sums row (by simpa using h) hf.2 s hs
theorem rowOk_of {sums row : List Int} (hl : sums.length = row.length) (hs : ∀ s ∈ sums, 0 ≤ s ∧ s ≤ 1) (hr : ∀ x ∈ row, -1 ≤ x ∧ x ≤ 1) : rowOk sums row = true := by
  simp only [rowOk, Bool.and_eq_true, decide_eq_true_eq, List.all_eq_true]
  exact ⟨⟨hl, fun s h => hs s h⟩, fun x h => hr x h⟩
/-- The rows that can stand anywhere. -/
def RowsOf (n : Nat) (A : List (List Int)) : Prop := ∀ r ∈ A, r.length = n ∧ ∀ x ∈ r, -1 ≤ x ∧ x ≤ 1
theorem RowsOf.alt (n : Nat) : RowsOf n (alt n 0) := fun r h => ⟨alt_len n 0 r h, alt_in n 0 (by omega) (by omega) r h⟩
theorem goOn_sq {n : Nat} {A : List (List Int)} (hA : RowsOf n A) : ∀ (r : Nat) (m : List (List Int)) (sums : List Int), m.length + r = n → (∀ x ∈ m, x.length = n) → ∀ y ∈ goOn A r m sums, Sq n y
  | 0, m, sums, h, hm, y, hy => by
    rw [goOn, List.mem_singleton] at hy
    subst hy
    exact ⟨h, hm⟩
  | r + 1, m, sums, h, hm, y, hy => by
    rw [goOn, List.mem_flatMap] at hy
    obtain ⟨row, hrow, hy⟩ := hy
    have hr := hA row (List.mem_filter.1 hrow).1
    exact goOn_sq hA r (m ++ [row]) _ (by simp; omega) (fun x hx => by
      rcases List.mem_append.1 hx with hx | hx
      · exact hm x hx
      · rw [List.mem_singleton] at hx; rw [hx]; exact hr.1) y hy
theorem goOn_many {A : List (List Int)} {c : Nat} (hA : A.length ≤ c) : ∀ (r : Nat) (m : List (List Int)) (sums : List Int), (goOn A r m sums).length ≤ c ^ r
  | 0, m, sums => by simp [goOn]
  | r + 1, m, sums => by
    rw [goOn, List.length_flatMap]
    have key : ∀ (B : List (List Int)), B.length ≤ c → (B.map fun row => (goOn A r (m ++ [row]) (List.zipWith (· + ·) sums row)).length).sum ≤ B.length * c ^ r := by
      intro B
      induction B with
      | nil => simp
      | cons b B ih =>
        intro hB
        rw [List.length_cons] at hB
        have h1 := ih (by omega)
        have h2 := goOn_many hA r (m ++ [b]) (List.zipWith (· + ·) sums b)
        rw [List.map_cons, List.sum_cons, List.length_cons, Nat.succ_mul]
        omega
    have hB : (A.filter (fun row => fitsB (decide (r = 0)) sums row)).length ≤ c := Nat.le_trans (List.length_filter_le _ _) hA
    refine Nat.le_trans (key _ hB) ?_
    rw [Nat.pow_succ, Nat.mul_comm]
    exact Nat.mul_le_mul_left _ hB
def allOf (n : Nat) : List (List (List Int)) := goOn (alt n 0) n [] (List.replicate n 0)
theorem allOf_sq (n : Nat) : ∀ y ∈ allOf n, Sq n y := goOn_sq (RowsOf.alt n) n [] _ (by simp) (by simp)
theorem allOf_many (n : Nat) (hn : n ≤ 6) : (allOf n).length ≤ 68719476736 := by
  have h1 := alt_many n 0
  have h2 : 2 ^ n ≤ 2 ^ 6 := Nat.pow_le_pow_right (by omega) hn
  have h3 := goOn_many (c := 64) (A := alt n 0) (by omega) n [] (List.replicate n 0)
  have h4 : 64 ^ n ≤ 64 ^ 6 := Nat.pow_le_pow_right (by omega) hn
  exact Nat.le_trans h3 (Nat.le_trans h4 (by decide))
def goOn2 (A : List (List Int)) : Nat → List (List Int) → List Int → List (List (List Int))
  | 0, m, sums => if allIn sums 1 1 = true then [m] else []
  | r + 1, m, sums => (A.filter (fun row => fitsB false sums row)).flatMap fun row => goOn2 A r (m ++ [row]) (List.zipWith (· + ·) sums row)
theorem fits_last : ∀ (sums row : List Int), sums.length = row.length → fitsB true sums row = (fitsB false sums row && allIn (List.zipWith (· + ·) sums row) 1 1)
  | [], [], _ => rfl
  | a :: sums, x :: row, h => by
    rw [fitsB_cons, fitsB_cons, fits_last sums row (by simpa using h), List.zipWith_cons_cons, show ∀ z, allIn ((a + x) :: z) 1 1 = (decide (1 ≤ a + x ∧ a + x ≤ 1) && allIn z 1 1) from fun _ => rfl]
    by_cases c : a + x = 1
    · have h1 : decide (0 ≤ a + x) = true := decide_eq_true (by omega)
      have h2 : decide (a + x ≤ 1) = true := decide_eq_true (by omega)
      have h3 : decide (1 ≤ a + x ∧ a + x ≤ 1) = true := decide_eq_true (by omega)
      rw [decide_eq_true c, h1, h2, h3]; simp
    · have h3 : decide (1 ≤ a + x ∧ a + x ≤ 1) = false := decide_eq_false (by omega)
      rw [decide_eq_false c, h3]; simp
theorem goOn_two {n : Nat} {A : List (List Int)} (hA : RowsOf n A) : ∀ (r : Nat) (m : List (List Int)) (sums : List Int), sums.length = n → goOn2 A (r + 1) m sums = goOn A (r + 1) m sums := by
  intro r
  induction r with
  | zero =>
    intro m sums hl
    rw [goOn2, goOn]
    simp only [goOn2, goOn]
    have key : ∀ (B : List (List Int)), (∀ b ∈ B, b.length = n) → ((B.filter (fun row => fitsB false sums row)).flatMap fun row => if allIn (List.zipWith (· + ·) sums row) 1 1 = true then [m ++ [row]] else []) = (B.filter (fun row => fitsB (decide (0 = 0)) sums row)).flatMap fun row => [m ++ [row]] := by
      intro B
      induction B with
      | nil => intro _; rfl
      | cons b B ih =>
        intro hB
        have hb := fits_last sums b (by rw [hl, hB b (by simp)])
        have h1 := ih (fun x hx => hB x (by simp [hx]))
        rw [show decide (0 = 0) = true from rfl] at h1 ⊢
        rw [List.filter_cons, List.filter_cons, hb]
        by_cases c1 : fitsB false sums b = true
        · rw [if_pos c1, List.flatMap_cons, c1, Bool.true_and]
          by_cases c2 : allIn (List.zipWith (· + ·) sums b) 1 1 = true
          · rw [if_pos c2, if_pos c2, List.flatMap_cons, h1]
          · rw [if_neg c2, if_neg c2, List.nil_append, h1]
        · rw [if_neg c1, Bool.eq_false_iff.2 c1, Bool.false_and, if_neg (by simp), h1]
    exact key A (fun b hb => (hA b hb).1)
  | succ r ih =>
    intro m sums hl
    rw [goOn2, goOn, show decide (r + 1 = 0) = false from rfl]
    have key : ∀ (B : List (List Int)), (∀ b ∈ B, b.length = n) → (B.flatMap fun row => goOn2 A (r + 1) (m ++ [row]) (List.zipWith (· + ·) sums row)) = B.flatMap fun row => goOn A (r + 1) (m ++ [row]) (List.zipWith (· + ·) sums row) := by
      intro B
      induction B with
      | nil => intro _; rfl
      | cons b B ihB =>
        intro hB
        rw [List.flatMap_cons, List.flatMap_cons, ihB (fun x hx => hB x (by simp [hx])), ih _ _ (by rw [List.length_zipWith, hl, hB b (by simp), Nat.min_self])]
    exact key _ (fun b hb => (hA b (List.mem_filter.1 hb).1).1)
theorem goOn2_many {A : List (List Int)} (hA : A.length ≤ 64) : ∀ (r : Nat) (m : List (List Int)) (sums : List Int), (goOn2 A r m sums).length ≤ 64 ^ r
  | 0, m, sums => by rw [goOn2]; split <;> simp
  | r + 1, m, sums => by
    rw [goOn2, List.length_flatMap]
    have key : ∀ (B : List (List Int)), (B.map fun row => (goOn2 A r (m ++ [row]) (List.zipWith (· + ·) sums row)).length).sum ≤ B.length * 64 ^ r := by
      intro B
      induction B with
      | nil => simp
      | cons b B ih =>
        have h2 := goOn2_many hA r (m ++ [b]) (List.zipWith (· + ·) sums b)
        rw [List.map_cons, List.sum_cons, List.length_cons, Nat.succ_mul]
        omega
    have hB : (A.filter (fun row => fitsB false sums row)).length ≤ 64 := Nat.le_trans (List.length_filter_le _ _) hA
    refine Nat.le_trans (key _) ?_
    rw [Nat.pow_succ, Nat.mul_comm]
    exact Nat.mul_le_mul_left _ hB
theorem weGoOn (n : Nat) (hn : n ≤ 6) : ∀ (r : Nat) (m : List (List Int)) (sums : List Int), m.length + r = n → sums.length = n → (∀ x ∈ sums, 0 ≤ x ∧ x ≤ 1) → Ans (fun k => spec_weGoOn.f k m sums) (goOn2 (alt n 0) r m sums) := by
  intro r
  induction r with
  | zero =>
    intro m sums h hl hs
    refine Ans.step ?_
    simp only [spec_weGoOn.f]
    refine Ans.yes (by omega) ((l1All sums (by omega) 1 1).bind ?_)
    rw [goOn2]
    by_cases c : allIn sums 1 1 = true
    · refine Ans.yes c ?_; rw [if_pos c]; exact Ans.pure _
    · refine Ans.not c ?_; rw [if_neg c]; exact Ans.pure _
  | succ r ih =>
    intro m sums h hl hs
    have hA : (alt n 0).length ≤ 64 := Nat.le_trans (alt_many n 0) (Nat.le_trans (Nat.pow_le_pow_right (by omega) hn) (by decide : 2 ^ 6 ≤ 64))
    have hr6 : 64 ^ (r + 1) ≤ 64 ^ 6 := Nat.pow_le_pow_right (by omega) (by omega)
    have h66 : (64 : Nat) ^ 6 = 68719476736 := by decide
    obtain ⟨rs, hrs⟩ : ∃ x, (alt n 0).filter (fun row => fitsB false sums row) = x := ⟨_, rfl⟩
    have hrl : rs.length ≤ 64 := by rw [← hrs]; exact Nat.le_trans (List.length_filter_le _ _) hA
    have key : ∀ (d : Nat) (i : Int) (out : List (List (List Int))), 0 ≤ i → i + d = rs.length → out.length + d * 64 ^ r ≤ 64 ^ (r + 1) →
        Ans (fun k => spec_weGoOn.l0 k m sums rs out i) (out ++ ((rs.drop i.toNat).flatMap fun row => goOn2 (alt n 0) r (m ++ [row]) (List.zipWith (· + ·) sums row))) := by
      intro d
      induction d with
      | zero =>
        intro i out h0 h1 h2
        rw [List.drop_eq_nil_of_le (by omega), List.flatMap_nil, List.append_nil]; refine Ans.step ?_
        simp only [spec_weGoOn.l0]
        exact Ans.not (by omega) (Ans.pure _)
      | succ d ihd =>
        intro i out h0 h1 h2
        rw [Nat.succ_mul] at h2
        have hlt : i.toNat < rs.length := by omega
        have hmem : rs.getD i.toNat [] ∈ rs := getD_mem [] hlt
        have hnx : ∀ out : List (List (List Int)), _ := fun out => ihd (i + 1) out (by omega) (by omega)
        rw [show (i + 1).toNat = i.toNat + 1 by omega] at hnx
        rw [drop_at rs [] hlt, List.flatMap_cons]
        generalize hg : rs.getD i.toNat [] = row at *
        rw [← hrs] at hmem
        obtain ⟨hm1, hm2⟩ := List.mem_filter.1 hmem
        have hrow := RowsOf.alt n row hm1
        have hmany := goOn2_many hA r (m ++ [row]) (List.zipWith (· + ·) sums row)
        refine Ans.step ?_
        simp only [spec_weGoOn.l0, hg, l1Own sums (by omega), Option.bind_some]
        refine Ans.yes (by omega) (Ans.yes h0 (Ans.yes (rowOk_of (by omega) hs hrow.2) (Ans.yes (by omega) ?_)))
        have e1 := ih (m ++ [row]) (List.zipWith (· + ·) sums row) (by simp; omega) (by rw [List.length_zipWith]; omega) (zip_bits false sums row (by omega) hm2)
        refine e1.bind (Ans.yes (by omega) ?_)
        have e2 := hnx (out ++ goOn2 (alt n 0) r (m ++ [row]) (List.zipWith (· + ·) sums row)) (by rw [List.length_append]; omega)
        rw [List.append_assoc] at e2
        exact e2
    refine Ans.step ?_
    simp only [spec_weGoOn.f]
    have hw := weRows sums (by omega) hs n [] 0 (by omega) (by omega) (by simp; omega)
    simp only [List.length_nil, List.drop_zero, List.nil_append, List.map_id', hrs] at hw
    refine Ans.not (by omega) (hw.bind ?_)
    have := key rs.length 0 [] (by omega) (by omega) (by rw [List.length_nil, Nat.pow_succ, Nat.zero_add, Nat.mul_comm]; exact Nat.mul_le_mul_left _ hrl)
    rw [goOn2, hrs]
    simpa using this
theorem weAll (n : Nat) (h1 : 1 ≤ n) (hn : n ≤ 6) : Ans (fun k => spec_weAll.f k n) (allOf n) := by
  simp only [spec_weAll.f]
  refine Ans.yes (by omega) (Ans.yes (by omega) ?_)
  have e := weGoOn n hn n [] (List.replicate n 0) (by simp) (by simp) (fun x hx => by rw [(List.mem_replicate.1 hx).2]; omega)
  obtain ⟨r, rfl⟩ : ∃ r, n = r + 1 := ⟨n - 1, by omega⟩
  rw [goOn_two (RowsOf.alt (r + 1)) r [] _ (by simp)] at e
  rw [Int.toNat_natCast]
  exact e
/-- What total adds up: a callback that always goes on. -/
theorem smList (n : Nat) (h1 : 1 ≤ n) (hn : n ≤ 6) (a : Int) : Ans (fun k => spec_smList.f k n a) ((allOf n).filter (fun m => hasK m a)) := by
  simp only [spec_smList.f]
  refine (weAll n h1 hn).bind ?_
  have hm := allOf_many n hn
  have key : ∀ (d : Nat) (i : Int) (out : List (List (List Int))), 0 ≤ i → i + d = (allOf n).length → out.length + d ≤ 68719476736 → Ans (fun k => spec_smList.l0 k a out (allOf n) ((allOf n).length : Int) i) (out ++ ((allOf n).drop i.toNat).filter (fun m => hasK m a)) := by
    intro d
    induction d with
    | zero =>
      intro i out h0 h1 h2
      rw [List.drop_eq_nil_of_le (by omega), List.filter_nil, List.append_nil]; refine Ans.step ?_
      simp only [spec_smList.l0]
      exact Ans.not (by omega) (Ans.pure _)
    | succ d ih =>
      intro i out h0 h1 h2
      have hlt : i.toNat < (allOf n).length := by omega
      have hsq := allOf_sq n _ (getD_mem [] hlt)
      have e := fun out h => ih (i + 1) out (by omega) (by omega) h
      rw [show (i + 1).toNat = i.toNat + 1 by omega] at e
      rw [drop_at (allOf n) [] hlt, List.filter_cons]
      refine Ans.step ?_
      simp only [spec_smList.l0, show ∀ j, rd_L4 (allOf n) j = (allOf n).getD j.toNat [] from fun _ => rfl, wrap64_up h0 (by omega : i ≤ 4611686018427387904)]
      refine Ans.yes (by omega) (Ans.yes h0 (Ans.yes (by omega) ((smHas n _ hsq (by omega) a).bind ?_)))
      by_cases c : hasK ((allOf n).getD i.toNat []) a = true
      · rw [if_pos c]
        have := e (out ++ [(allOf n).getD i.toNat []]) (by rw [List.length_append, List.length_singleton]; omega)
        rw [List.append_assoc, List.singleton_append] at this
        exact Ans.yes c (Ans.yes (by omega) this)
      · rw [if_neg c]
        exact Ans.not c (e out (by omega))
  exact key (allOf n).length 0 [] (by omega) (by omega) (by rw [List.length_nil]; omega)
/-- The reader of draws: from place a on, at most n places on. -/
theorem draw_next (c : List Int) (hc : ∀ x ∈ c, (Lit.int .u8 x).wf = true) (a s : Int) (h0 : 0 ≤ a) (h1 : a ≤ 2305843009213693952) : ∃ b s', spec_l1Cur_next.f c a s = some (b, a + 1, s') ∧ 0 ≤ b ∧ b ≤ 255 := by
  have hw : wrap64 (a + 1) = a + 1 := wrap64_in _ ⟨by omega, by omega⟩
  simp only [spec_l1Cur_next.f, hw]
  by_cases c1 : a < (c.length : Int)
  · have hr := byte_wf (hc (rd c a) (getD_mem 0 (by omega)))
    have hw2 : wrap64 (rd c a) = rd c a := wrap64_in _ ⟨by omega, by omega⟩
    rw [if_pos c1, if_pos h0, if_pos (by omega)]
    exact ⟨_, _, rfl, by rw [hw2]; exact hr.1, by rw [hw2]; exact hr.2⟩
  · rw [if_neg c1, if_neg (by omega)]
    exact ⟨_, _, rfl, (byte_and _).1, (byte_and _).2⟩
theorem tmod_in {x n : Int} (h : 0 ≤ x) (hn : 1 < n) : 0 ≤ Int.tmod x n ∧ Int.tmod x n < n := ⟨Int.tmod_nonneg _ h, Int.tmod_lt_of_pos _ (by omega)⟩
theorem draw_pick (c : List Int) (hc : ∀ x ∈ c, (Lit.int .u8 x).wf = true) (a s n : Int) (h0 : 0 ≤ a) (h1 : a ≤ 1152921504606846976) : ∃ v a' s', spec_l1Cur_pick.f c a s n = some (v, a', s') ∧ a ≤ a' ∧ a' ≤ a + 2 ∧ 0 ≤ v ∧ (v < n ∨ v = 0) := by
  simp only [spec_l1Cur_pick.f]
  by_cases c1 : n ≤ 1
  · rw [if_pos c1]; exact ⟨_, _, _, rfl, by omega, by omega, by omega, by omega⟩
  · rw [if_neg c1]
    obtain ⟨b, s1, e1, b0, b1⟩ := draw_next c hc a s h0 (by omega)
    rw [e1]; simp only [Option.bind_some]
    by_cases c2 : n > 200
    · rw [if_pos c2]
      obtain ⟨b', s2, e2, b0', b1'⟩ := draw_next c hc (a + 1) s1 (by omega) (by omega)
      rw [e2]; simp only [Option.bind_some]
      rw [if_neg (by omega), wrap64_in (b * 256) ⟨by omega, by omega⟩, wrap64_in (b * 256 + b') ⟨by omega, by omega⟩]
      have := tmod_in (x := b * 256 + b') (n := n) (by omega) (by omega)
      exact ⟨_, _, _, rfl, by omega, by omega, this.1, .inl this.2⟩
    · rw [if_neg c2, if_neg (by omega)]
      have := tmod_in (x := b) (n := n) (by omega) (by omega)
      exact ⟨_, _, _, rfl, by omega, by omega, this.1, .inl this.2⟩
theorem draw_one (c : List Int) (hc : ∀ x ∈ c, (Lit.int .u8 x).wf = true) (a s n : Int) (h0 : 0 ≤ a) (h1 : a ≤ 1152921504606846976) : ∃ v a' s', spec_l1Cur_one.f c a s n = some (v, a', s') ∧ a ≤ a' ∧ a' ≤ a + 2 := by
  obtain ⟨v, a', s', e, h2, h3, _⟩ := draw_pick c hc a s n h0 h1
  simp only [spec_l1Cur_one.f, e, Option.bind_some]
  exact ⟨_, _, _, rfl, h2, h3⟩
theorem draw_among (c : List Int) (hc : ∀ x ∈ c, (Lit.int .u8 x).wf = true) (a s : Int) (l : List Int) (hl : 0 < l.length) (h0 : 0 ≤ a) (h1 : a ≤ 1152921504606846976) : ∃ v a' s', spec_l1Cur_among.f c a s l = some (v, a', s') ∧ a ≤ a' ∧ a' ≤ a + 2 ∧ v ∈ l := by
  obtain ⟨v, a', s', e, h2, h3, h4, h5⟩ := draw_pick c hc a s (l.length : Int) h0 h1
  simp only [spec_l1Cur_among.f, e, Option.bind_some]
  rw [if_pos h4, if_pos (by omega)]
  exact ⟨_, _, _, rfl, h2, h3, getD_mem 0 (by omega)⟩
/-- A number of a square table is put. -/
theorem put_sq {n : Nat} {y : List (List Int)} (h : Sq n y) (i j : Nat) (hi : i < n) (hj : j < n) (v : Int) : Sq n (y.set i ((y.getD i []).set j v)) ∧
    ∀ a b : Nat, a < n → b < n → ((y.set i ((y.getD i []).set j v)).getD a []).getD b 0 = if a = i ∧ b = j then v else (y.getD a []).getD b 0 := by
  have hr := h.row hi
  refine ⟨⟨by rw [List.length_set]; exact h.1, fun r hr' => ?_⟩, fun a b ha hb => ?_⟩
  · rcases List.mem_or_eq_of_mem_set hr' with h1 | h1
    · exact h.2 r h1
    · rw [h1, List.length_set]; exact hr
  · have ra := h.row ha
    by_cases e : i = a
    · subst e
      rw [show (y.set i ((y.getD i []).set j v)).getD i [] = (y.getD i []).set j v from by rw [getD_at (y.set i _) [] (by rw [List.length_set, h.1]; exact hi), List.getElem_set_self]]
      by_cases e2 : j = b
      · subst e2; rw [if_pos ⟨rfl, rfl⟩, getD_at _ _ (by rw [List.length_set, hr]; exact hj), List.getElem_set_self]
      · rw [if_neg (fun h => e2 h.2.symm), getD_at _ _ (by rw [List.length_set, hr]; exact hb), List.getElem_set_ne e2, ← getD_at _ 0 (by rw [hr]; exact hb)]
    · rw [if_neg (fun h => e h.1.symm), getD_at _ [] (by rw [List.length_set, h.1]; exact ha), List.getElem_set_ne e, ← getD_at y [] (by rw [h.1]; exact ha)]
theorem rep_sq (n : Nat) (v : Int) : Sq n (List.replicate n (List.replicate n v)) := ⟨by simp, fun r hr => by rw [List.eq_of_mem_replicate hr]; simp⟩
theorem sgZero (n : Nat) (hn : n ≤ 1000) : Ans (fun k => spec_sgZero.f k n) (List.replicate n (List.replicate n 0)) := by
  have key : ∀ (d i : Nat), i + d = n → Ans (fun k => spec_sgZero.l0 k n (List.replicate i (List.replicate n 0)) (i : Int)) (List.replicate n (List.replicate n 0)) := by
    intro d
    induction d with
    | zero =>
      intro i h
      obtain rfl : i = n := by omega
      exact Ans.step (by simp only [spec_sgZero.l0]; exact Ans.not (by omega) (Ans.pure _))
    | succ d ih =>
      intro i h
      have e := ih (i + 1) (by omega)
      refine Ans.step ?_
      simp only [spec_sgZero.l0, wrap64_up (show (0 : Int) ≤ i by omega) (by omega), Int.toNat_natCast]
      rw [List.replicate_succ', show ((i + 1 : Nat) : Int) = (i : Int) + 1 by omega] at e
      exact Ans.yes (by omega) (Ans.yes (by omega) (Ans.yes (by omega) (Ans.yes (by rw [List.length_replicate]; omega) e)))
  exact key n 0 (by omega)
/-- A corner sum, 0 beside the table. -/
def sgat (x : List (List Int)) (i j : Int) : Int := if i < 0 then 0 else if j < 0 then 0 else rd (rd_L3 x i) j
theorem sgAt {n : Nat} {x : List (List Int)} (h : Sq n x) (i j : Int) (hi : i < n) (hj : j < n) : spec_sgAt.f x i j = some (sgat x i j) := by
  simp only [spec_sgAt.f, sgat]
  by_cases c1 : i < 0
  · rw [if_pos c1, if_pos c1]
  · by_cases c2 : j < 0
    · rw [if_neg c1, if_neg c1, if_pos c2, if_pos c2]
    · have hr : (rd_L3 x i).length = n := h.row (by omega)
      rw [if_neg c1, if_neg c1, if_neg c2, if_neg c2, if_pos (by omega), if_pos (by have := h.1; omega), if_pos (by omega), if_pos (by omega)]
/-- The number that corner sums leave. -/
def diff (x : List (List Int)) (i j : Int) : Int := wrap64 (wrap64 (wrap64 (sgat x i j - sgat x (i - 1) j) - sgat x i (j - 1)) + sgat x (i - 1) (j - 1))
def frm (x : List (List Int)) : List (List Int) := tab x.length x.length (fun i j => diff x i j)
theorem tab_sq (n : Nat) (v : Nat → Nat → Int) : Sq n (tab n n v) := ⟨by simp [tab], fun r hr => by obtain ⟨a, _, rfl⟩ := List.mem_map.1 hr; simp⟩
theorem sgFrom (n : Nat) (x : List (List Int)) (h : Sq n x) (hn : n ≤ 1000) : Ans (fun k => spec_sgFrom.f k x) (frm x) := by
  have hx := h.1
  have inner : ∀ (i : Nat), i < n → ∀ (d j : Nat) (y : List (List Int)), j + d = n → Sq n y → (∀ a b : Nat, a < n → b < n → (a < i ∨ a = i ∧ b < j) → (y.getD a []).getD b 0 = diff x a b) →
      (∀ y', Sq n y' → (∀ a b : Nat, a < n → b < n → a < i + 1 → (y'.getD a []).getD b 0 = diff x a b) → Ans (fun k => spec_sgFrom.l0 k x y' (n : Int) ((i + 1 : Nat) : Int)) (frm x)) →
      Ans (fun k => spec_sgFrom.l1 k x y (i : Int) (n : Int) (i : Int) (n : Int) (j : Int)) (frm x) := by
    intro i hi d
    induction d with
    | zero =>
      intro j y hj hy hv nx
      refine Ans.step ?_
      simp only [spec_sgFrom.l1, wrap64_up (show (0 : Int) ≤ i by omega) (by omega)]
      have := nx y hy (fun a b ha hb hlt => hv a b ha hb (by omega))
      rw [show ((i + 1 : Nat) : Int) = (i : Int) + 1 by omega] at this
      exact Ans.not (by omega) this
    | succ d ih =>
      intro j y hj hy hv nx
      obtain ⟨q1, q2⟩ := put_sq hy i j hi (by omega) (diff x i j)
      have e := ih (j + 1) _ (by omega) q1 (fun a b ha hb hlt => by
        rw [q2 a b ha hb]
        by_cases c : a = i ∧ b = j
        · rw [if_pos c, c.1, c.2]
        · rw [if_neg c]; exact hv a b ha hb (by omega)) nx
      have hr : (rd_L3 y (i : Int)).length = n := by unfold rd_L3; rw [Int.toNat_natCast]; exact hy.row hi
      have w1 : wrap64 ((i : Int) - 1) = (i : Int) - 1 := wrap64_in _ ⟨by omega, by omega⟩
      have w2 : wrap64 ((j : Int) - 1) = (j : Int) - 1 := wrap64_in _ ⟨by omega, by omega⟩
      refine Ans.step ?_
      simp only [spec_sgFrom.l1, w1, w2, wrap64_up (show (0 : Int) ≤ j by omega) (by omega), sgAt h i j (by omega) (by omega), sgAt h ((i : Int) - 1) j (by omega) (by omega), sgAt h i ((j : Int) - 1) (by omega) (by omega), sgAt h ((i : Int) - 1) ((j : Int) - 1) (by omega) (by omega), Option.bind_some, Int.toNat_natCast]
      rw [show ((j + 1 : Nat) : Int) = (j : Int) + 1 by omega] at e
      exact Ans.yes (by omega) (Ans.yes (by omega) (Ans.yes (by have := hy.1; omega) (Ans.yes (by omega) (Ans.yes (by omega) e))))
  have key : ∀ (d i : Nat) (y : List (List Int)), i + d = n → Sq n y → (∀ a b : Nat, a < n → b < n → a < i → (y.getD a []).getD b 0 = diff x a b) → Ans (fun k => spec_sgFrom.l0 k x y (n : Int) (i : Int)) (frm x) := by
    intro d
    induction d with
    | zero =>
      intro i y h1 hy hv
      have : y = frm x := by unfold frm; rw [hx]; exact (tab_is hy _ (fun a b ha hb => (hv a b ha hb (by omega)).symm)).symm
      rw [this]
      exact Ans.step (by simp only [spec_sgFrom.l0]; exact Ans.not (by omega) (Ans.pure _))
    | succ d ih =>
      intro i y h1 hy hv
      refine Ans.step ?_
      simp only [spec_sgFrom.l0, hx]
      exact Ans.yes (by omega) (inner i (by omega) n 0 y (by omega) hy (fun a b ha hb hlt => hv a b ha hb (by omega)) (fun y' hy' hv' => ih (i + 1) y' (by omega) hy' hv'))
  simp only [spec_sgFrom.f, hx]
  exact (sgZero n hn).bind (by
    have := key n 0 (List.replicate n (List.replicate n 0)) (by omega) (rep_sq n 0) (fun a b ha hb hlt => by omega)
    simpa [rep_sq] using this)
theorem frm_sq {n : Nat} {x : List (List Int)} (h : Sq n x) : Sq n (frm x) := by unfold frm; rw [h.1]; exact tab_sq n _
/-- The corner sums of the least sign matrix. -/
def corn (n : Nat) : List (List Int) := tab n n (fun i j => ((min i j : Nat) : Int) + 1)
theorem corn_sign : ∀ n : Nat, 1 ≤ n → n ≤ 6 → sign (frm (corn n)) = true := by
  intro n h1 h2
  rcases (show n = 1 ∨ n = 2 ∨ n = 3 ∨ n = 4 ∨ n = 5 ∨ n = 6 by omega) with rfl | rfl | rfl | rfl | rfl | rfl
  all_goals decide +kernel
/-- All numbers are in range. -/
def InZ (x : List (List Int)) : Prop := ∀ r ∈ x, ∀ v ∈ r, -9223372036854775808 ≤ v ∧ v ≤ 9223372036854775807
theorem wrap64_range (n : Int) : -9223372036854775808 ≤ wrap64 n ∧ wrap64 n ≤ 9223372036854775807 := by unfold wrap64; omega
theorem InZ.put {x : List (List Int)} (h : InZ x) (i j : Nat) (hi : i < x.length) (n : Int) : InZ (x.set i ((x.getD i []).set j (wrap64 n))) := by
  intro r hr v hv
  rcases List.mem_or_eq_of_mem_set hr with h1 | h1
  · exact h r h1 v hv
  · subst h1
    rcases List.mem_or_eq_of_mem_set hv with h2 | h2
    · exact h _ (getD_mem [] hi) v h2
    · rw [h2]; exact wrap64_range n
theorem draw_sure (c : List Int) (hc : ∀ x ∈ c, (Lit.int .u8 x).wf = true) (a s : Int) (n : Nat) (hn : 1 ≤ n) (hn2 : n ≤ 6) (h0 : 0 ≤ a) (h1 : a ≤ 1000000000000) :
    ∃ m a' s', Ans (fun k => spec_l1Cur_sure.f k c a s n) (m, a', s') ∧ a ≤ a' ∧ a' ≤ a + 1000 ∧ Sq n m ∧ sign m = true := by
  -- the flips
  have flips : ∀ (d : Nat) (x : List (List Int)) (a s : Int), Sq n x → InZ x → sign (frm x) = true → 0 ≤ a → a + 6 * d ≤ 1000000002000 →
      ∃ m a' s', Ans (fun k => spec_l1Cur_sure.l2 k n x (d : Int) c a s) (m, a', s') ∧ a ≤ a' ∧ a' ≤ a + 6 * d ∧ Sq n m ∧ sign m = true := by
    intro d
    induction d with
    | zero =>
      intro x a s hx hz hs h0 h1
      refine ⟨frm x, a, s, Ans.step ?_, by omega, by omega, frm_sq hx, hs⟩
      simp only [spec_l1Cur_sure.l2]
      refine Ans.not (by omega) (Ans.step ?_)
      simp only [spec_l1Cur_sure.j3]
      exact Ans.not (by simp) ((sgFrom n x hx (by omega)).bind (Ans.pure _))
    | succ d ih =>
      intro x a s hx hz hs h0 h1
      by_cases c1 : (n : Int) > 1
      · have wn : wrap64 ((n : Int) - 1) = (n : Int) - 1 := wrap64_in _ ⟨by omega, by omega⟩
        obtain ⟨i, a1, s1, e1, p1, q1, i0, i1⟩ := draw_pick c hc a s ((n : Int) - 1) h0 (by omega)
        obtain ⟨j, a2, s2, e2, p2, q2, j0, j1⟩ := draw_pick c hc a1 s1 ((n : Int) - 1) (by omega) (by omega)
        obtain ⟨v, a3, s3, e3, p3, q3, v0, v1⟩ := draw_pick c hc a2 s2 2 (by omega) (by omega)
        have hr : (rd_L3 x i).length = n := hx.row (by omega)
        have hl := hx.1
        obtain ⟨y, hy⟩ : ∃ y, y = x.set i.toNat ((rd_L3 x i).set j.toNat (wrap64 ((rd (rd_L3 x i) j) + (wrap64 ((wrap64 (2 * v)) - 1))))) := ⟨_, rfl⟩
        have ys : Sq n y := by rw [hy]; exact (put_sq hx i.toNat j.toNat (by omega) (by omega) _).1
        have yz : InZ y := by rw [hy]; exact hz.put i.toNat j.toNat (by omega) _
        have wd : wrap64 (((d + 1 : Nat) : Int) - 1) = d := by rw [wrap64_in _ ⟨by omega, by omega⟩]; omega
        by_cases c2 : sign (frm y) = true
        · obtain ⟨m, a', s', e, g1, g2, g3, g4⟩ := ih y a3 s3 ys yz c2 (by omega) (by omega)
          refine ⟨m, a', s', Ans.step ?_, by omega, by omega, g3, g4⟩
          simp only [spec_l1Cur_sure.l2]
          refine Ans.yes (by omega) (Ans.step ?_)
          simp only [spec_l1Cur_sure.j3, wn, wd, e1, e2, e3, Option.bind_some, ← hy]
          have gg := sgGood (frm y) (by rw [(frm_sq ys).1]; omega)
          rw [c2] at gg
          exact Ans.yes (by simp; omega) (Ans.yes i0 (Ans.yes (by omega) (Ans.yes j0 (Ans.yes (by omega) ((sgFrom n y ys (by omega)).bind (gg.bind (Ans.yes rfl e)))))))
        · have back : y.set i.toNat ((rd_L3 y i).set j.toNat (wrap64 ((rd (rd_L3 y i) j) - (wrap64 ((wrap64 (2 * v)) - 1))))) = x := by
            have hq := put_sq hx i.toNat j.toNat (by omega) (by omega) (wrap64 ((rd (rd_L3 x i) j) + (wrap64 ((wrap64 (2 * v)) - 1))))
            have hq2 := put_sq ys i.toNat j.toNat (by omega) (by omega) (wrap64 ((rd (rd_L3 y i) j) - (wrap64 ((wrap64 (2 * v)) - 1))))
            refine ext_sq hq2.1 hx (fun a b ha hb => ?_)
            have e1 := hq2.2 a b ha hb
            rw [show y.getD i.toNat [] = rd_L3 y i from rfl] at e1
            rw [e1]
            have hyv := hq.2 a b ha hb
            rw [show x.getD i.toNat [] = rd_L3 x i from rfl, ← hy] at hyv
            by_cases c3 : a = i.toNat ∧ b = j.toNat
            · rw [if_pos c3]
              rw [if_pos c3] at hyv
              have e4 : rd (rd_L3 y i) j = wrap64 ((rd (rd_L3 x i) j) + (wrap64 ((wrap64 (2 * v)) - 1))) := by rw [← hyv, c3.1, c3.2]; rfl
              rw [e4, c3.1, c3.2, show (x.getD i.toNat []).getD j.toNat 0 = rd (rd_L3 x i) j from rfl]
              have hz1 := hz (rd_L3 x i) (getD_mem [] (by omega)) (rd (rd_L3 x i) j) (getD_mem 0 (by omega))
              unfold wrap64
              omega
            · rw [if_neg c3]; rw [if_neg c3] at hyv; exact hyv
          have hry : (rd_L3 y i).length = n := ys.row (by omega)
          obtain ⟨m, a', s', e, g1, g2, g3, g4⟩ := ih x a3 s3 hx hz hs (by omega) (by omega)
          refine ⟨m, a', s', Ans.step ?_, by omega, by omega, g3, g4⟩
          simp only [spec_l1Cur_sure.l2]
          refine Ans.yes (by omega) (Ans.step ?_)
          simp only [spec_l1Cur_sure.j3, wn, wd, e1, e2, e3, Option.bind_some, ← hy, back]
          have gg := sgGood (frm y) (by rw [(frm_sq ys).1]; omega)
          rw [Bool.eq_false_iff.mpr c2] at gg
          exact Ans.yes (by simp; omega) (Ans.yes i0 (Ans.yes (by omega) (Ans.yes j0 (Ans.yes (by omega) ((sgFrom n y ys (by omega)).bind (gg.bind (Ans.not (by simp) (Ans.yes (by omega) e))))))))
      · refine ⟨frm x, a, s, Ans.step ?_, by omega, by omega, frm_sq hx, hs⟩
        simp only [spec_l1Cur_sure.l2]
        refine Ans.yes (by omega) (Ans.step ?_)
        simp only [spec_l1Cur_sure.j3]
        exact Ans.not (by simp; omega) ((sgFrom n x hx (by omega)).bind (Ans.pure _))
  -- the corner sums at first
  have w3 : wrap64 ((wrap64 (3 * (n : Int))) * n) = 3 * (n : Int) * n := by
    have : (3 * (n : Int)) * n ≤ 18 * 6 := Int.mul_le_mul (by omega) (by omega) (by omega) (by omega)
    have h0 : 0 ≤ 3 * (n : Int) * n := Int.mul_nonneg (by omega) (by omega)
    rw [wrap64_in (3 * (n : Int)) ⟨by omega, by omega⟩, wrap64_in _ ⟨by omega, by omega⟩]
  obtain ⟨t, a1, s1, e1, p1, q1, t0, t1⟩ := draw_pick c hc a s (3 * (n : Int) * n) h0 (by omega)
  have ht : t ≤ 108 := by
    have : (3 * (n : Int)) * n ≤ 18 * 6 := Int.mul_le_mul (by omega) (by omega) (by omega) (by omega)
    omega
  obtain ⟨m, a', s', e2, p2, q2, g3, g4⟩ := flips t.toNat (corn n) a1 s1 (tab_sq n _) (by
    intro r hr v hv
    obtain ⟨i, hi, rfl⟩ := List.mem_map.1 hr
    obtain ⟨j, hj, rfl⟩ := List.mem_map.1 hv
    rw [List.mem_range] at hi hj
    show -9223372036854775808 ≤ ((min i j : Nat) : Int) + 1 ∧ ((min i j : Nat) : Int) + 1 ≤ 9223372036854775807
    have := Nat.min_le_left i j
    omega) (corn_sign n hn hn2) (by omega) (by omega)
  rw [Int.toNat_of_nonneg t0] at e2
  refine ⟨m, a', s', ?_, by omega, by omega, g3, g4⟩
  have inner : ∀ (i : Nat), i < n → ∀ (d j : Nat) (y : List (List Int)), j + d = n → Sq n y → (∀ a b : Nat, a < n → b < n → (a < i ∨ a = i ∧ b < j) → (y.getD a []).getD b 0 = ((min a b : Nat) : Int) + 1) →
      (∀ y', Sq n y' → (∀ a b : Nat, a < n → b < n → a < i + 1 → (y'.getD a []).getD b 0 = ((min a b : Nat) : Int) + 1) → Ans (fun k => spec_l1Cur_sure.l0 k n y' (n : Int) ((i + 1 : Nat) : Int) c a s) (m, a', s')) →
      Ans (fun k => spec_l1Cur_sure.l1 k n y (i : Int) (n : Int) (i : Int) (n : Int) (j : Int) c a s) (m, a', s') := by
    intro i hi d
    induction d with
    | zero =>
      intro j y hj hy hv nx
      refine Ans.step ?_
      simp only [spec_l1Cur_sure.l1, wrap64_up (show (0 : Int) ≤ i by omega) (by omega)]
      have := nx y hy (fun a b ha hb hlt => hv a b ha hb (by omega))
      rw [show ((i + 1 : Nat) : Int) = (i : Int) + 1 by omega] at this
      exact Ans.not (by omega) this
    | succ d ih =>
      intro j y hj hy hv nx
      obtain ⟨q1, q2⟩ := put_sq hy i j hi (by omega) (((min i j : Nat) : Int) + 1)
      have e := ih (j + 1) _ (by omega) q1 (fun a b ha hb hlt => by
        rw [q2 a b ha hb]
        by_cases c : a = i ∧ b = j
        · rw [if_pos c, c.1, c.2]
        · rw [if_neg c]; exact hv a b ha hb (by omega)) nx
      have hr : (rd_L3 y (i : Int)).length = n := by unfold rd_L3; rw [Int.toNat_natCast]; exact hy.row hi
      have hl : spec_l1Least.f (i : Int) (j : Int) = some ((min i j : Nat) : Int) := by
        simp only [spec_l1Least.f]
        by_cases c : (i : Int) < j
        · rw [if_pos c, Nat.min_eq_left (by omega)]
        · rw [if_neg c, Nat.min_eq_right (by omega)]
      have w1 : wrap64 (((min i j : Nat) : Int) + 1) = ((min i j : Nat) : Int) + 1 := wrap64_in _ ⟨by omega, by omega⟩
      refine Ans.step ?_
      simp only [spec_l1Cur_sure.l1, hl, Option.bind_some, w1, wrap64_up (show (0 : Int) ≤ j by omega) (by omega), Int.toNat_natCast]
      rw [show ((j + 1 : Nat) : Int) = (j : Int) + 1 by omega] at e
      exact Ans.yes (by omega) (Ans.yes (by omega) (Ans.yes (by have := hy.1; omega) (Ans.yes (by omega) (Ans.yes (by omega) e))))
  have key : ∀ (d i : Nat) (y : List (List Int)), i + d = n → Sq n y → (∀ a b : Nat, a < n → b < n → a < i → (y.getD a []).getD b 0 = ((min a b : Nat) : Int) + 1) → Ans (fun k => spec_l1Cur_sure.l0 k n y (n : Int) (i : Int) c a s) (m, a', s') := by
    intro d
    induction d with
    | zero =>
      intro i y h1 hy hv
      have : y = corn n := (tab_is hy _ (fun a b ha hb => (hv a b ha hb (by omega)).symm)).symm
      rw [this]
      refine Ans.step ?_
      simp only [spec_l1Cur_sure.l0, w3, e1, Option.bind_some]
      exact Ans.not (by omega) e2
    | succ d ih =>
      intro i y h1 hy hv
      have hl := hy.1
      refine Ans.step ?_
      simp only [spec_l1Cur_sure.l0, hl]
      exact Ans.yes (by omega) (inner i (by omega) n 0 y (by omega) hy (fun a b ha hb hlt => hv a b ha hb (by omega)) (fun y' hy' hv' => ih (i + 1) y' (by omega) hy' hv'))
  simp only [spec_l1Cur_sure.f]
  refine (sgZero n (by omega)).bind ?_
  simp only [List.length_replicate]
  exact key n 0 _ (by omega) (rep_sq n 0) (fun a b ha hb hlt => by omega)
/-- What signs draws: a table of few rows of few numbers. -/
theorem draw_signs (c : List Int) (hc : ∀ x ∈ c, (Lit.int .u8 x).wf = true) (a s : Int) (most : Nat) (hm : 1 ≤ most) (hm2 : most ≤ 6) (h0 : 0 ≤ a) (h1 : a ≤ 100000000000) :
    ∃ m a' s', Ans (fun k => spec_l1Cur_signs.f k c a s most) (m, a', s') ∧ a ≤ a' ∧ a' ≤ a + 3000 ∧ m.length ≤ 7 ∧ ∀ r ∈ m, r.length ≤ 7 := by
  obtain ⟨t, a1, s1, e1, p1, q1, t0, t1⟩ := draw_pick c hc a s most h0 (by omega)
  have wt : wrap64 (1 + t) = ((t.toNat + 1 : Nat) : Int) := by rw [wrap64_in _ ⟨by omega, by omega⟩]; omega
  obtain ⟨n, hn⟩ : ∃ n, n = t.toNat + 1 := ⟨_, rfl⟩
  rw [← hn] at wt
  obtain ⟨m, a2, s2, e2, p2, q2, hs, _⟩ := draw_sure c hc a1 s1 n (by omega) (by omega) (by omega) (by omega)
  obtain ⟨z, a3, s3, e3, p3, q3, z0, z1⟩ := draw_pick c hc a2 s2 20 (by omega) (by omega)
  have hl := hs.1
  by_cases c0 : z = 0
  · obtain ⟨i, a4, s4, e4, p4, q4, i0, i1⟩ := draw_pick c hc a3 s3 n (by omega) (by omega)
    obtain ⟨j, a5, s5, e5, p5, q5, j0, j1⟩ := draw_pick c hc a4 s4 n (by omega) (by omega)
    obtain ⟨v, a6, s6, e6, p6, q6, _⟩ := draw_among c hc a5 s5 [(-2), (-1), 0, 1, 2, 4611686018427387904] (by simp) (by omega) (by omega)
    have hr : (rd_L3 m i).length = n := hs.row (by omega)
    refine ⟨m.set i.toNat ((rd_L3 m i).set j.toNat v), a6, s6, ?_, by omega, by omega, by rw [List.length_set]; omega, fun r hr' => ?_⟩
    · simp only [spec_l1Cur_signs.f, e1, Option.bind_some, wt]
      refine e2.bind ?_
      simp only [e3, Option.bind_some]
      refine Ans.yes c0 ?_
      simp only [e4, Option.bind_some]
      refine Ans.yes i0 (Ans.yes (by omega) ?_)
      simp only [e5, e6, Option.bind_some]
      exact Ans.yes j0 (Ans.yes (by omega) (Ans.pure _))
    · rcases List.mem_or_eq_of_mem_set hr' with h | h
      · rw [hs.2 r h]; omega
      · rw [h, List.length_set, hr]; omega
  by_cases c1 : z = 1
  · refine ⟨m ++ [List.replicate n 0], a3, s3, ?_, by omega, by omega, by simp; omega, fun r hr' => ?_⟩
    · simp only [spec_l1Cur_signs.f, e1, Option.bind_some, wt]
      refine e2.bind ?_
      simp only [e3, Option.bind_some, Int.toNat_natCast]
      exact Ans.not c0 (Ans.yes c1 (Ans.yes (by omega) (Ans.yes (by omega) (Ans.yes (by omega) (Ans.pure _)))))
    · rcases List.mem_append.1 hr' with h | h
      · rw [hs.2 r h]; omega
      · simp only [List.mem_singleton] at h; rw [h, List.length_replicate]; omega
  by_cases c2 : z = 2
  · have hr : (rd_L3 m 0).length = n := hs.row (by omega)
    refine ⟨m.set (0 : Int).toNat (rd_L3 m 0 ++ [0]), a3, s3, ?_, by omega, by omega, by rw [List.length_set]; omega, fun r hr' => ?_⟩
    · simp only [spec_l1Cur_signs.f, e1, Option.bind_some, wt]
      refine e2.bind ?_
      simp only [e3, Option.bind_some]
      exact Ans.not c0 (Ans.not c1 (Ans.yes c2 (Ans.yes (by omega) (Ans.yes (by omega) (Ans.pure _)))))
    · rcases List.mem_or_eq_of_mem_set hr' with h | h
      · rw [hs.2 r h]; omega
      · rw [h, List.length_append, hr]; simp; omega
  by_cases c3 : z = 3
  · obtain ⟨m2, a4, s4, e4, p4, q4, hs2, _⟩ := draw_sure c hc a3 s3 6 (by omega) (by omega) (by omega) (by omega)
    obtain ⟨u, a5, s5, e5, p5, q5⟩ := draw_one c hc a4 s4 2 (by omega) (by omega)
    cases u with
    | true =>
      refine ⟨[], a5, s5, ?_, by omega, by omega, by simp, by simp⟩
      simp only [spec_l1Cur_signs.f, e1, Option.bind_some, wt]
      refine e2.bind ?_
      simp only [e3, Option.bind_some]
      refine Ans.not c0 (Ans.not c1 (Ans.not c2 (Ans.yes c3 (e4.bind ?_))))
      simp only [e5, Option.bind_some]
      exact Ans.yes trivial (Ans.pure _)
    | false =>
      refine ⟨m2, a5, s5, ?_, by omega, by omega, by rw [hs2.1]; omega, fun r hr => by rw [hs2.2 r hr]; omega⟩
      simp only [spec_l1Cur_signs.f, e1, Option.bind_some, wt]
      refine e2.bind ?_
      simp only [e3, Option.bind_some]
      refine Ans.not c0 (Ans.not c1 (Ans.not c2 (Ans.yes c3 (e4.bind ?_))))
      simp only [e5, Option.bind_some]
      exact Ans.not (by simp) (Ans.pure _)
  · refine ⟨m, a3, s3, ?_, by omega, by omega, by omega, fun r hr => by rw [hs.2 r hr]; omega⟩
    simp only [spec_l1Cur_signs.f, e1, Option.bind_some, wt]
    refine e2.bind ?_
    simp only [e3, Option.bind_some]
    exact Ans.not c0 (Ans.not c1 (Ans.not c2 (Ans.not c3 (Ans.pure _))))
theorem uSame (x y : List Int) (hx : x.length ≤ 17592186044416) : Ans (fun k => laws_uSame.f k x y) (decide (x = y)) := by
  simp only [laws_uSame.f]
  by_cases hl : (x.length : Int) = (y.length : Int)
  · refine Ans.yes hl ?_
    have key : ∀ (d : Nat) (i : Int), 0 ≤ i → i + d = x.length → Ans (fun k => laws_uSame.l0 k x y (x.length : Int) i) (decide (x.drop i.toNat = y.drop i.toNat)) := by
      intro d
      induction d with
      | zero =>
        intro i h0 h1
        refine Ans.step ?_
        simp only [laws_uSame.l0]
        rw [drop_all x (by omega), drop_all y (by omega)]
        exact Ans.not (by omega) (Ans.pure _)
      | succ d ih =>
        intro i h0 h1
        refine Ans.step ?_
        simp only [laws_uSame.l0]
        refine Ans.yes (by omega) (Ans.yes h0 (Ans.yes (by omega) (Ans.yes (by omega) ?_)))
        rw [drop_at x 0 (show i.toNat < x.length by omega), drop_at y 0 (show i.toNat < y.length by omega)]
        by_cases c : rd x i = rd y i
        · have e := ih (i + 1) (by omega) (by omega)
          rw [wrap64_in (i + 1) ⟨by omega, by omega⟩]
          rw [show (i + 1).toNat = i.toNat + 1 by omega] at e
          refine Ans.yes c ?_
          rw [show x.getD i.toNat 0 = y.getD i.toNat 0 from c]
          simpa using e
        · refine Ans.not c ?_
          rw [show decide (x.getD i.toNat 0 :: x.drop (i.toNat + 1) = y.getD i.toNat 0 :: y.drop (i.toNat + 1)) = false from decide_eq_false (fun h => c (by injection h))]
          exact Ans.pure _
    exact key x.length 0 (by omega) (by omega)
  · refine Ans.not hl ?_
    rw [decide_eq_false (fun h => hl (by rw [h]))]
    exact Ans.pure _
theorem big_ans (c m : List Int) : ∃ b, laws_big.f c m = some b := by
  simp only [laws_big.f]
  split
  · exact ⟨_, rfl⟩
  · exact ⟨_, rfl⟩
theorem uSameRows (x : List (List Int)) (hx : x.length ≤ 1000000) (hr : ∀ r ∈ x, r.length ≤ 1000000) : Ans (fun k => laws_uSameRows.f k x x) true := by
  simp only [laws_uSameRows.f]
  refine Ans.yes trivial ?_
  have key : ∀ (d : Nat) (i : Int), 0 ≤ i → i + d = x.length → Ans (fun k => laws_uSameRows.l0 k x x (x.length : Int) i) true := by
    intro d
    induction d with
    | zero => intro i h0 h1; exact Ans.step (by simp only [laws_uSameRows.l0]; exact Ans.not (by omega) (Ans.pure _))
    | succ d ih =>
      intro i h0 h1
      have hm := hr _ (rd_L1_mem h0 (show i < x.length by omega))
      refine Ans.step ?_
      simp only [laws_uSameRows.l0, wrap64_in (i + 1) ⟨by omega, by omega⟩]
      exact Ans.yes (by omega) (Ans.yes h0 (Ans.yes (by omega) (Ans.yes (by omega) ((uSame _ _ (by omega)).bind (Ans.yes (by simp) (ih (i + 1) (by omega) (by omega)))))))
  exact key x.length 0 (by omega) (by omega)
def Sm (x : List (List Int)) : Prop := x.length ≤ 7 ∧ ∀ r ∈ x, r.length ≤ 7
theorem draw_symmetric (c : List Int) (hc : ∀ x ∈ c, (Lit.int .u8 x).wf = true) : ∃ m a s, Ans (fun k => spec_l1Cur_symmetric.f k c 0 0) (m, a, s) ∧ 0 ≤ a ∧ a ≤ 4000 ∧ Sm m := by
  simp only [spec_l1Cur_symmetric.f]
  obtain ⟨v, a1, s1, f1, p1, q1⟩ := draw_one c hc 0 0 3 (by omega) (by omega)
  simp only [f1, Option.bind_some]
  cases v with
  | true =>
    obtain ⟨m, a2, s2, f2, p2, q2, h1, h2⟩ := draw_signs c hc a1 s1 5 (by omega) (by omega) (by omega) (by omega)
    exact ⟨m, a2, s2, Ans.yes rfl (f2.bind (Ans.pure _)), by omega, by omega, h1, h2⟩
  | false =>
    obtain ⟨i, a2, s2, f2, p2, q2, i0, i1⟩ := draw_pick c hc a1 s1 5 (by omega) (by omega)
    obtain ⟨j, a3, s3, f3, p3, q3, j0, j1⟩ := draw_pick c hc a2 s2 5 (by omega) (by omega)
    have wt : wrap64 (1 + i) = ((i.toNat + 1 : Nat) : Int) := by rw [wrap64_in _ ⟨by omega, by omega⟩]; omega
    obtain ⟨n, hn⟩ : ∃ n, n = i.toNat + 1 := ⟨_, rfl⟩
    rw [← hn] at wt
    simp only [f2, f3, Option.bind_some, wt]
    have L := smList n (by omega) (by omega) j
    obtain ⟨l, hl, hin⟩ : ∃ l : List (List (List Int)), l = (allOf n).filter (fun m => hasK m j) ∧ ∀ y ∈ l, y ∈ allOf n := ⟨_, rfl, fun y hy => (List.mem_filter.1 hy).1⟩
    rw [← hl] at L
    have hlen : l.length ≤ 68719476736 := by rw [hl]; exact Nat.le_trans (List.length_filter_le _ _) (allOf_many n (by omega))
    by_cases e : (l.length : Int) = 0
    · obtain ⟨m, a4, s4, f4, p4, q4, h1, h2⟩ := draw_signs c hc a3 s3 4 (by omega) (by omega) (by omega) (by omega)
      exact ⟨m, a4, s4, Ans.not (by simp) (L.bind (Ans.yes e (f4.bind (Ans.pure _)))), by omega, by omega, h1, h2⟩
    · obtain ⟨q, a4, s4, f4, p4, q4, h4, h5⟩ := draw_pick c hc a3 s3 l.length (by omega) (by omega)
      have sq := allOf_sq n _ (hin _ (show rd_L4 l q ∈ l from getD_mem [] (by omega)))
      have cp := smCopy (rd_L4 l q) (by rw [sq.1]; omega) (fun r hr => by rw [sq.2 r hr]; omega)
      refine ⟨rd_L4 l q, a4, s4, Ans.not (by simp) (L.bind (Ans.not e ?_)), by omega, by omega, by rw [sq.1]; omega, fun r hr => by rw [sq.2 r hr]; omega⟩
      simp only [f4, Option.bind_some]
      exact Ans.yes h4 (Ans.yes (by omega) (cp.bind (Ans.pure _)))
theorem drawLeftHalf (c : List Int) (hc : ∀ x ∈ c, (Lit.int .u8 x).wf = true) : ∃ m, Ans (fun k => spec_DrawLeftHalf.f k c) m ∧ Sm m := by
  obtain ⟨m, a, s, f, _, _, h⟩ := draw_symmetric c hc
  simp only [spec_DrawLeftHalf.f, spec_DrawSymmetriesOf.f]
  exact ⟨m, (f.bind (h := fun _ bt => some bt.1) (Ans.pure _)).bind (Ans.pure _), h⟩
theorem drawRows (c : List Int) (hc : ∀ x ∈ c, (Lit.int .u8 x).wf = true) : ∀ (d : Nat) (out : List (List Int)) (a s : Int), 0 ≤ a → a ≤ 1000000 - 100 * (d : Int) → out.length + d ≤ 7 → (∀ r ∈ out, r.length ≤ 7) → ∃ x, Ans (fun k => spec_DrawFromLeftHalf.l0 k out (d : Int) c a s) x ∧ Sm x := by
  intro d
  induction d with
  | zero =>
    intro out a s h0 h1 h2 h3
    exact ⟨out, Ans.step (by simp only [spec_DrawFromLeftHalf.l0]; exact Ans.not (by omega) (Ans.pure _)), by omega, h3⟩
  | succ d ih =>
    intro out a s h0 h1 h2 h3
    have inner : ∀ (e : Nat) (row : List Int) (a s : Int), 0 ≤ a → a ≤ 1000000 - 100 * (d : Int) - 10 * (e : Int) → row.length + e ≤ 7 → ∃ x, Ans (fun k => spec_DrawFromLeftHalf.l1 k out ((d + 1 : Nat) : Int) row (e : Int) c a s) x ∧ Sm x := by
      intro e
      induction e with
      | zero =>
        intro row a s g0 g1 g2
        obtain ⟨x, f, h⟩ := ih (out ++ [row]) a s g0 (by omega) (by simp only [List.length_append, List.length_singleton]; omega) (fun r hr => by
          rcases List.mem_append.1 hr with h | h
          · exact h3 r h
          · rw [List.mem_singleton.1 h]; omega)
        refine ⟨x, Ans.step ?_, h⟩
        simp only [spec_DrawFromLeftHalf.l1]
        rw [show wrap64 (((d + 1 : Nat) : Int) - 1) = (d : Int) by rw [wrap64_in _ ⟨by omega, by omega⟩]; omega]
        exact Ans.not (by omega) (Ans.yes (by omega) f)
      | succ e ihe =>
        intro row a s g0 g1 g2
        obtain ⟨v, a1, s1, f1, p1, q1, _, _⟩ := draw_pick c hc a s 4 g0 (by omega)
        obtain ⟨x, f, h⟩ := ihe (row ++ [wrap64 (v - 1)]) a1 s1 (by omega) (by omega) (by simp only [List.length_append, List.length_singleton]; omega)
        refine ⟨x, Ans.step ?_, h⟩
        simp only [spec_DrawFromLeftHalf.l1, f1, Option.bind_some]
        rw [show wrap64 (((e + 1 : Nat) : Int) - 1) = (e : Int) by rw [wrap64_in _ ⟨by omega, by omega⟩]; omega]
        exact Ans.yes (by omega) (Ans.yes (by omega) f)
    obtain ⟨v, a1, s1, f1, p1, q1, v0, v1⟩ := draw_pick c hc a s 3 h0 (by omega)
    obtain ⟨e, he⟩ : ∃ e : Nat, v = e := ⟨v.toNat, by omega⟩
    subst he
    obtain ⟨x, f, h⟩ := inner e [] a1 s1 (by omega) (by omega) (by simp only [List.length_nil]; omega)
    refine ⟨x, Ans.step ?_, h⟩
    simp only [spec_DrawFromLeftHalf.l0, f1, Option.bind_some]
    exact Ans.yes (by omega) f
theorem leftRes_small (x : List (List Int)) : Sm (leftRes x).1 := by
  unfold leftRes Sm
  by_cases s : sign x = true
  · obtain ⟨q, hq⟩ := sign_sq s
    rw [if_pos s]
    split
    · refine ⟨by simpa using (by omega : x.length ≤ 7), fun r hr => ?_⟩
      obtain ⟨a, ha, rfl⟩ := List.mem_map.1 hr
      have := q.2 a ha
      rw [List.length_take]; omega
    · simp
  · rw [if_neg s]; simp
theorem drawFromLeft (c : List Int) (hc : ∀ x ∈ c, (Lit.int .u8 x).wf = true) : ∃ x, Ans (fun k => spec_DrawFromLeftHalf.f k c) x ∧ Sm x := by
  obtain ⟨m, a, s, f, h0, h1, hm⟩ := draw_symmetric c hc
  have hL := (leftHalf m (by have := hm.1; omega)).1
  have tl := leftRes_small m
  simp only [spec_DrawFromLeftHalf.f]
  have go : ∀ a s : Int, 0 ≤ a → a ≤ 5000 → ∃ x, Ans (fun k => spec_DrawFromLeftHalf.j0 k (leftRes m).1 false c a s) x ∧ Sm x := fun a s h0 h1 => by
    obtain ⟨v, a1, s1, f1, p1, q1, v0, v1⟩ := draw_pick c hc a s 7 h0 (by omega)
    obtain ⟨e, he⟩ : ∃ e : Nat, v = e := ⟨v.toNat, by omega⟩
    subst he
    obtain ⟨x, g, h⟩ := drawRows c hc e [] a1 s1 (by omega) (by omega) (by simp only [List.length_nil]; omega) (by simp)
    refine ⟨x, Ans.step ?_, h⟩
    simp only [spec_DrawFromLeftHalf.j0, f1, Option.bind_some]
    exact Ans.not (by simp) g
  by_cases ok : (leftRes m).2 = true
  · obtain ⟨v, a1, s1, f1, p1, q1⟩ := draw_one c hc a s 4 h0 (by omega)
    cases v with
    | true =>
      obtain ⟨x, g, h⟩ := go a1 s1 (by omega) (by omega)
      refine ⟨x, f.bind (hL.bind (Ans.yes ok ?_)), h⟩
      simp only [f1, Option.bind_some]
      exact g
    | false =>
      refine ⟨(leftRes m).1, f.bind (hL.bind (Ans.yes ok ?_)), tl⟩
      simp only [f1, Option.bind_some]
      refine Ans.step ?_
      simp only [spec_DrawFromLeftHalf.j0]
      exact Ans.yes (by simp) (Ans.pure _)
  · obtain ⟨x, g, h⟩ := go a s h0 (by omega)
    exact ⟨x, f.bind (hL.bind (Ans.not ok g)), h⟩
theorem upRes_small (x : List (List Int)) : Sm (upRes x).1 := by
  unfold upRes Sm
  by_cases s : sign x = true
  · obtain ⟨q, hq⟩ := sign_sq s
    rw [if_pos s]
    split
    · simp
    · split
      · refine ⟨by rw [List.length_take]; omega, fun r hr => ?_⟩
        rw [q.2 r (List.mem_of_mem_take hr)]; omega
      · simp
  · rw [if_neg s]; simp
theorem drawFromUpper (c : List Int) (hc : ∀ x ∈ c, (Lit.int .u8 x).wf = true) : ∃ x, Ans (fun k => spec_DrawFromUpperHalf.f k c) x ∧ Sm x := by
  obtain ⟨m, a, s, f, h0, h1, hm⟩ := draw_symmetric c hc
  have hL := (upperHalf m (by have := hm.1; omega)).1
  have tl := upRes_small m
  simp only [spec_DrawFromUpperHalf.f]
  have cut : ∀ m : List (List Int), Sm m → wrap64 ((m.length : Int) / 2) = ((m.length / 2 : Nat) : Int) := fun m h => by
    have := h.1
    rw [wrap64_in _ ⟨by omega, by omega⟩]; omega
  have sm : ∀ m : List (List Int), Sm m → Sm (m.take ((m.length / 2 : Nat) : Int).toNat) := fun m h => ⟨by have := h.1; rw [List.length_take]; omega, fun r hr => h.2 r (List.mem_of_mem_take hr)⟩
  by_cases ok : (upRes m).2 = true
  · obtain ⟨v, a1, s1, f1, p1, q1⟩ := draw_one c hc a s 4 h0 (by omega)
    cases v with
    | true =>
      obtain ⟨y, a2, s2, f2, p2, q2, y1, y2⟩ := draw_signs c hc a1 s1 5 (by omega) (by omega) (by omega) (by omega)
      refine ⟨_, f.bind (hL.bind (Ans.yes ok ?_)), sm y ⟨y1, y2⟩⟩
      simp only [f1, Option.bind_some]
      refine Ans.yes (by simp) (f2.bind ?_)
      simp only [cut y ⟨y1, y2⟩]
      exact Ans.yes (by omega) (Ans.yes (by omega) (Ans.pure _))
    | false =>
      refine ⟨(upRes m).1, f.bind (hL.bind (Ans.yes ok ?_)), tl⟩
      simp only [f1, Option.bind_some]
      exact Ans.not (by simp) (Ans.pure _)
  · obtain ⟨y, a2, s2, f2, p2, q2, y1, y2⟩ := draw_signs c hc a s 5 (by omega) (by omega) h0 (by omega)
    refine ⟨_, f.bind (hL.bind (Ans.not ok (f2.bind ?_))), sm y ⟨y1, y2⟩⟩
    simp only [cut y ⟨y1, y2⟩]
    exact Ans.yes (by omega) (Ans.yes (by omega) (Ans.pure _))
theorem pal_row (r : List Int) (n : Nat) (hl : r.length = n) (hp : r.reverse = r) (hs : r.sum = 1) : n % 2 = 1 ∧ specRow (r.take (n / 2)) = r ∧ r.getD (n / 2) 0 % 2 = 1 := by
  have e : (r.take (n / 2)).reverse = r.drop (n - n / 2) := by rw [List.reverse_take, hp, hl]
  by_cases c : n % 2 = 0
  · exfalso
    have h := congrArg List.sum (List.take_append_drop (n / 2) r)
    rw [show n - n / 2 = n / 2 by omega] at e
    rw [List.sum_append, ← e, sum_rev, hs] at h
    omega
  · have hd : r.drop (n / 2) = r.getD (n / 2) 0 :: r.drop (n / 2 + 1) := drop_at r 0 (by omega)
    rw [show n - n / 2 = n / 2 + 1 by omega] at e
    have t := List.take_append_drop (n / 2) r
    rw [hd, ← e] at t
    have h := congrArg List.sum t
    rw [List.sum_append, List.sum_cons, sum_rev, hs] at h
    refine ⟨by omega, ?_, by omega⟩
    rw [specRow, show 1 - 2 * (r.take (n / 2)).sum = r.getD (n / 2) 0 by omega, List.append_assoc, List.singleton_append]
    exact t
theorem map_self {α : Type} {f : α → α} : ∀ (l : List α), l.map f = l → ∀ a ∈ l, f a = a
  | [], _, _, h => by simp at h
  | b :: l, e, a, h => by
    rw [List.map_cons, List.cons.injEq] at e
    rcases List.mem_cons.1 h with rfl | h
    · exact e.1
    · exact map_self l e.2 a h
theorem hasK2 (m : List (List Int)) : hasK m 2 = decide (mir m = m) := by simp [hasK]
theorem hasK0 (m : List (List Int)) : hasK m 0 = decide (cw (cw m) = m) := by simp [hasK]
theorem pal_rows {m : List (List Int)} (s : sign m = true) (c : hasK m 2 = true) : ∀ r ∈ m, m.length % 2 = 1 ∧ specRow (r.take (m.length / 2)) = r ∧ r.getD (m.length / 2) 0 % 2 = 1 := fun r hr => by
  rw [hasK2] at c
  have q := (sign_sq s).1
  have hw := walk_sum _ 0 (sign_row s r hr)
  exact pal_row r m.length (q.2 r hr) (map_self m (of_decide_eq_true c) r hr) (by omega)
theorem sign_pos {m : List (List Int)} (s : sign m = true) : 1 ≤ m.length := by
  unfold sign at s; rw [Bool.and_eq_true] at s; exact (square_of s.1).1
/-- A mirrored matrix is got back from its left half. -/
theorem left_back {m : List (List Int)} (s : sign m = true) (c : hasK m 2 = true) : m.length % 2 = 1 ∧ fromRes (m.map (List.take (m.length / 2))) = (m, true) := by
  obtain ⟨q, hq⟩ := sign_sq s
  have h1 := sign_pos s
  have P := pal_rows s c
  have od : m.length % 2 = 1 := (P _ (getD_mem (x := m) (n := 0) [] (by omega))).1
  have so : specOut (m.map (List.take (m.length / 2))) = m := by
    rw [specOut, List.map_map]
    conv => rhs; rw [← List.map_id m]
    exact List.map_congr_left fun r hr => (P r hr).2.1
  have ok : (m.map (List.take (m.length / 2))).all (okHalf (m.length / 2)) = true := List.all_eq_true.mpr fun h hh => by
    obtain ⟨r, hr, rfl⟩ := List.mem_map.1 hh
    have hl := q.2 r hr
    rw [okHalf, Bool.and_eq_true]
    exact ⟨decide_eq_true (by rw [List.length_take]; omega), List.all_eq_true.mpr fun a ha => decide_eq_true (walkBetween _ 0 (sign_row s r hr) a (List.mem_of_mem_take ha))⟩
  refine ⟨od, ?_⟩
  unfold fromRes
  rw [List.length_map, if_pos ⟨h1, hq⟩, if_neg (by omega), if_pos ok, so, final, if_pos s]
/-- Its middle column has signs in turn. -/
theorem mid_turn {m : List (List Int)} (s : sign m = true) (c : hasK m 2 = true) (i : Nat) (hi : i < m.length) : (colOf m ((m.length / 2 : Nat) : Int)).getD i 0 = 1 - 2 * ((i : Int) % 2) := by
  have P := pal_rows s c
  have := walk_odd _ 0 (by omega) (by omega) (sign_col s (m.length / 2) (by omega)) (fun a ha => by
    obtain ⟨r, hr, rfl⟩ := List.mem_map.1 ha
    have := (P r hr).2.2
    simp only [rd, Int.toNat_natCast]; exact this) i (by simpa [colOf] using hi)
  rw [this, Int.add_zero]
theorem half_turn {n : Nat} {x : List (List Int)} (h : Sq n x) : cw (cw x) = x.reverse.map List.reverse := by
  have sq : Sq n (x.reverse.map List.reverse) := ⟨by simp [h.1], fun r hr => by
    obtain ⟨a, ha, rfl⟩ := List.mem_map.1 hr
    rw [List.length_reverse]; exact h.2 a (by simpa using ha)⟩
  refine ext_sq (cw_sq (cw_sq h)) sq fun i j hi hj => ?_
  rw [show cw (cw x) = mir (tr (cw x)) from rfl, mir_at (tr_sq (cw_sq h)) hi hj, tr_at (cw_sq h) hi (by omega), show cw x = mir (tr x) from rfl, mir_at (tr_sq h) (by omega) hi, tr_at h (by omega) (by omega)]
  have e : (x.reverse.map List.reverse).getD i [] = (x.getD (n - 1 - i) []).reverse := by
    have hl := h.1
    rw [getD_at _ _ (by simp; omega), List.getElem_map, List.getElem_reverse, getD_at x [] (by omega)]
    congr 2; omega
  rw [e, rev_at _ (h.row (by omega)) hj]
theorem whole_take {m : List (List Int)} {n : Nat} (q : Sq n m) (c : hasK m 0 = true) (ev : n % 2 = 0) : whole (m.take (n / 2)) = m := by
  rw [hasK0] at c
  have c := of_decide_eq_true c
  rw [half_turn q] at c
  have hl := q.1
  have : (m.take (n / 2)).reverse.map List.reverse = m.drop (n / 2) := by
    rw [List.reverse_take, List.map_drop, c]; congr 1; omega
  rw [whole, this, List.take_append_drop]
theorem upper_back {m : List (List Int)} (s : sign m = true) (c : hasK m 0 = true) (ev : ¬ (m.length : Int) % 2 = 1) : wholeRes (m.take (m.length / 2)) = (m, true) := by
  obtain ⟨q, hq⟩ := sign_sq s
  have h1 := sign_pos s
  have w := whole_take q c (by omega)
  unfold wholeRes
  rw [List.length_take, if_pos (by omega), w, if_pos s]
/-- The left half of what was made of rows. -/
theorem left_again {x : List (List Int)} (h : (fromRes x).2 = true) : leftRes (fromRes x).1 = (x, true) := by
  unfold fromRes at h ⊢
  by_cases c1 : 1 ≤ x.length ∧ x.length ≤ 6
  case neg => rw [if_neg c1] at h; simp at h
  rw [if_pos c1] at h ⊢
  by_cases c2 : x.length % 2 = 0
  · rw [if_pos c2] at h; simp at h
  rw [if_neg c2] at h ⊢
  by_cases c3 : x.all (okHalf (x.length / 2)) = true
  case neg => rw [if_neg c3] at h; simp at h
  rw [if_pos c3] at h ⊢
  unfold final at h ⊢
  by_cases s : sign (specOut x) = true
  case neg => rw [if_neg s] at h; simp at h
  rw [if_pos s]
  have lo : (specOut x).length = x.length := by simp [specOut]
  have k : hasK (specOut x) 2 = true := by
    rw [hasK2]; refine decide_eq_true ?_
    rw [mir, specOut, List.map_map]
    exact List.map_congr_left fun r _ => by simp [specRow]
  unfold leftRes
  rw [if_pos s, if_pos k, lo, specOut, List.map_map]
  have : x.map (List.take (x.length / 2) ∘ specRow) = x := by
    conv => rhs; rw [← List.map_id x]
    exact List.map_congr_left fun r hr => by
      have := List.all_eq_true.mp c3 r hr
      rw [okHalf, Bool.and_eq_true] at this
      have hl := of_decide_eq_true this.1
      simp only [Function.comp, specRow, id, List.append_assoc]
      rw [List.take_append_of_le_length (by omega), List.take_of_length_le (by omega)]
  rw [this]
theorem upper_again {x : List (List Int)} (h : (wholeRes x).2 = true) : upRes (wholeRes x).1 = (x, true) := by
  unfold wholeRes at h ⊢
  by_cases c1 : 1 ≤ x.length ∧ x.length ≤ 3
  case neg => rw [if_neg c1] at h; simp at h
  rw [if_pos c1] at h ⊢
  by_cases s : sign (whole x) = true
  case neg => rw [if_neg s] at h; simp at h
  rw [if_pos s]
  have wl : (whole x).length = 2 * x.length := by simp [whole]; omega
  have k : hasK (whole x) 0 = true := by
    rw [hasK0, half_turn (sign_sq s).1]; refine decide_eq_true ?_
    simp [whole, List.map_reverse, Function.comp_def]
  show upRes (whole x) = _
  unfold upRes
  rw [if_pos s, if_neg (by omega), if_pos k, wl, show 2 * x.length / 2 = x.length by omega]
  simp [whole]
theorem fromRes_small (x : List (List Int)) : Sm (fromRes x).1 := by
  have h := final_small (specOut x)
  unfold fromRes Sm
  split
  · split
    · simp
    · split
      · exact ⟨by omega, fun r hr => by have := h.2 r hr; omega⟩
      · simp
  · simp
theorem wholeRes_small (x : List (List Int)) : Sm (wholeRes x).1 := by
  unfold wholeRes Sm
  split
  · by_cases s : sign (whole x) = true
    · obtain ⟨q, hq⟩ := sign_sq s
      rw [if_pos s]
      exact ⟨by show (whole x).length ≤ 7; omega, fun r hr => by rw [q.2 r hr]; omega⟩
    · rw [if_neg s]; simp
  · simp
theorem sameRows {x : List (List Int)} (h : Sm x) : Ans (fun k => laws_uSameRows.f k x x) true := uSameRows x (by have := h.1; omega) (fun r hr => by have := h.2 r hr; omega)
theorem sm_len {x : List (List Int)} (h : Sm x) : x.length ≤ 1048576 ∧ ∀ r ∈ x, r.length ≤ 1048576 := ⟨by have := h.1; omega, fun r hr => by have := h.2 r hr; omega⟩
theorem law_j7 (x : List (List Int)) (hx : Sm x) : Ans (fun k => laws_FnHalvesOfMatrices.j7 k x (wholeRes x).1 (wholeRes x).2 false) true := by
  refine Ans.step ?_
  simp only [laws_FnHalvesOfMatrices.j7]
  refine Ans.not (by simp) ?_
  by_cases t : (wholeRes x).2 = true
  · have U := (upperHalf (wholeRes x).1 (sm_len (wholeRes_small x)).1).2
    rw [upper_again t] at U
    exact Ans.yes t (U.bind (Ans.yes rfl ((sameRows hx).bind (Ans.pure _))))
  · exact Ans.not t (Ans.pure _)
theorem law_j6 (c : List Int) (hc : ∀ x ∈ c, (Lit.int .u8 x).wf = true) : Ans (fun k => laws_FnHalvesOfMatrices.j6 k c) true := by
  obtain ⟨x, f, hx⟩ := drawFromUpper c hc
  have F := fromUpper x (sm_len hx).1 (sm_len hx).2
  refine Ans.step ?_
  simp only [laws_FnHalvesOfMatrices.j6]
  exact f.bind (F.2.bind (F.1.bind (Ans.not (by simp) ((sameRows (wholeRes_small x)).bind (law_j7 x hx)))))
theorem law_j5 (c : List Int) (hc : ∀ x ∈ c, (Lit.int .u8 x).wf = true) (x : List (List Int)) (hx : Sm x) : Ans (fun k => laws_FnHalvesOfMatrices.j5 k c x (fromRes x).1 (fromRes x).2 false) true := by
  refine Ans.step ?_
  simp only [laws_FnHalvesOfMatrices.j5]
  refine Ans.not (by simp) ?_
  by_cases t : (fromRes x).2 = true
  · have U := (leftHalf (fromRes x).1 (sm_len (fromRes_small x)).1).2
    rw [left_again t] at U
    exact Ans.yes t (U.bind (Ans.yes rfl ((sameRows hx).bind (Ans.yes rfl (law_j6 c hc)))))
  · exact Ans.not t (law_j6 c hc)
theorem law_j4 (c : List Int) (hc : ∀ x ∈ c, (Lit.int .u8 x).wf = true) : Ans (fun k => laws_FnHalvesOfMatrices.j4 k c) true := by
  obtain ⟨x, f, hx⟩ := drawFromLeft c hc
  have F := fromLeft x (sm_len hx).1 (sm_len hx).2
  refine Ans.step ?_
  simp only [laws_FnHalvesOfMatrices.j4]
  exact f.bind (F.2.bind (F.1.bind (Ans.not (by simp) ((sameRows (fromRes_small x)).bind (law_j5 c hc x hx)))))
theorem law_j3 (c : List Int) (hc : ∀ x ∈ c, (Lit.int .u8 x).wf = true) (m : List (List Int)) (hm : Sm m) : Ans (fun k => laws_FnHalvesOfMatrices.j3 k c m (upRes m).1 (upRes m).2) true := by
  refine Ans.step ?_
  simp only [laws_FnHalvesOfMatrices.j3]
  by_cases t : (upRes m).2 = true
  · have F := (fromUpper (upRes m).1 (sm_len (upRes_small m)).1 (sm_len (upRes_small m)).2).2
    have e : wholeRes (upRes m).1 = (m, true) := by
      unfold upRes at t ⊢
      by_cases s : sign m = true
      case neg => rw [if_neg s] at t; simp at t
      rw [if_pos s] at t ⊢
      by_cases o : (m.length : Int) % 2 = 1
      · rw [if_pos o] at t; simp at t
      rw [if_neg o] at t ⊢
      by_cases k : hasK m 0 = true
      case neg => rw [if_neg k] at t; simp at t
      rw [if_pos k]
      exact upper_back s k o
    rw [e] at F
    exact Ans.yes t (F.bind (Ans.yes rfl ((sameRows hm).bind (Ans.yes rfl (law_j4 c hc)))))
  · exact Ans.not t (law_j4 c hc)
theorem law_l0 (c : List Int) (hc : ∀ x ∈ c, (Lit.int .u8 x).wf = true) (m : List (List Int)) (hm : Sm m) (q : List Int) (hq : q.length ≤ 7) (h : ∀ i : Nat, i < q.length → q.getD i 0 = 1 - 2 * ((i : Int) % 2)) : ∀ (d : Nat) (i : Int), 0 ≤ i → i + d = q.length → Ans (fun k => laws_FnHalvesOfMatrices.l0 k c m (upRes m).1 (upRes m).2 q (q.length : Int) i) true := by
  intro d
  induction d with
  | zero =>
    intro i h0 h1
    refine Ans.step ?_
    simp only [laws_FnHalvesOfMatrices.l0]
    exact Ans.not (by omega) (law_j3 c hc m hm)
  | succ d ih =>
    intro i h0 h1
    have e := h i.toNat (by omega)
    rw [show ((i.toNat : Nat) : Int) = i by omega] at e
    refine Ans.step ?_
    simp only [laws_FnHalvesOfMatrices.l0]
    rw [wrap64_in (i + 1) ⟨by omega, by omega⟩]
    refine Ans.yes (by omega) (Ans.yes h0 (Ans.yes (by omega) (Ans.yes ?_ (ih (i + 1) (by omega) (by omega)))))
    have t : Int.tmod i 2 = i % 2 := Int.tmod_eq_emod_of_nonneg h0
    rw [t, wrap64_in (2 * (i % 2)) ⟨by omega, by omega⟩, wrap64_in _ ⟨by omega, by omega⟩, ← e]
    rfl
theorem law_j0 (c : List Int) (hc : ∀ x ∈ c, (Lit.int .u8 x).wf = true) (m : List (List Int)) (hm : Sm m) : Ans (fun k => laws_FnHalvesOfMatrices.j0 k c m (leftRes m).1 (leftRes m).2 (upRes m).1 (upRes m).2 (midRes m).1 false) true := by
  refine Ans.step ?_
  simp only [laws_FnHalvesOfMatrices.j0]
  refine Ans.not (by simp) ?_
  by_cases t : (leftRes m).2 = true
  · have F := (fromLeft (leftRes m).1 (sm_len (leftRes_small m)).1 (sm_len (leftRes_small m)).2).2
    have e : sign m = true ∧ hasK m 2 = true := by
      unfold leftRes at t
      by_cases s : sign m = true
      case neg => rw [if_neg s] at t; simp at t
      rw [if_pos s] at t
      by_cases k : hasK m 2 = true
      case neg => rw [if_neg k] at t; simp at t
      exact ⟨s, k⟩
    obtain ⟨s, k⟩ := e
    have B := left_back s k
    have L : leftRes m = (m.map (List.take (m.length / 2)), true) := by unfold leftRes; rw [if_pos s, if_pos k]
    have M : midRes m = (colOf m ((m.length / 2 : Nat) : Int), true) := by unfold midRes; rw [if_pos s, if_pos k]
    have cl : (colOf m ((m.length / 2 : Nat) : Int)).length = m.length := by simp [colOf]
    rw [L] at F
    simp only [B.2] at F
    rw [L, M]
    have hl := hm.1
    refine Ans.yes rfl (F.bind (Ans.yes rfl ((sameRows hm).bind (Ans.yes rfl (Ans.step ?_)))))
    simp only [laws_FnHalvesOfMatrices.j1]
    have od : Int.tmod (m.length : Int) 2 = 1 := by rw [Int.tmod_eq_emod_of_nonneg (by omega)]; omega
    have od2 : (m.length : Int) % 2 = 1 := by omega
    refine Ans.not (by simp [od2]) ?_
    have Z := law_l0 c hc m hm (colOf m ((m.length / 2 : Nat) : Int)) (by omega) (fun i hi => mid_turn s k i (by omega)) m.length 0 (by omega) (by omega)
    exact Z
  · exact Ans.not t (law_j3 c hc m hm)
theorem FnHalvesOfMatrices : laws_FnHalvesOfMatrices.Pure := by
  intro c m _ _ hc _ _ hm
  refine Ans.at (g := fun k => laws_FnHalvesOfMatrices.f k c m) ?_
  simp only [laws_FnHalvesOfMatrices.f]
  obtain ⟨b, hb⟩ := big_ans c m
  simp only [hb, Option.bind_some]
  cases b with
  | true => exact Ans.yes rfl (Ans.pure _)
  | false =>
    refine Ans.not (by simp) ?_
    obtain ⟨x, f, hx⟩ := drawLeftHalf c hc
    have L := leftHalf x (sm_len hx).1
    have U := upperHalf x (sm_len hx).1
    have M := middleOf x (sm_len hx).1
    have ml : (midRes x).1.length ≤ 17592186044416 := by
      unfold midRes
      have := hx.1
      split
      · split
        · simp [colOf]; omega
        · simp
      · simp
    have me : (midRes x).2 = (leftRes x).2 := by
      unfold midRes leftRes
      split
      · split <;> rfl
      · rfl
    refine f.bind (L.2.bind (L.1.bind (U.2.bind (U.1.bind (M.2.bind (M.1.bind (Ans.not (by simp) ((sameRows (leftRes_small x)).bind (Ans.yes rfl (Ans.not (by simp) ((sameRows (upRes_small x)).bind (Ans.yes rfl (Ans.not (by simp) ((uSame _ _ ml).bind (Ans.yes (by simp) ?_)))))))))))))))
    rw [show ((midRes x).2 != (leftRes x).2) = false by rw [me]; simp]
    exact law_j0 m hm x hx

end Go.Proofs.Ytiajdpjfofbpnaa.Pure
