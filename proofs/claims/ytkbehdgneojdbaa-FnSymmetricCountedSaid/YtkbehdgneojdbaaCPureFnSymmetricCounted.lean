/- For all bytes the statement on the numbers of symmetric matrices answers true: no condition. -/
import Derived.Test.YtkbehdgneojdbaaCFnSymmetricCountedx6
import Derived.Test.YtkbehdgneojdbaaQTwo
import Derived.Test.YtkbehdgneojdbaaQByte
import Derived.Test.YtkbehdgneojdbaaQByte
namespace Go.Proofs.Ytkbehdgneojdbaa.Pure
open Go.RowKit Go.Proofs.Ytkbehdgneojdbaa.X Go.Proofs.YtkbehdgneojdbaaW.PrintWords Go.Proofs.YtkbehdgneojdbaaW.PrintLast Go.Proofs.Ytkbehdgneojdbaa.Q
set_option linter.unusedVariables false
set_option linter.unusedSimpArgs false
theorem rd_L1_mem {x : List (List Int)} {i : Int} (h0 : 0 ≤ i) (h1 : i < x.length) : rd_L3 x i ∈ x := by unfold rd_L3; exact getD_mem _ (by omega)
theorem LeO.far {α : Type} {g : Nat → Option α} {r : α} (h : ∀ k, LeO (g k) (g (k + 1))) (m : Nat) (e : g m = some r) : Ans g r :=
  ⟨m, fun k hk => by
    obtain ⟨j, rfl⟩ : ∃ j, k = m + j := ⟨k - m, by omega⟩
    clear hk
    induction j with
    | zero => exact e
    | succ j ih => exact h _ r ih⟩
theorem l1In (a b c : Int) : spec_l1In.f a b c = some (decide (b ≤ a ∧ a ≤ c)) := by
  unfold spec_l1In.f
  by_cases h : a ≥ b
  · rw [if_pos h]; refine congrArg some (decide_eq_decide.mpr ⟨fun q => ⟨h, q⟩, fun q => q.2⟩)
  · rw [if_neg h, decide_eq_false (by omega)]
theorem within (a b c : Int) : impl_within.f a b c = some (decide (b ≤ a ∧ a ≤ c)) := by
  unfold impl_within.f
  by_cases h : b ≤ a
  · rw [if_pos h]; refine congrArg some (decide_eq_decide.mpr ⟨fun q => ⟨h, q⟩, fun q => q.2⟩)
  · rw [if_neg h, decide_eq_false (by omega)]
theorem containsL (x : List (List Int)) (hx : x.length ≤ 17592186044416) (g : List Int → Option Bool) (p : List Int → Bool) (hg : ∀ a, g a = some (p a)) : Ans (fun k => slices_ContainsFunc_int_int.f k x g) (x.any p) := by
  have key : ∀ (d : Nat) (i : Int), 0 ≤ i → i + d = x.length → ∃ z : Int, Ans (fun k => slices_IndexFunc_int_int.l0 k x g (x.length : Int) i) z ∧ decide (z ≥ 0) = (x.drop i.toNat).any p := by
    intro d
    induction d with
    | zero =>
      intro i h0 h1
      refine ⟨-1, Ans.step ?_, by rw [List.drop_eq_nil_of_le (by omega)]; rfl⟩
      simp only [slices_IndexFunc_int_int.l0]; exact Ans.not (by omega) (Ans.pure _)
    | succ d ih =>
      intro i h0 h1
      have hd := drop_at x [] (show i.toNat < x.length by omega)
      by_cases c : p (rd_L3 x i) = true
      · refine ⟨i, Ans.step ?_, by rw [hd, List.any_cons, show p (x.getD i.toNat []) = true from c]; simp [h0]⟩
        simp only [slices_IndexFunc_int_int.l0, hg, Option.bind_some]
        exact Ans.yes (by omega) (Ans.yes h0 (Ans.yes (by omega) (Ans.yes c (Ans.pure _))))
      · obtain ⟨z, e, hz⟩ := ih (i + 1) (by omega) (by omega)
        refine ⟨z, Ans.step ?_, by rw [hz, hd, List.any_cons, show p (x.getD i.toNat []) = false from Bool.eq_false_iff.mpr c, show (i + 1).toNat = i.toNat + 1 by omega]; simp⟩
        simp only [slices_IndexFunc_int_int.l0, hg, Option.bind_some, wrap64_up h0 (by omega : i ≤ 4611686018427387904)]
        exact Ans.yes (by omega) (Ans.yes h0 (Ans.yes (by omega) (Ans.not c e)))
  obtain ⟨z, e, hz⟩ := key x.length 0 (by omega) (by omega)
  simp only [slices_ContainsFunc_int_int.f, slices_IndexFunc_int_int.f]
  have := e.bind (h := fun _ t => some (decide (t ≥ 0))) (Ans.pure (decide (z ≥ 0)))
  rwa [hz] at this
theorem isSquare (x : List (List Int)) (hx : x.length ≤ 17592186044416) : Ans (fun k => impl_isSquare.f k x) (x.all fun r => decide (r.length = x.length)) := by
  have e := containsL x hx (fun x0_ => impl_isSquare_1.f x0_ x) (fun r => (r.length : Int) != (x.length : Int)) (fun a => rfl)
  have := e.bind (h := fun _ t => some (!t)) (Ans.pure _)
  rw [List.not_any_eq_all_not] at this
  rwa [show (fun r : List Int => !((r.length : Int) != (x.length : Int))) = fun r => decide (r.length = x.length) from funext fun r => by by_cases h : r.length = x.length <;> simp [bne, h]; omega] at this
def colOf (x : List (List Int)) (j : Int) : List Int := x.map fun r => rd r j
theorem range_drop {n i : Nat} (h : i < n) : (List.range n).drop i = i :: (List.range n).drop (i + 1) := by
  rw [drop_at (List.range n) 0 (by simpa using h), getD_at _ _ (by simpa using h), List.getElem_range]
theorem sgTurn (x : List (List Int)) (h : x.length ≤ 1048576) (hr : ∀ r ∈ x, r.length = x.length) : Ans (fun k => spec_sgTurn.f k x) ((List.range x.length).map fun (j : Nat) => colOf x j) := by
  have inner : ∀ (out : List (List Int)) (j : Int) (R : List (List Int)), 0 ≤ j → j < x.length → out.length ≤ 1048576 → ∀ (d : Nat) (i : Int) (acc : List Int), 0 ≤ i → i + d = x.length → acc.length + d ≤ 1048576 →
      Ans (fun k => spec_sgTurn.l0 k x (out ++ [acc ++ colOf (x.drop i.toNat) j]) (x.length : Int) (j + 1)) R → Ans (fun k => spec_sgTurn.l1 k x out j acc (x.length : Int) j x (x.length : Int) i) R := by
    intro out j R hj hj' ho d
    induction d with
    | zero =>
      intro i acc h0 h1 h2 e
      rw [List.drop_eq_nil_of_le (by omega), colOf, List.map_nil, List.append_nil] at e; refine Ans.step ?_
      simp only [spec_sgTurn.l1, wrap64_up hj (by omega : j ≤ 4611686018427387904)]; exact Ans.not (by omega) (Ans.yes (by omega) e)
    | succ d ih =>
      intro i acc h0 h1 h2 e
      have hm := rd_L1_mem h0 (show i < x.length by omega)
      rw [drop_at x [] (show i.toNat < x.length by omega), show x.getD i.toNat [] = rd_L3 x i from rfl] at e
      refine Ans.step ?_
      simp only [spec_sgTurn.l1, wrap64_up h0 (by omega : i ≤ 4611686018427387904)]
      refine Ans.yes (by omega) (Ans.yes h0 (Ans.yes (by omega) (Ans.yes hj (Ans.yes (by have := hr _ hm; omega) (Ans.yes (by omega) (ih (i + 1) _ (by omega) (by omega) (by simp only [List.length_append, List.length_singleton]; omega) ?_))))))
      rw [show (i + 1).toNat = i.toNat + 1 by omega, List.append_assoc, List.singleton_append]
      exact e
  have key : ∀ (d : Nat) (j : Int) (out : List (List Int)), 0 ≤ j → j + d = x.length → out.length + d ≤ 1048576 → Ans (fun k => spec_sgTurn.l0 k x out (x.length : Int) j) (out ++ ((List.range x.length).drop j.toNat).map fun (j : Nat) => colOf x j) := by
    intro d
    induction d with
    | zero =>
      intro j out h0 h1 h2
      rw [List.drop_eq_nil_of_le (by simp only [List.length_range]; omega), List.map_nil, List.append_nil]; refine Ans.step ?_
      simp only [spec_sgTurn.l0]; exact Ans.not (by omega) (Ans.pure _)
    | succ d ih =>
      intro j out h0 h1 h2
      have e := ih (j + 1) (out ++ [colOf x j]) (by omega) (by omega) (by simp only [List.length_append, List.length_singleton]; omega)
      rw [show (j + 1).toNat = j.toNat + 1 by omega, List.append_assoc, List.singleton_append] at e
      rw [range_drop (show j.toNat < x.length by omega), List.map_cons, show ((j.toNat : Nat) : Int) = j by omega]
      refine Ans.step ?_
      simp only [spec_sgTurn.l0]
      exact Ans.yes (by omega) (inner out j _ h0 (by omega) (by omega) x.length 0 [] (by omega) (by omega) (by simp only [List.length_nil]; omega) e)
  exact key x.length 0 [] (by omega) (by omega) (by simp only [List.length_nil]; omega)
/-- The numbers are -1, 0, 1, and their sums from s on are 0 or 1, the last one 1. -/
def walkOk : Int → List Int → Bool
  | s, [] => s == 1
  | s, a :: x => decide (-1 ≤ a ∧ a ≤ 1) && (decide (0 ≤ s + a ∧ s + a ≤ 1) && walkOk (s + a) x)
theorem alternate (x : List Int) (hx : x.length ≤ 17592186044416) : Ans (fun k => impl_alternate.f k x) (walkOk 0 x) := by
  have key : ∀ (d : Nat) (i s : Int), 0 ≤ i → i + d = x.length → 0 ≤ s → s ≤ 1 → Ans (fun k => impl_alternate.l0 k s x (x.length : Int) i) (walkOk s (x.drop i.toNat)) := by
    intro d
    induction d with
    | zero =>
      intro i s h0 h1 s0 s1
      rw [List.drop_eq_nil_of_le (by omega)]; refine Ans.step ?_
      simp only [impl_alternate.l0]; exact Ans.not (by omega) (Ans.pure _)
    | succ d ih =>
      intro i s h0 h1 s0 s1
      rw [drop_at x 0 (show i.toNat < x.length by omega), show x.getD i.toNat 0 = rd x i from rfl, walkOk]
      refine Ans.step ?_
      simp only [impl_alternate.l0, within, Option.bind_some, wrap64_up h0 (by omega : i ≤ 4611686018427387904)]
      refine Ans.yes (by omega) (Ans.yes h0 (Ans.yes (by omega) ?_))
      by_cases c1 : decide (-1 ≤ rd x i ∧ rd x i ≤ 1) = true
      · have b1 := of_decide_eq_true c1
        have hw : wrap64 (s + rd x i) = s + rd x i := wrap64_in _ ⟨by omega, by omega⟩
        simp only [hw]
        rw [c1, Bool.true_and]
        refine Ans.yes rfl ?_
        by_cases c2 : decide (0 ≤ s + rd x i ∧ s + rd x i ≤ 1) = true
        · have b2 := of_decide_eq_true c2
          have e := ih (i + 1) (s + rd x i) (by omega) (by omega) b2.1 b2.2
          rw [show (i + 1).toNat = i.toNat + 1 by omega] at e
          rw [c2, Bool.true_and]; exact Ans.yes rfl e
        · rw [Bool.eq_false_iff.mpr c2, Bool.false_and]; exact Ans.not (by simp) (Ans.pure _)
      · rw [Bool.eq_false_iff.mpr c1, Bool.false_and]; exact Ans.not (by simp) (Ans.pure _)
  exact key x.length 0 0 (by omega) (by omega) (by omega) (by omega)
theorem column (x : List (List Int)) (j : Int) (h : x.length ≤ 1048576) (hj : 0 ≤ j) (hr : ∀ r ∈ x, j < r.length) : Ans (fun k => impl_column.f k x j) (colOf x j) := by
  have key : ∀ (d : Nat) (i : Int) (acc : List Int), 0 ≤ i → i + d = x.length → acc.length + d ≤ 1048576 → Ans (fun k => impl_column.l0 k j acc x (x.length : Int) i) (acc ++ colOf (x.drop i.toNat) j) := by
    intro d
    induction d with
    | zero =>
      intro i acc h0 h1 h2
      rw [List.drop_eq_nil_of_le (by omega), colOf, List.map_nil, List.append_nil]; refine Ans.step ?_
      simp only [impl_column.l0]; exact Ans.not (by omega) (Ans.pure _)
    | succ d ih =>
      intro i acc h0 h1 h2
      have hm := rd_L1_mem h0 (show i < x.length by omega)
      have e := ih (i + 1) (acc ++ [rd (rd_L3 x i) j]) (by omega) (by omega) (by simp only [List.length_append, List.length_singleton]; omega)
      rw [show (i + 1).toNat = i.toNat + 1 by omega, List.append_assoc, List.singleton_append] at e
      rw [drop_at x [] (show i.toNat < x.length by omega), show x.getD i.toNat [] = rd_L3 x i from rfl]
      refine Ans.step ?_
      simp only [impl_column.l0, wrap64_up h0 (by omega : i ≤ 4611686018427387904)]
      exact Ans.yes (by omega) (Ans.yes h0 (Ans.yes (by omega) (Ans.yes hj (Ans.yes (hr _ hm) (Ans.yes (by omega) e)))))
  exact key x.length 0 [] (by omega) (by omega) (by simp only [List.length_nil]; omega)
/-- What a sign matrix is, in plain words: square, up to six rows, rows and columns that alternate. -/
def sign (x : List (List Int)) : Bool :=
  (decide (1 ≤ x.length ∧ x.length ≤ 6) && x.all fun r => decide (r.length = x.length)) && (x.all (walkOk 0) && (List.range x.length).all fun (j : Nat) => walkOk 0 (colOf x j))
theorem square_of {x : List (List Int)} (h : (decide (1 ≤ x.length ∧ x.length ≤ 6) && x.all fun r => decide (r.length = x.length)) = true) : 1 ≤ x.length ∧ x.length ≤ 6 ∧ ∀ r ∈ x, r.length = x.length := by
  rw [Bool.and_eq_true] at h
  have b := of_decide_eq_true h.1
  exact ⟨b.1, b.2, fun r hr => of_decide_eq_true (List.all_eq_true.mp h.2 r hr)⟩
theorem isSign (x : List (List Int)) (h : x.length ≤ 1048576) : Ans (fun k => impl_IsSignMatrix.f k x) (sign x) := by
  have no : Ans (fun k => impl_IsSignMatrix.j0 k x true) false := by
    refine Ans.step ?_; simp only [impl_IsSignMatrix.j0]; exact Ans.yes (by simp) (Ans.pure _)
  simp only [impl_IsSignMatrix.f, impl_isSide.f, within, Option.bind_some]
  by_cases c : decide ((1 : Int) ≤ (x.length : Int) ∧ (x.length : Int) ≤ 6) = true
  · have b := of_decide_eq_true c
    refine Ans.yes c ((isSquare x (by omega)).bind ?_)
    unfold sign
    rw [show decide (1 ≤ x.length ∧ x.length ≤ 6) = true from decide_eq_true ⟨by omega, by omega⟩, Bool.true_and]
    by_cases c2 : (x.all fun r => decide (r.length = x.length)) = true
    · rw [c2, Bool.true_and]
      have b3 : ∀ r ∈ x, r.length = x.length := fun r hr => of_decide_eq_true (List.all_eq_true.mp c2 r hr)
      have key : ∀ (d : Nat) (i : Int), 0 ≤ i → i + d = x.length → Ans (fun k => impl_IsSignMatrix.l0 k x (x.length : Int) i) ((x.drop i.toNat).all (walkOk 0) && ((List.range x.length).drop i.toNat).all fun (j : Nat) => walkOk 0 (colOf x j)) := by
        intro d
        induction d with
        | zero =>
          intro i h0 h1
          rw [List.drop_eq_nil_of_le (by omega), List.drop_eq_nil_of_le (by simp only [List.length_range]; omega)]; refine Ans.step ?_
          simp only [impl_IsSignMatrix.l0]; exact Ans.not (by omega) (Ans.pure _)
        | succ d ih =>
          intro i h0 h1
          have hm := rd_L1_mem h0 (show i < x.length by omega)
          have e := ih (i + 1) (by omega) (by omega)
          rw [show (i + 1).toNat = i.toNat + 1 by omega] at e
          rw [drop_at x [] (show i.toNat < x.length by omega), show x.getD i.toNat [] = rd_L3 x i from rfl, range_drop (show i.toNat < x.length by omega), List.all_cons, List.all_cons, show ((i.toNat : Nat) : Int) = i by omega]
          refine Ans.step ?_
          simp only [impl_IsSignMatrix.l0, wrap64_up h0 (by omega : i ≤ 4611686018427387904)]
          refine Ans.yes (by omega) (Ans.yes h0 (Ans.yes (by omega) ((alternate _ (by have := b3 _ hm; omega)).bind ?_)))
          by_cases q1 : walkOk 0 (rd_L3 x i) = true
          · rw [q1, Bool.true_and]
            refine Ans.yes rfl ((column x i h h0 (fun r hr => by have := b3 r hr; omega)).bind ((alternate _ (by simp only [colOf, List.length_map]; omega)).bind ?_))
            by_cases q2 : walkOk 0 (colOf x i) = true
            · rw [q2, Bool.true_and]; exact Ans.yes rfl e
            · rw [Bool.eq_false_iff.mpr q2, Bool.false_and, Bool.and_false]; exact Ans.not (by simp) (Ans.pure _)
          · rw [Bool.eq_false_iff.mpr q1, Bool.false_and, Bool.false_and]; exact Ans.not (by simp) (Ans.pure _)
      refine Ans.step ?_
      simp only [impl_IsSignMatrix.j0]
      exact Ans.not (by simp) (key x.length 0 (by omega) (by omega))
    · rw [Bool.eq_false_iff.mpr c2, Bool.false_and]; exact no
  · have b : ¬ ((1 : Int) ≤ (x.length : Int) ∧ (x.length : Int) ≤ 6) := fun h => c (decide_eq_true h)
    unfold sign
    rw [show decide (1 ≤ x.length ∧ x.length ≤ 6) = false from decide_eq_false (by omega), Bool.false_and, Bool.false_and]
    exact Ans.not c no
def tab (r c : Nat) (v : Nat → Nat → Int) : List (List Int) := (List.range r).map fun i => (List.range c).map fun j => v i j
theorem table_row (c : Nat) (hc : c ≤ 1048576) (g : Int → Int → Option Int) (v : Nat → Int) (n : Int) (i : Nat) (hi : i ≤ 1048576) (hg : ∀ j : Nat, j < c → g i j = some (v j)) {R : List (List Int)} :
    ∀ (d j : Nat) (y : List (List Int)), j + d = c → i < y.length → (y.getD i []).length = c → Ans (fun k => impl_table.l0 k c g (y.set i ((y.getD i []).take j ++ ((List.range c).drop j).map v)) n ((i + 1 : Nat) : Int)) R →
      Ans (fun k => impl_table.l1 k c g y i n i (c : Int) j) R := by
  intro d
  induction d with
  | zero =>
    intro j y h1 h2 h3 e
    rw [List.drop_eq_nil_of_le (by simp only [List.length_range]; omega), List.map_nil, List.append_nil, List.take_of_length_le (by omega), set_same y [] i h2] at e
    refine Ans.step ?_
    simp only [impl_table.l1, wrap64_up (show (0 : Int) ≤ (i : Int) by omega) (by omega : (i : Int) ≤ 4611686018427387904)]
    refine Ans.not (by omega) ?_
    rw [show ((i + 1 : Nat) : Int) = (i : Int) + 1 by omega] at e
    exact e
  | succ d ih =>
    intro j y h1 h2 h3 e
    have hrow : rd_L3 y (i : Int) = y.getD i [] := by unfold rd_L3; rw [Int.toNat_natCast]
    refine Ans.step ?_
    simp only [impl_table.l1, hg j (by omega), Option.bind_some, wrap64_up (show (0 : Int) ≤ (j : Int) by omega) (by omega : (j : Int) ≤ 4611686018427387904), hrow, Int.toNat_natCast]
    refine Ans.yes (by omega) (Ans.yes (by omega) (Ans.yes (by omega) (Ans.yes (by omega) (Ans.yes (by omega) ?_))))
    have hj : j < (y.getD i []).length := by omega
    obtain ⟨t1, _⟩ := take_set_drop (y.getD i []) j (v j) hj
    have hget : (y.set i ((y.getD i []).set j (v j))).getD i [] = (y.getD i []).set j (v j) := by
      rw [getD_at _ _ (by simpa using h2)]; simp
    have := ih (j + 1) (y.set i ((y.getD i []).set j (v j))) (by omega) (by simpa using h2) (by rw [hget]; simpa using h3) (by
      rw [hget, List.set_set, t1, List.append_assoc]
      rw [range_drop (show j < c by omega), List.map_cons] at e
      exact e)
    rwa [show ((j + 1 : Nat) : Int) = (j : Int) + 1 by omega] at this
theorem table (r c : Nat) (hr : r ≤ 1048576) (hc : c ≤ 1048576) (g : Int → Int → Option Int) (v : Nat → Nat → Int) (hg : ∀ i j : Nat, i < r → j < c → g i j = some (v i j)) : Ans (fun k => impl_table.f k r c g) (tab r c v) := by
  have key : ∀ (d i : Nat) (y : List (List Int)), i + d = r → y.length = r → Ans (fun k => impl_table.l0 k c g y (r : Int) i) (y.take i ++ ((List.range r).drop i).map fun i => (List.range c).map fun j => v i j) := by
    intro d
    induction d with
    | zero =>
      intro i y h1 h2
      rw [List.drop_eq_nil_of_le (by simp only [List.length_range]; omega), List.map_nil, List.append_nil, List.take_of_length_le (by omega)]; refine Ans.step ?_
      simp only [impl_table.l0]; exact Ans.not (by omega) (Ans.pure _)
    | succ d ih =>
      intro i y h1 h2
      have hi : i < y.length := by omega
      have hget : (y.set i (List.replicate c 0)).getD i [] = List.replicate c 0 := by rw [getD_at _ _ (by simpa using hi)]; simp
      obtain ⟨t1, _⟩ := take_set_drop y i ((List.range c).map fun j => v i j) hi
      have e := ih (i + 1) (y.set i ((List.range c).map fun j => v i j)) (by omega) (by simpa using h2)
      rw [t1, List.append_assoc, List.singleton_append] at e
      rw [range_drop (show i < r by omega), List.map_cons]
      have hrow : rd_L3 (y.set i (List.replicate c 0)) (i : Int) = List.replicate c 0 := by unfold rd_L3; rw [Int.toNat_natCast]; exact hget
      refine Ans.step ?_
      simp only [impl_table.l0, Option.bind_some, Int.toNat_natCast, hrow, List.length_replicate]
      refine Ans.yes (by omega) (Ans.yes (by omega) (Ans.yes (by omega) (Ans.yes (by omega) (Ans.yes (by omega) ?_))))
      have := table_row c hc g (v i) (r : Int) i (by omega) (fun j hj => hg i j (by omega) hj) c 0 (y.set i (List.replicate c 0)) (by omega) (by simpa using hi) (by rw [hget]; simp) (by
        rw [List.set_set, List.take_zero, List.drop_zero, List.nil_append]; exact e)
      exact this
  simp only [impl_table.f, Option.bind_some, Int.toNat_natCast, List.length_replicate]
  refine Ans.yes (by omega) (Ans.yes (by omega) ?_)
  have := key r 0 (List.replicate r []) (by omega) (by simp)
  simpa [tab] using this
def cmpI (a b : Int) : Int := if a < b then -1 else if a > b then 1 else 0
theorem cmpI_zero {a b : Int} : cmpI a b = 0 ↔ a = b := by
  unfold cmpI; split
  · constructor <;> intro h <;> omega
  · split
    · constructor <;> intro h <;> omega
    · constructor <;> intro h <;> omega
def lexBy {α : Type} (c : α → α → Int) : List α → List α → Int
  | [], [] => 0
  | [], _ :: _ => -1
  | _ :: _, [] => 1
  | a :: x, b :: y => if c a b = 0 then lexBy c x y else c a b
theorem lexBy_zero {α : Type} {c : α → α → Int} (hc : ∀ a b, c a b = 0 ↔ a = b) : ∀ (x y : List α), lexBy c x y = 0 ↔ x = y
  | [], [] => by simp [lexBy]
  | [], _ :: _ => by simp [lexBy]
  | _ :: _, [] => by simp [lexBy]
  | a :: x, b :: y => by
    rw [lexBy]
    by_cases h : c a b = 0
    · rw [if_pos h, lexBy_zero hc x y, (hc a b).mp h]; simp
    · rw [if_neg h]; constructor
      · intro e; exact absurd e h
      · intro e; exact absurd ((hc a b).mpr (List.cons.inj e).1) h
def cmpL : List Int → List Int → Int := lexBy cmpI
def cmpLL : List (List Int) → List (List Int) → Int := lexBy cmpL
theorem cmpL_zero (x y : List Int) : cmpL x y = 0 ↔ x = y := lexBy_zero (fun _ _ => cmpI_zero) x y
theorem cmpLL_zero (x y : List (List Int)) : cmpLL x y = 0 ↔ x = y := lexBy_zero cmpL_zero x y
theorem cmpInt (a b : Int) : cmp_Compare_int.f a b = some (cmpI a b) := by
  simp only [cmp_Compare_int.f, cmp_isNaN_int.f, Option.bind_some, cmpI]
  simp
  repeat' split
  all_goals rfl
theorem compare (x y : List Int) (hx : x.length ≤ 17592186044416) (hy : y.length ≤ 17592186044416) (k : Nat) (hk : x.length < k) : slices_Compare_int_int.f k x y = some (cmpL x y) := by
  have key : ∀ (d : Nat) (i : Int), 0 ≤ i → i + d = x.length → i ≤ y.length → ∀ k, d < k → slices_Compare_int_int.l0 k x y x (x.length : Int) i = some (cmpL (x.drop i.toNat) (y.drop i.toNat)) := by
    intro d
    induction d with
    | zero =>
      intro i h0 h1 h2 k hk; obtain ⟨j, rfl⟩ : ∃ j, k = j + 1 := ⟨k - 1, by omega⟩
      unfold slices_Compare_int_int.l0
      rw [if_neg (by omega), drop_all x (by omega)]
      by_cases c : (x.length : Int) < (y.length : Int)
      · rw [if_pos c, drop_at y 0 (show i.toNat < y.length by omega)]; rfl
      · rw [if_neg c, drop_all y (by omega)]; rfl
    | succ d ih =>
      intro i h0 h1 h2 k hk; obtain ⟨j, rfl⟩ : ∃ j, k = j + 1 := ⟨k - 1, by omega⟩
      unfold slices_Compare_int_int.l0
      rw [if_pos (by omega), if_pos h0, if_pos (by omega), drop_at x 0 (show i.toNat < x.length by omega)]
      by_cases c : i ≥ (y.length : Int)
      · rw [if_pos c, drop_all y (by omega)]; rfl
      · rw [if_neg c, if_pos (by omega), cmpInt, Option.bind_some, drop_at y 0 (show i.toNat < y.length by omega), wrap64_up h0 (by omega)]
        show (if cmpI (rd x i) (rd y i) = 0 then _ else _) = some (if cmpI (rd x i) (rd y i) = 0 then lexBy cmpI (x.drop (i.toNat + 1)) (y.drop (i.toNat + 1)) else cmpI (rd x i) (rd y i))
        by_cases q : cmpI (rd x i) (rd y i) = 0
        · rw [if_pos q, if_pos q, ih (i + 1) (by omega) (by omega) (by omega) j (by omega), show (i + 1).toNat = i.toNat + 1 by omega]; rfl
        · rw [if_neg q, if_neg q]
  exact key x.length 0 (by omega) (by omega) (by omega) k (by omega)
theorem compareTables (x y : List (List Int)) (hx : x.length ≤ 1048576) (hy : y.length ≤ 1048576) (hrx : ∀ r ∈ x, r.length ≤ 1048576) (hry : ∀ r ∈ y, r.length ≤ 1048576) : Ans (fun k => impl_compareTables.f k x y) (cmpLL x y) := by
  refine Ans.from 1048577 fun k0 hk0 => ?_
  unfold impl_compareTables.f slices_CompareFunc_int_int_int_int.f
  have key : ∀ (d : Nat) (i : Int), 0 ≤ i → i + d = x.length → i ≤ y.length → ∀ k, d < k → slices_CompareFunc_int_int_int_int.l0 k x y (fun x0_ x1_ => impl_compareTables_1.f k0 x0_ x1_) x (x.length : Int) i = some (cmpLL (x.drop i.toNat) (y.drop i.toNat)) := by
    intro d
    induction d with
    | zero =>
      intro i h0 h1 h2 k hk; obtain ⟨j, rfl⟩ : ∃ j, k = j + 1 := ⟨k - 1, by omega⟩
      unfold slices_CompareFunc_int_int_int_int.l0
      rw [if_neg (by omega), drop_all x (by omega)]
      by_cases c : (x.length : Int) < (y.length : Int)
      · rw [if_pos c, drop_at y [] (show i.toNat < y.length by omega)]; rfl
      · rw [if_neg c, drop_all y (by omega)]; rfl
    | succ d ih =>
      intro i h0 h1 h2 k hk; obtain ⟨j, rfl⟩ : ∃ j, k = j + 1 := ⟨k - 1, by omega⟩
      unfold slices_CompareFunc_int_int_int_int.l0
      rw [if_pos (by omega), if_pos h0, if_pos (by omega), drop_at x [] (show i.toNat < x.length by omega)]
      by_cases c : i ≥ (y.length : Int)
      · rw [if_pos c, drop_all y (by omega)]; rfl
      · have m1 := hrx _ (rd_L1_mem h0 (show i < x.length by omega))
        have m2 := hry _ (rd_L1_mem h0 (show i < y.length by omega))
        rw [if_neg c, if_pos (by omega)]
        simp only [impl_compareTables_1.f]
        rw [compare _ _ (by omega) (by omega) k0 (by omega), Option.bind_some, Option.bind_some, drop_at y [] (show i.toNat < y.length by omega), wrap64_up h0 (by omega)]
        show (if cmpL (rd_L3 x i) (rd_L3 y i) = 0 then _ else _) = some (if cmpL (rd_L3 x i) (rd_L3 y i) = 0 then lexBy cmpL (x.drop (i.toNat + 1)) (y.drop (i.toNat + 1)) else cmpL (rd_L3 x i) (rd_L3 y i))
        by_cases q : cmpL (rd_L3 x i) (rd_L3 y i) = 0
        · rw [if_pos q, if_pos q]
          have := ih (i + 1) (by omega) (by omega) (by omega) j (by omega)
          simp only [impl_compareTables_1.f] at this
          rw [this, show (i + 1).toNat = i.toNat + 1 by omega]; rfl
        · rw [if_neg q, if_neg q]
  have := key x.length 0 (by omega) (by omega) (by omega) k0 (by omega)
  rw [this]; rfl
theorem l1Same (x y : List Int) (hx : x.length ≤ 17592186044416) : Ans (fun k => spec_l1Same.f k x y) (decide (x = y)) := by
  simp only [spec_l1Same.f]
  by_cases hl : (x.length : Int) = (y.length : Int)
  case neg => rw [decide_eq_false (fun h => hl (by rw [h]))]; exact Ans.not hl (Ans.pure _)
  have key : ∀ (d : Nat) (i : Int), 0 ≤ i → i + d = x.length → Ans (fun k => spec_l1Same.l0 k x y (x.length : Int) i) (decide (x.drop i.toNat = y.drop i.toNat)) := by
    intro d
    induction d with
    | zero =>
      intro i h0 h1
      rw [List.drop_eq_nil_of_le (by omega), List.drop_eq_nil_of_le (by omega)]; refine Ans.step ?_
      simp only [spec_l1Same.l0]; exact Ans.not (by omega) (Ans.pure _)
    | succ d ih =>
      intro i h0 h1
      have e := ih (i + 1) (by omega) (by omega)
      rw [show (i + 1).toNat = i.toNat + 1 by omega] at e
      rw [drop_at x 0 (show i.toNat < x.length by omega), drop_at y 0 (show i.toNat < y.length by omega), show x.getD i.toNat 0 = rd x i from rfl, show y.getD i.toNat 0 = rd y i from rfl]
      refine Ans.step ?_
      simp only [spec_l1Same.l0, wrap64_up h0 (by omega : i ≤ 4611686018427387904)]
      refine Ans.yes (by omega) (Ans.yes h0 (Ans.yes (by omega) (Ans.yes (by omega) ?_)))
      by_cases c : rd x i = rd y i
      · rw [show decide (rd x i :: x.drop (i.toNat + 1) = rd y i :: y.drop (i.toNat + 1)) = decide (x.drop (i.toNat + 1) = y.drop (i.toNat + 1)) from decide_eq_decide.mpr ⟨fun h => (List.cons.inj h).2, fun h => by rw [c, h]⟩]; exact Ans.yes c e
      · rw [decide_eq_false (fun h => c (List.cons.inj h).1)]; exact Ans.not c (Ans.pure _)
  exact Ans.yes hl (key x.length 0 (by omega) (by omega))
theorem weSame (x y : List (List Int)) (hx : x.length ≤ 17592186044416) (hr : ∀ r ∈ x, r.length ≤ 17592186044416) : Ans (fun k => spec_weSame.f k x y) (decide (x = y)) := by
  simp only [spec_weSame.f]
  by_cases hl : (x.length : Int) = (y.length : Int)
  case neg => rw [decide_eq_false (fun h => hl (by rw [h]))]; exact Ans.not hl (Ans.pure _)
  have key : ∀ (d : Nat) (i : Int), 0 ≤ i → i + d = x.length → Ans (fun k => spec_weSame.l0 k y x (x.length : Int) i) (decide (x.drop i.toNat = y.drop i.toNat)) := by
    intro d
    induction d with
    | zero =>
      intro i h0 h1
      rw [List.drop_eq_nil_of_le (by omega), List.drop_eq_nil_of_le (by omega)]; refine Ans.step ?_
      simp only [spec_weSame.l0]; exact Ans.not (by omega) (Ans.pure _)
    | succ d ih =>
      intro i h0 h1
      have e := ih (i + 1) (by omega) (by omega)
      rw [show (i + 1).toNat = i.toNat + 1 by omega] at e
      have hm := hr _ (rd_L1_mem h0 (show i < x.length by omega))
      rw [drop_at x [] (show i.toNat < x.length by omega), drop_at y [] (show i.toNat < y.length by omega), show x.getD i.toNat [] = rd_L3 x i from rfl, show y.getD i.toNat [] = rd_L3 y i from rfl]
      refine Ans.step ?_
      simp only [spec_weSame.l0, wrap64_up h0 (by omega : i ≤ 4611686018427387904)]
      refine Ans.yes (by omega) (Ans.yes h0 (Ans.yes (by omega) (Ans.yes (by omega) ((l1Same _ _ hm).bind ?_))))
      by_cases c : rd_L3 x i = rd_L3 y i
      · rw [decide_eq_true c, show decide (rd_L3 x i :: x.drop (i.toNat + 1) = rd_L3 y i :: y.drop (i.toNat + 1)) = decide (x.drop (i.toNat + 1) = y.drop (i.toNat + 1)) from decide_eq_decide.mpr ⟨fun h => (List.cons.inj h).2, fun h => by rw [c, h]⟩]; exact Ans.yes rfl e
      · rw [decide_eq_false c, decide_eq_false (fun h => c (List.cons.inj h).1)]; exact Ans.not (by simp) (Ans.pure _)
  exact Ans.yes hl (key x.length 0 (by omega) (by omega))
/-- Square, with n rows. -/
def Sq (n : Nat) (x : List (List Int)) : Prop := x.length = n ∧ ∀ r ∈ x, r.length = n
theorem Sq.row {n : Nat} {x : List (List Int)} (h : Sq n x) {i : Nat} (hi : i < n) : (x.getD i []).length = n := h.2 _ (getD_mem [] (by rw [h.1]; exact hi))
theorem tab_is {n : Nat} {y : List (List Int)} (h : Sq n y) (v : Nat → Nat → Int) (hv : ∀ i j : Nat, i < n → j < n → v i j = (y.getD i []).getD j 0) : tab n n v = y := by
  refine List.ext_getElem (by simp [tab, h.1]) fun i h1 h2 => ?_
  have hi : i < n := by rw [← h.1]; exact h2
  have hr := h.row hi
  rw [show (tab n n v)[i] = (List.range n).map (fun j => v i j) by simp [tab], ← getD_at y [] h2]
  refine List.ext_getElem (by simp only [List.length_map, List.length_range]; exact hr.symm) fun j g1 g2 => ?_
  rw [List.getElem_map, List.getElem_range, hv i j hi (by rw [← hr]; exact g2), getD_at _ _ g2]
def mir (x : List (List Int)) : List (List Int) := x.map List.reverse
def tr (x : List (List Int)) : List (List Int) := (List.range x.length).map fun (j : Nat) => colOf x j
def cw (x : List (List Int)) : List (List Int) := mir (tr x)
theorem mir_sq {n : Nat} {x : List (List Int)} (h : Sq n x) : Sq n (mir x) := ⟨by simp [mir, h.1], fun r hr => by obtain ⟨a, ha, rfl⟩ := List.mem_map.1 hr; rw [List.length_reverse]; exact h.2 a ha⟩
theorem tr_sq {n : Nat} {x : List (List Int)} (h : Sq n x) : Sq n (tr x) := ⟨by simp [tr, h.1], fun r hr => by obtain ⟨a, ha, rfl⟩ := List.mem_map.1 hr; simp [colOf, h.1]⟩
theorem cw_sq {n : Nat} {x : List (List Int)} (h : Sq n x) : Sq n (cw x) := mir_sq (tr_sq h)
theorem rev_at (x : List Int) {n j : Nat} (hl : x.length = n) (h : j < n) : x.reverse.getD j 0 = x.getD (n - 1 - j) 0 := by
  rw [getD_at _ _ (by simp; omega), getD_at _ _ (by omega), List.getElem_reverse]; congr 1; omega
theorem mir_at {n : Nat} {x : List (List Int)} (h : Sq n x) {i j : Nat} (hi : i < n) (hj : j < n) : ((mir x).getD i []).getD j 0 = (x.getD i []).getD (n - 1 - j) 0 := by
  rw [show (mir x).getD i [] = (x.getD i []).reverse by rw [getD_at _ _ (by simp [mir, h.1]; exact hi), getD_at _ _ (by rw [h.1]; exact hi)]; simp [mir], rev_at _ (h.row hi) hj]
theorem tr_at {n : Nat} {x : List (List Int)} (h : Sq n x) {i j : Nat} (hi : i < n) (hj : j < n) : ((tr x).getD i []).getD j 0 = (x.getD j []).getD i 0 := by
  have e : (tr x).getD i [] = colOf x (i : Int) := by rw [getD_at _ _ (by simp [tr, h.1]; exact hi)]; simp [tr]
  rw [e, getD_at _ _ (by simp [colOf, h.1]; exact hj), getD_at x [] (by rw [h.1]; exact hj)]
  simp [colOf, rd]
theorem turned (n : Nat) (x : List (List Int)) (h : Sq n x) (hn : n ≤ 1048576) : Ans (fun k => impl_turned.f k x) (cw x) := by
  simp only [impl_turned.f, h.1]
  have hg : ∀ i j : Nat, i < n → j < n → impl_turned_1.f i j x (n : Int) = some ((x.getD (n - 1 - j) []).getD i 0) := by
    intro i j hi hj
    have w1 : wrap64 ((n : Int) - 1) = (n : Int) - 1 := wrap64_in _ ⟨by omega, by omega⟩
    have w2 : wrap64 ((n : Int) - 1 - (j : Int)) = ((n - 1 - j : Nat) : Int) := by rw [wrap64_in _ ⟨by omega, by omega⟩]; omega
    have hr : (rd_L3 x ((n - 1 - j : Nat) : Int)).length = n := h.2 _ (rd_L1_mem (by omega) (by rw [h.1]; omega))
    have hl := h.1
    simp only [impl_turned_1.f, w1, w2]
    rw [if_pos (by omega), if_pos (by omega), if_pos (by omega), if_pos (by omega)]
    simp only [rd, rd_L3, Int.toNat_natCast]
  have e := table n n hn hn (fun x0_ x1_ => impl_turned_1.f x0_ x1_ x (n : Int)) _ hg
  rw [tab_is (cw_sq h) _ (fun i j hi hj => by rw [cw, mir_at (tr_sq h) hi hj, tr_at h hi (by omega)])] at e
  exact e.bind (Ans.pure _)
theorem mirrored (n : Nat) (x : List (List Int)) (h : Sq n x) (hn : n ≤ 1048576) : Ans (fun k => impl_mirrored.f k x) (mir x) := by
  simp only [impl_mirrored.f, h.1]
  have hg : ∀ i j : Nat, i < n → j < n → impl_mirrored_1.f i j x (n : Int) = some ((x.getD i []).getD (n - 1 - j) 0) := by
    intro i j hi hj
    have w1 : wrap64 ((n : Int) - 1) = (n : Int) - 1 := wrap64_in _ ⟨by omega, by omega⟩
    have w2 : wrap64 ((n : Int) - 1 - (j : Int)) = ((n - 1 - j : Nat) : Int) := by rw [wrap64_in _ ⟨by omega, by omega⟩]; omega
    have hr : (rd_L3 x (i : Int)).length = n := h.2 _ (rd_L1_mem (by omega) (by rw [h.1]; omega))
    have hl := h.1
    simp only [impl_mirrored_1.f, w1, w2]
    rw [if_pos (by omega), if_pos (by omega), if_pos (by omega), if_pos (by omega)]
    simp only [rd, rd_L3, Int.toNat_natCast]
  have e := table n n hn hn (fun x0_ x1_ => impl_mirrored_1.f x0_ x1_ x (n : Int)) _ hg
  rw [tab_is (mir_sq h) _ (fun i j hi hj => by rw [mir_at h hi hj])] at e
  exact e.bind (Ans.pure _)
theorem sgMirror (x : List (List Int)) (h : x.length ≤ 1048576) (hr : ∀ r ∈ x, r.length ≤ 1048576) : Ans (fun k => spec_sgMirror.f k x) (mir x) := by
  have inner : ∀ (out : List (List Int)) (row : List Int) (m : Int) (R : List (List Int)), row.length ≤ 1048576 → 0 ≤ m → m ≤ 1048576 → out.length ≤ 1048576 → ∀ (d : Nat) (acc : List Int), d ≤ row.length → acc.length + d ≤ 1048576 →
      Ans (fun k => spec_sgMirror.l0 k (out ++ [acc ++ (row.take d).reverse]) x (x.length : Int) (m + 1)) R → Ans (fun k => spec_sgMirror.l1 k out row acc ((d : Int) - 1) x (x.length : Int) m) R := by
    intro out row m R hrow hm hm' ho d
    induction d with
    | zero =>
      intro acc h2 h3 e
      rw [List.take_zero, List.reverse_nil, List.append_nil] at e
      refine Ans.step ?_
      simp only [spec_sgMirror.l1, wrap64_up hm (by omega : m ≤ 4611686018427387904)]
      exact Ans.not (by omega) (Ans.yes (by omega) e)
    | succ d ih =>
      intro acc h2 h3 e
      rw [take_up row 0 (show d < row.length by omega), List.reverse_append, List.reverse_singleton, List.singleton_append] at e
      have hj : ((d + 1 : Nat) : Int) - 1 = (d : Int) := by omega
      have := ih (acc ++ [rd row d]) (by omega) (by simp only [List.length_append, List.length_singleton]; omega) (by
        rw [List.append_assoc, List.singleton_append, show rd row (d : Int) = row.getD d 0 by unfold rd; rw [Int.toNat_natCast]]; exact e)
      refine Ans.step ?_
      simp only [spec_sgMirror.l1, hj, wrap64_down (show (0 : Int) ≤ (d : Int) by omega) (by omega : (d : Int) ≤ 4611686018427387904)]
      exact Ans.yes (by omega) (Ans.yes (by omega) (Ans.yes (by omega) (Ans.yes (by omega) this)))
  have key : ∀ (d : Nat) (i : Int) (out : List (List Int)), 0 ≤ i → i + d = x.length → out.length + d ≤ 1048576 → Ans (fun k => spec_sgMirror.l0 k out x (x.length : Int) i) (out ++ mir (x.drop i.toNat)) := by
    intro d
    induction d with
    | zero =>
      intro i out h0 h1 h2
      rw [List.drop_eq_nil_of_le (by omega), mir, List.map_nil, List.append_nil]; refine Ans.step ?_
      simp only [spec_sgMirror.l0]; exact Ans.not (by omega) (Ans.pure _)
    | succ d ih =>
      intro i out h0 h1 h2
      have hm := hr _ (rd_L1_mem h0 (show i < x.length by omega))
      have e := ih (i + 1) (out ++ [(rd_L3 x i).reverse]) (by omega) (by omega) (by simp only [List.length_append, List.length_singleton]; omega)
      rw [show (i + 1).toNat = i.toNat + 1 by omega, List.append_assoc, List.singleton_append] at e
      rw [drop_at x [] (show i.toNat < x.length by omega), show x.getD i.toNat [] = rd_L3 x i from rfl]
      have hw : wrap64 (((rd_L3 x i).length : Int) - 1) = ((rd_L3 x i).length : Int) - 1 := wrap64_in _ ⟨by omega, by omega⟩
      refine Ans.step ?_
      simp only [spec_sgMirror.l0, hw]
      refine Ans.yes (by omega) (Ans.yes h0 (Ans.yes (by omega) (inner out _ i _ hm h0 (by omega) (by omega) _ [] (Nat.le_refl _) (by simp only [List.length_nil]; omega) ?_)))
      rw [List.nil_append, List.take_length]; exact e
  exact key x.length 0 [] (by omega) (by omega) (by simp only [List.length_nil]; omega)
theorem sgClockwise (n : Nat) (x : List (List Int)) (h : Sq n x) (hn : n ≤ 1048576) : Ans (fun k => spec_sgClockwise.f k x) (cw x) := by
  have hl := h.1
  simp only [spec_sgClockwise.f]
  have s := tr_sq h
  exact (sgTurn x (by omega) (fun r hr => by rw [h.2 r hr, hl])).bind ((sgMirror (tr x) (by rw [s.1]; omega) (fun r hr => by rw [s.2 r hr]; omega)).bind (Ans.pure _))
/-- All images. -/
def images (x : List (List Int)) : List (List (List Int)) := [x, cw x, cw (cw x), cw (cw (cw x)), mir x, mir (cw x), mir (cw (cw x)), mir (cw (cw (cw x)))]
theorem smSymmetries (n : Nat) (x : List (List Int)) (h : Sq n x) (hn : n ≤ 1048576) : Ans (fun k => spec_smSymmetries.f k x) (images x) := by
  have s1 := cw_sq h; have s2 := cw_sq s1; have s3 := cw_sq s2
  have M : ∀ y, Sq n y → Ans (fun k => spec_sgMirror.f k y) (mir y) := fun y hy => sgMirror y (by rw [hy.1]; exact hn) (fun r hr => by rw [hy.2 r hr]; exact hn)
  simp only [spec_smSymmetries.f]
  refine Ans.step ?_; simp only [spec_smSymmetries.l0, w01, w12, w23, w34]
  refine Ans.yes (by decide) ((sgClockwise n x h hn).bind (Ans.yes (by simp) (Ans.step ?_))); simp only [spec_smSymmetries.l0, w01, w12, w23, w34]
  refine Ans.yes (by decide) ((sgClockwise n _ s1 hn).bind (Ans.yes (by simp) (Ans.step ?_))); simp only [spec_smSymmetries.l0, w01, w12, w23, w34]
  refine Ans.yes (by decide) ((sgClockwise n _ s2 hn).bind (Ans.yes (by simp) (Ans.step ?_))); simp only [spec_smSymmetries.l0, w01, w12, w23, w34]
  refine Ans.not (by decide) (Ans.step ?_); simp only [spec_smSymmetries.l1, w01, w12, w23, w34]
  refine Ans.yes (by decide) (Ans.yes (by decide) (Ans.yes (by simp) (Ans.bind (a := mir x) (M x h) (Ans.yes (by simp) (Ans.step ?_))))); simp only [spec_smSymmetries.l1, w01, w12, w23, w34]
  refine Ans.yes (by decide) (Ans.yes (by decide) (Ans.yes (by first | (simp; done) | (simp; decide)) (Ans.bind (a := mir (cw x)) (M _ s1) (Ans.yes (by simp) (Ans.step ?_))))); simp only [spec_smSymmetries.l1, w01, w12, w23, w34]
  refine Ans.yes (by decide) (Ans.yes (by decide) (Ans.yes (by first | (simp; done) | (simp; decide)) (Ans.bind (a := mir (cw (cw x))) (M _ s2) (Ans.yes (by simp) (Ans.step ?_))))); simp only [spec_smSymmetries.l1, w01, w12, w23, w34]
  refine Ans.yes (by decide) (Ans.yes (by decide) (Ans.yes (by first | (simp; done) | (simp; decide)) (Ans.bind (a := mir (cw (cw (cw x)))) (M _ s3) (Ans.yes (by simp) (Ans.step ?_))))); simp only [spec_smSymmetries.l1, w01, w12, w23, w34]
  exact Ans.not (by decide) (Ans.pure _)
theorem eight (n : Nat) (x : List (List Int)) (h : Sq n x) (hn : n ≤ 1048576) : Ans (fun k => impl_eight.f k x) (images x) := by
  have s1 := cw_sq h; have s2 := cw_sq s1; have s3 := cw_sq s2
  simp only [impl_eight.f]
  refine Ans.step ?_; simp only [impl_eight.l0, w01, w12, w23, w34]
  refine Ans.yes (by decide) (Ans.yes (by simp) ((turned n x h hn).bind (Ans.step ?_))); simp only [impl_eight.l0, w01, w12, w23, w34]
  refine Ans.yes (by decide) (Ans.yes (by simp) ((turned n _ s1 hn).bind (Ans.step ?_))); simp only [impl_eight.l0, w01, w12, w23, w34]
  refine Ans.yes (by decide) (Ans.yes (by simp) ((turned n _ s2 hn).bind (Ans.step ?_))); simp only [impl_eight.l0, w01, w12, w23, w34]
  refine Ans.yes (by decide) (Ans.yes (by simp) ((turned n _ s3 hn).bind (Ans.step ?_))); simp only [impl_eight.l0, w01, w12, w23, w34]
  refine Ans.not (by decide) (Ans.step ?_); simp only [impl_eight.l1, w01, w12, w23, w34]
  refine Ans.yes (by decide) (Ans.yes (by decide) (Ans.yes (by simp) (Ans.bind (a := mir x) (mirrored n x h hn) (Ans.yes (by simp) (Ans.step ?_))))); simp only [impl_eight.l1, w01, w12, w23, w34]
  refine Ans.yes (by decide) (Ans.yes (by decide) (Ans.yes (by first | (simp; done) | (simp; decide)) (Ans.bind (a := mir (cw x)) (mirrored n _ s1 hn) (Ans.yes (by simp) (Ans.step ?_))))); simp only [impl_eight.l1, w01, w12, w23, w34]
  refine Ans.yes (by decide) (Ans.yes (by decide) (Ans.yes (by first | (simp; done) | (simp; decide)) (Ans.bind (a := mir (cw (cw x))) (mirrored n _ s2 hn) (Ans.yes (by simp) (Ans.step ?_))))); simp only [impl_eight.l1, w01, w12, w23, w34]
  refine Ans.yes (by decide) (Ans.yes (by decide) (Ans.yes (by first | (simp; done) | (simp; decide)) (Ans.bind (a := mir (cw (cw (cw x)))) (mirrored n _ s3 hn) (Ans.yes (by simp) (Ans.step ?_))))); simp only [impl_eight.l1, w01, w12, w23, w34]
  exact Ans.not (by decide) (Ans.pure _)
theorem cmpSame (x y : List (List Int)) : (cmpLL x y == 0) = decide (x = y) := by
  rw [Bool.eq_iff_iff, beq_iff_eq, decide_eq_true_iff, cmpLL_zero]
theorem tablesSame (n : Nat) (x y : List (List Int)) (hx : Sq n x) (hy : Sq n y) (hn : n ≤ 1048576) : Ans (fun k => impl_compareTables.f k x y) (cmpLL x y) :=
  compareTables x y (by rw [hx.1]; exact hn) (by rw [hy.1]; exact hn) (fun r hr => by rw [hx.2 r hr]; exact hn) (fun r hr => by rw [hy.2 r hr]; exact hn)
theorem sameW (n : Nat) (x y : List (List Int)) (hx : Sq n x) (hn : n ≤ 1048576) : Ans (fun k => spec_weSame.f k x y) (decide (x = y)) :=
  weSame x y (by rw [hx.1]; omega) (fun r hr => by rw [hx.2 r hr]; omega)
theorem sign_sq {x : List (List Int)} (s : sign x = true) : Sq x.length x ∧ x.length ≤ 6 := by
  unfold sign at s
  rw [Bool.and_eq_true] at s
  obtain ⟨b1, b2, b3⟩ := square_of s.1
  exact ⟨⟨rfl, b3⟩, b2⟩
/-- Whether a matrix has the symmetries of a kind. -/
def hasK (x : List (List Int)) (k : Int) : Bool :=
  if k = 0 then decide (cw (cw x) = x) else if k = 1 then decide (cw x = x) else if k = 2 then decide (mir x = x) else if k = 3 then decide (tr x = x) else decide (mir x = x) && decide (mir (cw (cw x)) = x)
theorem smHas (n : Nat) (x : List (List Int)) (h : Sq n x) (hn : n ≤ 1048576) (a : Int) : Ans (fun k => spec_smHas.f k x a) (hasK x a) := by
  have s1 := cw_sq h; have s2 := cw_sq s1
  have hl := h.1
  simp only [spec_smHas.f]
  refine (smSymmetries n x h hn).bind ?_
  unfold hasK
  by_cases c0 : a = 0
  · simp only [if_pos c0]; exact Ans.yes (by simp [images]) ((sameW n _ x s2 hn).bind (Ans.pure _))
  simp only [if_neg c0]
  by_cases c1 : a = 1
  · simp only [if_pos c1]; exact Ans.yes (by simp [images]) ((sameW n _ x s1 hn).bind (Ans.pure _))
  simp only [if_neg c1]
  by_cases c2 : a = 2
  · simp only [if_pos c2]; exact Ans.yes (by simp [images]) ((sameW n _ x (mir_sq h) hn).bind (Ans.pure _))
  simp only [if_neg c2]
  by_cases c3 : a = 3
  · simp only [if_pos c3]; exact (sgTurn x (by omega) (fun r hr => by rw [h.2 r hr, hl])).bind ((sameW n _ x (tr_sq h) hn).bind (Ans.pure _))
  simp only [if_neg c3]
  refine Ans.yes (by simp [images]) ((sameW n _ x (mir_sq h) hn).bind ?_)
  by_cases q : mir x = x
  · rw [decide_eq_true q, Bool.true_and]
    exact Ans.yes rfl (Ans.yes (by simp [images]) ((sameW n _ x (mir_sq s2) hn).bind (Ans.pure _)))
  · rw [decide_eq_false q, Bool.false_and]; exact Ans.not (by simp) (Ans.pure _)
theorem hasKind (n : Nat) (x : List (List Int)) (h : Sq n x) (hn : n ≤ 1048576) (a : Int) : Ans (fun k => impl_hasKind.f k x a) (hasK x a) := by
  have s1 := cw_sq h; have s2 := cw_sq s1
  have same : ∀ y, Sq n y → Ans (fun k => impl_hasKind_1.f k y x) (decide (y = x)) := fun y hy => by
    simp only [impl_hasKind_1.f]
    have := (tablesSame n y x hy h hn).bind (h := fun _ t => some (t == 0)) (Ans.pure _)
    rwa [cmpSame] at this
  have trans : Ans (fun k => impl_transposed.f k x) (tr x) := by
    simp only [impl_transposed.f, h.1]
    have hg : ∀ i j : Nat, i < n → j < n → impl_transposed_1.f i j x = some ((x.getD j []).getD i 0) := by
      intro i j hi hj
      have hr : (rd_L3 x (j : Int)).length = n := h.2 _ (rd_L1_mem (by omega) (by rw [h.1]; omega))
      have hl := h.1
      simp only [impl_transposed_1.f]
      rw [if_pos (by omega), if_pos (by omega), if_pos (by omega), if_pos (by omega)]
      simp only [rd, rd_L3, Int.toNat_natCast]
    have e := table n n hn hn (fun x0_ x1_ => impl_transposed_1.f x0_ x1_ x) _ hg
    rw [tab_is (tr_sq h) _ (fun i j hi hj => by rw [tr_at h hi hj])] at e
    exact e.bind (Ans.pure _)
  simp only [impl_hasKind.f]
  refine (eight n x h hn).bind ?_
  unfold hasK
  by_cases c0 : a = 0
  · simp only [if_pos c0]; exact Ans.yes (by simp [images]) ((same _ s2).bind (Ans.pure _))
  simp only [if_neg c0]
  by_cases c1 : a = 1
  · simp only [if_pos c1]; exact Ans.yes (by simp [images]) ((same _ s1).bind (Ans.pure _))
  simp only [if_neg c1]
  by_cases c2 : a = 2
  · simp only [if_pos c2]; exact Ans.yes (by simp [images]) ((same _ (mir_sq h)).bind (Ans.pure _))
  simp only [if_neg c2]
  by_cases c3 : a = 3
  · simp only [if_pos c3]; exact trans.bind ((same _ (tr_sq h)).bind (Ans.pure _))
  simp only [if_neg c3]
  refine Ans.yes (by simp [images]) ((same _ (mir_sq h)).bind ?_)
  by_cases q : mir x = x
  · rw [decide_eq_true q, Bool.true_and]
    exact Ans.yes rfl (Ans.yes (by simp [images]) ((same _ (mir_sq s2)).bind (Ans.pure _)))
  · rw [decide_eq_false q, Bool.false_and]; exact Ans.not (by simp) (Ans.pure _)
theorem hasSymmetry (x : List (List Int)) (hx : x.length ≤ 1048576) (a : Int) (res : Bool × Bool) (hres : res = if sign x = true then (if (0 ≤ a ∧ a ≤ 4) then (hasK x a, true) else (false, false)) else (false, false)) :
    Ans (fun k => impl_HasSymmetry.f k x a) res := by
  simp only [impl_HasSymmetry.f, impl_isKind.f, within, Option.bind_some]
  refine (isSign x hx).bind ?_
  by_cases s : sign x = true
  · obtain ⟨q, hq⟩ := sign_sq s
    rw [if_pos s] at hres
    refine Ans.yes s ?_
    by_cases c : 0 ≤ a ∧ a ≤ 4
    · rw [if_pos c] at hres; subst hres; exact Ans.yes (decide_eq_true c) ((hasKind _ x q (by omega) a).bind (Ans.pure _))
    · rw [if_neg c] at hres; subst hres; exact Ans.not (by simp only [decide_eq_true_iff]; exact c) (Ans.pure _)
  · rw [if_neg s] at hres; subst hres; exact Ans.not s (Ans.pure _)
def allIn (x : List Int) (lo hi : Int) : Bool := x.all fun a => decide (lo ≤ a ∧ a ≤ hi)
theorem l1All (x : List Int) (hx : x.length ≤ 17592186044416) (lo hi : Int) : Ans (fun k => spec_l1All.f k x lo hi) (allIn x lo hi) := by
  have key : ∀ (d : Nat) (i : Int), 0 ≤ i → i + d = x.length → Ans (fun k => spec_l1All.l0 k lo hi x (x.length : Int) i) (allIn (x.drop i.toNat) lo hi) := by
    intro d
    induction d with
    | zero =>
      intro i h0 h1
      rw [List.drop_eq_nil_of_le (by omega)]; refine Ans.step ?_
      simp only [spec_l1All.l0]; exact Ans.not (by omega) (Ans.pure _)
    | succ d ih =>
      intro i h0 h1
      have hd := drop_at x 0 (show i.toNat < x.length by omega)
      have e := ih (i + 1) (by omega) (by omega)
      rw [hd, allIn, List.all_cons, show decide (lo ≤ x.getD i.toNat 0 ∧ x.getD i.toNat 0 ≤ hi) = decide (lo ≤ rd x i ∧ rd x i ≤ hi) from rfl]
      refine Ans.step ?_
      simp only [spec_l1All.l0, l1In, Option.bind_some, wrap64_up h0 (by omega : i ≤ 4611686018427387904)]
      refine Ans.yes (by omega) (Ans.yes h0 (Ans.yes (by omega) ?_))
      by_cases c : decide (lo ≤ rd x i ∧ rd x i ≤ hi) = true
      · rw [c, Bool.true_and]; rw [show (i + 1).toNat = i.toNat + 1 by omega] at e; exact Ans.yes rfl e
      · rw [Bool.eq_false_iff.mpr c, Bool.false_and]; exact Ans.not (by simp) (Ans.pure _)
  exact key x.length 0 (by omega) (by omega)
theorem smCopy (x : List (List Int)) (h : x.length ≤ 1048576) (hr : ∀ r ∈ x, r.length ≤ 1048576) : Ans (fun k => spec_smCopy.f k x) x := by
  have key : ∀ (d : Nat) (i : Int) (acc : List (List Int)), 0 ≤ i → i + d = x.length → acc.length + d ≤ 1048576 → Ans (fun k => spec_smCopy.l0 k acc x (x.length : Int) i) (acc ++ x.drop i.toNat) := by
    intro d
    induction d with
    | zero =>
      intro i acc h0 h1 h2
      rw [List.drop_eq_nil_of_le (by omega), List.append_nil]; refine Ans.step ?_
      simp only [spec_smCopy.l0]; exact Ans.not (by omega) (Ans.pure _)
    | succ d ih =>
      intro i acc h0 h1 h2
      have hm := hr _ (rd_L1_mem h0 (show i < x.length by omega))
      have e := ih (i + 1) (acc ++ [rd_L3 x i]) (by omega) (by omega) (by simp only [List.length_append, List.length_singleton]; omega)
      rw [show (i + 1).toNat = i.toNat + 1 by omega, List.append_assoc, List.singleton_append] at e
      rw [drop_at x [] (show i.toNat < x.length by omega), show x.getD i.toNat [] = rd_L3 x i from rfl]
      refine Ans.step ?_
      simp only [spec_smCopy.l0, spec_l1Own.f, Option.bind_some, List.nil_append, List.length_nil, if_pos (by omega : 0 + (rd_L3 x i).length < 17592186044416), wrap64_up h0 (by omega : i ≤ 4611686018427387904)]
      exact Ans.yes (by omega) (Ans.yes h0 (Ans.yes (by omega) (Ans.yes (by omega) e)))
  exact key x.length 0 [] (by omega) (by omega) (by simp only [List.length_nil]; omega)
theorem copyTable (x : List (List Int)) (h : x.length ≤ 1048576) (hr : ∀ r ∈ x, r.length ≤ 1048576) : Ans (fun k => impl_copyTable.f k x) x := by
  have key : ∀ (d : Nat) (i : Int) (acc : List (List Int)), 0 ≤ i → i + d = x.length → acc.length + d ≤ 1048576 → Ans (fun k => impl_copyTable.l0 k acc x (x.length : Int) i) (acc ++ x.drop i.toNat) := by
    intro d
    induction d with
    | zero =>
      intro i acc h0 h1 h2
      rw [List.drop_eq_nil_of_le (by omega), List.append_nil]; refine Ans.step ?_
      simp only [impl_copyTable.l0]; exact Ans.not (by omega) (Ans.pure _)
    | succ d ih =>
      intro i acc h0 h1 h2
      have hm := hr _ (rd_L1_mem h0 (show i < x.length by omega))
      have e := ih (i + 1) (acc ++ [rd_L3 x i]) (by omega) (by omega) (by simp only [List.length_append, List.length_singleton]; omega)
      rw [show (i + 1).toNat = i.toNat + 1 by omega, List.append_assoc, List.singleton_append] at e
      rw [drop_at x [] (show i.toNat < x.length by omega), show x.getD i.toNat [] = rd_L3 x i from rfl]
      refine Ans.step ?_
      simp only [impl_copyTable.l0, slices_Clone_int_int.f, Option.bind_some, if_pos (by omega : (rd_L3 x i).length < 17592186044416), wrap64_up h0 (by omega : i ≤ 4611686018427387904)]
      exact Ans.yes (by omega) (Ans.yes h0 (Ans.yes (by omega) (Ans.yes (by omega) e)))
  exact key x.length 0 [] (by omega) (by omega) (by simp only [List.length_nil]; omega)
theorem l1Own (x : List Int) (h : x.length ≤ 1048576) : spec_l1Own.f x = some x := by
  simp only [spec_l1Own.f, Option.bind_some, List.length_nil, List.nil_append]
  rw [if_pos (by omega)]
/-- Whether a row keeps the sums of columns 0 or 1; the last row makes them 1. -/
def fitsB (last : Bool) (sums row : List Int) : Bool := (List.zipWith (fun s x => decide (0 ≤ s + x) && decide (s + x ≤ 1) && (!last || decide (s + x = 1))) sums row).all id
/-- All rows of d numbers whose signs go on to alternate from a sum s, in order. -/
def alt : Nat → Int → List (List Int)
  | 0, s => if s = 1 then [[]] else []
  | d + 1, s => (alt d 0).map ((-s) :: ·) ++ (alt d 1).map ((1 - s) :: ·)
theorem alt_len : ∀ (d : Nat) (s : Int), ∀ r ∈ alt d s, r.length = d
  | 0, s, r, h => by
    unfold alt at h
    split at h
    · rw [List.mem_singleton] at h; subst h; rfl
    · cases h
  | d + 1, s, r, h => by
    unfold alt at h
    rcases List.mem_append.1 h with h | h
    · obtain ⟨a, ha, rfl⟩ := List.mem_map.1 h; rw [List.length_cons, alt_len d 0 a ha]
    · obtain ⟨a, ha, rfl⟩ := List.mem_map.1 h; rw [List.length_cons, alt_len d 1 a ha]
theorem alt_many : ∀ (d : Nat) (s : Int), (alt d s).length ≤ 2 ^ d
  | 0, s => by unfold alt; split <;> simp
  | d + 1, s => by
    have h1 := alt_many d 0
    have h2 := alt_many d 1
    rw [alt, List.length_append, List.length_map, List.length_map, Nat.pow_succ]; omega
theorem alt_in : ∀ (d : Nat) (s : Int), 0 ≤ s → s ≤ 1 → ∀ r ∈ alt d s, ∀ x ∈ r, -1 ≤ x ∧ x ≤ 1
  | 0, s, _, _, r, h => by
    unfold alt at h
    split at h
    · rw [List.mem_singleton] at h; subst h; simp
    · cases h
  | d + 1, s, h0, h1, r, h => by
    unfold alt at h
    rcases List.mem_append.1 h with h | h
    · obtain ⟨a, ha, rfl⟩ := List.mem_map.1 h
      intro x hx
      rcases List.mem_cons.1 hx with rfl | hx
      · omega
      · exact alt_in d 0 (by omega) (by omega) a ha x hx
    · obtain ⟨a, ha, rfl⟩ := List.mem_map.1 h
      intro x hx
      rcases List.mem_cons.1 hx with rfl | hx
      · omega
      · exact alt_in d 1 (by omega) (by omega) a ha x hx
theorem mapApp (l : List Int) (x : Int) (z : List (List Int)) : (z.map (x :: ·)).map (l ++ ·) = z.map ((l ++ [x]) ++ ·) := by
  rw [List.map_map]; congr 1; funext t; simp
theorem signRows1 (n : Nat) (hn : n ≤ 1000) : ∀ (d : Nat) (l : List Int) (s : Int), 0 ≤ s → s ≤ 1 → l.length + d = n → Ans (fun k => impl_signRows_1.f k n l s) ((alt d s).map (l ++ ·)) := by
  intro d
  induction d with
  | zero =>
    intro l s h0 h1 hl
    refine Ans.step ?_
    simp only [impl_signRows_1.f]
    refine Ans.yes (by omega) ?_
    unfold alt
    by_cases c : s = 1
    · refine Ans.yes c ?_; rw [if_pos c, List.map_singleton, List.append_nil]; exact Ans.pure _
    · refine Ans.not c ?_; rw [if_neg c]; exact Ans.pure _
  | succ d ih =>
    intro l s h0 h1 hl
    have one : ∀ (x : Int) (R : List (List Int)), x = -s ∨ x = 1 - s → Ans (fun k => impl_signRows_1.l0 k n l s (x + 1)) R → Ans (fun k => impl_signRows_1.l0 k n l s x) ((alt d (s + x)).map ((l ++ [x]) ++ ·) ++ R) := by
      intro x R hx e
      refine Ans.step ?_
      simp only [impl_signRows_1.l0]
      refine Ans.yes (by omega) (Ans.yes (by omega) (Ans.yes (by omega) ((ih (l ++ [x]) (s + x) (by omega) (by omega) (by simp; omega)).bind (e.bind (Ans.pure _)))))
    have end_ : Ans (fun k => impl_signRows_1.l0 k n l s (1 - s + 1)) [] := by
      refine Ans.step ?_
      simp only [impl_signRows_1.l0]
      exact Ans.not (by omega) (Ans.pure _)
    refine Ans.step ?_
    simp only [impl_signRows_1.f]
    refine Ans.not (by omega) (Ans.yes h0 (Ans.yes h1 ?_))
    have e2 := one (1 - s) [] (.inr rfl) end_
    have e1 := one (-s) _ (.inl rfl) (by rw [show -s + 1 = 1 - s by omega]; exact e2)
    rw [alt, List.map_append, mapApp, mapApp]
    rw [List.append_nil, show s + -s = 0 by omega, show s + (1 - s) = 1 by omega] at e1
    exact e1
theorem signRows (n : Nat) (hn : n ≤ 6) : Ans (fun k => impl_signRows.f k n) (alt n 0) := by
  simp only [impl_signRows.f]
  refine (signRows1 n (by omega) n [] 0 (by omega) (by omega) (by simp)).bind ?_
  have h1 := alt_many n 0
  have h2 : 2 ^ n ≤ 2 ^ 6 := Nat.pow_le_pow_right (by omega) hn
  simp only [List.nil_append, List.map_id'] 
  exact Ans.yes (by omega) (Ans.pure _)
theorem fitsB_cons (last : Bool) (s x : Int) (ss xs : List Int) : fitsB last (s :: ss) (x :: xs) = ((decide (0 ≤ s + x) && decide (s + x ≤ 1) && (!last || decide (s + x = 1))) && fitsB last ss xs) := rfl
theorem fitsB_nil (last : Bool) (ss : List Int) : fitsB last ss [] = true := by cases ss <;> rfl
theorem rd_bits {x : List Int} {lo hi : Int} (h : ∀ a ∈ x, lo ≤ a ∧ a ≤ hi) {i : Int} (h0 : 0 ≤ i) (h1 : i < x.length) : lo ≤ rd x i ∧ rd x i ≤ hi := h _ (by unfold rd; exact getD_mem _ (by omega))
theorem fitsSums (sums row : List Int) (last : Bool) (hl : row.length ≤ sums.length) (hm : sums.length ≤ 1000) (hs : ∀ s ∈ sums, 0 ≤ s ∧ s ≤ 1) (hr : ∀ x ∈ row, -1 ≤ x ∧ x ≤ 1) : Ans (fun k => impl_fitsSums.f k sums row last) (fitsB last sums row) := by
  have key : ∀ (d : Nat) (i : Int), 0 ≤ i → i + d = row.length → Ans (fun k => impl_fitsSums.l0 k sums last row (row.length : Int) i) (fitsB last (sums.drop i.toNat) (row.drop i.toNat)) := by
    intro d
    induction d with
    | zero =>
      intro i h0 h1
      rw [List.drop_eq_nil_of_le (show row.length ≤ i.toNat by omega), fitsB_nil]; refine Ans.step ?_
      simp only [impl_fitsSums.l0]; exact Ans.not (by omega) (Ans.pure _)
    | succ d ih =>
      intro i h0 h1
      have e := ih (i + 1) (by omega) (by omega)
      rw [show (i + 1).toNat = i.toNat + 1 by omega] at e
      have b1 := rd_bits hs h0 (show i < sums.length by omega)
      have b2 := rd_bits hr h0 (show i < row.length by omega)
      rw [drop_at row 0 (show i.toNat < row.length by omega), drop_at sums 0 (show i.toNat < sums.length by omega), show row.getD i.toNat 0 = rd row i from rfl, show sums.getD i.toNat 0 = rd sums i from rfl, fitsB_cons]
      refine Ans.step ?_
      simp only [impl_fitsSums.l0, within, Option.bind_some, wrap64_up h0 (by omega : i ≤ 4611686018427387904), wrap64_in (rd sums i + rd row i) ⟨by omega, by omega⟩]
      refine Ans.yes (by omega) (Ans.yes h0 (Ans.yes (by omega) (Ans.yes (by omega) ?_)))
      by_cases c : 0 ≤ rd sums i + rd row i ∧ rd sums i + rd row i ≤ 1
      · rw [decide_eq_true c.1, decide_eq_true c.2]
        refine Ans.yes (decide_eq_true c) ?_
        cases last with
        | false => exact Ans.not (by simp) e
        | true =>
          by_cases c1 : rd sums i + rd row i = 1
          · rw [decide_eq_true c1]; exact Ans.yes rfl (Ans.yes c1 e)
          · rw [decide_eq_false c1]; exact Ans.yes rfl (Ans.not c1 (Ans.pure _))
      · refine Ans.not (by simp only [decide_eq_true_iff]; exact c) ?_
        have : (decide (0 ≤ rd sums i + rd row i) && decide (rd sums i + rd row i ≤ 1)) = false := by
          rw [Bool.eq_false_iff]; simpa using c
        rw [this, Bool.false_and, Bool.false_and]; exact Ans.pure _
  exact key row.length 0 (by omega) (by omega)
theorem filter_map_cons (last : Bool) (s x : Int) (ss : List Int) (z : List (List Int)) : (z.map (x :: ·)).filter (fun t => fitsB last (s :: ss) t) = if (decide (0 ≤ s + x) && decide (s + x ≤ 1) && (!last || decide (s + x = 1))) = true then (z.filter (fun t => fitsB last ss t)).map (x :: ·) else [] := by
  rw [List.filter_map]
  by_cases c : (decide (0 ≤ s + x) && decide (s + x ≤ 1) && (!last || decide (s + x = 1))) = true
  · rw [if_pos c]; congr 1; refine List.filter_congr fun t _ => ?_
    show fitsB last (s :: ss) (x :: t) = _
    rw [fitsB_cons, c, Bool.true_and]
  · rw [if_neg c, List.filter_eq_nil_iff.2 (fun t _ => by show ¬ (fitsB last (s :: ss) (x :: t) = true); rw [fitsB_cons, Bool.eq_false_iff.2 c]; simp)]; rfl
theorem weRows (sums : List Int) (hm : sums.length ≤ 6) (hs : ∀ s ∈ sums, 0 ≤ s ∧ s ≤ 1) : ∀ (d : Nat) (l : List Int) (s : Int), 0 ≤ s → s ≤ 1 → l.length + d = sums.length → Ans (fun k => spec_weRows.f k sums l s) (((alt d s).filter (fun t => fitsB false (sums.drop l.length) t)).map (l ++ ·)) := by
  intro d
  induction d with
  | zero =>
    intro l s h0 h1 hl
    refine Ans.step ?_
    simp only [spec_weRows.f]
    refine Ans.yes (by omega) ?_
    unfold alt
    by_cases c : s = 1
    · refine Ans.yes c ?_; rw [if_pos c, List.filter_cons, fitsB_nil, if_pos rfl, List.filter_nil, List.map_singleton, List.append_nil]; exact Ans.pure _
    · refine Ans.not c ?_; rw [if_neg c]; exact Ans.pure _
  | succ d ih =>
    intro l s h0 h1 hl
    have hlt : l.length < sums.length := by omega
    have hd := drop_at sums 0 hlt
    have hb := rd_bits hs (show (0 : Int) ≤ (l.length : Int) by omega) (show (l.length : Int) < sums.length by omega)
    have hrd : sums.getD l.length 0 = rd sums (l.length : Int) := by unfold rd; rw [Int.toNat_natCast]
    have many : ∀ (e : Nat) (z : Int) (l2 : List Int) (ss : List Int), (((alt e z).filter (fun t => fitsB false ss t)).map (l2 ++ ·)).length ≤ 2 ^ e := fun e z l2 ss => by
      rw [List.length_map]; exact Nat.le_trans (List.length_filter_le _ _) (alt_many e z)
    have h2d : 2 ^ d ≤ 2 ^ 6 := Nat.pow_le_pow_right (by omega) (by omega)
    -- one number x, tried behind what has been found
    have one : ∀ (x : Int) (out R : List (List Int)), -1 ≤ x → x ≤ 1 → out.length ≤ 1000 →
        Ans (fun k => spec_weRows.l0 k sums l s (out ++ (if 0 ≤ s + x ∧ s + x ≤ 1 then (((alt d (s + x)).map (x :: ·)).filter (fun t => fitsB false (sums.drop l.length) t)).map (l ++ ·) else [])) (x + 1)) R → Ans (fun k => spec_weRows.l0 k sums l s out x) R := by
      intro x out R hx1 hx2 ho e
      have w1 : wrap64 (s + x) = s + x := wrap64_in _ ⟨by omega, by omega⟩
      have w2 : wrap64 (rd sums (l.length : Int) + x) = rd sums (l.length : Int) + x := wrap64_in _ ⟨by omega, by omega⟩
      have w3 : wrap64 (x + 1) = x + 1 := wrap64_in _ ⟨by omega, by omega⟩
      refine Ans.step ?_
      simp only [spec_weRows.l0, l1In, Option.bind_some, w1, w2]
      refine Ans.yes (by omega) ?_
      by_cases c : 0 ≤ s + x ∧ s + x ≤ 1
      · rw [if_pos c, hd, filter_map_cons] at e
        refine Ans.yes (decide_eq_true c) (Ans.yes (by omega) (Ans.yes (by omega) (Ans.step ?_)))
        simp only [spec_weRows.j1, w1, w3]
        rw [hrd] at e
        by_cases c2 : 0 ≤ rd sums (l.length : Int) + x ∧ rd sums (l.length : Int) + x ≤ 1
        · rw [if_pos (by simp [c2.1, c2.2]), mapApp] at e
          refine Ans.yes (decide_eq_true c2) ?_
          simp only [l1Own l (by omega), Option.bind_some]
          have e1 := ih (l ++ [x]) (s + x) c.1 c.2 (by simp; omega)
          rw [show (l ++ [x]).length = l.length + 1 by simp] at e1
          refine Ans.yes (by omega) (e1.bind ?_)
          have hm1 := many d (s + x) (l ++ [x]) (sums.drop (l.length + 1))
          exact Ans.yes (by omega) e
        · rw [if_neg (by simp; omega), List.map_nil, List.append_nil] at e
          exact Ans.not (by simp only [decide_eq_true_iff]; exact c2) e
      · rw [if_neg c, List.append_nil] at e
        refine Ans.not (by simp only [decide_eq_true_iff]; exact c) (Ans.step ?_)
        simp only [spec_weRows.j1, w3]
        exact Ans.not (by simp) e
    have end_ : ∀ out : List (List Int), Ans (fun k => spec_weRows.l0 k sums l s out 2) out := fun out => by
      refine Ans.step ?_
      simp only [spec_weRows.l0]
      exact Ans.not (by omega) (Ans.pure _)
    have bnd : ∀ (x : Int), ((if 0 ≤ s + x ∧ s + x ≤ 1 then (((alt d (s + x)).map (x :: ·)).filter (fun t => fitsB false (sums.drop l.length) t)).map (l ++ ·) else []) : List (List Int)).length ≤ 64 := fun x => by
      split
      · rw [List.length_map]
        refine Nat.le_trans (List.length_filter_le _ _) ?_
        rw [List.length_map]
        exact Nat.le_trans (alt_many _ _) h2d
      · simp
    refine Ans.step ?_
    simp only [spec_weRows.f]
    refine Ans.not (by omega) ?_
    have b1 := bnd (-1)
    have b2 := bnd 0
    have e := one (-1) [] _ (by omega) (by omega) (by simp) (one 0 _ _ (by omega) (by omega) (by simp only [List.nil_append]; omega) (one 1 _ _ (by omega) (by omega) (by simp only [List.nil_append, List.length_append]; omega) (end_ _)))
    rcases (show s = 0 ∨ s = 1 by omega) with hs0 | hs1
    · subst hs0
      rw [if_neg (by omega), if_pos (by omega), if_pos (by omega)] at e
      rw [alt, List.filter_append, List.map_append]
      simpa using e
    · subst hs1
      rw [if_pos (by omega), if_pos (by omega), if_neg (by omega)] at e
      rw [alt, List.filter_append, List.map_append]
      simpa using e
/-- All matrices that go on rows with some sums of columns, in order. -/
def goOn (A : List (List Int)) : Nat → List (List Int) → List Int → List (List (List Int))
  | 0, m, _ => [m]
  | r + 1, m, sums => (A.filter (fun row => fitsB (decide (r = 0)) sums row)).flatMap fun row => goOn A r (m ++ [row]) (List.zipWith (· + ·) sums row)
/-- A callback over all of them, till it says no. -/
def foldT {σ : Type} (p : σ → List (List Int) → σ × Bool) : σ → List (List (List Int)) → σ × Bool
  | s, [] => (s, true)
  | s, m :: ms => if (p s m).2 = true then foldT p (p s m).1 ms else ((p s m).1, false)
theorem foldT_append {σ : Type} (p : σ → List (List Int) → σ × Bool) : ∀ (x y : List (List (List Int))) (s : σ), foldT p s (x ++ y) = if (foldT p s x).2 = true then foldT p (foldT p s x).1 y else foldT p s x
  | [], y, s => by simp [foldT]
  | m :: x, y, s => by
    rw [List.cons_append, foldT, foldT]
    by_cases c : (p s m).2 = true
    · rw [if_pos c, if_pos c, foldT_append p x y]
    · rw [if_neg c, if_neg c]; simp
theorem zip_bits : ∀ (last : Bool) (sums row : List Int), sums.length = row.length → fitsB last sums row = true → ∀ s ∈ List.zipWith (· + ·) sums row, 0 ≤ s ∧ s ≤ 1
  | _, [], [], _, _ => by simp
  | last, a :: sums, x :: row, h, hf => by
    rw [fitsB_cons, Bool.and_eq_true, Bool.and_eq_true, Bool.and_eq_true] at hf
    intro s hs
    rw [List.zipWith_cons_cons] at hs
    rcases List.mem_cons.1 hs with rfl | hs
    · exact ⟨of_decide_eq_true hf.1.1.1, of_decide_eq_true hf.1.1.2⟩
    · exact zip_bits last sums row (by simpa using h) hf.2 s hs
theorem rowOk_of {sums row : List Int} (hl : sums.length = row.length) (hs : ∀ s ∈ sums, 0 ≤ s ∧ s ≤ 1) (hr : ∀ x ∈ row, -1 ≤ x ∧ x ≤ 1) : rowOk sums row = true := by
  simp only [rowOk, Bool.and_eq_true, decide_eq_true_eq, List.all_eq_true]
  exact ⟨⟨hl, fun s h => hs s h⟩, fun x h => hr x h⟩
/-- The rows that can stand anywhere. -/
def RowsOf (n : Nat) (A : List (List Int)) : Prop := ∀ r ∈ A, r.length = n ∧ ∀ x ∈ r, -1 ≤ x ∧ x ≤ 1
theorem RowsOf.alt (n : Nat) : RowsOf n (alt n 0) := fun r h => ⟨alt_len n 0 r h, alt_in n 0 (by omega) (by omega) r h⟩
theorem goOn_sq {n : Nat} {A : List (List Int)} (hA : RowsOf n A) : ∀ (r : Nat) (m : List (List Int)) (sums : List Int), m.length + r = n → (∀ x ∈ m, x.length = n) → ∀ y ∈ goOn A r m sums, Sq n y
  | 0, m, sums, h, hm, y, hy => by
    rw [goOn, List.mem_singleton] at hy
    subst hy
    exact ⟨h, hm⟩
  | r + 1, m, sums, h, hm, y, hy => by
    rw [goOn, List.mem_flatMap] at hy
    obtain ⟨row, hrow, hy⟩ := hy
    have hr := hA row (List.mem_filter.1 hrow).1
    exact goOn_sq hA r (m ++ [row]) _ (by simp; omega) (fun x hx => by
      rcases List.mem_append.1 hx with hx | hx
      · exact hm x hx
      · rw [List.mem_singleton] at hx; rw [hx]; exact hr.1) y hy
theorem goOn_many {A : List (List Int)} {c : Nat} (hA : A.length ≤ c) : ∀ (r : Nat) (m : List (List Int)) (sums : List Int), (goOn A r m sums).length ≤ c ^ r
  | 0, m, sums => by simp [goOn]
  | r + 1, m, sums => by
    rw [goOn, List.length_flatMap]
    have key : ∀ (B : List (List Int)), B.length ≤ c → (B.map fun row => (goOn A r (m ++ [row]) (List.zipWith (· + ·) sums row)).length).sum ≤ B.length * c ^ r := by
      intro B
      induction B with
      | nil => simp
      | cons b B ih =>
        intro hB
        rw [List.length_cons] at hB
        have h1 := ih (by omega)
        have h2 := goOn_many hA r (m ++ [b]) (List.zipWith (· + ·) sums b)
        rw [List.map_cons, List.sum_cons, List.length_cons, Nat.succ_mul]
        omega
    have hB : (A.filter (fun row => fitsB (decide (r = 0)) sums row)).length ≤ c := Nat.le_trans (List.length_filter_le _ _) hA
    refine Nat.le_trans (key _ hB) ?_
    rw [Nat.pow_succ, Nat.mul_comm]
    exact Nat.mul_le_mul_left _ hB
theorem eachSigns1 {σ : Type} (n : Nat) (hn : n ≤ 6) (A : List (List Int)) (hA : RowsOf n A) (hc : A.length ≤ 1000) (p : Nat → σ → List (List Int) → Option (σ × Bool)) (pT : σ → List (List Int) → σ × Bool) (hp : ∀ s m, Sq n m → Ans (fun k => p k s m) (pT s m)) :
    ∀ (r : Nat) (m : List (List Int)) (sums : List Int) (s : σ), m.length + r = n → (∀ x ∈ m, x.length = n) → sums.length = n → (∀ x ∈ sums, 0 ≤ x ∧ x ≤ 1) → Ans2 (fun k j => impl_eachSigns_1.f k (p j) n A sums m s) (foldT pT s (goOn A r m sums)) := by
  intro r
  induction r with
  | zero =>
    intro m sums s h hm _ _
    refine Ans2.step ?_
    simp only [impl_eachSigns_1.f]
    refine Ans2.yes (by omega) ?_
    have e : foldT pT s (goOn A 0 m sums) = pT s m := by
      simp only [goOn, foldT]
      by_cases c : (pT s m).2 = true
      · rw [if_pos c, ← c]
      · rw [if_neg c]; rw [show false = (pT s m).2 by simpa using c]
    rw [e]
    exact Ans2.two (hp s m ⟨by omega, hm⟩)
  | succ r ih =>
    intro m sums s h hm hl hs
    have key : ∀ (d : Nat) (i : Int) (s : σ), 0 ≤ i → i + d = A.length →
        Ans2 (fun k j => impl_eachSigns_1.l0 k (p j) n A sums m s i) (foldT pT s (((A.drop i.toNat).filter (fun row => fitsB (decide (r = 0)) sums row)).flatMap fun row => goOn A r (m ++ [row]) (List.zipWith (· + ·) sums row))) := by
      intro d
      induction d with
      | zero =>
        intro i s h0 h1
        rw [List.drop_eq_nil_of_le (by omega)]; refine Ans2.step ?_
        simp only [impl_eachSigns_1.l0]
        exact Ans2.not (by omega) (Ans2.pure _)
      | succ d ihd =>
        intro i s h0 h1
        have hlt : i.toNat < A.length := by omega
        have hrow := hA (A.getD i.toNat []) (getD_mem [] hlt)
        have hnx : ∀ s, _ := fun s => ihd (i + 1) s (by omega) (by omega)
        rw [show (i + 1).toNat = i.toNat + 1 by omega] at hnx
        rw [drop_at A [] hlt, List.filter_cons]
        generalize hg : A.getD i.toNat [] = row at *
        have hfit := fitsSums sums row (decide (r = 0)) (by omega) (by omega) hs hrow.2
        have hlast : ((m.length : Int) == (n : Int) - 1) = decide (r = 0) := by
          rw [Bool.eq_iff_iff, beq_iff_eq, decide_eq_true_iff]; omega
        refine Ans2.step ?_
        simp only [impl_eachSigns_1.l0, hg, hlast]
        refine Ans2.yes (by omega) (Ans2.yes h0 ((Ans2.one hfit).bind ?_))
        by_cases c : fitsB (decide (r = 0)) sums row = true
        · rw [if_pos c, List.flatMap_cons, foldT_append]
          refine Ans2.yes c (Ans2.yes (rowOk_of (by omega) hs hrow.2) ?_)
          have e1 := ih (m ++ [row]) (List.zipWith (· + ·) sums row) s (by simp; omega) (fun x hx => by
            rcases List.mem_append.1 hx with hx | hx
            · exact hm x hx
            · rw [List.mem_singleton] at hx; rw [hx]; exact hrow.1) (by rw [List.length_zipWith]; omega) (zip_bits _ sums row (by omega) c)
          refine e1.bind ?_
          by_cases c2 : (foldT pT s (goOn A r (m ++ [row]) (List.zipWith (· + ·) sums row))).2 = true
          · rw [if_pos c2]; exact Ans2.yes c2 (hnx _)
          · rw [if_neg c2]
            refine Ans2.not c2 ?_
            have e3 : foldT pT s (goOn A r (m ++ [row]) (List.zipWith (· + ·) sums row)) = ((foldT pT s (goOn A r (m ++ [row]) (List.zipWith (· + ·) sums row))).1, false) := by
              rw [show false = (foldT pT s (goOn A r (m ++ [row]) (List.zipWith (· + ·) sums row))).2 by simpa using c2]
            rw [← e3]
            exact Ans2.pure _
        · rw [if_neg c]
          exact Ans2.not c (hnx _)
    refine Ans2.step ?_
    simp only [impl_eachSigns_1.f]
    refine Ans2.not (by omega) (Ans2.yes (by omega) ?_)
    have := key A.length 0 s (by omega) (by omega)
    simpa [goOn] using this
/-- All sign matrices with n rows, in order. -/
def allOf (n : Nat) : List (List (List Int)) := goOn (alt n 0) n [] (List.replicate n 0)
theorem allOf_sq (n : Nat) : ∀ y ∈ allOf n, Sq n y := goOn_sq (RowsOf.alt n) n [] _ (by simp) (by simp)
theorem allOf_many (n : Nat) (hn : n ≤ 6) : (allOf n).length ≤ 68719476736 := by
  have h1 := alt_many n 0
  have h2 : 2 ^ n ≤ 2 ^ 6 := Nat.pow_le_pow_right (by omega) hn
  have h3 := goOn_many (c := 64) (A := alt n 0) (by omega) n [] (List.replicate n 0)
  have h4 : 64 ^ n ≤ 64 ^ 6 := Nat.pow_le_pow_right (by omega) hn
  exact Nat.le_trans h3 (Nat.le_trans h4 (by decide))
theorem eachSigns {σ : Type} (n : Nat) (hn : n ≤ 6) (p : Nat → σ → List (List Int) → Option (σ × Bool)) (pT : σ → List (List Int) → σ × Bool) (hp : ∀ s m, Sq n m → Ans (fun k => p k s m) (pT s m)) (s : σ) :
    Ans (fun k => impl_eachSigns.f k n (p k) s) (foldT pT s (allOf n)).1 := by
  simp only [impl_eachSigns.f]
  refine Ans.yes (by omega) (Ans.yes (by omega) ((signRows n hn).bind ?_))
  have h1 := alt_many n 0
  have h2 : 2 ^ n ≤ 2 ^ 6 := Nat.pow_le_pow_right (by omega) hn
  have e := eachSigns1 n hn (alt n 0) (RowsOf.alt n) (by omega) p pT hp n [] (List.replicate n 0) s (by simp) (by simp) (by simp) (fun x hx => by rw [(List.mem_replicate.1 hx).2]; omega)
  rw [Int.toNat_natCast]
  exact e.join.bind (Ans.pure _)
/-- The reference's way to all of them. -/
def goOn2 (A : List (List Int)) : Nat → List (List Int) → List Int → List (List (List Int))
  | 0, m, sums => if allIn sums 1 1 = true then [m] else []
  | r + 1, m, sums => (A.filter (fun row => fitsB false sums row)).flatMap fun row => goOn2 A r (m ++ [row]) (List.zipWith (· + ·) sums row)
theorem fits_last : ∀ (sums row : List Int), sums.length = row.length → fitsB true sums row = (fitsB false sums row && allIn (List.zipWith (· + ·) sums row) 1 1)
  | [], [], _ => rfl
  | a :: sums, x :: row, h => by
    rw [fitsB_cons, fitsB_cons, fits_last sums row (by simpa using h), List.zipWith_cons_cons, show ∀ z, allIn ((a + x) :: z) 1 1 = (decide (1 ≤ a + x ∧ a + x ≤ 1) && allIn z 1 1) from fun _ => rfl]
    by_cases c : a + x = 1
    · have h1 : decide (0 ≤ a + x) = true := decide_eq_true (by omega)
      have h2 : decide (a + x ≤ 1) = true := decide_eq_true (by omega)
      have h3 : decide (1 ≤ a + x ∧ a + x ≤ 1) = true := decide_eq_true (by omega)
      rw [decide_eq_true c, h1, h2, h3]; simp
    · have h3 : decide (1 ≤ a + x ∧ a + x ≤ 1) = false := decide_eq_false (by omega)
      rw [decide_eq_false c, h3]; simp
theorem goOn_two {n : Nat} {A : List (List Int)} (hA : RowsOf n A) : ∀ (r : Nat) (m : List (List Int)) (sums : List Int), sums.length = n → goOn2 A (r + 1) m sums = goOn A (r + 1) m sums := by
  intro r
  induction r with
  | zero =>
    intro m sums hl
    rw [goOn2, goOn]
    simp only [goOn2, goOn]
    have key : ∀ (B : List (List Int)), (∀ b ∈ B, b.length = n) → ((B.filter (fun row => fitsB false sums row)).flatMap fun row => if allIn (List.zipWith (· + ·) sums row) 1 1 = true then [m ++ [row]] else []) = (B.filter (fun row => fitsB (decide (0 = 0)) sums row)).flatMap fun row => [m ++ [row]] := by
      intro B
      induction B with
      | nil => intro _; rfl
      | cons b B ih =>
        intro hB
        have hb := fits_last sums b (by rw [hl, hB b (by simp)])
        have h1 := ih (fun x hx => hB x (by simp [hx]))
        rw [show decide (0 = 0) = true from rfl] at h1 ⊢
        rw [List.filter_cons, List.filter_cons, hb]
        by_cases c1 : fitsB false sums b = true
        · rw [if_pos c1, List.flatMap_cons, c1, Bool.true_and]
          by_cases c2 : allIn (List.zipWith (· + ·) sums b) 1 1 = true
          · rw [if_pos c2, if_pos c2, List.flatMap_cons, h1]
          · rw [if_neg c2, if_neg c2, List.nil_append, h1]
        · rw [if_neg c1, Bool.eq_false_iff.2 c1, Bool.false_and, if_neg (by simp), h1]
    exact key A (fun b hb => (hA b hb).1)
  | succ r ih =>
    intro m sums hl
    rw [goOn2, goOn, show decide (r + 1 = 0) = false from rfl]
    have key : ∀ (B : List (List Int)), (∀ b ∈ B, b.length = n) → (B.flatMap fun row => goOn2 A (r + 1) (m ++ [row]) (List.zipWith (· + ·) sums row)) = B.flatMap fun row => goOn A (r + 1) (m ++ [row]) (List.zipWith (· + ·) sums row) := by
      intro B
      induction B with
      | nil => intro _; rfl
      | cons b B ihB =>
        intro hB
        rw [List.flatMap_cons, List.flatMap_cons, ihB (fun x hx => hB x (by simp [hx])), ih _ _ (by rw [List.length_zipWith, hl, hB b (by simp), Nat.min_self])]
    exact key _ (fun b hb => (hA b (List.mem_filter.1 hb).1).1)
theorem goOn2_many {A : List (List Int)} (hA : A.length ≤ 64) : ∀ (r : Nat) (m : List (List Int)) (sums : List Int), (goOn2 A r m sums).length ≤ 64 ^ r
  | 0, m, sums => by rw [goOn2]; split <;> simp
  | r + 1, m, sums => by
    rw [goOn2, List.length_flatMap]
    have key : ∀ (B : List (List Int)), (B.map fun row => (goOn2 A r (m ++ [row]) (List.zipWith (· + ·) sums row)).length).sum ≤ B.length * 64 ^ r := by
      intro B
      induction B with
      | nil => simp
      | cons b B ih =>
        have h2 := goOn2_many hA r (m ++ [b]) (List.zipWith (· + ·) sums b)
        rw [List.map_cons, List.sum_cons, List.length_cons, Nat.succ_mul]
        omega
    have hB : (A.filter (fun row => fitsB false sums row)).length ≤ 64 := Nat.le_trans (List.length_filter_le _ _) hA
    refine Nat.le_trans (key _) ?_
    rw [Nat.pow_succ, Nat.mul_comm]
    exact Nat.mul_le_mul_left _ hB
theorem weGoOn (n : Nat) (hn : n ≤ 6) : ∀ (r : Nat) (m : List (List Int)) (sums : List Int), m.length + r = n → sums.length = n → (∀ x ∈ sums, 0 ≤ x ∧ x ≤ 1) → Ans (fun k => spec_weGoOn.f k m sums) (goOn2 (alt n 0) r m sums) := by
  intro r
  induction r with
  | zero =>
    intro m sums h hl hs
    refine Ans.step ?_
    simp only [spec_weGoOn.f]
    refine Ans.yes (by omega) ((l1All sums (by omega) 1 1).bind ?_)
    rw [goOn2]
    by_cases c : allIn sums 1 1 = true
    · refine Ans.yes c ?_; rw [if_pos c]; exact Ans.pure _
    · refine Ans.not c ?_; rw [if_neg c]; exact Ans.pure _
  | succ r ih =>
    intro m sums h hl hs
    have hA : (alt n 0).length ≤ 64 := Nat.le_trans (alt_many n 0) (Nat.le_trans (Nat.pow_le_pow_right (by omega) hn) (by decide : 2 ^ 6 ≤ 64))
    have hr6 : 64 ^ (r + 1) ≤ 64 ^ 6 := Nat.pow_le_pow_right (by omega) (by omega)
    have h66 : (64 : Nat) ^ 6 = 68719476736 := by decide
    obtain ⟨rs, hrs⟩ : ∃ x, (alt n 0).filter (fun row => fitsB false sums row) = x := ⟨_, rfl⟩
    have hrl : rs.length ≤ 64 := by rw [← hrs]; exact Nat.le_trans (List.length_filter_le _ _) hA
    have key : ∀ (d : Nat) (i : Int) (out : List (List (List Int))), 0 ≤ i → i + d = rs.length → out.length + d * 64 ^ r ≤ 64 ^ (r + 1) →
        Ans (fun k => spec_weGoOn.l0 k m sums rs out i) (out ++ ((rs.drop i.toNat).flatMap fun row => goOn2 (alt n 0) r (m ++ [row]) (List.zipWith (· + ·) sums row))) := by
      intro d
      induction d with
      | zero =>
        intro i out h0 h1 h2
        rw [List.drop_eq_nil_of_le (by omega), List.flatMap_nil, List.append_nil]; refine Ans.step ?_
        simp only [spec_weGoOn.l0]
        exact Ans.not (by omega) (Ans.pure _)
      | succ d ihd =>
        intro i out h0 h1 h2
        rw [Nat.succ_mul] at h2
        have hlt : i.toNat < rs.length := by omega
        have hmem : rs.getD i.toNat [] ∈ rs := getD_mem [] hlt
        have hnx : ∀ out : List (List (List Int)), _ := fun out => ihd (i + 1) out (by omega) (by omega)
        rw [show (i + 1).toNat = i.toNat + 1 by omega] at hnx
        rw [drop_at rs [] hlt, List.flatMap_cons]
        generalize hg : rs.getD i.toNat [] = row at *
        rw [← hrs] at hmem
        obtain ⟨hm1, hm2⟩ := List.mem_filter.1 hmem
        have hrow := RowsOf.alt n row hm1
        have hmany := goOn2_many hA r (m ++ [row]) (List.zipWith (· + ·) sums row)
        refine Ans.step ?_
        simp only [spec_weGoOn.l0, hg, l1Own sums (by omega), Option.bind_some]
        refine Ans.yes (by omega) (Ans.yes h0 (Ans.yes (rowOk_of (by omega) hs hrow.2) (Ans.yes (by omega) ?_)))
        have e1 := ih (m ++ [row]) (List.zipWith (· + ·) sums row) (by simp; omega) (by rw [List.length_zipWith]; omega) (zip_bits false sums row (by omega) hm2)
        refine e1.bind (Ans.yes (by omega) ?_)
        have e2 := hnx (out ++ goOn2 (alt n 0) r (m ++ [row]) (List.zipWith (· + ·) sums row)) (by rw [List.length_append]; omega)
        rw [List.append_assoc] at e2
        exact e2
    refine Ans.step ?_
    simp only [spec_weGoOn.f]
    have hw := weRows sums (by omega) hs n [] 0 (by omega) (by omega) (by simp; omega)
    simp only [List.length_nil, List.drop_zero, List.nil_append, List.map_id', hrs] at hw
    refine Ans.not (by omega) (hw.bind ?_)
    have := key rs.length 0 [] (by omega) (by omega) (by rw [List.length_nil, Nat.pow_succ, Nat.zero_add, Nat.mul_comm]; exact Nat.mul_le_mul_left _ hrl)
    rw [goOn2, hrs]
    simpa using this
theorem weAll (n : Nat) (h1 : 1 ≤ n) (hn : n ≤ 6) : Ans (fun k => spec_weAll.f k n) (allOf n) := by
  simp only [spec_weAll.f]
  refine Ans.yes (by omega) (Ans.yes (by omega) ?_)
  have e := weGoOn n hn n [] (List.replicate n 0) (by simp) (by simp) (fun x hx => by rw [(List.mem_replicate.1 hx).2]; omega)
  obtain ⟨r, rfl⟩ : ∃ r, n = r + 1 := ⟨n - 1, by omega⟩
  rw [goOn_two (RowsOf.alt (r + 1)) r [] _ (by simp)] at e
  rw [Int.toNat_natCast]
  exact e
/-- What total adds up: a callback that always goes on. -/
theorem foldT_ok {σ : Type} {p : σ → List (List Int) → σ × Bool} (P : List (List Int) → Prop) (Ok : Nat → σ → Prop) (hk : ∀ j s m, P m → Ok (j + 1) s → Ok j (p s m).1) : ∀ (x : List (List (List Int))) (j : Nat) (s : σ), (∀ m ∈ x, P m) → Ok (x.length + j) s → (foldT p s x).2 = true → Ok j (foldT p s x).1
  | [], j, s, _, h, _ => by simpa [foldT] using h
  | m :: x, j, s, hP, h, h2 => by
    rw [foldT] at h2 ⊢
    by_cases c : (p s m).2 = true
    · rw [if_pos c] at h2 ⊢
      exact foldT_ok P Ok hk x j _ (fun m hm => hP m (List.mem_cons_of_mem _ hm)) (hk _ s m (hP m (List.mem_cons_self ..)) (by rw [List.length_cons] at h; rw [show x.length + j + 1 = x.length + 1 + j by omega]; exact h)) h2
    · rw [if_neg c] at h2
      cases h2
theorem eachSignsO1 {σ : Type} (n : Nat) (hn : n ≤ 6) (A : List (List Int)) (hA : RowsOf n A) (hc : A.length ≤ 1000) (p : Nat → σ → List (List Int) → Option (σ × Bool)) (pT : σ → List (List Int) → σ × Bool) (Ok : Nat → σ → Prop) (hmono : ∀ i j s, i ≤ j → Ok j s → Ok i s) (hp : ∀ j s m, Sq n m → Ok (j + 1) s → Ans (fun k => p k s m) (pT s m)) (hk : ∀ j s m, Sq n m → Ok (j + 1) s → Ok j (pT s m).1) :
    ∀ (r : Nat) (m : List (List Int)) (sums : List Int) (s : σ), m.length + r = n → (∀ x ∈ m, x.length = n) → sums.length = n → (∀ x ∈ sums, 0 ≤ x ∧ x ≤ 1) → Ok (goOn A r m sums).length s → Ans2 (fun k j => impl_eachSigns_1.f k (p j) n A sums m s) (foldT pT s (goOn A r m sums)) := by
  intro r
  induction r with
  | zero =>
    intro m sums s h hm _ _ hO
    refine Ans2.step ?_
    simp only [impl_eachSigns_1.f]
    refine Ans2.yes (by omega) ?_
    have e : foldT pT s (goOn A 0 m sums) = pT s m := by
      simp only [goOn, foldT]
      by_cases c : (pT s m).2 = true
      · rw [if_pos c, ← c]
      · rw [if_neg c]; rw [show false = (pT s m).2 by simpa using c]
    rw [e]
    exact Ans2.two (hp 0 s m ⟨by omega, hm⟩ (by simpa [goOn] using hO))
  | succ r ih =>
    intro m sums s h hm hl hs hO
    have key : ∀ (d : Nat) (i : Int) (s : σ), 0 ≤ i → i + d = A.length → Ok (((A.drop i.toNat).filter (fun row => fitsB (decide (r = 0)) sums row)).flatMap fun row => goOn A r (m ++ [row]) (List.zipWith (· + ·) sums row)).length s →
        Ans2 (fun k j => impl_eachSigns_1.l0 k (p j) n A sums m s i) (foldT pT s (((A.drop i.toNat).filter (fun row => fitsB (decide (r = 0)) sums row)).flatMap fun row => goOn A r (m ++ [row]) (List.zipWith (· + ·) sums row))) := by
      intro d
      induction d with
      | zero =>
        intro i s h0 h1 hO
        rw [List.drop_eq_nil_of_le (by omega)]; refine Ans2.step ?_
        simp only [impl_eachSigns_1.l0]
        exact Ans2.not (by omega) (Ans2.pure _)
      | succ d ihd =>
        intro i s h0 h1 hO
        have hlt : i.toNat < A.length := by omega
        have hrow := hA (A.getD i.toNat []) (getD_mem [] hlt)
        have hnx : ∀ s, _ := fun s hO => ihd (i + 1) s (by omega) (by omega) hO
        rw [show (i + 1).toNat = i.toNat + 1 by omega] at hnx
        rw [drop_at A [] hlt, List.filter_cons] at hO ⊢
        generalize hg : A.getD i.toNat [] = row at *
        have hfit := fitsSums sums row (decide (r = 0)) (by omega) (by omega) hs hrow.2
        have hlast : ((m.length : Int) == (n : Int) - 1) = decide (r = 0) := by
          rw [Bool.eq_iff_iff, beq_iff_eq, decide_eq_true_iff]; omega
        refine Ans2.step ?_
        simp only [impl_eachSigns_1.l0, hg, hlast]
        refine Ans2.yes (by omega) (Ans2.yes h0 ((Ans2.one hfit).bind ?_))
        by_cases c : fitsB (decide (r = 0)) sums row = true
        · rw [if_pos c, List.flatMap_cons, List.length_append] at hO
          rw [if_pos c, List.flatMap_cons, foldT_append]
          refine Ans2.yes c (Ans2.yes (rowOk_of (by omega) hs hrow.2) ?_)
          have e1 := ih (m ++ [row]) (List.zipWith (· + ·) sums row) s (by simp; omega) (fun x hx => by
            rcases List.mem_append.1 hx with hx | hx
            · exact hm x hx
            · rw [List.mem_singleton] at hx; rw [hx]; exact hrow.1) (by rw [List.length_zipWith]; omega) (zip_bits _ sums row (by omega) c) (hmono _ _ _ (Nat.le_add_right _ _) hO)
          refine e1.bind ?_
          by_cases c2 : (foldT pT s (goOn A r (m ++ [row]) (List.zipWith (· + ·) sums row))).2 = true
          · rw [if_pos c2]; exact Ans2.yes c2 (hnx _ (foldT_ok (fun m => Sq n m) Ok hk _ _ s (goOn_sq hA r _ _ (by simp; omega) (fun x hx => by
            rcases List.mem_append.1 hx with hx | hx
            · exact hm x hx
            · rw [List.mem_singleton] at hx; rw [hx]; exact hrow.1)) hO c2))
          · rw [if_neg c2]
            refine Ans2.not c2 ?_
            have e3 : foldT pT s (goOn A r (m ++ [row]) (List.zipWith (· + ·) sums row)) = ((foldT pT s (goOn A r (m ++ [row]) (List.zipWith (· + ·) sums row))).1, false) := by
              rw [show false = (foldT pT s (goOn A r (m ++ [row]) (List.zipWith (· + ·) sums row))).2 by simpa using c2]
            rw [← e3]
            exact Ans2.pure _
        · rw [if_neg c] at hO ⊢
          exact Ans2.not c (hnx _ hO)
    refine Ans2.step ?_
    simp only [impl_eachSigns_1.f]
    refine Ans2.not (by omega) (Ans2.yes (by omega) ?_)
    have := key A.length 0 s (by omega) (by omega) (by simpa [goOn] using hO)
    simpa [goOn] using this
theorem eachSignsO {σ : Type} (n : Nat) (hn : n ≤ 6) (p : Nat → σ → List (List Int) → Option (σ × Bool)) (pT : σ → List (List Int) → σ × Bool) (Ok : Nat → σ → Prop) (hmono : ∀ i j s, i ≤ j → Ok j s → Ok i s) (hp : ∀ j s m, Sq n m → Ok (j + 1) s → Ans (fun k => p k s m) (pT s m)) (hk : ∀ j s m, Sq n m → Ok (j + 1) s → Ok j (pT s m).1) (s : σ) (hO : Ok (allOf n).length s) :
    Ans (fun k => impl_eachSigns.f k n (p k) s) (foldT pT s (allOf n)).1 := by
  simp only [impl_eachSigns.f]
  refine Ans.yes (by omega) (Ans.yes (by omega) ((signRows n hn).bind ?_))
  have h1 := alt_many n 0
  have h2 : 2 ^ n ≤ 2 ^ 6 := Nat.pow_le_pow_right (by omega) hn
  have e := eachSignsO1 n hn (alt n 0) (RowsOf.alt n) (by omega) p pT Ok hmono hp hk n [] (List.replicate n 0) s (by simp) (by simp) (by simp) (fun x hx => by rw [(List.mem_replicate.1 hx).2]; omega) hO
  rw [Int.toNat_natCast]
  exact e.join.bind (Ans.pure _)
theorem smList (n : Nat) (h1 : 1 ≤ n) (hn : n ≤ 6) (a : Int) : Ans (fun k => spec_smList.f k n a) ((allOf n).filter (fun m => hasK m a)) := by
  simp only [spec_smList.f]
  refine (weAll n h1 hn).bind ?_
  have hm := allOf_many n hn
  have key : ∀ (d : Nat) (i : Int) (out : List (List (List Int))), 0 ≤ i → i + d = (allOf n).length → out.length + d ≤ 68719476736 → Ans (fun k => spec_smList.l0 k a out (allOf n) ((allOf n).length : Int) i) (out ++ ((allOf n).drop i.toNat).filter (fun m => hasK m a)) := by
    intro d
    induction d with
    | zero =>
      intro i out h0 h1 h2
      rw [List.drop_eq_nil_of_le (by omega), List.filter_nil, List.append_nil]; refine Ans.step ?_
      simp only [spec_smList.l0]
      exact Ans.not (by omega) (Ans.pure _)
    | succ d ih =>
      intro i out h0 h1 h2
      have hlt : i.toNat < (allOf n).length := by omega
      have hsq := allOf_sq n _ (getD_mem [] hlt)
      have e := fun out h => ih (i + 1) out (by omega) (by omega) h
      rw [show (i + 1).toNat = i.toNat + 1 by omega] at e
      rw [drop_at (allOf n) [] hlt, List.filter_cons]
      refine Ans.step ?_
      simp only [spec_smList.l0, show ∀ j, rd_L4 (allOf n) j = (allOf n).getD j.toNat [] from fun _ => rfl, wrap64_up h0 (by omega : i ≤ 4611686018427387904)]
      refine Ans.yes (by omega) (Ans.yes h0 (Ans.yes (by omega) ((smHas n _ hsq (by omega) a).bind ?_)))
      by_cases c : hasK ((allOf n).getD i.toNat []) a = true
      · rw [if_pos c]
        have := e (out ++ [(allOf n).getD i.toNat []]) (by rw [List.length_append, List.length_singleton]; omega)
        rw [List.append_assoc, List.singleton_append] at this
        exact Ans.yes c (Ans.yes (by omega) this)
      · rw [if_neg c]
        exact Ans.not c (e out (by omega))
  exact key (allOf n).length 0 [] (by omega) (by omega) (by rw [List.length_nil]; omega)
theorem total (n : Nat) (hn : n ≤ 6) (of : Nat → List (List Int) → Option Int) (v : List (List Int) → Int) (hv : ∀ m, Sq n m → Ans (fun k => of k m) (v m)) (hb : ∀ m, Sq n m → 0 ≤ v m ∧ v m ≤ 1000) :
    Ans (fun k => impl_total.f k n (of k)) ((allOf n).map v).sum := by
  simp only [impl_total.f]
  have e := eachSigns (σ := Int) n hn (fun k => impl_total.step (of k)) (fun s m => (wrap64 (s + v m), true)) (fun s m hm => by
    simp only [impl_total.step]
    exact (hv m hm).bind (Ans.pure _)) 0
  have key : ∀ (L : List (List (List Int))) (s : Int), (∀ y ∈ L, Sq n y) → 0 ≤ s → s + L.length * 1000 ≤ 9000000000000000 → (foldT (fun s m => (wrap64 (s + v m), true)) s L).1 = s + (L.map v).sum := by
    intro L
    induction L with
    | nil => intro s _ _ _; simp [foldT]
    | cons y L ih =>
      intro s hL h0 h1
      have hy := hb y (hL y (by simp))
      rw [List.length_cons] at h1
      rw [foldT, if_pos rfl, wrap64_in _ ⟨by omega, by omega⟩, ih _ (fun z hz => hL z (by simp [hz])) (by omega) (by omega), List.map_cons, List.sum_cons]
      omega
  have hm := allOf_many n hn
  rw [key (allOf n) 0 (allOf_sq n) (by omega) (by omega), Int.zero_add] at e
  exact e
theorem allOf_few : ∀ n : Nat, n ≤ 5 → (allOf n).length ≤ 429 := by
  intro n h
  rcases (show n = 0 ∨ n = 1 ∨ n = 2 ∨ n = 3 ∨ n = 4 ∨ n = 5 by omega) with rfl | rfl | rfl | rfl | rfl | rfl
  · decide +kernel
  · decide +kernel
  · decide +kernel
  · decide +kernel
  · decide +kernel
  · decide +kernel
theorem foldT_filter (q : List (List Int) → Bool) : ∀ (x out : List (List (List Int))), (foldT (fun s m => (if q m = true then s ++ [m] else s, true)) out x).1 = out ++ x.filter q
  | [], out => by simp [foldT]
  | m :: x, out => by
    rw [foldT, if_pos rfl, foldT_filter q x, List.filter_cons]
    by_cases c : q m = true
    · rw [if_pos c, if_pos c, List.append_assoc, List.singleton_append]
    · rw [if_neg c, if_neg c]
theorem allSigns (n : Nat) (hn : n ≤ 5) (g : Nat → List (List Int) → Option Bool) (q : List (List Int) → Bool) (hg : ∀ m, Sq n m → Ans (fun k => g k m) (q m)) : Ans (fun k => impl_allSigns.f k n (g k)) ((allOf n).filter q) := by
  simp only [impl_allSigns.f]
  have e := eachSignsO (σ := List (List (List Int))) n (by omega) (fun k => impl_allSigns_1.step k (g k)) (fun s m => (if q m = true then s ++ [m] else s, true)) (fun j s => s.length + j ≤ 1000) (fun i j s h h2 => by omega)
    (fun j s m hm h => by
      simp only [impl_allSigns_1.step]
      refine (hg m hm).bind ?_
      by_cases c : q m = true
      · rw [if_pos c]
        exact Ans.yes c ((copyTable m (by have := hm.1; omega) (fun r hr => by have := hm.2 r hr; omega)).bind (Ans.yes (by omega) (Ans.pure _)))
      · rw [if_neg c]
        exact Ans.not c (Ans.pure _))
    (fun j s m hm h => by
      show (if q m = true then s ++ [m] else s).length + j ≤ 1000
      split
      · simp; omega
      · omega) [] (by have := allOf_few n hn; simp; omega)
  rw [foldT_filter, List.nil_append] at e
  exact e
theorem listCopies (x : List (List (List Int))) (h : x.length ≤ 1000) (hr : ∀ a ∈ x, a.length ≤ 6 ∧ ∀ r ∈ a, r.length ≤ 6) : ∀ (d : Nat) (i : Int) (out : List (List (List Int))), 0 ≤ i → i + d = x.length → out.length + d ≤ 1000 → Ans (fun k => spec_ListSymmetric.l0 k out x (x.length : Int) i) (out ++ x.drop i.toNat, true) := by
  intro d
  induction d with
  | zero =>
    intro i out h0 h1 h2
    rw [List.drop_eq_nil_of_le (by omega), List.append_nil]; refine Ans.step ?_
    simp only [spec_ListSymmetric.l0]
    exact Ans.not (by omega) (Ans.pure _)
  | succ d ih =>
    intro i out h0 h1 h2
    have hlt : i.toNat < x.length := by omega
    have hm := hr _ (getD_mem [] hlt)
    have e := ih (i + 1) (out ++ [x.getD i.toNat []]) (by omega) (by omega) (by rw [List.length_append, List.length_singleton]; omega)
    rw [show (i + 1).toNat = i.toNat + 1 by omega, List.append_assoc, List.singleton_append] at e
    rw [drop_at x [] hlt]
    refine Ans.step ?_
    simp only [spec_ListSymmetric.l0, show ∀ j, rd_L4 x j = x.getD j.toNat [] from fun _ => rfl, wrap64_up h0 (by omega : i ≤ 4611686018427387904)]
    exact Ans.yes (by omega) (Ans.yes h0 (Ans.yes (by omega) ((smCopy _ (by omega) (fun r h9 => by have := hm.2 r h9; omega)).bind (Ans.yes (by omega) e))))
/-- What the list of all of a kind is. -/
def lsRes (n a : Int) : List (List (List Int)) × Bool := if 1 ≤ n ∧ n ≤ 5 then (if 0 ≤ a ∧ a ≤ 4 then ((allOf n.toNat).filter (fun m => hasK m a), true) else ([], false)) else ([], false)
theorem ls_small (m : Nat) (hm : m ≤ 5) (a : Int) : ((allOf m).filter (fun m => hasK m a)).length ≤ 429 ∧ ∀ y ∈ (allOf m).filter (fun m => hasK m a), y.length ≤ 6 ∧ ∀ r ∈ y, r.length ≤ 6 :=
  ⟨Nat.le_trans (List.length_filter_le _ _) (allOf_few m hm), fun y hy => by
    have h := allOf_sq m y (List.mem_filter.1 hy).1
    exact ⟨by have := h.1; omega, fun r hr => by have := h.2 r hr; omega⟩⟩
theorem listSym (n a : Int) : Ans (fun k => impl_ListSymmetric.f k n a) (lsRes n a) ∧ Ans (fun k => spec_ListSymmetric.f k n a) (lsRes n a) := by
  have no : Ans (fun k => spec_ListSymmetric.j0 k n a true) ([], false) := by
    refine Ans.step ?_
    simp only [spec_ListSymmetric.j0]
    exact Ans.yes (by simp) (Ans.pure _)
  simp only [spec_ListSymmetric.f, impl_ListSymmetric.f, spec_smKind.f, impl_isKind.f, l1In, within, Option.bind_some, lsRes]
  by_cases c : 1 ≤ n ∧ n ≤ 5
  · obtain ⟨m, rfl⟩ : ∃ m : Nat, n = m := ⟨n.toNat, by omega⟩
    rw [decide_eq_true c, if_pos c]
    by_cases c2 : 0 ≤ a ∧ a ≤ 4
    · rw [decide_eq_true c2, if_pos c2]
      obtain ⟨hlen, hsq⟩ := ls_small m (by omega) a
      rw [show ((m : Int)).toNat = m from Int.toNat_natCast m]
      refine ⟨Ans.yes rfl (Ans.yes rfl ((allSigns m (by omega) (fun k x => impl_ListSymmetric_1.f k x a) (fun m => hasK m a) (fun x hx => by
        simp only [impl_ListSymmetric_1.f]
        exact (hasKind m x hx (by omega) a).bind (Ans.pure _))).bind (Ans.pure _))), Ans.yes rfl (Ans.step ?_)⟩
      simp only [spec_ListSymmetric.j0]
      have e := listCopies ((allOf m).filter (fun m => hasK m a)) (by omega) hsq ((allOf m).filter (fun m => hasK m a)).length 0 [] (by omega) (by omega) (by simp; omega)
      rw [show (0 : Int).toNat = 0 from rfl, List.drop_zero, List.nil_append] at e
      exact Ans.not (by simp) ((smList m (by omega) (by omega) a).bind e)
    · rw [decide_eq_false c2, if_neg c2]
      exact ⟨Ans.yes rfl (Ans.not (by simp) (Ans.pure _)), Ans.yes rfl no⟩
  · rw [decide_eq_false c, if_neg c]
    exact ⟨Ans.not (by simp) (Ans.pure _), Ans.not (by simp) no⟩
theorem sum_filter (p : List (List Int) → Bool) : ∀ (L : List (List (List Int))), ((L.map fun m => if p m = true then (1 : Int) else 0)).sum = ((L.filter p).length : Int)
  | [] => by simp
  | m :: L => by
    rw [List.map_cons, List.sum_cons, sum_filter p L, List.filter_cons]
    by_cases c : p m = true
    · rw [if_pos c, if_pos c, List.length_cons]; omega
    · rw [if_neg c, if_neg c]; omega
def csRes (n a : Int) : Int × Bool := if 1 ≤ n ∧ n ≤ 6 then (if 0 ≤ a ∧ a ≤ 4 then ((((allOf n.toNat).filter (fun m => hasK m a)).length : Int), true) else (0, false)) else (0, false)
theorem countSym (n a : Int) : Ans (fun k => impl_CountSymmetric.f k n a) (csRes n a) ∧ Ans (fun k => spec_CountSymmetric.f k n a) (csRes n a) := by
  obtain ⟨res, hres⟩ : ∃ res : Int × Bool, res = csRes n a := ⟨_, rfl⟩
  rw [← hres]
  unfold csRes at hres
  have e1 : Ans (fun k => spec_CountSymmetric.f k n a) res := by
    simp only [spec_CountSymmetric.f, spec_smKind.f, l1In, Option.bind_some]
    by_cases c : 1 ≤ n ∧ n ≤ 6
    · rw [if_pos c] at hres
      refine Ans.yes (decide_eq_true c) ?_
      by_cases c2 : 0 ≤ a ∧ a ≤ 4
      · rw [if_pos c2] at hres; subst hres
        have := smList n.toNat (by omega) (by omega) a
        rw [Int.toNat_of_nonneg (by omega)] at this
        exact Ans.yes (decide_eq_true c2) (this.bind (Ans.pure _))
      · rw [if_neg c2] at hres; subst hres; exact Ans.not (by simp only [decide_eq_true_iff]; exact c2) (Ans.pure _)
    · rw [if_neg c] at hres; subst hres; exact Ans.not (by simp only [decide_eq_true_iff]; exact c) (Ans.pure _)
  have e2 : Ans (fun k => impl_CountSymmetric.f k n a) res := by
    simp only [impl_CountSymmetric.f, impl_isSide.f, impl_isKind.f, within, Option.bind_some]
    by_cases c : 1 ≤ n ∧ n ≤ 6
    · rw [if_pos c] at hres
      refine Ans.yes (decide_eq_true c) ?_
      by_cases c2 : 0 ≤ a ∧ a ≤ 4
      · rw [if_pos c2] at hres; subst hres
        have := total n.toNat (by omega) (fun k x0_ => impl_CountSymmetric_1.f k x0_ a) (fun m => if hasK m a = true then 1 else 0) (fun m hm => by
          simp only [impl_CountSymmetric_1.f]
          refine (hasKind n.toNat m hm (by omega) a).bind ?_
          simp only [impl_bit.f]
          by_cases q : hasK m a = true
          · rw [if_pos q, if_pos q]; exact Ans.pure _
          · rw [if_neg q, if_neg q]; exact Ans.pure _) (fun m _ => by split <;> omega)
        rw [sum_filter, Int.toNat_of_nonneg (by omega)] at this
        exact Ans.yes (decide_eq_true c2) (this.bind (Ans.pure _))
      · rw [if_neg c2] at hres; subst hres; exact Ans.not (by simp only [decide_eq_true_iff]; exact c2) (Ans.pure _)
    · rw [if_neg c] at hres; subst hres; exact Ans.not (by simp only [decide_eq_true_iff]; exact c) (Ans.pure _)
  exact ⟨e2, e1⟩
/-- The least one of matrices, as the program finds it. -/
def leastOf : List (List Int) → List (List (List Int)) → List (List Int)
  | m, [] => m
  | m, x :: xs => if cmpLL x m < 0 then leastOf x xs else leastOf m xs
theorem minFunc (n : Nat) (hn : n ≤ 6) (L : List (List (List Int))) (hL : ∀ y ∈ L, Sq n y) (h0 : L.length ≤ 1000) (m : List (List Int)) (xs : List (List (List Int))) (he : L = m :: xs) :
    Ans (fun k => slices_MinFunc_int_int.f k L (fun x0_ x1_ => impl_compareTables.f k x0_ x1_)) (leastOf m xs) := by
  have key : ∀ (d : Nat) (i : Int) (m : List (List Int)), 0 ≤ i → i + d = L.length → Sq n m → Ans2 (fun k j => slices_MinFunc_int_int.l0 k L (fun x0_ x1_ => impl_compareTables.f j x0_ x1_) m i) (leastOf m (L.drop i.toNat)) := by
    intro d
    induction d with
    | zero =>
      intro i m h0 h1 hm
      rw [List.drop_eq_nil_of_le (by omega), leastOf]; refine Ans2.step ?_
      simp only [slices_MinFunc_int_int.l0]
      exact Ans2.not (by omega) (Ans2.pure _)
    | succ d ih =>
      intro i m h0 h1 hm
      have hlt : i.toNat < L.length := by omega
      have hx := hL _ (getD_mem [] hlt)
      have e := fun m h => ih (i + 1) m (by omega) (by omega) h
      rw [show (i + 1).toNat = i.toNat + 1 by omega] at e
      rw [drop_at L [] hlt, leastOf]
      refine Ans2.step ?_
      simp only [slices_MinFunc_int_int.l0]
      refine Ans2.yes (by omega) (Ans2.yes h0 ((Ans2.two (tablesSame n _ _ hx hm (by omega))).bind ?_))
      by_cases c : cmpLL (L.getD i.toNat []) m < 0
      · rw [if_pos c]; exact Ans2.yes c (e _ hx)
      · rw [if_neg c]; exact Ans2.not c (e _ hm)
  simp only [slices_MinFunc_int_int.f]
  have e := key (L.length - 1) 1 m (by omega) (by rw [he]; simp; omega) (hL m (by rw [he]; simp))
  subst he
  exact Ans.yes (by simp) e.join
theorem images_sq {n : Nat} {m : List (List Int)} (h : Sq n m) : ∀ y ∈ images m, Sq n y := by
  have s1 := cw_sq h; have s2 := cw_sq s1; have s3 := cw_sq s2
  intro y hy
  simp only [images, List.mem_cons, List.mem_nil_iff, or_false] at hy
  rcases hy with rfl | rfl | rfl | rfl | rfl | rfl | rfl | rfl
  · exact h
  · exact s1
  · exact s2
  · exact s3
  · exact mir_sq h
  · exact mir_sq s1
  · exact mir_sq s2
  · exact mir_sq s3
def isLeast (m : List (List Int)) : Bool := decide (cmpLL (leastOf m [cw m, cw (cw m), cw (cw (cw m)), mir m, mir (cw m), mir (cw (cw m)), mir (cw (cw (cw m)))]) m = 0)
def ownOf (m : List (List Int)) : Nat := ((images m).filter (fun x => decide (x = m))).length
theorem burnside : ∀ n : Nat, 1 ≤ n → n ≤ 5 → ((allOf n).map fun m => if isLeast m = true then (1 : Int) else 0).sum = (((allOf n).map fun m => (ownOf m : Int)).sum) / 8 := by
  intro n h1 h2
  rcases (show n = 1 ∨ n = 2 ∨ n = 3 ∨ n = 4 ∨ n = 5 by omega) with rfl | rfl | rfl | rfl | rfl
  · decide +kernel
  · decide +kernel
  · decide +kernel
  · decide +kernel
  · decide +kernel
theorem smOwn (n : Nat) (hn : n ≤ 6) (m : List (List Int)) (h : Sq n m) : ∃ r : List Int, r.length = ownOf m ∧ Ans (fun k => spec_smOwn.f k m) r := by
  have hs := images_sq h
  have key : ∀ (d : Nat) (i : Int) (out : List Int), 0 ≤ i → i + d = (images m).length → out.length ≤ 100 - d → ∃ r : List Int, r.length = out.length + (((images m).drop i.toNat).filter (fun x => decide (x = m))).length ∧ Ans (fun k => spec_smOwn.l0 k m out (images m) ((images m).length : Int) i) r := by
    intro d
    induction d with
    | zero =>
      intro i out h0 h1 h2
      refine ⟨out, by rw [List.drop_eq_nil_of_le (by omega)]; rfl, Ans.step ?_⟩
      simp only [spec_smOwn.l0]
      exact Ans.not (by omega) (Ans.pure _)
    | succ d ih =>
      intro i out h0 h1 h2
      have h8 : (images m).length = 8 := rfl
      have hlt : i.toNat < (images m).length := by omega
      have hx := hs _ (getD_mem [] hlt)
      have e := fun out h => ih (i + 1) out (by omega) (by omega) h
      rw [show (i + 1).toNat = i.toNat + 1 by omega] at e
      rw [drop_at (images m) [] hlt, List.filter_cons]
      by_cases c : (images m).getD i.toNat [] = m
      · rw [if_pos (decide_eq_true c)]
        obtain ⟨r, hr, ha⟩ := e (out ++ [i]) (by rw [List.length_append, List.length_singleton]; omega)
        refine ⟨r, by rw [hr, List.length_append, List.length_singleton, List.length_cons]; omega, Ans.step ?_⟩
        simp only [spec_smOwn.l0, show ∀ j, rd_L4 (images m) j = (images m).getD j.toNat [] from fun _ => rfl, wrap64_up h0 (by omega : i ≤ 4611686018427387904)]
        refine Ans.yes (by omega) (Ans.yes h0 (Ans.yes (by omega) ((sameW n _ m hx (by omega)).bind (Ans.yes (decide_eq_true c) (Ans.yes (by omega) ha)))))
      · rw [if_neg (by simpa using c)]
        obtain ⟨r, hr, ha⟩ := e out (by omega)
        refine ⟨r, hr, Ans.step ?_⟩
        simp only [spec_smOwn.l0, show ∀ j, rd_L4 (images m) j = (images m).getD j.toNat [] from fun _ => rfl, wrap64_up h0 (by omega : i ≤ 4611686018427387904)]
        refine Ans.yes (by omega) (Ans.yes h0 (Ans.yes (by omega) ((sameW n _ m hx (by omega)).bind (Ans.not (by simpa using c) ha))))
  obtain ⟨r, hr, ha⟩ := key (images m).length 0 [] (by omega) (by omega) (by simp [images])
  refine ⟨r, by rw [hr]; simp [ownOf], ?_⟩
  simp only [spec_smOwn.f]
  exact (smSymmetries n m h (by omega)).bind ha
theorem own_le (m : List (List Int)) : ownOf m ≤ 8 := Nat.le_trans (List.length_filter_le _ _) (by simp [images])
def cuRes (n : Int) : Int × Bool := if 1 ≤ n ∧ n ≤ 5 then (((((allOf n.toNat).map fun m => (ownOf m : Int)).sum) / 8), true) else (0, false)
theorem cuAll (n : Int) : Ans (fun k => impl_CountUpToAll.f k n) (cuRes n) ∧ Ans (fun k => spec_CountUpToAll.f k n) (cuRes n) := by
  obtain ⟨res, hres⟩ : ∃ res : Int × Bool, res = cuRes n := ⟨_, rfl⟩
  rw [← hres]
  unfold cuRes at hres
  have e1 : Ans (fun k => spec_CountUpToAll.f k n) res := by
    simp only [spec_CountUpToAll.f, l1In, Option.bind_some]
    by_cases c : 1 ≤ n ∧ n ≤ 5
    · rw [if_pos c] at hres; subst hres
      refine Ans.yes (decide_eq_true c) ?_
      have hw := weAll n.toNat (by omega) (by omega)
      rw [Int.toNat_of_nonneg (by omega)] at hw
      refine hw.bind ?_
      have hm := allOf_many n.toNat (by omega)
      generalize hL : allOf n.toNat = L at *
      have hsq : ∀ y ∈ L, Sq n.toNat y := by rw [← hL]; exact allOf_sq _
      have key : ∀ (d : Nat) (i : Int) (s : Int), 0 ≤ i → i + d = L.length → 0 ≤ s → s + 8 * d ≤ 1000000000000 → Ans (fun k => spec_CountUpToAll.l0 k s L (L.length : Int) i) ((s + (((L.drop i.toNat).map fun m => (ownOf m : Int)).sum)) / 8, true) := by
        intro d
        induction d with
        | zero =>
          intro i s h0 h1 h2 h3
          rw [List.drop_eq_nil_of_le (by omega)]; refine Ans.step ?_
          simp only [spec_CountUpToAll.l0, List.map_nil, List.sum_nil, Int.add_zero]
          rw [Int.tdiv_eq_ediv_of_nonneg h2, wrap64_in (s / 8) ⟨by omega, by omega⟩]
          exact Ans.not (by omega) (Ans.pure _)
        | succ d ih =>
          intro i s h0 h1 h2 h3
          have hlt : i.toNat < L.length := by omega
          have hx := hsq _ (getD_mem [] hlt)
          obtain ⟨r, hr, ha⟩ := smOwn n.toNat (by omega) _ hx
          have h8 := own_le (L.getD i.toNat [])
          have e := ih (i + 1) (s + (ownOf (L.getD i.toNat []) : Int)) (by omega) (by omega) (by omega) (by omega)
          rw [show (i + 1).toNat = i.toNat + 1 by omega] at e
          rw [drop_at L [] hlt, List.map_cons, List.sum_cons, ← Int.add_assoc]
          refine Ans.step ?_
          simp only [spec_CountUpToAll.l0, show ∀ j, rd_L4 L j = L.getD j.toNat [] from fun _ => rfl, wrap64_up h0 (by omega : i ≤ 4611686018427387904)]
          refine Ans.yes (by omega) (Ans.yes h0 (Ans.yes (by omega) (ha.bind ?_)))
          rw [hr, wrap64_in _ ⟨by omega, by omega⟩]
          exact e
      have := key L.length 0 0 (by omega) (by omega) (by omega) (by omega)
      simpa using this
    · rw [if_neg c] at hres; subst hres; exact Ans.not (by simp only [decide_eq_true_iff]; exact c) (Ans.pure _)
  have e2 : Ans (fun k => impl_CountUpToAll.f k n) res := by
    simp only [impl_CountUpToAll.f, within, Option.bind_some]
    by_cases c : 1 ≤ n ∧ n ≤ 5
    · rw [if_pos c] at hres; subst hres
      refine Ans.yes (decide_eq_true c) ?_
      have := total n.toNat (by omega) (fun k x0_ => impl_CountUpToAll_1.f k x0_) (fun m => if isLeast m = true then 1 else 0) (fun m hm => by
        simp only [impl_CountUpToAll_1.f]
        refine (eight n.toNat m hm (by omega)).bind ((minFunc n.toNat (by omega) (images m) (images_sq hm) (by simp [images]) m _ rfl).bind ?_)
        have hl : ∀ (xs : List (List (List Int))) (y : List (List Int)), Sq n.toNat y → (∀ z ∈ xs, Sq n.toNat z) → Sq n.toNat (leastOf y xs) := by
          intro xs
          induction xs with
          | nil => intro y hy _; exact hy
          | cons z xs ih =>
            intro y hy hz
            rw [leastOf]
            split
            · exact ih z (hz z (by simp)) (fun u hu => hz u (by simp [hu]))
            · exact ih y hy (fun u hu => hz u (by simp [hu]))
        have hi := images_sq hm
        have hsq := hl _ m hm (fun z hz => hi z (List.mem_cons_of_mem _ hz))
        refine (tablesSame n.toNat _ m hsq hm (by omega)).bind ?_
        simp only [impl_bit.f]
        by_cases q : isLeast m = true
        · rw [if_pos q]
          have q2 : cmpLL (leastOf m [cw m, cw (cw m), cw (cw (cw m)), mir m, mir (cw m), mir (cw (cw m)), mir (cw (cw (cw m)))]) m = 0 := of_decide_eq_true q
          rw [q2]; exact Ans.pure _
        · rw [if_neg q]
          have q2 : ¬ cmpLL (leastOf m [cw m, cw (cw m), cw (cw (cw m)), mir m, mir (cw m), mir (cw (cw m)), mir (cw (cw (cw m)))]) m = 0 := fun h => q (decide_eq_true h)
          rw [if_neg (by simpa using q2)]; exact Ans.pure _) (fun m _ => by split <;> omega)
      rw [burnside n.toNat (by omega) (by omega), Int.toNat_of_nonneg (by omega)] at this
      exact this.bind (Ans.pure _)
    · rw [if_neg c] at hres; subst hres; exact Ans.not (by simp only [decide_eq_true_iff]; exact c) (Ans.pure _)
  exact ⟨e2, e1⟩
/-- The reader of draws: from place a on, at most n places on. -/
theorem draw_next (c : List Int) (hc : ∀ x ∈ c, (Lit.int .u8 x).wf = true) (a s : Int) (h0 : 0 ≤ a) (h1 : a ≤ 2305843009213693952) : ∃ b s', spec_l1Cur_next.f c a s = some (b, a + 1, s') ∧ 0 ≤ b ∧ b ≤ 255 := by
  have hw : wrap64 (a + 1) = a + 1 := wrap64_in _ ⟨by omega, by omega⟩
  simp only [spec_l1Cur_next.f, hw]
  by_cases c1 : a < (c.length : Int)
  · have hr := byte_wf (hc (rd c a) (getD_mem 0 (by omega)))
    have hw2 : wrap64 (rd c a) = rd c a := wrap64_in _ ⟨by omega, by omega⟩
    rw [if_pos c1, if_pos h0, if_pos (by omega)]
    exact ⟨_, _, rfl, by rw [hw2]; exact hr.1, by rw [hw2]; exact hr.2⟩
  · rw [if_neg c1, if_neg (by omega)]
    exact ⟨_, _, rfl, (byte_and _).1, (byte_and _).2⟩
theorem tmod_in {x n : Int} (h : 0 ≤ x) (hn : 1 < n) : 0 ≤ Int.tmod x n ∧ Int.tmod x n < n := ⟨Int.tmod_nonneg _ h, Int.tmod_lt_of_pos _ (by omega)⟩
theorem draw_pick (c : List Int) (hc : ∀ x ∈ c, (Lit.int .u8 x).wf = true) (a s n : Int) (h0 : 0 ≤ a) (h1 : a ≤ 1152921504606846976) : ∃ v a' s', spec_l1Cur_pick.f c a s n = some (v, a', s') ∧ a ≤ a' ∧ a' ≤ a + 2 ∧ 0 ≤ v ∧ (v < n ∨ v = 0) := by
  simp only [spec_l1Cur_pick.f]
  by_cases c1 : n ≤ 1
  · rw [if_pos c1]; exact ⟨_, _, _, rfl, by omega, by omega, by omega, by omega⟩
  · rw [if_neg c1]
    obtain ⟨b, s1, e1, b0, b1⟩ := draw_next c hc a s h0 (by omega)
    rw [e1]; simp only [Option.bind_some]
    by_cases c2 : n > 200
    · rw [if_pos c2]
      obtain ⟨b', s2, e2, b0', b1'⟩ := draw_next c hc (a + 1) s1 (by omega) (by omega)
      rw [e2]; simp only [Option.bind_some]
      rw [if_neg (by omega), wrap64_in (b * 256) ⟨by omega, by omega⟩, wrap64_in (b * 256 + b') ⟨by omega, by omega⟩]
      have := tmod_in (x := b * 256 + b') (n := n) (by omega) (by omega)
      exact ⟨_, _, _, rfl, by omega, by omega, this.1, .inl this.2⟩
    · rw [if_neg c2, if_neg (by omega)]
      have := tmod_in (x := b) (n := n) (by omega) (by omega)
      exact ⟨_, _, _, rfl, by omega, by omega, this.1, .inl this.2⟩
theorem draw_one (c : List Int) (hc : ∀ x ∈ c, (Lit.int .u8 x).wf = true) (a s n : Int) (h0 : 0 ≤ a) (h1 : a ≤ 1152921504606846976) : ∃ v a' s', spec_l1Cur_one.f c a s n = some (v, a', s') ∧ a ≤ a' ∧ a' ≤ a + 2 := by
  obtain ⟨v, a', s', e, h2, h3, _⟩ := draw_pick c hc a s n h0 h1
  simp only [spec_l1Cur_one.f, e, Option.bind_some]
  exact ⟨_, _, _, rfl, h2, h3⟩
theorem draw_among (c : List Int) (hc : ∀ x ∈ c, (Lit.int .u8 x).wf = true) (a s : Int) (l : List Int) (hl : 0 < l.length) (h0 : 0 ≤ a) (h1 : a ≤ 1152921504606846976) : ∃ v a' s', spec_l1Cur_among.f c a s l = some (v, a', s') ∧ a ≤ a' ∧ a' ≤ a + 2 ∧ v ∈ l := by
  obtain ⟨v, a', s', e, h2, h3, h4, h5⟩ := draw_pick c hc a s (l.length : Int) h0 h1
  simp only [spec_l1Cur_among.f, e, Option.bind_some]
  rw [if_pos h4, if_pos (by omega)]
  exact ⟨_, _, _, rfl, h2, h3, getD_mem 0 (by omega)⟩
theorem draw_side (c : List Int) (hc : ∀ x ∈ c, (Lit.int .u8 x).wf = true) (a s n : Int) (hn : 1 ≤ n) (hn2 : n ≤ 100) (h0 : 0 ≤ a) (h1 : a ≤ 1000000000000000) : ∃ v a' s', spec_l1Cur_side.f c a s n = some (v, a', s') ∧ a ≤ a' ∧ a' ≤ a + 4 ∧ -1 ≤ v ∧ v ≤ n + 1 := by
  have w : wrap64 (n + 1) = n + 1 := wrap64_in _ ⟨by omega, by omega⟩
  obtain ⟨v, a1, s1, e1, p1, q1⟩ := draw_one c hc a s 8 h0 (by omega)
  simp only [spec_l1Cur_side.f, e1, Option.bind_some, w]
  cases v with
  | true =>
    obtain ⟨u, a2, s2, e2, p2, q2, hu⟩ := draw_among c hc a1 s1 [(-1), 0, 1, n, n + 1] (by simp) (by omega) (by omega)
    rw [if_pos rfl, e2]
    refine ⟨u, a2, s2, rfl, by omega, by omega, ?_⟩
    simp only [List.mem_cons, List.mem_nil_iff, or_false] at hu
    omega
  | false =>
    obtain ⟨u, a2, s2, e2, p2, q2, u0, u1⟩ := draw_pick c hc a1 s1 n (by omega) (by omega)
    rw [if_neg (by simp), e2]
    simp only [Option.bind_some, wrap64_in (1 + u) ⟨by omega, by omega⟩]
    exact ⟨_, a2, s2, rfl, by omega, by omega, by omega, by omega⟩
theorem uSame (x y : List Int) (hx : x.length ≤ 17592186044416) : Ans (fun k => laws_uSame.f k x y) (decide (x = y)) := by
  simp only [laws_uSame.f]
  by_cases hl : (x.length : Int) = (y.length : Int)
  · refine Ans.yes hl ?_
    have key : ∀ (d : Nat) (i : Int), 0 ≤ i → i + d = x.length → Ans (fun k => laws_uSame.l0 k x y (x.length : Int) i) (decide (x.drop i.toNat = y.drop i.toNat)) := by
      intro d
      induction d with
      | zero =>
        intro i h0 h1
        refine Ans.step ?_
        simp only [laws_uSame.l0]
        rw [drop_all x (by omega), drop_all y (by omega)]
        exact Ans.not (by omega) (Ans.pure _)
      | succ d ih =>
        intro i h0 h1
        refine Ans.step ?_
        simp only [laws_uSame.l0]
        refine Ans.yes (by omega) (Ans.yes h0 (Ans.yes (by omega) (Ans.yes (by omega) ?_)))
        rw [drop_at x 0 (show i.toNat < x.length by omega), drop_at y 0 (show i.toNat < y.length by omega)]
        by_cases c : rd x i = rd y i
        · have e := ih (i + 1) (by omega) (by omega)
          rw [wrap64_in (i + 1) ⟨by omega, by omega⟩]
          rw [show (i + 1).toNat = i.toNat + 1 by omega] at e
          refine Ans.yes c ?_
          rw [show x.getD i.toNat 0 = y.getD i.toNat 0 from c]
          simpa using e
        · refine Ans.not c ?_
          rw [show decide (x.getD i.toNat 0 :: x.drop (i.toNat + 1) = y.getD i.toNat 0 :: y.drop (i.toNat + 1)) = false from decide_eq_false (fun h => c (by injection h))]
          exact Ans.pure _
    exact key x.length 0 (by omega) (by omega)
  · refine Ans.not hl ?_
    rw [decide_eq_false (fun h => hl (by rw [h]))]
    exact Ans.pure _
theorem uSameRows (x : List (List Int)) (hx : x.length ≤ 1000000) (hr : ∀ r ∈ x, r.length ≤ 1000000) : Ans (fun k => laws_uSameRows.f k x x) true := by
  simp only [laws_uSameRows.f]
  refine Ans.yes trivial ?_
  have key : ∀ (d : Nat) (i : Int), 0 ≤ i → i + d = x.length → Ans (fun k => laws_uSameRows.l0 k x x (x.length : Int) i) true := by
    intro d
    induction d with
    | zero => intro i h0 h1; exact Ans.step (by simp only [laws_uSameRows.l0]; exact Ans.not (by omega) (Ans.pure _))
    | succ d ih =>
      intro i h0 h1
      have hm := hr _ (rd_L1_mem h0 (show i < x.length by omega))
      refine Ans.step ?_
      simp only [laws_uSameRows.l0, wrap64_in (i + 1) ⟨by omega, by omega⟩]
      exact Ans.yes (by omega) (Ans.yes h0 (Ans.yes (by omega) (Ans.yes (by omega) ((uSame _ _ (by omega)).bind (Ans.yes (by simp) (ih (i + 1) (by omega) (by omega)))))))
  exact key x.length 0 (by omega) (by omega)
theorem big_ans (c m : List Int) : ∃ b, laws_big.f c m = some b := by
  simp only [laws_big.f]
  split
  · exact ⟨_, rfl⟩
  · exact ⟨_, rfl⟩
theorem draw_kind (c : List Int) (hc : ∀ x ∈ c, (Lit.int .u8 x).wf = true) (a s : Int) (h0 : 0 ≤ a) (h1 : a ≤ 1000000000000000) : ∃ v a' s', spec_l1Cur_kind.f c a s = some (v, a', s') ∧ -1 ≤ v ∧ v ≤ 6 := by
  obtain ⟨u, a1, s1, e1, p1, q1, u0, u1⟩ := draw_pick c hc a s 7 h0 (by omega)
  obtain ⟨v, a2, s2, e2, p2, q2, v0, v1⟩ := draw_pick c hc a1 s1 9 (by omega) (by omega)
  simp only [spec_l1Cur_kind.f, e1, e2, Option.bind_some]
  have t : Int.tdiv v 8 = v / 8 := Int.tdiv_eq_ediv_of_nonneg v0
  rw [t, wrap64_in (v / 8) ⟨by omega, by omega⟩, wrap64_in (u - v / 8) ⟨by omega, by omega⟩]
  exact ⟨_, a2, s2, rfl, by omega, by omega⟩
/-- Each before the next one. -/
def chain : List (List (List Int)) → Bool
  | x :: y :: l => decide (cmpLL x y < 0) && chain (y :: l)
  | _ => true
def chkList (n : Nat) (a : Int) : Bool := ((allOf n).filter (fun m => hasK m a)).all sign && chain ((allOf n).filter (fun m => hasK m a))
theorem chkList_all : ∀ n : Nat, 1 ≤ n → n ≤ 5 → ∀ a : Int, 0 ≤ a → a ≤ 4 → chkList n a = true := by
  intro n h1 h2 a a0 a4
  rcases (show a = 0 ∨ a = 1 ∨ a = 2 ∨ a = 3 ∨ a = 4 by omega) with rfl | rfl | rfl | rfl | rfl
  all_goals rcases (show n = 1 ∨ n = 2 ∨ n = 3 ∨ n = 4 ∨ n = 5 by omega) with rfl | rfl | rfl | rfl | rfl
  all_goals decide +kernel
theorem chain_at : ∀ (L : List (List (List Int))) (i : Nat), chain L = true → i + 1 < L.length → cmpLL (L.getD i []) (L.getD (i + 1) []) < 0
  | [], _, _, h => by simp at h
  | [_], i, _, h => by simp at h
  | x :: y :: l, i, c, h => by
    rw [chain, Bool.and_eq_true] at c
    cases i with
    | zero => simpa using of_decide_eq_true c.1
    | succ i =>
      have := chain_at (y :: l) i c.2 (by simpa using h)
      simpa using this
theorem uLess (n : Nat) (x y : List Int) (hx : x.length = n) (hy : y.length = n) (hn : n ≤ 100) : Ans (fun k => laws_uLess.f k x y) (decide (cmpL x y < 0)) := by
  have key : ∀ (d i : Nat), i + d = n → Ans (fun k => laws_uLess.l0 k x y (n : Int) (i : Int)) (decide (cmpL (x.drop i) (y.drop i) < 0)) := by
    intro d
    induction d with
    | zero =>
      intro i h
      rw [drop_all x (by omega), drop_all y (by omega)]
      refine Ans.step ?_
      simp only [laws_uLess.l0]
      exact Ans.not (by omega) (Ans.pure _)
    | succ d ih =>
      intro i h
      have e := ih (i + 1) (by omega)
      rw [show ((i + 1 : Nat) : Int) = (i : Int) + 1 by omega] at e
      rw [drop_at x 0 (show i < x.length by omega), drop_at y 0 (show i < y.length by omega)]
      refine Ans.step ?_
      simp only [laws_uLess.l0, wrap64_up (show (0 : Int) ≤ i by omega) (by omega), show rd x (i : Int) = x.getD i 0 by simp only [rd, Int.toNat_natCast], show rd y (i : Int) = y.getD i 0 by simp only [rd, Int.toNat_natCast]]
      refine Ans.yes (by omega) (Ans.yes (by omega) (Ans.yes (by omega) (Ans.yes (by omega) ?_)))
      by_cases c : x.getD i 0 = y.getD i 0
      · rw [show cmpL (x.getD i 0 :: x.drop (i + 1)) (y.getD i 0 :: y.drop (i + 1)) = cmpL (x.drop (i + 1)) (y.drop (i + 1)) from if_pos (cmpI_zero.mpr c)]
        exact Ans.yes c e
      · rw [show cmpL (x.getD i 0 :: x.drop (i + 1)) (y.getD i 0 :: y.drop (i + 1)) = cmpI (x.getD i 0) (y.getD i 0) from if_neg (fun h => c (cmpI_zero.mp h))]
        have one : decide (x.getD i 0 < y.getD i 0) = decide (cmpI (x.getD i 0) (y.getD i 0) < 0) := by
          unfold cmpI
          by_cases l : x.getD i 0 < y.getD i 0
          · rw [if_pos l, decide_eq_true l]; rfl
          · rw [if_neg l, if_pos (by omega), decide_eq_false l]; rfl
        rw [← one]
        exact Ans.not c (Ans.pure _)
  simp only [laws_uLess.f, hx]
  exact key n 0 (by omega)
theorem uBefore (n : Nat) (x y : List (List Int)) (hx : Sq n x) (hy : Sq n y) (hn : n ≤ 100) : Ans (fun k => laws_uBefore.f k x y) (decide (cmpLL x y < 0)) := by
  have hlx := hx.1
  have hly := hy.1
  have key : ∀ (d i : Nat), i + d = n → Ans (fun k => laws_uBefore.l0 k y x (n : Int) (i : Int)) (decide (cmpLL (x.drop i) (y.drop i) < 0)) := by
    intro d
    induction d with
    | zero =>
      intro i h
      rw [drop_all x (by omega), drop_all y (by omega)]
      refine Ans.step ?_
      simp only [laws_uBefore.l0]
      exact Ans.not (by omega) (Ans.pure _)
    | succ d ih =>
      intro i h
      have e := ih (i + 1) (by omega)
      rw [show ((i + 1 : Nat) : Int) = (i : Int) + 1 by omega] at e
      have rx := hx.row (show i < n by omega)
      have ry := hy.row (show i < n by omega)
      rw [drop_at x [] (show i < x.length by omega), drop_at y [] (show i < y.length by omega)]
      refine Ans.step ?_
      simp only [laws_uBefore.l0, wrap64_up (show (0 : Int) ≤ i by omega) (by omega), show rd_L3 x (i : Int) = x.getD i [] by simp only [rd_L3, Int.toNat_natCast], show rd_L3 y (i : Int) = y.getD i [] by simp only [rd_L3, Int.toNat_natCast]]
      refine Ans.yes (by omega) (Ans.yes (by omega) (Ans.yes (by omega) (Ans.yes (by omega) ((uSame _ _ (by omega)).bind ?_))))
      by_cases c : x.getD i [] = y.getD i []
      · rw [show cmpLL (x.getD i [] :: x.drop (i + 1)) (y.getD i [] :: y.drop (i + 1)) = cmpLL (x.drop (i + 1)) (y.drop (i + 1)) from if_pos ((cmpL_zero _ _).mpr c)]
        exact Ans.yes (decide_eq_true c) e
      · rw [show cmpLL (x.getD i [] :: x.drop (i + 1)) (y.getD i [] :: y.drop (i + 1)) = cmpL (x.getD i []) (y.getD i []) from if_neg (fun h => c ((cmpL_zero _ _).mp h))]
        exact Ans.not (by simpa using c) ((uLess n _ _ rx ry hn).bind (Ans.pure _))
  simp only [laws_uBefore.f, hlx]
  exact key n 0 (by omega)
/-- The formulas, as they are computed. -/
def hfRes (n : Int) : Int × Bool := (impl_HalfTurnFormula.f 400 n).getD (0, false)
def mfRes (n : Int) : Int × Bool := (impl_MirrorFormula.f 400 n).getD (0, false)
def chkHalf (n : Int) : Bool := decide (impl_HalfTurnFormula.f 400 n = some (hfRes n)) && decide (spec_HalfTurnFormula.f 400 n = some (hfRes n)) && (!((hfRes n).2 && decide (n ≤ 2)) || decide (csRes (2 * n) 0 = ((hfRes n).1, true)))
def chkMirror (n : Int) : Bool := decide (impl_MirrorFormula.f 400 n = some (mfRes n)) && decide (spec_MirrorFormula.f 400 n = some (mfRes n)) && (!((mfRes n).2 && decide (n ≤ 2)) || decide (csRes (2 * n + 1) 2 = ((mfRes n).1, true)))
theorem chkHalf_all (n : Int) (h0 : -1 ≤ n) (h1 : n ≤ 7) : chkHalf n = true := by
  rcases (show n = -1 ∨ n = 0 ∨ n = 1 ∨ n = 2 ∨ n = 3 ∨ n = 4 ∨ n = 5 ∨ n = 6 ∨ n = 7 by omega) with rfl | rfl | rfl | rfl | rfl | rfl | rfl | rfl | rfl
  all_goals decide +kernel
theorem chkMirror_all (n : Int) (h0 : -2 ≤ n) (h1 : n ≤ 6) : chkMirror n = true := by
  rcases (show n = -2 ∨ n = -1 ∨ n = 0 ∨ n = 1 ∨ n = 2 ∨ n = 3 ∨ n = 4 ∨ n = 5 ∨ n = 6 by omega) with rfl | rfl | rfl | rfl | rfl | rfl | rfl | rfl | rfl
  all_goals decide +kernel
def chkCu (n : Nat) : Bool := decide (impl_CountSigns.f 60 n = some (((allOf n).length : Int), true)) && decide (((allOf n).length : Int) ≤ 8 * (cuRes n).1) && decide ((cuRes n).1 ≤ ((allOf n).length : Int))
theorem chkCu_all : ∀ n : Nat, 1 ≤ n → n ≤ 5 → chkCu n = true := by
  intro n h1 h2
  rcases (show n = 1 ∨ n = 2 ∨ n = 3 ∨ n = 4 ∨ n = 5 by omega) with rfl | rfl | rfl | rfl | rfl
  all_goals decide +kernel
theorem law_j8 (u : Int) (h0 : -1 ≤ u) (h1 : u ≤ 6) : Ans (fun k => laws_FnSymmetricCounted.j8 k u (cuRes u).1 (cuRes u).2 false) true := by
  refine Ans.step ?_
  simp only [laws_FnSymmetricCounted.j8]
  refine Ans.not (by simp) ?_
  by_cases c : 1 ≤ u ∧ u ≤ 5
  case neg => rw [show cuRes u = (0, false) from if_neg c]; exact Ans.not (by simp) (Ans.pure _)
  obtain ⟨n, rfl⟩ : ∃ n : Nat, u = n := ⟨u.toNat, by omega⟩
  have h := chkCu_all n (by omega) (by omega)
  unfold chkCu at h
  simp only [Bool.and_eq_true, decide_eq_true_eq] at h
  obtain ⟨⟨c1, c2⟩, c3⟩ := h
  have few := allOf_few n (by omega)
  have C : Ans (fun k => impl_CountSigns.f k n) (((allOf n).length : Int), true) := LeO.far (fun k => impl_CountSigns.mono _ _) 60 c1
  have two : (cuRes n).2 = true := by rw [show cuRes n = _ from if_pos c]
  refine Ans.yes two (C.bind (Ans.yes rfl ?_))
  rw [wrap64_in (8 * (cuRes n).1) ⟨by omega, by omega⟩]
  refine Ans.yes (by omega) ?_
  rw [decide_eq_true c3]; exact Ans.pure _
theorem law_j7 (c : List Int) (hc : ∀ x ∈ c, (Lit.int .u8 x).wf = true) : Ans (fun k => laws_FnSymmetricCounted.j7 k c) true := by
  obtain ⟨u, a1, s1, e1, _, _, u0, u1⟩ := draw_side c hc 0 0 5 (by omega) (by omega) (by omega) (by omega)
  have D1 : spec_DrawCountUpToAll.f c = some u := by simp only [spec_DrawCountUpToAll.f, e1, Option.bind_some]
  obtain ⟨n, a, D2⟩ : ∃ n a, spec_DrawCountSymmetric.f c = some (n, a) := by
    obtain ⟨v, a2, s2, e2, p2, q2⟩ := draw_one c hc 0 0 20 (by omega) (by omega)
    simp only [spec_DrawCountSymmetric.f, e2, Option.bind_some]
    cases v with
    | true =>
      obtain ⟨n, a3, s3, e3, p3, q3, _⟩ := draw_among c hc a2 s2 [6, 7] (by simp) (by omega) (by omega)
      obtain ⟨a, a4, s4, e4, _⟩ := draw_kind c hc a3 s3 (by omega) (by omega)
      rw [if_pos rfl, e3]
      simp only [Option.bind_some, e4]
      exact ⟨_, _, rfl⟩
    | false =>
      obtain ⟨n, a3, s3, e3, p3, q3, _⟩ := draw_side c hc a2 s2 5 (by omega) (by omega) (by omega) (by omega)
      obtain ⟨a, a4, s4, e4, _⟩ := draw_kind c hc a3 s3 (by omega) (by omega)
      rw [if_neg (by simp), e3]
      simp only [Option.bind_some, e4]
      exact ⟨_, _, rfl⟩
  have U := cuAll u
  have N := countSym n a
  refine Ans.step ?_
  simp only [laws_FnSymmetricCounted.j7, D1, D2, Option.bind_some]
  refine U.1.bind (U.2.bind (N.1.bind (N.2.bind (Ans.not (by simp) (Ans.yes rfl (Ans.not (by simp) ?_))))))
  rw [show ((csRes n a).1 != (csRes n a).1) = false by simp]
  exact law_j8 u u0 u1
theorem law_j2 (c : List Int) (hc : ∀ x ∈ c, (Lit.int .u8 x).wf = true) : Ans (fun k => laws_FnSymmetricCounted.j2 k c) true := by
  obtain ⟨u, a1, s1, e1, _, _, u0, u1⟩ := draw_side c hc 0 0 6 (by omega) (by omega) (by omega) (by omega)
  have D1 : spec_DrawHalfTurnFormula.f c = some u := by simp only [spec_DrawHalfTurnFormula.f, e1, Option.bind_some]
  have D2 : spec_DrawMirrorFormula.f c = some (u - 1) := by simp only [spec_DrawMirrorFormula.f, e1, Option.bind_some]; rw [wrap64_in _ ⟨by omega, by omega⟩]
  have h := chkHalf_all u u0 (by omega)
  have m := chkMirror_all (u - 1) (by omega) (by omega)
  unfold chkHalf at h
  unfold chkMirror at m
  simp only [Bool.and_eq_true, decide_eq_true_eq, Bool.or_eq_true, Bool.not_eq_true', Bool.and_eq_false_iff] at h m
  obtain ⟨⟨h1, h2⟩, h3⟩ := h
  obtain ⟨⟨m1, m2⟩, m3⟩ := m
  have H1 : Ans (fun k => impl_HalfTurnFormula.f k u) (hfRes u) := LeO.far (fun k => impl_HalfTurnFormula.mono _ _) 400 h1
  have H2 : Ans (fun k => spec_HalfTurnFormula.f k u) (hfRes u) := LeO.far (fun k => spec_HalfTurnFormula.mono _ _) 400 h2
  have M1 : Ans (fun k => impl_MirrorFormula.f k (u - 1)) (mfRes (u - 1)) := LeO.far (fun k => impl_MirrorFormula.mono _ _) 400 m1
  have M2 : Ans (fun k => spec_MirrorFormula.f k (u - 1)) (mfRes (u - 1)) := LeO.far (fun k => spec_MirrorFormula.mono _ _) 400 m2
  generalize hfRes u = p at *
  generalize hv : u - 1 = v at *
  generalize mfRes v = q at *
  refine Ans.step ?_
  simp only [laws_FnSymmetricCounted.j2, D1, D2, Option.bind_some]
  refine H1.bind (H2.bind (M1.bind (M2.bind (Ans.not (by simp) (Ans.yes rfl (Ans.not (by simp) ?_))))))
  rw [show (q.1 != q.1) = false by simp]
  refine Ans.step ?_
  simp only [laws_FnSymmetricCounted.j3]
  refine Ans.not (by simp) ?_
  have J6 : ∀ b : Bool, (b = true → q.2 = true ∧ v ≤ 2) → Ans (fun k => laws_FnSymmetricCounted.j6 k c v q.1 b) true := by
    intro b hb
    refine Ans.step ?_
    simp only [laws_FnSymmetricCounted.j6]
    cases b with
    | false => exact Ans.not (by simp) (law_j7 c hc)
    | true =>
      obtain ⟨g1, g2⟩ := hb rfl
      have cs : csRes (2 * v + 1) 2 = (q.1, true) := by
        rcases m3 with h | h
        · rcases h with h | h
          · rw [g1] at h; cases h
          · rw [decide_eq_true g2] at h; cases h
        · exact h
      have N := (countSym (2 * v + 1) 2).1
      rw [cs] at N
      rw [wrap64_in (2 * v) ⟨by omega, by omega⟩, wrap64_in (2 * v + 1) ⟨by omega, by omega⟩]
      exact Ans.yes rfl (N.bind (Ans.yes rfl (Ans.yes rfl (law_j7 c hc))))
  have J5 : Ans (fun k => laws_FnSymmetricCounted.j5 k c v q.1 q.2) true := by
    refine Ans.step ?_
    simp only [laws_FnSymmetricCounted.j5]
    by_cases g : q.2 = true
    · exact Ans.yes g (J6 _ (fun h => ⟨g, of_decide_eq_true h⟩))
    · exact Ans.not g (J6 _ (fun h => by cases h))
  have J4 : ∀ b : Bool, (b = true → p.2 = true ∧ u ≤ 2) → Ans (fun k => laws_FnSymmetricCounted.j4 k c u p.1 v q.1 q.2 b) true := by
    intro b hb
    refine Ans.step ?_
    simp only [laws_FnSymmetricCounted.j4]
    cases b with
    | false => exact Ans.not (by simp) J5
    | true =>
      obtain ⟨g1, g2⟩ := hb rfl
      have cs : csRes (2 * u) 0 = (p.1, true) := by
        rcases h3 with h | h
        · rcases h with h | h
          · rw [g1] at h; cases h
          · rw [decide_eq_true g2] at h; cases h
        · exact h
      have N := (countSym (2 * u) 0).1
      rw [cs] at N
      rw [wrap64_in (2 * u) ⟨by omega, by omega⟩]
      exact Ans.yes rfl (N.bind (Ans.yes rfl (Ans.yes rfl J5)))
  by_cases g : p.2 = true
  · exact Ans.yes g (J4 _ (fun h => ⟨g, of_decide_eq_true h⟩))
  · exact Ans.not g (J4 _ (fun h => by cases h))
theorem law_l0 (c : List Int) (hc : ∀ x ∈ c, (Lit.int .u8 x).wf = true) (n : Nat) (h1 : 1 ≤ n) (h5 : n ≤ 5) (a : Int) (a0 : 0 ≤ a) (a4 : a ≤ 4) (L : List (List (List Int))) (hL : L = (allOf n).filter (fun m => hasK m a)) :
    ∀ (d i : Nat), i + d = L.length → Ans (fun k => laws_FnSymmetricCounted.l0 k c (n : Int) a L true L L (L.length : Int) (i : Int)) true := by
  have ck := chkList_all n h1 h5 a a0 a4
  unfold chkList at ck
  rw [Bool.and_eq_true, ← hL] at ck
  have sm := ls_small n h5 a
  rw [← hL] at sm
  have hk : ∀ y ∈ L, hasK y a = true ∧ Sq n y := fun y hy => by
    rw [hL] at hy
    exact ⟨(List.mem_filter.1 hy).2, allOf_sq n y (List.mem_filter.1 hy).1⟩
  have cs : csRes n a = ((L.length : Int), true) := by
    unfold csRes
    rw [if_pos ⟨by omega, by omega⟩, if_pos ⟨a0, a4⟩, Int.toNat_natCast, hL]
  have N := (countSym n a).1
  rw [cs] at N
  clear cs hL
  intro d
  induction d with
  | zero =>
    intro i h
    refine Ans.step ?_
    simp only [laws_FnSymmetricCounted.l0]
    exact Ans.not (by omega) (Ans.yes (by simp) (N.bind (Ans.yes rfl (Ans.yes rfl (law_j2 c hc)))))
  | succ d ih =>
    intro i h
    have e := ih (i + 1) (by omega)
    rw [show ((i + 1 : Nat) : Int) = (i : Int) + 1 by omega] at e
    have hi : i < L.length := by omega
    obtain ⟨k1, k2⟩ := hk _ (getD_mem [] hi)
    have sg := List.all_eq_true.mp ck.1 _ (getD_mem [] hi)
    have hs := hasSymmetry (L.getD i []) (by rw [k2.1]; omega) a (true, true) (by rw [if_pos sg, if_pos ⟨a0, a4⟩, k1])
    have same := uSameRows (L.getD i []) (by rw [k2.1]; omega) (fun r hr => by rw [k2.2 r hr]; omega)
    refine Ans.step ?_
    simp only [laws_FnSymmetricCounted.l0, wrap64_up (show (0 : Int) ≤ i by omega) (by omega), show ∀ j : Nat, rd_L4 L (j : Int) = L.getD j [] from fun j => by simp only [rd_L4, Int.toNat_natCast]]
    refine Ans.yes (by omega) (Ans.yes (by omega) (Ans.yes (by omega) (hs.bind (Ans.yes (by omega) (same.bind (Ans.yes rfl (Ans.yes rfl (Ans.yes rfl ?_))))))))
    by_cases z : i = 0
    · subst z; exact Ans.not (by omega) e
    · obtain ⟨j, rfl⟩ : ∃ j, i = j + 1 := ⟨i - 1, by omega⟩
      have w : wrap64 (((j + 1 : Nat) : Int) - 1) = (j : Int) := by rw [wrap64_in _ ⟨by omega, by omega⟩]; omega
      have lt := chain_at L j ck.2 hi
      have B := uBefore n (L.getD j []) (L.getD (j + 1) []) (hk _ (getD_mem [] (by omega))).2 k2 (by omega)
      rw [decide_eq_true lt] at B
      rw [w, show rd_L4 L (j : Int) = L.getD j [] by simp only [rd_L4, Int.toNat_natCast]]
      exact Ans.yes (by omega) (Ans.yes (by omega) (Ans.yes (by omega) (B.bind (Ans.yes rfl e))))
theorem FnSymmetricCounted : laws_FnSymmetricCounted.Pure := by
  intro c m _ _ hc _ _ hm
  refine Ans.at (g := fun k => laws_FnSymmetricCounted.f k c m) ?_
  simp only [laws_FnSymmetricCounted.f]
  obtain ⟨b, hb⟩ := big_ans c m
  simp only [hb, Option.bind_some]
  cases b with
  | true => exact Ans.yes rfl (Ans.pure _)
  | false =>
    refine Ans.not (by simp) ?_
    obtain ⟨n, a1, s1, e1, p1, q1, n0, n1⟩ := draw_side c hc 0 0 5 (by omega) (by omega) (by omega) (by omega)
    obtain ⟨a, a2, s2, e2, _⟩ := draw_kind c hc a1 s1 (by omega) (by omega)
    have D : spec_DrawListSymmetric.f c = some (n, a) := by simp only [spec_DrawListSymmetric.f, e1, e2, Option.bind_some]
    have L := listSym n a
    simp only [D, Option.bind_some]
    refine L.1.bind (L.2.bind (Ans.not (by simp) ?_))
    rw [show ((((lsRes n a).1.length : Int)) != ((lsRes n a).1.length : Int)) = false by simp]
    refine Ans.step ?_
    simp only [laws_FnSymmetricCounted.j0]
    refine Ans.not (by simp) ?_
    by_cases g : (1 ≤ n ∧ n ≤ 5) ∧ (0 ≤ a ∧ a ≤ 4)
    · obtain ⟨q, rfl⟩ : ∃ q : Nat, n = q := ⟨n.toNat, by omega⟩
      have e : lsRes q a = ((allOf q).filter (fun m => hasK m a), true) := by
        unfold lsRes; rw [if_pos g.1, if_pos g.2, Int.toNat_natCast]
      rw [e]
      exact law_l0 m hm q (by omega) (by omega) a g.2.1 g.2.2 _ rfl ((allOf q).filter (fun m => hasK m a)).length 0 (by omega)
    · have e : lsRes n a = ([], false) := by
        unfold lsRes
        by_cases g1 : 1 ≤ n ∧ n ≤ 5
        · rw [if_pos g1, if_neg (fun h => g ⟨g1, h⟩)]
        · rw [if_neg g1]
      rw [e]
      refine Ans.step ?_
      simp only [laws_FnSymmetricCounted.l0]
      exact Ans.not (by simp) (Ans.not (by simp) (law_j2 m hm))

end Go.Proofs.Ytkbehdgneojdbaa.Pure
