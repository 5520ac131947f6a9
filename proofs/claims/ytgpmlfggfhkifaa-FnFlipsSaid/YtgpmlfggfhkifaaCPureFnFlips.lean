
import Derived.Test.YtgpmlfggfhkifaaCFnFlipsx8
import Derived.Test.YtgpmlfggfhkifaaQTwo
import Derived.Test.YtgpmlfggfhkifaaQByte
import Derived.Test.YtgpmlfggfhkifaaQByte
namespace Go.Proofs.Ytgpmlfggfhkifaa.Pure
open Go.RowKit Go.Proofs.Ytgpmlfggfhkifaa.X Go.Proofs.YtgpmlfggfhkifaaW.PrintWords Go.Proofs.YtgpmlfggfhkifaaW.PrintLast Go.Proofs.Ytgpmlfggfhkifaa.Q
set_option linter.unusedVariables false
set_option linter.unusedSimpArgs false
theorem rd_L1_mem {x : List (List Int)} {i : Int} (h0 : 0 ≤ i) (h1 : i < x.length) : rd_L3 x i ∈ x := by unfold rd_L3; exact getD_mem _ (by omega)
theorem LeO.far {α : Type} {g : Nat → Option α} {r : α} (h : ∀ k, LeO (g k) (g (k + 1))) (m : Nat) (e : g m = some r) : Ans g r :=
 ⟨m, fun k hk => by
  obtain ⟨j, rfl⟩ : ∃ j, k = m + j := ⟨k - m, by omega⟩
  clear hk
  induction j with
  | zero => exact e
  | succ j ih => exact h _ r ih⟩
theorem l1In (a b c : Int) : spec_l1In.f a b c = some (decide (b ≤ a ∧ a ≤ c)) := by
 unfold spec_l1In.f
 by_cases h : a ≥ b
 ·rw [if_pos h]; refine congrArg some (decide_eq_decide.mpr ⟨fun q => ⟨h, q⟩, fun q => q.2⟩)
 ·rw [if_neg h, decide_eq_false (by omega)]
theorem within (a b c : Int) : impl_within.f a b c = some (decide (b ≤ a ∧ a ≤ c)) := by
 unfold impl_within.f
 by_cases h : b ≤ a
 ·rw [if_pos h]; refine congrArg some (decide_eq_decide.mpr ⟨fun q => ⟨h, q⟩, fun q => q.2⟩)
 ·rw [if_neg h, decide_eq_false (by omega)]
theorem containsL (x : List (List Int)) (hx : x.length ≤ 17592186044416) (g : List Int → Option Bool) (p : List Int → Bool) (hg : ∀ a, g a = some (p a)) : Ans (fun k => slices_ContainsFunc_int_int.f k x g) (x.any p) := by
 have key : ∀ (d : Nat) (i : Int), 0 ≤ i → i + d = x.length → ∃ z : Int, Ans (fun k => slices_IndexFunc_int_int.l0 k x g (x.length : Int) i) z ∧ decide (z ≥ 0) = (x.drop i.toNat).any p := by
  intro d
  induction d with
  | zero =>
   intro i h0 h1
   refine ⟨-1, Ans.step ?_, by rw [List.drop_eq_nil_of_le (by omega)]; rfl⟩
   simp only [slices_IndexFunc_int_int.l0]; exact Ans.not (by omega) (Ans.pure _)
  | succ d ih =>
   intro i h0 h1
   have hd := drop_at x [] (show i.toNat < x.length by omega)
   by_cases c : p (rd_L3 x i) = true
   ·refine ⟨i, Ans.step ?_, by rw [hd, List.any_cons, show p (x.getD i.toNat []) = true from c]; simp [h0]⟩
    simp only [slices_IndexFunc_int_int.l0, hg, Option.bind_some]
    exact Ans.yes (by omega) (Ans.yes h0 (Ans.yes (by omega) (Ans.yes c (Ans.pure _))))
   ·obtain ⟨z, e, hz⟩ := ih (i + 1) (by omega) (by omega)
    refine ⟨z, Ans.step ?_, by rw [hz, hd, List.any_cons, show p (x.getD i.toNat []) = false from Bool.eq_false_iff.mpr c, show (i + 1).toNat = i.toNat + 1 by omega]; simp⟩
    simp only [slices_IndexFunc_int_int.l0, hg, Option.bind_some, wrap64_up h0 (by omega : i ≤ 4611686018427387904)]
    exact Ans.yes (by omega) (Ans.yes h0 (Ans.yes (by omega) (Ans.not c e)))
 obtain ⟨z, e, hz⟩ := key x.length 0 (by omega) (by omega)
 simp only [slices_ContainsFunc_int_int.f, slices_IndexFunc_int_int.f]
 have := e.bind (h := fun _ t => some (decide (t ≥ 0))) (Ans.pure (decide (z ≥ 0)))
 rwa [hz] at this
theorem isSquare (x : List (List Int)) (hx : x.length ≤ 17592186044416) : Ans (fun k => impl_isSquare.f k x) (x.all fun r => decide (r.length = x.length)) := by
 have e := containsL x hx (fun x0_ => impl_isSquare_1.f x0_ x) (fun r => (r.length : Int) != (x.length : Int)) (fun a => rfl)
 have := e.bind (h := fun _ t => some (!t)) (Ans.pure _)
 rw [List.not_any_eq_all_not] at this
 rwa [show (fun r : List Int => !((r.length : Int) != (x.length : Int))) = fun r => decide (r.length = x.length) from funext fun r => by by_cases h : r.length = x.length <;> simp [bne, h]; omega] at this
def colOf (x : List (List Int)) (j : Int) : List Int := x.map fun r => rd r j
theorem range_drop {n i : Nat} (h : i < n) : (List.range n).drop i = i :: (List.range n).drop (i + 1) := by
 rw [drop_at (List.range n) 0 (by simpa using h), getD_at _ _ (by simpa using h), List.getElem_range]
theorem sgTurn (x : List (List Int)) (h : x.length ≤ 1048576) (hr : ∀ r ∈ x, r.length = x.length) : Ans (fun k => spec_sgTurn.f k x) ((List.range x.length).map fun (j : Nat) => colOf x j) := by
 have inner : ∀ (out : List (List Int)) (j : Int) (R : List (List Int)), 0 ≤ j → j < x.length → out.length ≤ 1048576 → ∀ (d : Nat) (i : Int) (acc : List Int), 0 ≤ i → i + d = x.length → acc.length + d ≤ 1048576 →
   Ans (fun k => spec_sgTurn.l0 k x (out ++ [acc ++ colOf (x.drop i.toNat) j]) (x.length : Int) (j + 1)) R → Ans (fun k => spec_sgTurn.l1 k x out j acc (x.length : Int) j x (x.length : Int) i) R := by
  intro out j R hj hj' ho d
  induction d with
  | zero =>
   intro i acc h0 h1 h2 e
   rw [List.drop_eq_nil_of_le (by omega), colOf, List.map_nil, List.append_nil] at e; refine Ans.step ?_
   simp only [spec_sgTurn.l1, wrap64_up hj (by omega : j ≤ 4611686018427387904)]; exact Ans.not (by omega) (Ans.yes (by omega) e)
  | succ d ih =>
   intro i acc h0 h1 h2 e
   have hm := rd_L1_mem h0 (show i < x.length by omega)
   rw [drop_at x [] (show i.toNat < x.length by omega), show x.getD i.toNat [] = rd_L3 x i from rfl] at e
   refine Ans.step ?_
   simp only [spec_sgTurn.l1, wrap64_up h0 (by omega : i ≤ 4611686018427387904)]
   refine Ans.yes (by omega) (Ans.yes h0 (Ans.yes (by omega) (Ans.yes hj (Ans.yes (by have := hr _ hm; omega) (Ans.yes (by omega) (ih (i + 1) _ (by omega) (by omega) (by simp only [List.length_append, List.length_singleton]; omega) ?_))))))
   rw [show (i + 1).toNat = i.toNat + 1 by omega, List.append_assoc, List.singleton_append]
   exact e
 have key : ∀ (d : Nat) (j : Int) (out : List (List Int)), 0 ≤ j → j + d = x.length → out.length + d ≤ 1048576 → Ans (fun k => spec_sgTurn.l0 k x out (x.length : Int) j) (out ++ ((List.range x.length).drop j.toNat).map fun (j : Nat) => colOf x j) := by
  intro d
  induction d with
  | zero =>
   intro j out h0 h1 h2
   rw [List.drop_eq_nil_of_le (by simp only [List.length_range]; omega), List.map_nil, List.append_nil]; refine Ans.step ?_
   simp only [spec_sgTurn.l0]; exact Ans.not (by omega) (Ans.pure _)
  | succ d ih =>
   intro j out h0 h1 h2
   have e := ih (j + 1) (out ++ [colOf x j]) (by omega) (by omega) (by simp only [List.length_append, List.length_singleton]; omega)
   rw [show (j + 1).toNat = j.toNat + 1 by omega, List.append_assoc, List.singleton_append] at e
   rw [range_drop (show j.toNat < x.length by omega), List.map_cons, show ((j.toNat : Nat) : Int) = j by omega]
   refine Ans.step ?_
   simp only [spec_sgTurn.l0]
   exact Ans.yes (by omega) (inner out j _ h0 (by omega) (by omega) x.length 0 [] (by omega) (by omega) (by simp only [List.length_nil]; omega) e)
 exact key x.length 0 [] (by omega) (by omega) (by simp only [List.length_nil]; omega)
def walkOk : Int → List Int → Bool
 | s, [] => s == 1
 | s, a :: x => decide (-1 ≤ a ∧ a ≤ 1) && (decide (0 ≤ s + a ∧ s + a ≤ 1) && walkOk (s + a) x)
theorem alternate (x : List Int) (hx : x.length ≤ 17592186044416) : Ans (fun k => impl_alternate.f k x) (walkOk 0 x) := by
 have key : ∀ (d : Nat) (i s : Int), 0 ≤ i → i + d = x.length → 0 ≤ s → s ≤ 1 → Ans (fun k => impl_alternate.l0 k s x (x.length : Int) i) (walkOk s (x.drop i.toNat)) := by
  intro d
  induction d with
  | zero =>
   intro i s h0 h1 s0 s1
   rw [List.drop_eq_nil_of_le (by omega)]; refine Ans.step ?_
   simp only [impl_alternate.l0]; exact Ans.not (by omega) (Ans.pure _)
  | succ d ih =>
   intro i s h0 h1 s0 s1
   rw [drop_at x 0 (show i.toNat < x.length by omega), show x.getD i.toNat 0 = rd x i from rfl, walkOk]
   refine Ans.step ?_
   simp only [impl_alternate.l0, within, Option.bind_some, wrap64_up h0 (by omega : i ≤ 4611686018427387904)]
   refine Ans.yes (by omega) (Ans.yes h0 (Ans.yes (by omega) ?_))
   by_cases c1 : decide (-1 ≤ rd x i ∧ rd x i ≤ 1) = true
   ·have b1 := of_decide_eq_true c1
    have hw : wrap64 (s + rd x i) = s + rd x i := wrap64_in _ ⟨by omega, by omega⟩
    simp only [hw]
    rw [c1, Bool.true_and]
    refine Ans.yes rfl ?_
    by_cases c2 : decide (0 ≤ s + rd x i ∧ s + rd x i ≤ 1) = true
    ·have b2 := of_decide_eq_true c2
     have e := ih (i + 1) (s + rd x i) (by omega) (by omega) b2.1 b2.2
     rw [show (i + 1).toNat = i.toNat + 1 by omega] at e
     rw [c2, Bool.true_and]; exact Ans.yes rfl e
    ·rw [Bool.eq_false_iff.mpr c2, Bool.false_and]; exact Ans.not (by simp) (Ans.pure _)
   ·rw [Bool.eq_false_iff.mpr c1, Bool.false_and]; exact Ans.not (by simp) (Ans.pure _)
 exact key x.length 0 0 (by omega) (by omega) (by omega) (by omega)
theorem sgRows (x : List (List Int)) (hx : x.length ≤ 17592186044416) (hr : ∀ r ∈ x, r.length ≤ 17592186044416) : Ans (fun k => spec_sgRows.f k x) (x.all (walkOk 0)) := by
 have inner : ∀ (row : List Int) (m : Int) (R : Bool), row.length ≤ 17592186044416 → 0 ≤ m → m ≤ 17592186044416 → Ans (fun k => spec_sgRows.l0 k x (x.length : Int) (m + 1)) R →
   ∀ (d : Nat) (i s : Int), 0 ≤ i → i + d = row.length → 0 ≤ s → s ≤ 1 → Ans (fun k => spec_sgRows.l1 k s x (x.length : Int) m row (row.length : Int) i) (walkOk s (row.drop i.toNat) && R) := by
  intro row m R hrow hm hm' e d
  induction d with
  | zero =>
   intro i s h0 h1 s0 s1
   rw [List.drop_eq_nil_of_le (by omega), walkOk]; refine Ans.step ?_
   simp only [spec_sgRows.l1, wrap64_up hm (by omega : m ≤ 4611686018427387904)]
   refine Ans.not (by omega) ?_
   by_cases c : s = 1
   ·rw [show (s == 1) = true by simp [c], Bool.true_and]; exact Ans.yes c e
   ·rw [show (s == 1) = false by simp [c], Bool.false_and]; exact Ans.not c (Ans.pure _)
  | succ d ih =>
   intro i s h0 h1 s0 s1
   rw [drop_at row 0 (show i.toNat < row.length by omega), show row.getD i.toNat 0 = rd row i from rfl, walkOk]
   refine Ans.step ?_
   simp only [spec_sgRows.l1, l1In, Option.bind_some, wrap64_up h0 (by omega : i ≤ 4611686018427387904)]
   refine Ans.yes (by omega) (Ans.yes h0 (Ans.yes (by omega) ?_))
   by_cases c1 : decide (-1 ≤ rd row i ∧ rd row i ≤ 1) = true
   ·have b1 := of_decide_eq_true c1
    have hw : wrap64 (s + rd row i) = s + rd row i := wrap64_in _ ⟨by omega, by omega⟩
    simp only [hw]
    rw [c1, Bool.true_and]
    refine Ans.yes rfl ?_
    by_cases c2 : decide (0 ≤ s + rd row i ∧ s + rd row i ≤ 1) = true
    ·have b2 := of_decide_eq_true c2
     have e := ih (i + 1) (s + rd row i) (by omega) (by omega) b2.1 b2.2
     rw [show (i + 1).toNat = i.toNat + 1 by omega] at e
     rw [c2, Bool.true_and]; exact Ans.yes rfl e
    ·rw [Bool.eq_false_iff.mpr c2, Bool.false_and, Bool.false_and]; exact Ans.not (by simp) (Ans.pure _)
   ·rw [Bool.eq_false_iff.mpr c1, Bool.false_and, Bool.false_and]; exact Ans.not (by simp) (Ans.pure _)
 have key : ∀ (d : Nat) (i : Int), 0 ≤ i → i + d = x.length → Ans (fun k => spec_sgRows.l0 k x (x.length : Int) i) ((x.drop i.toNat).all (walkOk 0)) := by
  intro d
  induction d with
  | zero =>
   intro i h0 h1
   rw [List.drop_eq_nil_of_le (by omega)]; refine Ans.step ?_
   simp only [spec_sgRows.l0]; exact Ans.not (by omega) (Ans.pure _)
  | succ d ih =>
   intro i h0 h1
   have hm := rd_L1_mem h0 (show i < x.length by omega)
   rw [drop_at x [] (show i.toNat < x.length by omega), show x.getD i.toNat [] = rd_L3 x i from rfl, List.all_cons]
   have e := ih (i + 1) (by omega) (by omega)
   rw [show (i + 1).toNat = i.toNat + 1 by omega] at e
   refine Ans.step ?_
   simp only [spec_sgRows.l0]
   exact Ans.yes (by omega) (Ans.yes h0 (Ans.yes (by omega) (inner _ i _ (hr _ hm) h0 (by omega) e _ 0 0 (by omega) (show (0 : Int) + ((rd_L3 x i).length : Nat) = _ by omega) (by omega) (by omega))))
 exact key x.length 0 (by omega) (by omega)
theorem column (x : List (List Int)) (j : Int) (h : x.length ≤ 1048576) (hj : 0 ≤ j) (hr : ∀ r ∈ x, j < r.length) : Ans (fun k => impl_column.f k x j) (colOf x j) := by
 have key : ∀ (d : Nat) (i : Int) (acc : List Int), 0 ≤ i → i + d = x.length → acc.length + d ≤ 1048576 → Ans (fun k => impl_column.l0 k j acc x (x.length : Int) i) (acc ++ colOf (x.drop i.toNat) j) := by
  intro d
  induction d with
  | zero =>
   intro i acc h0 h1 h2
   rw [List.drop_eq_nil_of_le (by omega), colOf, List.map_nil, List.append_nil]; refine Ans.step ?_
   simp only [impl_column.l0]; exact Ans.not (by omega) (Ans.pure _)
  | succ d ih =>
   intro i acc h0 h1 h2
   have hm := rd_L1_mem h0 (show i < x.length by omega)
   have e := ih (i + 1) (acc ++ [rd (rd_L3 x i) j]) (by omega) (by omega) (by simp only [List.length_append, List.length_singleton]; omega)
   rw [show (i + 1).toNat = i.toNat + 1 by omega, List.append_assoc, List.singleton_append] at e
   rw [drop_at x [] (show i.toNat < x.length by omega), show x.getD i.toNat [] = rd_L3 x i from rfl]
   refine Ans.step ?_
   simp only [impl_column.l0, wrap64_up h0 (by omega : i ≤ 4611686018427387904)]
   exact Ans.yes (by omega) (Ans.yes h0 (Ans.yes (by omega) (Ans.yes hj (Ans.yes (hr _ hm) (Ans.yes (by omega) e)))))
 exact key x.length 0 [] (by omega) (by omega) (by simp only [List.length_nil]; omega)
theorem sgSquare (x : List (List Int)) (h : x.length ≤ 1048576) : Ans (fun k => spec_sgSquare.f k x) (decide (1 ≤ x.length ∧ x.length ≤ 6) && x.all fun r => decide (r.length = x.length)) := by
 have key : ∀ (d : Nat) (i : Int), 0 ≤ i → i + d = x.length → Ans (fun k => spec_sgSquare.l0 k x x (x.length : Int) i) ((x.drop i.toNat).all fun r => decide (r.length = x.length)) := by
  intro d
  induction d with
  | zero =>
   intro i h0 h1
   rw [List.drop_eq_nil_of_le (by omega)]; refine Ans.step ?_
   simp only [spec_sgSquare.l0]; exact Ans.not (by omega) (Ans.pure _)
  | succ d ih =>
   intro i h0 h1
   rw [drop_at x [] (show i.toNat < x.length by omega), show x.getD i.toNat [] = rd_L3 x i from rfl, List.all_cons]
   have e := ih (i + 1) (by omega) (by omega)
   rw [show (i + 1).toNat = i.toNat + 1 by omega] at e
   refine Ans.step ?_
   simp only [spec_sgSquare.l0, wrap64_up h0 (by omega : i ≤ 4611686018427387904)]
   refine Ans.yes (by omega) (Ans.yes h0 (Ans.yes (by omega) ?_))
   by_cases c : (rd_L3 x i).length = x.length
   ·rw [decide_eq_true c, Bool.true_and]; exact Ans.yes (by omega) e
   ·rw [decide_eq_false c, Bool.false_and]; exact Ans.not (by omega) (Ans.pure _)
 simp only [spec_sgSquare.f, l1In, Option.bind_some]
 by_cases c : decide ((1 : Int) ≤ (x.length : Int) ∧ (x.length : Int) ≤ 6) = true
 ·have b := of_decide_eq_true c
  rw [show decide (1 ≤ x.length ∧ x.length ≤ 6) = true from decide_eq_true ⟨by omega, by omega⟩, Bool.true_and]
  exact Ans.yes c (key x.length 0 (by omega) (by omega))
 ·have b : ¬ ((1 : Int) ≤ (x.length : Int) ∧ (x.length : Int) ≤ 6) := fun h => c (decide_eq_true h)
  rw [show decide (1 ≤ x.length ∧ x.length ≤ 6) = false from decide_eq_false (by omega), Bool.false_and]
  exact Ans.not c (Ans.pure _)
def sign (x : List (List Int)) : Bool :=
 (decide (1 ≤ x.length ∧ x.length ≤ 6) && x.all fun r => decide (r.length = x.length)) && (x.all (walkOk 0) && (List.range x.length).all fun (j : Nat) => walkOk 0 (colOf x j))
theorem square_of {x : List (List Int)} (h : (decide (1 ≤ x.length ∧ x.length ≤ 6) && x.all fun r => decide (r.length = x.length)) = true) : 1 ≤ x.length ∧ x.length ≤ 6 ∧ ∀ r ∈ x, r.length = x.length := by
 rw [Bool.and_eq_true] at h
 have b := of_decide_eq_true h.1
 exact ⟨b.1, b.2, fun r hr => of_decide_eq_true (List.all_eq_true.mp h.2 r hr)⟩
theorem sgGood (x : List (List Int)) (h : x.length ≤ 1048576) : Ans (fun k => spec_sgGood.f k x) (sign x) := by
 simp only [spec_sgGood.f]
 refine (sgSquare x h).bind ?_
 unfold sign
 by_cases c : (decide (1 ≤ x.length ∧ x.length ≤ 6) && x.all fun r => decide (r.length = x.length)) = true
 ·obtain ⟨b1, b2, b3⟩ := square_of c
  rw [c, Bool.true_and]
  refine Ans.yes rfl ((sgRows x (by omega) (fun r hr => by have := b3 r hr; omega)).bind ?_)
  by_cases c2 : x.all (walkOk 0) = true
  ·rw [c2, Bool.true_and]
   have e := sgRows ((List.range x.length).map fun (j : Nat) => colOf x j) (by simp only [List.length_map, List.length_range]; omega) (fun r hr => by
    obtain ⟨j, _, rfl⟩ := List.mem_map.1 hr
    simp only [colOf, List.length_map]; omega)
   rw [List.all_map] at e
   exact Ans.yes rfl ((sgTurn x h b3).bind (e.bind (Ans.pure _)))
  ·rw [Bool.eq_false_iff.mpr c2, Bool.false_and]; exact Ans.not (by simp) (Ans.pure _)
 ·rw [Bool.eq_false_iff.mpr c, Bool.false_and]; exact Ans.not (by simp) (Ans.pure _)
theorem isSign (x : List (List Int)) (h : x.length ≤ 1048576) : Ans (fun k => impl_IsSignMatrix.f k x) (sign x) := by
 have no : Ans (fun k => impl_IsSignMatrix.j0 k x true) false := by
  refine Ans.step ?_; simp only [impl_IsSignMatrix.j0]; exact Ans.yes (by simp) (Ans.pure _)
 simp only [impl_IsSignMatrix.f, impl_isSide.f, within, Option.bind_some]
 by_cases c : decide ((1 : Int) ≤ (x.length : Int) ∧ (x.length : Int) ≤ 6) = true
 ·have b := of_decide_eq_true c
  refine Ans.yes c ((isSquare x (by omega)).bind ?_)
  unfold sign
  rw [show decide (1 ≤ x.length ∧ x.length ≤ 6) = true from decide_eq_true ⟨by omega, by omega⟩, Bool.true_and]
  by_cases c2 : (x.all fun r => decide (r.length = x.length)) = true
  ·rw [c2, Bool.true_and]
   have b3 : ∀ r ∈ x, r.length = x.length := fun r hr => of_decide_eq_true (List.all_eq_true.mp c2 r hr)
   have key : ∀ (d : Nat) (i : Int), 0 ≤ i → i + d = x.length → Ans (fun k => impl_IsSignMatrix.l0 k x (x.length : Int) i) ((x.drop i.toNat).all (walkOk 0) && ((List.range x.length).drop i.toNat).all fun (j : Nat) => walkOk 0 (colOf x j)) := by
    intro d
    induction d with
    | zero =>
     intro i h0 h1
     rw [List.drop_eq_nil_of_le (by omega), List.drop_eq_nil_of_le (by simp only [List.length_range]; omega)]; refine Ans.step ?_
     simp only [impl_IsSignMatrix.l0]; exact Ans.not (by omega) (Ans.pure _)
    | succ d ih =>
     intro i h0 h1
     have hm := rd_L1_mem h0 (show i < x.length by omega)
     have e := ih (i + 1) (by omega) (by omega)
     rw [show (i + 1).toNat = i.toNat + 1 by omega] at e
     rw [drop_at x [] (show i.toNat < x.length by omega), show x.getD i.toNat [] = rd_L3 x i from rfl, range_drop (show i.toNat < x.length by omega), List.all_cons, List.all_cons, show ((i.toNat : Nat) : Int) = i by omega]
     refine Ans.step ?_
     simp only [impl_IsSignMatrix.l0, wrap64_up h0 (by omega : i ≤ 4611686018427387904)]
     refine Ans.yes (by omega) (Ans.yes h0 (Ans.yes (by omega) ((alternate _ (by have := b3 _ hm; omega)).bind ?_)))
     by_cases q1 : walkOk 0 (rd_L3 x i) = true
     ·rw [q1, Bool.true_and]
      refine Ans.yes rfl ((column x i h h0 (fun r hr => by have := b3 r hr; omega)).bind ((alternate _ (by simp only [colOf, List.length_map]; omega)).bind ?_))
      by_cases q2 : walkOk 0 (colOf x i) = true
      ·rw [q2, Bool.true_and]; exact Ans.yes rfl e
      ·rw [Bool.eq_false_iff.mpr q2, Bool.false_and, Bool.and_false]; exact Ans.not (by simp) (Ans.pure _)
     ·rw [Bool.eq_false_iff.mpr q1, Bool.false_and, Bool.false_and]; exact Ans.not (by simp) (Ans.pure _)
   refine Ans.step ?_
   simp only [impl_IsSignMatrix.j0]
   exact Ans.not (by simp) (key x.length 0 (by omega) (by omega))
  ·rw [Bool.eq_false_iff.mpr c2, Bool.false_and]; exact no
 ·have b : ¬ ((1 : Int) ≤ (x.length : Int) ∧ (x.length : Int) ≤ 6) := fun h => c (decide_eq_true h)
  unfold sign
  rw [show decide (1 ≤ x.length ∧ x.length ≤ 6) = false from decide_eq_false (by omega), Bool.false_and, Bool.false_and]
  exact Ans.not c no
def tab (r c : Nat) (v : Nat → Nat → Int) : List (List Int) := (List.range r).map fun i => (List.range c).map fun j => v i j
theorem table_row (c : Nat) (hc : c ≤ 1048576) (g : Int → Int → Option Int) (v : Nat → Int) (n : Int) (i : Nat) (hi : i ≤ 1048576) (hg : ∀ j : Nat, j < c → g i j = some (v j)) {R : List (List Int)} :
  ∀ (d j : Nat) (y : List (List Int)), j + d = c → i < y.length → (y.getD i []).length = c → Ans (fun k => impl_table.l0 k c g (y.set i ((y.getD i []).take j ++ ((List.range c).drop j).map v)) n ((i + 1 : Nat) : Int)) R →
   Ans (fun k => impl_table.l1 k c g y i n i (c : Int) j) R := by
 intro d
 induction d with
 | zero =>
  intro j y h1 h2 h3 e
  rw [List.drop_eq_nil_of_le (by simp only [List.length_range]; omega), List.map_nil, List.append_nil, List.take_of_length_le (by omega), set_same y [] i h2] at e
  refine Ans.step ?_
  simp only [impl_table.l1, wrap64_up (show (0 : Int) ≤ (i : Int) by omega) (by omega : (i : Int) ≤ 4611686018427387904)]
  refine Ans.not (by omega) ?_
  rw [show ((i + 1 : Nat) : Int) = (i : Int) + 1 by omega] at e
  exact e
 | succ d ih =>
  intro j y h1 h2 h3 e
  have hrow : rd_L3 y (i : Int) = y.getD i [] := by unfold rd_L3; rw [Int.toNat_natCast]
  refine Ans.step ?_
  simp only [impl_table.l1, hg j (by omega), Option.bind_some, wrap64_up (show (0 : Int) ≤ (j : Int) by omega) (by omega : (j : Int) ≤ 4611686018427387904), hrow, Int.toNat_natCast]
  refine Ans.yes (by omega) (Ans.yes (by omega) (Ans.yes (by omega) (Ans.yes (by omega) (Ans.yes (by omega) ?_))))
  have hj : j < (y.getD i []).length := by omega
  obtain ⟨t1, _⟩ := take_set_drop (y.getD i []) j (v j) hj
  have hget : (y.set i ((y.getD i []).set j (v j))).getD i [] = (y.getD i []).set j (v j) := by
   rw [getD_at _ _ (by simpa using h2)]; simp
  have := ih (j + 1) (y.set i ((y.getD i []).set j (v j))) (by omega) (by simpa using h2) (by rw [hget]; simpa using h3) (by
   rw [hget, List.set_set, t1, List.append_assoc]
   rw [range_drop (show j < c by omega), List.map_cons] at e
   exact e)
  rwa [show ((j + 1 : Nat) : Int) = (j : Int) + 1 by omega] at this
theorem table (r c : Nat) (hr : r ≤ 1048576) (hc : c ≤ 1048576) (g : Int → Int → Option Int) (v : Nat → Nat → Int) (hg : ∀ i j : Nat, i < r → j < c → g i j = some (v i j)) : Ans (fun k => impl_table.f k r c g) (tab r c v) := by
 have key : ∀ (d i : Nat) (y : List (List Int)), i + d = r → y.length = r → Ans (fun k => impl_table.l0 k c g y (r : Int) i) (y.take i ++ ((List.range r).drop i).map fun i => (List.range c).map fun j => v i j) := by
  intro d
  induction d with
  | zero =>
   intro i y h1 h2
   rw [List.drop_eq_nil_of_le (by simp only [List.length_range]; omega), List.map_nil, List.append_nil, List.take_of_length_le (by omega)]; refine Ans.step ?_
   simp only [impl_table.l0]; exact Ans.not (by omega) (Ans.pure _)
  | succ d ih =>
   intro i y h1 h2
   have hi : i < y.length := by omega
   have hget : (y.set i (List.replicate c 0)).getD i [] = List.replicate c 0 := by rw [getD_at _ _ (by simpa using hi)]; simp
   obtain ⟨t1, _⟩ := take_set_drop y i ((List.range c).map fun j => v i j) hi
   have e := ih (i + 1) (y.set i ((List.range c).map fun j => v i j)) (by omega) (by simpa using h2)
   rw [t1, List.append_assoc, List.singleton_append] at e
   rw [range_drop (show i < r by omega), List.map_cons]
   have hrow : rd_L3 (y.set i (List.replicate c 0)) (i : Int) = List.replicate c 0 := by unfold rd_L3; rw [Int.toNat_natCast]; exact hget
   refine Ans.step ?_
   simp only [impl_table.l0, Option.bind_some, Int.toNat_natCast, hrow, List.length_replicate]
   refine Ans.yes (by omega) (Ans.yes (by omega) (Ans.yes (by omega) (Ans.yes (by omega) (Ans.yes (by omega) ?_))))
   have := table_row c hc g (v i) (r : Int) i (by omega) (fun j hj => hg i j (by omega) hj) c 0 (y.set i (List.replicate c 0)) (by omega) (by simpa using hi) (by rw [hget]; simp) (by
    rw [List.set_set, List.take_zero, List.drop_zero, List.nil_append]; exact e)
   exact this
 simp only [impl_table.f, Option.bind_some, Int.toNat_natCast, List.length_replicate]
 refine Ans.yes (by omega) (Ans.yes (by omega) ?_)
 have := key r 0 (List.replicate r []) (by omega) (by simp)
 simpa [tab] using this
theorem table_row2 (c : Nat) (hc : c ≤ 1048576) (g : Nat → Int → Int → Option Int) (v : Nat → Int) (n : Int) (i : Nat) (hi : i ≤ 1048576) (hg : ∀ j : Nat, j < c → Ans (fun q => g q i j) (v j)) {R : List (List Int)} :
  ∀ (d j : Nat) (y : List (List Int)), j + d = c → i < y.length → (y.getD i []).length = c → Ans2 (fun k q => impl_table.l0 k c (g q) (y.set i ((y.getD i []).take j ++ ((List.range c).drop j).map v)) n ((i + 1 : Nat) : Int)) R →
   Ans2 (fun k q => impl_table.l1 k c (g q) y i n i (c : Int) j) R := by
 intro d
 induction d with
 | zero =>
  intro j y h1 h2 h3 e
  rw [List.drop_eq_nil_of_le (by simp only [List.length_range]; omega), List.map_nil, List.append_nil, List.take_of_length_le (by omega), set_same y [] i h2] at e
  refine Ans2.step ?_
  simp only [impl_table.l1, wrap64_up (show (0 : Int) ≤ (i : Int) by omega) (by omega : (i : Int) ≤ 4611686018427387904)]
  refine Ans2.not (by omega) ?_
  rw [show ((i + 1 : Nat) : Int) = (i : Int) + 1 by omega] at e
  exact e
 | succ d ih =>
  intro j y h1 h2 h3 e
  have hrow : rd_L3 y (i : Int) = y.getD i [] := by unfold rd_L3; rw [Int.toNat_natCast]
  refine Ans2.step ?_
  simp only [impl_table.l1, wrap64_up (show (0 : Int) ≤ (j : Int) by omega) (by omega : (j : Int) ≤ 4611686018427387904), hrow, Int.toNat_natCast]
  refine Ans2.yes (by omega) (Ans2.yes (by omega) (Ans2.yes (by omega) ((Ans2.two (hg j (by omega))).bind (Ans2.yes (by omega) (Ans2.yes (by omega) ?_)))))
  have hj : j < (y.getD i []).length := by omega
  obtain ⟨t1, _⟩ := take_set_drop (y.getD i []) j (v j) hj
  have hget : (y.set i ((y.getD i []).set j (v j))).getD i [] = (y.getD i []).set j (v j) := by
   rw [getD_at _ _ (by simpa using h2)]; simp
  have := ih (j + 1) (y.set i ((y.getD i []).set j (v j))) (by omega) (by simpa using h2) (by rw [hget]; simpa using h3) (by
   rw [hget, List.set_set, t1, List.append_assoc]
   rw [range_drop (show j < c by omega), List.map_cons] at e
   exact e)
  rwa [show ((j + 1 : Nat) : Int) = (j : Int) + 1 by omega] at this
theorem table2 (r c : Nat) (hr : r ≤ 1048576) (hc : c ≤ 1048576) (g : Nat → Int → Int → Option Int) (v : Nat → Nat → Int) (hg : ∀ i j : Nat, i < r → j < c → Ans (fun q => g q i j) (v i j)) : Ans (fun k => impl_table.f k r c (g k)) (tab r c v) := by
 have key : ∀ (d i : Nat) (y : List (List Int)), i + d = r → y.length = r → Ans2 (fun k q => impl_table.l0 k c (g q) y (r : Int) i) (y.take i ++ ((List.range r).drop i).map fun i => (List.range c).map fun j => v i j) := by
  intro d
  induction d with
  | zero =>
   intro i y h1 h2
   rw [List.drop_eq_nil_of_le (by simp only [List.length_range]; omega), List.map_nil, List.append_nil, List.take_of_length_le (by omega)]; refine Ans2.step ?_
   simp only [impl_table.l0]; exact Ans2.not (by omega) (Ans2.pure _)
  | succ d ih =>
   intro i y h1 h2
   have hi : i < y.length := by omega
   have hget : (y.set i (List.replicate c 0)).getD i [] = List.replicate c 0 := by rw [getD_at _ _ (by simpa using hi)]; simp
   obtain ⟨t1, _⟩ := take_set_drop y i ((List.range c).map fun j => v i j) hi
   have e := ih (i + 1) (y.set i ((List.range c).map fun j => v i j)) (by omega) (by simpa using h2)
   rw [t1, List.append_assoc, List.singleton_append] at e
   rw [range_drop (show i < r by omega), List.map_cons]
   have hrow : rd_L3 (y.set i (List.replicate c 0)) (i : Int) = List.replicate c 0 := by unfold rd_L3; rw [Int.toNat_natCast]; exact hget
   refine Ans2.step ?_
   simp only [impl_table.l0, Option.bind_some, Int.toNat_natCast, hrow, List.length_replicate]
   refine Ans2.yes (by omega) (Ans2.yes (by omega) (Ans2.yes (by omega) (Ans2.yes (by omega) (Ans2.yes (by omega) ?_))))
   have := table_row2 c hc g (v i) (r : Int) i (by omega) (fun j hj => hg i j (by omega) hj) c 0 (y.set i (List.replicate c 0)) (by omega) (by simpa using hi) (by rw [hget]; simp) (by
    rw [List.set_set, List.take_zero, List.drop_zero, List.nil_append]; exact e)
   exact this
 simp only [impl_table.f, Option.bind_some, Int.toNat_natCast, List.length_replicate]
 refine Ans.yes (by omega) (Ans.yes (by omega) ?_)
 have := (key r 0 (List.replicate r []) (by omega) (by simp)).join
 simpa [tab] using this
def cmpI (a b : Int) : Int := if a < b then -1 else if a > b then 1 else 0
theorem cmpI_zero {a b : Int} : cmpI a b = 0 ↔ a = b := by
 unfold cmpI; split
 ·constructor <;> intro h <;> omega
 ·split
  ·constructor <;> intro h <;> omega
  ·constructor <;> intro h <;> omega
def lexBy {α : Type} (c : α → α → Int) : List α → List α → Int
 | [], [] => 0
 | [], _ :: _ => -1
 | _ :: _, [] => 1
 | a :: x, b :: y => if c a b = 0 then lexBy c x y else c a b
theorem lexBy_zero {α : Type} {c : α → α → Int} (hc : ∀ a b, c a b = 0 ↔ a = b) : ∀ (x y : List α), lexBy c x y = 0 ↔ x = y
 | [], [] => by simp [lexBy]
 | [], _ :: _ => by simp [lexBy]
 | _ :: _, [] => by simp [lexBy]
 | a :: x, b :: y => by
  rw [lexBy]
  by_cases h : c a b = 0
  ·rw [if_pos h, lexBy_zero hc x y, (hc a b).mp h]; simp
  ·rw [if_neg h]; constructor
   ·intro e; exact absurd e h
   ·intro e; exact absurd ((hc a b).mpr (List.cons.inj e).1) h
def cmpL : List Int → List Int → Int := lexBy cmpI
def cmpLL : List (List Int) → List (List Int) → Int := lexBy cmpL
theorem cmpL_zero (x y : List Int) : cmpL x y = 0 ↔ x = y := lexBy_zero (fun _ _ => cmpI_zero) x y
theorem cmpLL_zero (x y : List (List Int)) : cmpLL x y = 0 ↔ x = y := lexBy_zero cmpL_zero x y
theorem cmpInt (a b : Int) : cmp_Compare_int.f a b = some (cmpI a b) := by
 simp only [cmp_Compare_int.f, cmp_isNaN_int.f, Option.bind_some, cmpI]
 simp
 repeat' split
 all_goals rfl
theorem compare (x y : List Int) (hx : x.length ≤ 17592186044416) (hy : y.length ≤ 17592186044416) (k : Nat) (hk : x.length < k) : slices_Compare_int_int.f k x y = some (cmpL x y) := by
 have key : ∀ (d : Nat) (i : Int), 0 ≤ i → i + d = x.length → i ≤ y.length → ∀ k, d < k → slices_Compare_int_int.l0 k x y x (x.length : Int) i = some (cmpL (x.drop i.toNat) (y.drop i.toNat)) := by
  intro d
  induction d with
  | zero =>
   intro i h0 h1 h2 k hk; obtain ⟨j, rfl⟩ : ∃ j, k = j + 1 := ⟨k - 1, by omega⟩
   unfold slices_Compare_int_int.l0
   rw [if_neg (by omega), drop_all x (by omega)]
   by_cases c : (x.length : Int) < (y.length : Int)
   ·rw [if_pos c, drop_at y 0 (show i.toNat < y.length by omega)]; rfl
   ·rw [if_neg c, drop_all y (by omega)]; rfl
  | succ d ih =>
   intro i h0 h1 h2 k hk; obtain ⟨j, rfl⟩ : ∃ j, k = j + 1 := ⟨k - 1, by omega⟩
   unfold slices_Compare_int_int.l0
   rw [if_pos (by omega), if_pos h0, if_pos (by omega), drop_at x 0 (show i.toNat < x.length by omega)]
   by_cases c : i ≥ (y.length : Int)
   ·rw [if_pos c, drop_all y (by omega)]; rfl
   ·rw [if_neg c, if_pos (by omega), cmpInt, Option.bind_some, drop_at y 0 (show i.toNat < y.length by omega), wrap64_up h0 (by omega)]
    show (if cmpI (rd x i) (rd y i) = 0 then _ else _) = some (if cmpI (rd x i) (rd y i) = 0 then lexBy cmpI (x.drop (i.toNat + 1)) (y.drop (i.toNat + 1)) else cmpI (rd x i) (rd y i))
    by_cases q : cmpI (rd x i) (rd y i) = 0
    ·rw [if_pos q, if_pos q, ih (i + 1) (by omega) (by omega) (by omega) j (by omega), show (i + 1).toNat = i.toNat + 1 by omega]; rfl
    ·rw [if_neg q, if_neg q]
 exact key x.length 0 (by omega) (by omega) (by omega) k (by omega)
theorem compareTables (x y : List (List Int)) (hx : x.length ≤ 1048576) (hy : y.length ≤ 1048576) (hrx : ∀ r ∈ x, r.length ≤ 1048576) (hry : ∀ r ∈ y, r.length ≤ 1048576) : Ans (fun k => impl_compareTables.f k x y) (cmpLL x y) := by
 refine Ans.from 1048577 fun k0 hk0 => ?_
 unfold impl_compareTables.f slices_CompareFunc_int_int_int_int.f
 have key : ∀ (d : Nat) (i : Int), 0 ≤ i → i + d = x.length → i ≤ y.length → ∀ k, d < k → slices_CompareFunc_int_int_int_int.l0 k x y (fun x0_ x1_ => impl_compareTables_1.f k0 x0_ x1_) x (x.length : Int) i = some (cmpLL (x.drop i.toNat) (y.drop i.toNat)) := by
  intro d
  induction d with
  | zero =>
   intro i h0 h1 h2 k hk; obtain ⟨j, rfl⟩ : ∃ j, k = j + 1 := ⟨k - 1, by omega⟩
   unfold slices_CompareFunc_int_int_int_int.l0
   rw [if_neg (by omega), drop_all x (by omega)]
   by_cases c : (x.length : Int) < (y.length : Int)
   ·rw [if_pos c, drop_at y [] (show i.toNat < y.length by omega)]; rfl
   ·rw [if_neg c, drop_all y (by omega)]; rfl
  | succ d ih =>
   intro i h0 h1 h2 k hk; obtain ⟨j, rfl⟩ : ∃ j, k = j + 1 := ⟨k - 1, by omega⟩
   unfold slices_CompareFunc_int_int_int_int.l0
   rw [if_pos (by omega), if_pos h0, if_pos (by omega), drop_at x [] (show i.toNat < x.length by omega)]
   by_cases c : i ≥ (y.length : Int)
   ·rw [if_pos c, drop_all y (by omega)]; rfl
   ·have m1 := hrx _ (rd_L1_mem h0 (show i < x.length by omega))
    have m2 := hry _ (rd_L1_mem h0 (show i < y.length by omega))
    rw [if_neg c, if_pos (by omega)]
    simp only [impl_compareTables_1.f]
    rw [compare _ _ (by omega) (by omega) k0 (by omega), Option.bind_some, Option.bind_some, drop_at y [] (show i.toNat < y.length by omega), wrap64_up h0 (by omega)]
    show (if cmpL (rd_L3 x i) (rd_L3 y i) = 0 then _ else _) = some (if cmpL (rd_L3 x i) (rd_L3 y i) = 0 then lexBy cmpL (x.drop (i.toNat + 1)) (y.drop (i.toNat + 1)) else cmpL (rd_L3 x i) (rd_L3 y i))
    by_cases q : cmpL (rd_L3 x i) (rd_L3 y i) = 0
    ·rw [if_pos q, if_pos q]
     have := ih (i + 1) (by omega) (by omega) (by omega) j (by omega)
     simp only [impl_compareTables_1.f] at this
     rw [this, show (i + 1).toNat = i.toNat + 1 by omega]; rfl
    ·rw [if_neg q, if_neg q]
 have := key x.length 0 (by omega) (by omega) (by omega) k0 (by omega)
 rw [this]; rfl
def Sq (n : Nat) (x : List (List Int)) : Prop := x.length = n ∧ ∀ r ∈ x, r.length = n
theorem Sq.row {n : Nat} {x : List (List Int)} (h : Sq n x) {i : Nat} (hi : i < n) : (x.getD i []).length = n := h.2 _ (getD_mem [] (by rw [h.1]; exact hi))
theorem tab_is {n : Nat} {y : List (List Int)} (h : Sq n y) (v : Nat → Nat → Int) (hv : ∀ i j : Nat, i < n → j < n → v i j = (y.getD i []).getD j 0) : tab n n v = y := by
 refine List.ext_getElem (by simp [tab, h.1]) fun i h1 h2 => ?_
 have hi : i < n := by rw [← h.1]; exact h2
 have hr := h.row hi
 rw [show (tab n n v)[i] = (List.range n).map (fun j => v i j) by simp [tab], ← getD_at y [] h2]
 refine List.ext_getElem (by simp only [List.length_map, List.length_range]; exact hr.symm) fun j g1 g2 => ?_
 rw [List.getElem_map, List.getElem_range, hv i j hi (by rw [← hr]; exact g2), getD_at _ _ g2]
theorem ext_sq {n : Nat} {x y : List (List Int)} (hx : Sq n x) (hy : Sq n y) (h : ∀ i j : Nat, i < n → j < n → (x.getD i []).getD j 0 = (y.getD i []).getD j 0) : x = y := by
 rw [← tab_is hx (fun i j => (x.getD i []).getD j 0) (fun _ _ _ _ => rfl), tab_is hy _ h]
def mir (x : List (List Int)) : List (List Int) := x.map List.reverse
def tr (x : List (List Int)) : List (List Int) := (List.range x.length).map fun (j : Nat) => colOf x j
def cw (x : List (List Int)) : List (List Int) := mir (tr x)
theorem sign_sq {x : List (List Int)} (s : sign x = true) : Sq x.length x ∧ x.length ≤ 6 := by
 unfold sign at s
 rw [Bool.and_eq_true] at s
 obtain ⟨b1, b2, b3⟩ := square_of s.1
 exact ⟨⟨rfl, b3⟩, b2⟩
def S : Nat → (Nat → Int) → Int
 | 0, _ => 0
 | n + 1, f => S n f + f n
theorem S_congr {f g : Nat → Int} : ∀ {n : Nat}, (∀ i, i < n → f i = g i) → S n f = S n g
 | 0, _ => rfl
 | n + 1, h => by rw [S, S, S_congr (fun i hi => h i (by omega)), h n (by omega)]
theorem S_add (f g : Nat → Int) : ∀ n, S n (fun i => f i + g i) = S n f + S n g
 | 0 => rfl
 | n + 1 => by rw [S, S, S, S_add f g n]; omega
theorem S_zero : ∀ n, S n (fun _ => 0) = 0
 | 0 => rfl
 | n + 1 => by rw [S, S_zero n]; rfl
theorem S_mul (c : Int) (f : Nat → Int) : ∀ n, S n (fun i => c * f i) = c * S n f
 | 0 => by simp [S]
 | n + 1 => by rw [S, S, S_mul c f n, Int.mul_add]
theorem S_comm (F : Nat → Nat → Int) (m : Nat) : ∀ n, S n (fun i => S m (fun j => F i j)) = S m (fun j => S n (fun i => F i j))
 | 0 => by simp only [S]; rw [S_zero]
 | n + 1 => by rw [S, S_comm F m n, ← S_add]; rfl
theorem S_front (f : Nat → Int) : ∀ n, S (n + 1) f = f 0 + S n (fun i => f (i + 1))
 | 0 => by simp [S]
 | n + 1 => by rw [S, S_front f n, S]; omega
def T (n : Nat) (F : Nat → Nat → Int) : Int := S n (fun i => S i (fun k => F i k))
theorem S_single (n i : Nat) (c : Int) (h : i < n) : S n (fun k => if k = i then c else 0) = c := by
 induction n with
 | zero => omega
 | succ n ih =>
  rw [S]
  by_cases e : i = n
  ·subst e
   rw [if_pos rfl, S_congr (g := fun _ => 0) (fun k hk => if_neg (by omega)), S_zero]; omega
  ·rw [ih (by omega), if_neg (by omega)]; omega
theorem S_bound {f : Nat → Int} {B : Int} : ∀ {n : Nat}, (∀ i, i < n → -B ≤ f i ∧ f i ≤ B) → -(B * n) ≤ S n f ∧ S n f ≤ B * n
 | 0, _ => by simp [S]
 | n + 1, h => by
  have a := S_bound (fun i hi => h i (by omega : i < n + 1)) (n := n)
  have b := h n (by omega)
  rw [S, Int.natCast_add, Int.natCast_one, Int.mul_add, Int.mul_one]; omega
def en (x : List (List Int)) (i j : Nat) : Int := (x.getD i []).getD j 0
theorem walk_pre : ∀ (c : List Int) (s : Int), 0 ≤ s → s ≤ 1 → walkOk s c = true → (∀ i, i < c.length → (-1 ≤ c.getD i 0 ∧ c.getD i 0 ≤ 1) ∧ 0 ≤ s + S i (fun k => c.getD k 0) ∧ s + S i (fun k => c.getD k 0) ≤ 1 ∧ 0 ≤ s + S i (fun k => c.getD k 0) + c.getD i 0 ∧ s + S i (fun k => c.getD k 0) + c.getD i 0 ≤ 1) ∧ s + S c.length (fun k => c.getD k 0) = 1
 | [], s, _, _, h => ⟨fun i hi => absurd hi (by simp), by simp only [walkOk, beq_iff_eq] at h; simp [S, h]⟩
 | a :: c, s, h0, h1, h => by
  simp only [walkOk, Bool.and_eq_true, decide_eq_true_eq] at h
  obtain ⟨b1, b2, b3⟩ := h
  have ih := walk_pre c (s + a) b2.1 b2.2 b3
  have fr : ∀ m, S (m + 1) (fun k => (a :: c).getD k 0) = a + S m (fun k => c.getD k 0) := fun m => S_front _ m
  refine ⟨fun i hi => ?_, by rw [List.length_cons, fr]; omega⟩
  cases i with
  | zero => simp only [S, List.getD_cons_zero]; omega
  | succ i =>
   have := ih.1 i (by simpa using hi)
   rw [fr, List.getD_cons_succ]; omega
theorem sign_en {x : List (List Int)} (s : sign x = true) {n : Nat} (hn : x.length = n) : Sq n x ∧ 1 ≤ n ∧ n ≤ 6 ∧
  (∀ i j, i < n → j < n → (-1 ≤ en x i j ∧ en x i j ≤ 1) ∧ (0 ≤ S j (en x i) ∧ S j (en x i) ≤ 1 ∧ 0 ≤ S j (en x i) + en x i j ∧ S j (en x i) + en x i j ≤ 1) ∧ (0 ≤ S i (fun k => en x k j) ∧ S i (fun k => en x k j) ≤ 1 ∧ 0 ≤ S i (fun k => en x k j) + en x i j ∧ S i (fun k => en x k j) + en x i j ≤ 1)) ∧
  (∀ i, i < n → S n (en x i) = 1) ∧ ∀ j, j < n → S n (fun k => en x k j) = 1 := by
 subst hn
 have s' := s
 unfold sign at s'
 simp only [Bool.and_eq_true] at s'
 obtain ⟨h1, h2, q⟩ := square_of (show (decide (1 ≤ x.length ∧ x.length ≤ 6) && x.all fun r => decide (r.length = x.length)) = true by simp only [Bool.and_eq_true]; exact s'.1)
 have sq : Sq x.length x := ⟨rfl, q⟩
 have R : ∀ i, i < x.length → walkOk 0 (x.getD i []) = true := fun i hi => List.all_eq_true.mp s'.2.1 _ (getD_mem [] hi)
 have C : ∀ j, j < x.length → walkOk 0 (colOf x j) = true := fun j hj => List.all_eq_true.mp s'.2.2 j (List.mem_range.mpr hj)
 have ce : ∀ i j, i < x.length → (colOf x (j : Nat)).getD i 0 = en x i j := fun i j hi => by
  rw [getD_at _ _ (by simpa [colOf] using hi)]
  simp only [colOf, List.getElem_map, rd, Int.toNat_natCast, en]
  rw [getD_at x [] hi]
 have cl : ∀ j : Nat, (colOf x j).length = x.length := fun j => by simp [colOf]
 refine ⟨sq, h1, h2, fun i j hi hj => ?_, fun i hi => ?_, fun j hj => ?_⟩
 ·have a := (walk_pre _ 0 (by omega) (by omega) (R i hi)).1 j (by rw [sq.row hi]; exact hj)
  have b := (walk_pre _ 0 (by omega) (by omega) (C j hj)).1 i (by rw [cl]; exact hi)
  rw [S_congr (fun k hk => ce k j (by omega : k < x.length)), ce i j hi] at b
  have e : S j (en x i) = S j (fun k => (x.getD i []).getD k 0) := rfl
  rw [e]
  have e2 : en x i j = (x.getD i []).getD j 0 := rfl
  rw [← e2] at a
  omega
 ·have a := (walk_pre _ 0 (by omega) (by omega) (R i hi)).2
  rw [sq.row hi] at a
  have e : S x.length (en x i) = S x.length (fun k => (x.getD i []).getD k 0) := rfl
  omega
 ·have b := (walk_pre _ 0 (by omega) (by omega) (C j hj)).2
  rw [cl, S_congr (fun k hk => ce k j hk)] at b
  omega
theorem ext_en {n : Nat} {x y : List (List Int)} (hx : Sq n x) (hy : Sq n y) (h : ∀ i j : Nat, i < n → j < n → en x i j = en y i j) : x = y := ext_sq hx hy h
theorem S_split (f : Nat → Int) (a : Nat) : ∀ b, S (a + b) f = S a f + S b (fun t => f (a + t))
 | 0 => by simp [S]
 | b + 1 => by rw [← Nat.add_assoc, S, S_split f a b, S]; omega
theorem walk_of : ∀ (c : List Int) (s : Int), (∀ i, i < c.length → (-1 ≤ c.getD i 0 ∧ c.getD i 0 ≤ 1) ∧ 0 ≤ s + S (i + 1) (fun k => c.getD k 0) ∧ s + S (i + 1) (fun k => c.getD k 0) ≤ 1) → s + S c.length (fun k => c.getD k 0) = 1 → walkOk s c = true
 | [], s, _, h => by simp only [List.length_nil, S] at h; simp only [walkOk, beq_iff_eq]; omega
 | a :: c, s, h, t => by
  have fr : ∀ m, S (m + 1) (fun k => (a :: c).getD k 0) = a + S m (fun k => c.getD k 0) := fun m => S_front _ m
  have h0 := h 0 (by simp)
  rw [fr] at h0
  simp only [S, List.getD_cons_zero] at h0
  simp only [walkOk, Bool.and_eq_true, decide_eq_true_eq]
  refine ⟨h0.1, by omega, walk_of c (s + a) (fun i hi => ?_) (by rw [List.length_cons, fr] at t; omega)⟩
  have := h (i + 1) (by simpa using hi)
  rw [fr, List.getD_cons_succ] at this
  omega
theorem sign_of {n : Nat} {x : List (List Int)} (h : Sq n x) (h1 : 1 ≤ n) (h2 : n ≤ 6) (R : ∀ r ∈ x, walkOk 0 r = true) (C : ∀ j : Nat, j < n → walkOk 0 (colOf x j) = true) : sign x = true := by
 have hl := h.1
 unfold sign
 simp only [Bool.and_eq_true, decide_eq_true_eq, List.all_eq_true, List.mem_range]
 exact ⟨⟨by omega, fun r hr => by rw [h.2 r hr, hl]⟩, R, fun j hj => C j (by omega)⟩
theorem col_at (x : List (List Int)) (j i : Nat) (hi : i < x.length) : (colOf x (j : Nat)).getD i 0 = en x i j := by
 rw [getD_at _ _ (by simpa [colOf] using hi)]
 simp only [colOf, List.getElem_map, rd, Int.toNat_natCast, en]
 rw [getD_at x [] hi]
theorem wrap_add (a b : Int) : wrap64 (wrap64 a + b) = wrap64 (a + b) := by unfold wrap64; omega
theorem sumOf (r : List Int) (hr : r.length ≤ 1048576) : Ans (fun k => impl_sum.f k r) (wrap64 (S r.length (fun t => r.getD t 0))) := by
 have key : ∀ (d i : Nat) (a : Int), i + d = r.length → Ans (fun k => impl_sum.l0 k (wrap64 a) r (r.length : Int) (i : Int)) (wrap64 (a + S d (fun t => r.getD (i + t) 0))) := by
  intro d
  induction d with
  | zero =>
   intro i a h
   refine Ans.step ?_
   simp only [impl_sum.l0, S, Int.add_zero]
   exact Ans.not (by omega) (Ans.pure _)
  | succ d ih =>
   intro i a h
   have e := ih (i + 1) (a + r.getD i 0) (by omega)
   rw [S_front, Nat.add_zero, ← Int.add_assoc, S_congr (f := fun t => r.getD (i + (t + 1)) 0) (g := fun t => r.getD (i + 1 + t) 0) (fun t _ => by congr 1; omega)]
   rw [show ((i + 1 : Nat) : Int) = (i : Int) + 1 by omega] at e
   refine Ans.step ?_
   simp only [impl_sum.l0, wrap64_up (show (0 : Int) ≤ i by omega) (by omega)]
   refine Ans.yes (by omega) (Ans.yes (by omega) (Ans.yes (by omega) ?_))
   rw [show rd r (i : Int) = r.getD i 0 by simp only [rd, Int.toNat_natCast], wrap_add]
   exact e
 have := key r.length 0 0 (by omega)
 rw [show wrap64 0 = 0 from wrap64_in 0 ⟨by omega, by omega⟩, Int.zero_add, S_congr (g := fun t => r.getD t 0) (fun t _ => by rw [Nat.zero_add])] at this
 exact this
theorem draw_next (c : List Int) (hc : ∀ x ∈ c, (Lit.int .u8 x).wf = true) (a s : Int) (h0 : 0 ≤ a) (h1 : a ≤ 2305843009213693952) : ∃ b s', spec_l1Cur_next.f c a s = some (b, a + 1, s') ∧ 0 ≤ b ∧ b ≤ 255 := by
 have hw : wrap64 (a + 1) = a + 1 := wrap64_in _ ⟨by omega, by omega⟩
 simp only [spec_l1Cur_next.f, hw]
 by_cases c1 : a < (c.length : Int)
 ·have hr := byte_wf (hc (rd c a) (getD_mem 0 (by omega)))
  have hw2 : wrap64 (rd c a) = rd c a := wrap64_in _ ⟨by omega, by omega⟩
  rw [if_pos c1, if_pos h0, if_pos (by omega)]
  exact ⟨_, _, rfl, by rw [hw2]; exact hr.1, by rw [hw2]; exact hr.2⟩
 ·rw [if_neg c1, if_neg (by omega)]
  exact ⟨_, _, rfl, (byte_and _).1, (byte_and _).2⟩
theorem tmod_in {x n : Int} (h : 0 ≤ x) (hn : 1 < n) : 0 ≤ Int.tmod x n ∧ Int.tmod x n < n := ⟨Int.tmod_nonneg _ h, Int.tmod_lt_of_pos _ (by omega)⟩
theorem draw_pick (c : List Int) (hc : ∀ x ∈ c, (Lit.int .u8 x).wf = true) (a s n : Int) (h0 : 0 ≤ a) (h1 : a ≤ 1152921504606846976) : ∃ v a' s', spec_l1Cur_pick.f c a s n = some (v, a', s') ∧ a ≤ a' ∧ a' ≤ a + 2 ∧ 0 ≤ v ∧ (v < n ∨ v = 0) := by
 simp only [spec_l1Cur_pick.f]
 by_cases c1 : n ≤ 1
 ·rw [if_pos c1]; exact ⟨_, _, _, rfl, by omega, by omega, by omega, by omega⟩
 ·rw [if_neg c1]
  obtain ⟨b, s1, e1, b0, b1⟩ := draw_next c hc a s h0 (by omega)
  rw [e1]; simp only [Option.bind_some]
  by_cases c2 : n > 200
  ·rw [if_pos c2]
   obtain ⟨b', s2, e2, b0', b1'⟩ := draw_next c hc (a + 1) s1 (by omega) (by omega)
   rw [e2]; simp only [Option.bind_some]
   rw [if_neg (by omega), wrap64_in (b * 256) ⟨by omega, by omega⟩, wrap64_in (b * 256 + b') ⟨by omega, by omega⟩]
   have := tmod_in (x := b * 256 + b') (n := n) (by omega) (by omega)
   exact ⟨_, _, _, rfl, by omega, by omega, this.1, .inl this.2⟩
  ·rw [if_neg c2, if_neg (by omega)]
   have := tmod_in (x := b) (n := n) (by omega) (by omega)
   exact ⟨_, _, _, rfl, by omega, by omega, this.1, .inl this.2⟩
theorem draw_one (c : List Int) (hc : ∀ x ∈ c, (Lit.int .u8 x).wf = true) (a s n : Int) (h0 : 0 ≤ a) (h1 : a ≤ 1152921504606846976) : ∃ v a' s', spec_l1Cur_one.f c a s n = some (v, a', s') ∧ a ≤ a' ∧ a' ≤ a + 2 := by
 obtain ⟨v, a', s', e, h2, h3, _⟩ := draw_pick c hc a s n h0 h1
 simp only [spec_l1Cur_one.f, e, Option.bind_some]
 exact ⟨_, _, _, rfl, h2, h3⟩
theorem draw_among (c : List Int) (hc : ∀ x ∈ c, (Lit.int .u8 x).wf = true) (a s : Int) (l : List Int) (hl : 0 < l.length) (h0 : 0 ≤ a) (h1 : a ≤ 1152921504606846976) : ∃ v a' s', spec_l1Cur_among.f c a s l = some (v, a', s') ∧ a ≤ a' ∧ a' ≤ a + 2 ∧ v ∈ l := by
 obtain ⟨v, a', s', e, h2, h3, h4, h5⟩ := draw_pick c hc a s (l.length : Int) h0 h1
 simp only [spec_l1Cur_among.f, e, Option.bind_some]
 rw [if_pos h4, if_pos (by omega)]
 exact ⟨_, _, _, rfl, h2, h3, getD_mem 0 (by omega)⟩
theorem put_sq {n : Nat} {y : List (List Int)} (h : Sq n y) (i j : Nat) (hi : i < n) (hj : j < n) (v : Int) : Sq n (y.set i ((y.getD i []).set j v)) ∧
  ∀ a b : Nat, a < n → b < n → ((y.set i ((y.getD i []).set j v)).getD a []).getD b 0 = if a = i ∧ b = j then v else (y.getD a []).getD b 0 := by
 have hr := h.row hi
 refine ⟨⟨by rw [List.length_set]; exact h.1, fun r hr' => ?_⟩, fun a b ha hb => ?_⟩
 ·rcases List.mem_or_eq_of_mem_set hr' with h1 | h1
  ·exact h.2 r h1
  ·rw [h1, List.length_set]; exact hr
 ·have ra := h.row ha
  by_cases e : i = a
  ·subst e
   rw [show (y.set i ((y.getD i []).set j v)).getD i [] = (y.getD i []).set j v from by rw [getD_at (y.set i _) [] (by rw [List.length_set, h.1]; exact hi), List.getElem_set_self]]
   by_cases e2 : j = b
   ·subst e2; rw [if_pos ⟨rfl, rfl⟩, getD_at _ _ (by rw [List.length_set, hr]; exact hj), List.getElem_set_self]
   ·rw [if_neg (fun h => e2 h.2.symm), getD_at _ _ (by rw [List.length_set, hr]; exact hb), List.getElem_set_ne e2, ← getD_at _ 0 (by rw [hr]; exact hb)]
  ·rw [if_neg (fun h => e h.1.symm), getD_at _ [] (by rw [List.length_set, h.1]; exact ha), List.getElem_set_ne e, ← getD_at y [] (by rw [h.1]; exact ha)]
theorem rep_sq (n : Nat) (v : Int) : Sq n (List.replicate n (List.replicate n v)) := ⟨by simp, fun r hr => by rw [List.eq_of_mem_replicate hr]; simp⟩
theorem sgZero (n : Nat) (hn : n ≤ 1000) : Ans (fun k => spec_sgZero.f k n) (List.replicate n (List.replicate n 0)) := by
 have key : ∀ (d i : Nat), i + d = n → Ans (fun k => spec_sgZero.l0 k n (List.replicate i (List.replicate n 0)) (i : Int)) (List.replicate n (List.replicate n 0)) := by
  intro d
  induction d with
  | zero =>
   intro i h
   obtain rfl : i = n := by omega
   exact Ans.step (by simp only [spec_sgZero.l0]; exact Ans.not (by omega) (Ans.pure _))
  | succ d ih =>
   intro i h
   have e := ih (i + 1) (by omega)
   refine Ans.step ?_
   simp only [spec_sgZero.l0, wrap64_up (show (0 : Int) ≤ i by omega) (by omega), Int.toNat_natCast]
   rw [List.replicate_succ', show ((i + 1 : Nat) : Int) = (i : Int) + 1 by omega] at e
   exact Ans.yes (by omega) (Ans.yes (by omega) (Ans.yes (by omega) (Ans.yes (by rw [List.length_replicate]; omega) e)))
 exact key n 0 (by omega)
def sgat (x : List (List Int)) (i j : Int) : Int := if i < 0 then 0 else if j < 0 then 0 else rd (rd_L3 x i) j
theorem sgAt {n : Nat} {x : List (List Int)} (h : Sq n x) (i j : Int) (hi : i < n) (hj : j < n) : spec_sgAt.f x i j = some (sgat x i j) := by
 simp only [spec_sgAt.f, sgat]
 by_cases c1 : i < 0
 ·rw [if_pos c1, if_pos c1]
 ·by_cases c2 : j < 0
  ·rw [if_neg c1, if_neg c1, if_pos c2, if_pos c2]
  ·have hr : (rd_L3 x i).length = n := h.row (by omega)
   rw [if_neg c1, if_neg c1, if_neg c2, if_neg c2, if_pos (by omega), if_pos (by have := h.1; omega), if_pos (by omega), if_pos (by omega)]
def diff (x : List (List Int)) (i j : Int) : Int := wrap64 (wrap64 (wrap64 (sgat x i j - sgat x (i - 1) j) - sgat x i (j - 1)) + sgat x (i - 1) (j - 1))
def frm (x : List (List Int)) : List (List Int) := tab x.length x.length (fun i j => diff x i j)
theorem tab_sq (n : Nat) (v : Nat → Nat → Int) : Sq n (tab n n v) := ⟨by simp [tab], fun r hr => by obtain ⟨a, _, rfl⟩ := List.mem_map.1 hr; simp⟩
theorem sgFrom (n : Nat) (x : List (List Int)) (h : Sq n x) (hn : n ≤ 1000) : Ans (fun k => spec_sgFrom.f k x) (frm x) := by
 have hx := h.1
 have inner : ∀ (i : Nat), i < n → ∀ (d j : Nat) (y : List (List Int)), j + d = n → Sq n y → (∀ a b : Nat, a < n → b < n → (a < i ∨ a = i ∧ b < j) → (y.getD a []).getD b 0 = diff x a b) →
   (∀ y', Sq n y' → (∀ a b : Nat, a < n → b < n → a < i + 1 → (y'.getD a []).getD b 0 = diff x a b) → Ans (fun k => spec_sgFrom.l0 k x y' (n : Int) ((i + 1 : Nat) : Int)) (frm x)) →
   Ans (fun k => spec_sgFrom.l1 k x y (i : Int) (n : Int) (i : Int) (n : Int) (j : Int)) (frm x) := by
  intro i hi d
  induction d with
  | zero =>
   intro j y hj hy hv nx
   refine Ans.step ?_
   simp only [spec_sgFrom.l1, wrap64_up (show (0 : Int) ≤ i by omega) (by omega)]
   have := nx y hy (fun a b ha hb hlt => hv a b ha hb (by omega))
   rw [show ((i + 1 : Nat) : Int) = (i : Int) + 1 by omega] at this
   exact Ans.not (by omega) this
  | succ d ih =>
   intro j y hj hy hv nx
   obtain ⟨q1, q2⟩ := put_sq hy i j hi (by omega) (diff x i j)
   have e := ih (j + 1) _ (by omega) q1 (fun a b ha hb hlt => by
    rw [q2 a b ha hb]
    by_cases c : a = i ∧ b = j
    ·rw [if_pos c, c.1, c.2]
    ·rw [if_neg c]; exact hv a b ha hb (by omega)) nx
   have hr : (rd_L3 y (i : Int)).length = n := by unfold rd_L3; rw [Int.toNat_natCast]; exact hy.row hi
   have w1 : wrap64 ((i : Int) - 1) = (i : Int) - 1 := wrap64_in _ ⟨by omega, by omega⟩
   have w2 : wrap64 ((j : Int) - 1) = (j : Int) - 1 := wrap64_in _ ⟨by omega, by omega⟩
   refine Ans.step ?_
   simp only [spec_sgFrom.l1, w1, w2, wrap64_up (show (0 : Int) ≤ j by omega) (by omega), sgAt h i j (by omega) (by omega), sgAt h ((i : Int) - 1) j (by omega) (by omega), sgAt h i ((j : Int) - 1) (by omega) (by omega), sgAt h ((i : Int) - 1) ((j : Int) - 1) (by omega) (by omega), Option.bind_some, Int.toNat_natCast]
   rw [show ((j + 1 : Nat) : Int) = (j : Int) + 1 by omega] at e
   exact Ans.yes (by omega) (Ans.yes (by omega) (Ans.yes (by have := hy.1; omega) (Ans.yes (by omega) (Ans.yes (by omega) e))))
 have key : ∀ (d i : Nat) (y : List (List Int)), i + d = n → Sq n y → (∀ a b : Nat, a < n → b < n → a < i → (y.getD a []).getD b 0 = diff x a b) → Ans (fun k => spec_sgFrom.l0 k x y (n : Int) (i : Int)) (frm x) := by
  intro d
  induction d with
  | zero =>
   intro i y h1 hy hv
   have : y = frm x := by unfold frm; rw [hx]; exact (tab_is hy _ (fun a b ha hb => (hv a b ha hb (by omega)).symm)).symm
   rw [this]
   exact Ans.step (by simp only [spec_sgFrom.l0]; exact Ans.not (by omega) (Ans.pure _))
  | succ d ih =>
   intro i y h1 hy hv
   refine Ans.step ?_
   simp only [spec_sgFrom.l0, hx]
   exact Ans.yes (by omega) (inner i (by omega) n 0 y (by omega) hy (fun a b ha hb hlt => hv a b ha hb (by omega)) (fun y' hy' hv' => ih (i + 1) y' (by omega) hy' hv'))
 simp only [spec_sgFrom.f, hx]
 exact (sgZero n hn).bind (by
  have := key n 0 (List.replicate n (List.replicate n 0)) (by omega) (rep_sq n 0) (fun a b ha hb hlt => by omega)
  simpa [rep_sq] using this)
theorem frm_sq {n : Nat} {x : List (List Int)} (h : Sq n x) : Sq n (frm x) := by unfold frm; rw [h.1]; exact tab_sq n _
def corn (n : Nat) : List (List Int) := tab n n (fun i j => ((min i j : Nat) : Int) + 1)
theorem corn_sign : ∀ n : Nat, 1 ≤ n → n ≤ 6 → sign (frm (corn n)) = true := by
 intro n h1 h2
 rcases (show n = 1 ∨ n = 2 ∨ n = 3 ∨ n = 4 ∨ n = 5 ∨ n = 6 by omega) with rfl | rfl | rfl | rfl | rfl | rfl
 all_goals decide +kernel
def InZ (x : List (List Int)) : Prop := ∀ r ∈ x, ∀ v ∈ r, -9223372036854775808 ≤ v ∧ v ≤ 9223372036854775807
theorem wrap64_range (n : Int) : -9223372036854775808 ≤ wrap64 n ∧ wrap64 n ≤ 9223372036854775807 := by unfold wrap64; omega
theorem InZ.put {x : List (List Int)} (h : InZ x) (i j : Nat) (hi : i < x.length) (n : Int) : InZ (x.set i ((x.getD i []).set j (wrap64 n))) := by
 intro r hr v hv
 rcases List.mem_or_eq_of_mem_set hr with h1 | h1
 ·exact h r h1 v hv
 ·subst h1
  rcases List.mem_or_eq_of_mem_set hv with h2 | h2
  ·exact h _ (getD_mem [] hi) v h2
  ·rw [h2]; exact wrap64_range n
theorem draw_sure (c : List Int) (hc : ∀ x ∈ c, (Lit.int .u8 x).wf = true) (a s : Int) (n : Nat) (hn : 1 ≤ n) (hn2 : n ≤ 6) (h0 : 0 ≤ a) (h1 : a ≤ 1000000000000) :
  ∃ m a' s', Ans (fun k => spec_l1Cur_sure.f k c a s n) (m, a', s') ∧ a ≤ a' ∧ a' ≤ a + 1000 ∧ Sq n m ∧ sign m = true := by

 have flips : ∀ (d : Nat) (x : List (List Int)) (a s : Int), Sq n x → InZ x → sign (frm x) = true → 0 ≤ a → a + 6 * d ≤ 1000000002000 →
   ∃ m a' s', Ans (fun k => spec_l1Cur_sure.l2 k n x (d : Int) c a s) (m, a', s') ∧ a ≤ a' ∧ a' ≤ a + 6 * d ∧ Sq n m ∧ sign m = true := by
  intro d
  induction d with
  | zero =>
   intro x a s hx hz hs h0 h1
   refine ⟨frm x, a, s, Ans.step ?_, by omega, by omega, frm_sq hx, hs⟩
   simp only [spec_l1Cur_sure.l2]
   refine Ans.not (by omega) (Ans.step ?_)
   simp only [spec_l1Cur_sure.j3]
   exact Ans.not (by simp) ((sgFrom n x hx (by omega)).bind (Ans.pure _))
  | succ d ih =>
   intro x a s hx hz hs h0 h1
   by_cases c1 : (n : Int) > 1
   ·have wn : wrap64 ((n : Int) - 1) = (n : Int) - 1 := wrap64_in _ ⟨by omega, by omega⟩
    obtain ⟨i, a1, s1, e1, p1, q1, i0, i1⟩ := draw_pick c hc a s ((n : Int) - 1) h0 (by omega)
    obtain ⟨j, a2, s2, e2, p2, q2, j0, j1⟩ := draw_pick c hc a1 s1 ((n : Int) - 1) (by omega) (by omega)
    obtain ⟨v, a3, s3, e3, p3, q3, v0, v1⟩ := draw_pick c hc a2 s2 2 (by omega) (by omega)
    have hr : (rd_L3 x i).length = n := hx.row (by omega)
    have hl := hx.1
    obtain ⟨y, hy⟩ : ∃ y, y = x.set i.toNat ((rd_L3 x i).set j.toNat (wrap64 ((rd (rd_L3 x i) j) + (wrap64 ((wrap64 (2 * v)) - 1))))) := ⟨_, rfl⟩
    have ys : Sq n y := by rw [hy]; exact (put_sq hx i.toNat j.toNat (by omega) (by omega) _).1
    have yz : InZ y := by rw [hy]; exact hz.put i.toNat j.toNat (by omega) _
    have wd : wrap64 (((d + 1 : Nat) : Int) - 1) = d := by rw [wrap64_in _ ⟨by omega, by omega⟩]; omega
    by_cases c2 : sign (frm y) = true
    ·obtain ⟨m, a', s', e, g1, g2, g3, g4⟩ := ih y a3 s3 ys yz c2 (by omega) (by omega)
     refine ⟨m, a', s', Ans.step ?_, by omega, by omega, g3, g4⟩
     simp only [spec_l1Cur_sure.l2]
     refine Ans.yes (by omega) (Ans.step ?_)
     simp only [spec_l1Cur_sure.j3, wn, wd, e1, e2, e3, Option.bind_some, ← hy]
     have gg := sgGood (frm y) (by rw [(frm_sq ys).1]; omega)
     rw [c2] at gg
     exact Ans.yes (by simp; omega) (Ans.yes i0 (Ans.yes (by omega) (Ans.yes j0 (Ans.yes (by omega) ((sgFrom n y ys (by omega)).bind (gg.bind (Ans.yes rfl e)))))))
    ·have back : y.set i.toNat ((rd_L3 y i).set j.toNat (wrap64 ((rd (rd_L3 y i) j) - (wrap64 ((wrap64 (2 * v)) - 1))))) = x := by
      have hq := put_sq hx i.toNat j.toNat (by omega) (by omega) (wrap64 ((rd (rd_L3 x i) j) + (wrap64 ((wrap64 (2 * v)) - 1))))
      have hq2 := put_sq ys i.toNat j.toNat (by omega) (by omega) (wrap64 ((rd (rd_L3 y i) j) - (wrap64 ((wrap64 (2 * v)) - 1))))
      refine ext_sq hq2.1 hx (fun a b ha hb => ?_)
      have e1 := hq2.2 a b ha hb
      rw [show y.getD i.toNat [] = rd_L3 y i from rfl] at e1
      rw [e1]
      have hyv := hq.2 a b ha hb
      rw [show x.getD i.toNat [] = rd_L3 x i from rfl, ← hy] at hyv
      by_cases c3 : a = i.toNat ∧ b = j.toNat
      ·rw [if_pos c3]
       rw [if_pos c3] at hyv
       have e4 : rd (rd_L3 y i) j = wrap64 ((rd (rd_L3 x i) j) + (wrap64 ((wrap64 (2 * v)) - 1))) := by rw [← hyv, c3.1, c3.2]; rfl
       rw [e4, c3.1, c3.2, show (x.getD i.toNat []).getD j.toNat 0 = rd (rd_L3 x i) j from rfl]
       have hz1 := hz (rd_L3 x i) (getD_mem [] (by omega)) (rd (rd_L3 x i) j) (getD_mem 0 (by omega))
       unfold wrap64
       omega
      ·rw [if_neg c3]; rw [if_neg c3] at hyv; exact hyv
     have hry : (rd_L3 y i).length = n := ys.row (by omega)
     obtain ⟨m, a', s', e, g1, g2, g3, g4⟩ := ih x a3 s3 hx hz hs (by omega) (by omega)
     refine ⟨m, a', s', Ans.step ?_, by omega, by omega, g3, g4⟩
     simp only [spec_l1Cur_sure.l2]
     refine Ans.yes (by omega) (Ans.step ?_)
     simp only [spec_l1Cur_sure.j3, wn, wd, e1, e2, e3, Option.bind_some, ← hy, back]
     have gg := sgGood (frm y) (by rw [(frm_sq ys).1]; omega)
     rw [Bool.eq_false_iff.mpr c2] at gg
     exact Ans.yes (by simp; omega) (Ans.yes i0 (Ans.yes (by omega) (Ans.yes j0 (Ans.yes (by omega) ((sgFrom n y ys (by omega)).bind (gg.bind (Ans.not (by simp) (Ans.yes (by omega) e))))))))
   ·refine ⟨frm x, a, s, Ans.step ?_, by omega, by omega, frm_sq hx, hs⟩
    simp only [spec_l1Cur_sure.l2]
    refine Ans.yes (by omega) (Ans.step ?_)
    simp only [spec_l1Cur_sure.j3]
    exact Ans.not (by simp; omega) ((sgFrom n x hx (by omega)).bind (Ans.pure _))

 have w3 : wrap64 ((wrap64 (3 * (n : Int))) * n) = 3 * (n : Int) * n := by
  have : (3 * (n : Int)) * n ≤ 18 * 6 := Int.mul_le_mul (by omega) (by omega) (by omega) (by omega)
  have h0 : 0 ≤ 3 * (n : Int) * n := Int.mul_nonneg (by omega) (by omega)
  rw [wrap64_in (3 * (n : Int)) ⟨by omega, by omega⟩, wrap64_in _ ⟨by omega, by omega⟩]
 obtain ⟨t, a1, s1, e1, p1, q1, t0, t1⟩ := draw_pick c hc a s (3 * (n : Int) * n) h0 (by omega)
 have ht : t ≤ 108 := by
  have : (3 * (n : Int)) * n ≤ 18 * 6 := Int.mul_le_mul (by omega) (by omega) (by omega) (by omega)
  omega
 obtain ⟨m, a', s', e2, p2, q2, g3, g4⟩ := flips t.toNat (corn n) a1 s1 (tab_sq n _) (by
  intro r hr v hv
  obtain ⟨i, hi, rfl⟩ := List.mem_map.1 hr
  obtain ⟨j, hj, rfl⟩ := List.mem_map.1 hv
  rw [List.mem_range] at hi hj
  show -9223372036854775808 ≤ ((min i j : Nat) : Int) + 1 ∧ ((min i j : Nat) : Int) + 1 ≤ 9223372036854775807
  have := Nat.min_le_left i j
  omega) (corn_sign n hn hn2) (by omega) (by omega)
 rw [Int.toNat_of_nonneg t0] at e2
 refine ⟨m, a', s', ?_, by omega, by omega, g3, g4⟩
 have inner : ∀ (i : Nat), i < n → ∀ (d j : Nat) (y : List (List Int)), j + d = n → Sq n y → (∀ a b : Nat, a < n → b < n → (a < i ∨ a = i ∧ b < j) → (y.getD a []).getD b 0 = ((min a b : Nat) : Int) + 1) →
   (∀ y', Sq n y' → (∀ a b : Nat, a < n → b < n → a < i + 1 → (y'.getD a []).getD b 0 = ((min a b : Nat) : Int) + 1) → Ans (fun k => spec_l1Cur_sure.l0 k n y' (n : Int) ((i + 1 : Nat) : Int) c a s) (m, a', s')) →
   Ans (fun k => spec_l1Cur_sure.l1 k n y (i : Int) (n : Int) (i : Int) (n : Int) (j : Int) c a s) (m, a', s') := by
  intro i hi d
  induction d with
  | zero =>
   intro j y hj hy hv nx
   refine Ans.step ?_
   simp only [spec_l1Cur_sure.l1, wrap64_up (show (0 : Int) ≤ i by omega) (by omega)]
   have := nx y hy (fun a b ha hb hlt => hv a b ha hb (by omega))
   rw [show ((i + 1 : Nat) : Int) = (i : Int) + 1 by omega] at this
   exact Ans.not (by omega) this
  | succ d ih =>
   intro j y hj hy hv nx
   obtain ⟨q1, q2⟩ := put_sq hy i j hi (by omega) (((min i j : Nat) : Int) + 1)
   have e := ih (j + 1) _ (by omega) q1 (fun a b ha hb hlt => by
    rw [q2 a b ha hb]
    by_cases c : a = i ∧ b = j
    ·rw [if_pos c, c.1, c.2]
    ·rw [if_neg c]; exact hv a b ha hb (by omega)) nx
   have hr : (rd_L3 y (i : Int)).length = n := by unfold rd_L3; rw [Int.toNat_natCast]; exact hy.row hi
   have hl : spec_l1Least.f (i : Int) (j : Int) = some ((min i j : Nat) : Int) := by
    simp only [spec_l1Least.f]
    by_cases c : (i : Int) < j
    ·rw [if_pos c, Nat.min_eq_left (by omega)]
    ·rw [if_neg c, Nat.min_eq_right (by omega)]
   have w1 : wrap64 (((min i j : Nat) : Int) + 1) = ((min i j : Nat) : Int) + 1 := wrap64_in _ ⟨by omega, by omega⟩
   refine Ans.step ?_
   simp only [spec_l1Cur_sure.l1, hl, Option.bind_some, w1, wrap64_up (show (0 : Int) ≤ j by omega) (by omega), Int.toNat_natCast]
   rw [show ((j + 1 : Nat) : Int) = (j : Int) + 1 by omega] at e
   exact Ans.yes (by omega) (Ans.yes (by omega) (Ans.yes (by have := hy.1; omega) (Ans.yes (by omega) (Ans.yes (by omega) e))))
 have key : ∀ (d i : Nat) (y : List (List Int)), i + d = n → Sq n y → (∀ a b : Nat, a < n → b < n → a < i → (y.getD a []).getD b 0 = ((min a b : Nat) : Int) + 1) → Ans (fun k => spec_l1Cur_sure.l0 k n y (n : Int) (i : Int) c a s) (m, a', s') := by
  intro d
  induction d with
  | zero =>
   intro i y h1 hy hv
   have : y = corn n := (tab_is hy _ (fun a b ha hb => (hv a b ha hb (by omega)).symm)).symm
   rw [this]
   refine Ans.step ?_
   simp only [spec_l1Cur_sure.l0, w3, e1, Option.bind_some]
   exact Ans.not (by omega) e2
  | succ d ih =>
   intro i y h1 hy hv
   have hl := hy.1
   refine Ans.step ?_
   simp only [spec_l1Cur_sure.l0, hl]
   exact Ans.yes (by omega) (inner i (by omega) n 0 y (by omega) hy (fun a b ha hb hlt => hv a b ha hb (by omega)) (fun y' hy' hv' => ih (i + 1) y' (by omega) hy' hv'))
 simp only [spec_l1Cur_sure.f]
 refine (sgZero n (by omega)).bind ?_
 simp only [List.length_replicate]
 exact key n 0 _ (by omega) (rep_sq n 0) (fun a b ha hb hlt => by omega)
theorem draw_signs (c : List Int) (hc : ∀ x ∈ c, (Lit.int .u8 x).wf = true) (a s : Int) (most : Nat) (hm : 1 ≤ most) (hm2 : most ≤ 6) (h0 : 0 ≤ a) (h1 : a ≤ 100000000000) :
  ∃ m a' s', Ans (fun k => spec_l1Cur_signs.f k c a s most) (m, a', s') ∧ a ≤ a' ∧ a' ≤ a + 3000 ∧ m.length ≤ 7 ∧ ∀ r ∈ m, r.length ≤ 7 := by
 obtain ⟨t, a1, s1, e1, p1, q1, t0, t1⟩ := draw_pick c hc a s most h0 (by omega)
 have wt : wrap64 (1 + t) = ((t.toNat + 1 : Nat) : Int) := by rw [wrap64_in _ ⟨by omega, by omega⟩]; omega
 obtain ⟨n, hn⟩ : ∃ n, n = t.toNat + 1 := ⟨_, rfl⟩
 rw [← hn] at wt
 obtain ⟨m, a2, s2, e2, p2, q2, hs, _⟩ := draw_sure c hc a1 s1 n (by omega) (by omega) (by omega) (by omega)
 obtain ⟨z, a3, s3, e3, p3, q3, z0, z1⟩ := draw_pick c hc a2 s2 20 (by omega) (by omega)
 have hl := hs.1
 by_cases c0 : z = 0
 ·obtain ⟨i, a4, s4, e4, p4, q4, i0, i1⟩ := draw_pick c hc a3 s3 n (by omega) (by omega)
  obtain ⟨j, a5, s5, e5, p5, q5, j0, j1⟩ := draw_pick c hc a4 s4 n (by omega) (by omega)
  obtain ⟨v, a6, s6, e6, p6, q6, _⟩ := draw_among c hc a5 s5 [(-2), (-1), 0, 1, 2, 4611686018427387904] (by simp) (by omega) (by omega)
  have hr : (rd_L3 m i).length = n := hs.row (by omega)
  refine ⟨m.set i.toNat ((rd_L3 m i).set j.toNat v), a6, s6, ?_, by omega, by omega, by rw [List.length_set]; omega, fun r hr' => ?_⟩
  ·simp only [spec_l1Cur_signs.f, e1, Option.bind_some, wt]
   refine e2.bind ?_
   simp only [e3, Option.bind_some]
   refine Ans.yes c0 ?_
   simp only [e4, Option.bind_some]
   refine Ans.yes i0 (Ans.yes (by omega) ?_)
   simp only [e5, e6, Option.bind_some]
   exact Ans.yes j0 (Ans.yes (by omega) (Ans.pure _))
  ·rcases List.mem_or_eq_of_mem_set hr' with h | h
   ·rw [hs.2 r h]; omega
   ·rw [h, List.length_set, hr]; omega
 by_cases c1 : z = 1
 ·refine ⟨m ++ [List.replicate n 0], a3, s3, ?_, by omega, by omega, by simp; omega, fun r hr' => ?_⟩
  ·simp only [spec_l1Cur_signs.f, e1, Option.bind_some, wt]
   refine e2.bind ?_
   simp only [e3, Option.bind_some, Int.toNat_natCast]
   exact Ans.not c0 (Ans.yes c1 (Ans.yes (by omega) (Ans.yes (by omega) (Ans.yes (by omega) (Ans.pure _)))))
  ·rcases List.mem_append.1 hr' with h | h
   ·rw [hs.2 r h]; omega
   ·simp only [List.mem_singleton] at h; rw [h, List.length_replicate]; omega
 by_cases c2 : z = 2
 ·have hr : (rd_L3 m 0).length = n := hs.row (by omega)
  refine ⟨m.set (0 : Int).toNat (rd_L3 m 0 ++ [0]), a3, s3, ?_, by omega, by omega, by rw [List.length_set]; omega, fun r hr' => ?_⟩
  ·simp only [spec_l1Cur_signs.f, e1, Option.bind_some, wt]
   refine e2.bind ?_
   simp only [e3, Option.bind_some]
   exact Ans.not c0 (Ans.not c1 (Ans.yes c2 (Ans.yes (by omega) (Ans.yes (by omega) (Ans.pure _)))))
  ·rcases List.mem_or_eq_of_mem_set hr' with h | h
   ·rw [hs.2 r h]; omega
   ·rw [h, List.length_append, hr]; simp; omega
 by_cases c3 : z = 3
 ·obtain ⟨m2, a4, s4, e4, p4, q4, hs2, _⟩ := draw_sure c hc a3 s3 6 (by omega) (by omega) (by omega) (by omega)
  obtain ⟨u, a5, s5, e5, p5, q5⟩ := draw_one c hc a4 s4 2 (by omega) (by omega)
  cases u with
  | true =>
   refine ⟨[], a5, s5, ?_, by omega, by omega, by simp, by simp⟩
   simp only [spec_l1Cur_signs.f, e1, Option.bind_some, wt]
   refine e2.bind ?_
   simp only [e3, Option.bind_some]
   refine Ans.not c0 (Ans.not c1 (Ans.not c2 (Ans.yes c3 (e4.bind ?_))))
   simp only [e5, Option.bind_some]
   exact Ans.yes trivial (Ans.pure _)
  | false =>
   refine ⟨m2, a5, s5, ?_, by omega, by omega, by rw [hs2.1]; omega, fun r hr => by rw [hs2.2 r hr]; omega⟩
   simp only [spec_l1Cur_signs.f, e1, Option.bind_some, wt]
   refine e2.bind ?_
   simp only [e3, Option.bind_some]
   refine Ans.not c0 (Ans.not c1 (Ans.not c2 (Ans.yes c3 (e4.bind ?_))))
   simp only [e5, Option.bind_some]
   exact Ans.not (by simp) (Ans.pure _)
 ·refine ⟨m, a3, s3, ?_, by omega, by omega, by omega, fun r hr => by rw [hs.2 r hr]; omega⟩
  simp only [spec_l1Cur_signs.f, e1, Option.bind_some, wt]
  refine e2.bind ?_
  simp only [e3, Option.bind_some]
  exact Ans.not c0 (Ans.not c1 (Ans.not c2 (Ans.not c3 (Ans.pure _))))
theorem hSame (x y : List Int) (hx : x.length ≤ 17592186044416) : Ans (fun k => laws_hSame.f k x y) (decide (x = y)) := by
 simp only [laws_hSame.f]
 by_cases hl : (x.length : Int) = (y.length : Int)
 ·refine Ans.yes hl ?_
  have key : ∀ (d : Nat) (i : Int), 0 ≤ i → i + d = x.length → Ans (fun k => laws_hSame.l0 k x y (x.length : Int) i) (decide (x.drop i.toNat = y.drop i.toNat)) := by
   intro d
   induction d with
   | zero =>
    intro i h0 h1
    refine Ans.step ?_
    simp only [laws_hSame.l0]
    rw [drop_all x (by omega), drop_all y (by omega)]
    exact Ans.not (by omega) (Ans.pure _)
   | succ d ih =>
    intro i h0 h1
    refine Ans.step ?_
    simp only [laws_hSame.l0]
    refine Ans.yes (by omega) (Ans.yes h0 (Ans.yes (by omega) (Ans.yes (by omega) ?_)))
    rw [drop_at x 0 (show i.toNat < x.length by omega), drop_at y 0 (show i.toNat < y.length by omega)]
    by_cases c : rd x i = rd y i
    ·have e := ih (i + 1) (by omega) (by omega)
     rw [wrap64_in (i + 1) ⟨by omega, by omega⟩]
     rw [show (i + 1).toNat = i.toNat + 1 by omega] at e
     refine Ans.yes c ?_
     rw [show x.getD i.toNat 0 = y.getD i.toNat 0 from c]
     simpa using e
    ·refine Ans.not c ?_
     rw [show decide (x.getD i.toNat 0 :: x.drop (i.toNat + 1) = y.getD i.toNat 0 :: y.drop (i.toNat + 1)) = false from decide_eq_false (fun h => c (by injection h))]
     exact Ans.pure _
  exact key x.length 0 (by omega) (by omega)
 ·refine Ans.not hl ?_
  rw [decide_eq_false (fun h => hl (by rw [h]))]
  exact Ans.pure _
theorem hRows (x : List (List Int)) (hx : x.length ≤ 1000000) (hr : ∀ r ∈ x, r.length ≤ 1000000) : Ans (fun k => laws_hRows.f k x x) true := by
 simp only [laws_hRows.f]
 refine Ans.yes trivial ?_
 have key : ∀ (d : Nat) (i : Int), 0 ≤ i → i + d = x.length → Ans (fun k => laws_hRows.l0 k x x (x.length : Int) i) true := by
  intro d
  induction d with
  | zero => intro i h0 h1; exact Ans.step (by simp only [laws_hRows.l0]; exact Ans.not (by omega) (Ans.pure _))
  | succ d ih =>
   intro i h0 h1
   have e := hSame (rd_L3 x i) (rd_L3 x i) (by have := hr _ (rd_L1_mem h0 (show i < x.length by omega)); omega)
   rw [decide_eq_true rfl] at e
   refine Ans.step ?_
   simp only [laws_hRows.l0, wrap64_in (i + 1) ⟨by omega, by omega⟩]
   exact Ans.yes (by omega) (Ans.yes h0 (Ans.yes (by omega) (Ans.yes (by omega) (e.bind (Ans.yes rfl (ih _ (by omega) (by omega)))))))
 exact key x.length 0 (by omega) (by omega)
theorem tab_en {r c : Nat} (v : Nat → Nat → Int) {i j : Nat} (hi : i < r) (hj : j < c) : en (tab r c v) i j = v i j := by
 unfold en
 rw [show (tab r c v).getD i [] = (List.range c).map (fun j => v i j) by rw [getD_at _ _ (by simpa [tab] using hi)]; simp [tab]]
 rw [getD_at _ _ (by simpa using hj)]; simp
def co (x : List (List Int)) (i j : Nat) : Int := S i (fun k => S j (en x k))
theorem co_comm (x : List (List Int)) (i j : Nat) : co x i j = S j (fun l => S i (fun k => en x k l)) := S_comm _ _ _
theorem co_row (x : List (List Int)) (i j : Nat) : co x (i + 1) j = co x i j + S j (en x i) := rfl
theorem co_four (x : List (List Int)) (i j : Nat) : co x (i + 1) (j + 1) - co x i (j + 1) - co x (i + 1) j + co x i j = en x i j := by
 rw [co_row, co_row, S]; omega
theorem S_range {f : Nat → Int} {a b : Int} : ∀ {n : Nat}, (∀ i, i < n → a ≤ f i ∧ f i ≤ b) → a * n ≤ S n f ∧ S n f ≤ b * n
 | 0, _ => by simp [S]
 | n + 1, h => by
  have x := S_range (fun i hi => h i (by omega : i < n + 1)) (n := n)
  have y := h n (by omega)
  rw [S, Int.natCast_add, Int.natCast_one, Int.mul_add, Int.mul_add, Int.mul_one, Int.mul_one]; omega
theorem pre_in {x : List (List Int)} (s : sign x = true) {n : Nat} (hn : x.length = n) : (∀ k j, k < n → j ≤ n → 0 ≤ S j (en x k) ∧ S j (en x k) ≤ 1) ∧ ∀ i l, i ≤ n → l < n → 0 ≤ S i (fun k => en x k l) ∧ S i (fun k => en x k l) ≤ 1 := by
 obtain ⟨_, _, _, E, R, C⟩ := sign_en s hn
 refine ⟨fun k j hk hj => ?_, fun i l hi hl => ?_⟩
 ·by_cases e : j < n
  ·have := (E k j hk e).2.1; omega
  ·have := R k hk
   rw [show j = n by omega]; omega
 ·by_cases e : i < n
  ·have := (E i l e hl).2.2; omega
  ·have := C l hl
   rw [show i = n by omega]; omega
theorem co_in {x : List (List Int)} (s : sign x = true) {n : Nat} (hn : x.length = n) {i j : Nat} (hi : i ≤ n) (hj : j ≤ n) : 0 ≤ co x i j ∧ co x i j ≤ i ∧ co x i j ≤ j ∧ (i : Int) + j - n ≤ co x i j := by
 obtain ⟨P, Q⟩ := pre_in s hn
 obtain ⟨_, _, _, _, R, _⟩ := sign_en s hn
 have a := S_range (n := i) (f := fun k => S j (en x k)) (a := 0) (b := 1) (fun k hk => P k j (by omega) hj)
 have b := S_range (n := j) (f := fun l => S i (fun k => en x k l)) (a := 0) (b := 1) (fun l hl => Q i l hi (by omega))
 have c := co_comm x i j
 have d : S i (fun k => S n (en x k)) = co x i j + S (n - j) (fun t => S i (fun k => en x k (j + t))) := by
  rw [S_comm (fun t k => en x k (j + t)) i (n - j)]
  unfold co
  rw [← S_add]
  refine S_congr fun k hk => ?_
  have := S_split (en x k) j (n - j)
  rw [show j + (n - j) = n by omega] at this
  exact this
 have e : S i (fun k => S n (en x k)) = (i : Int) := by
  rw [S_congr (g := fun _ => 1) (fun k hk => R k (by omega))]
  have h := S_range (n := i) (f := fun _ => 1) (a := 1) (b := 1) (fun _ _ => by omega)
  omega
 have f := S_range (n := n - j) (f := fun t => S i (fun k => en x k (j + t))) (a := 0) (b := 1) (fun t ht => Q i (j + t) hi (by omega))
 rw [e] at d
 unfold co at *
 omega
def hgt (x : List (List Int)) (i j : Nat) : Int := (i : Int) + j - 2 * co x i j
def HT (x : List (List Int)) : List (List Int) := tab (x.length + 1) (x.length + 1) (hgt x)
theorem HT_sq (x : List (List Int)) : Sq (x.length + 1) (HT x) := tab_sq _ _
theorem HT_en {x : List (List Int)} {n : Nat} (hn : x.length = n) {i j : Nat} (hi : i ≤ n) (hj : j ≤ n) : en (HT x) i j = hgt x i j := by unfold HT; exact tab_en _ (by omega) (by omega)
theorem hgt_in {x : List (List Int)} (s : sign x = true) {n : Nat} (hn : x.length = n) {i j : Nat} (hi : i ≤ n) (hj : j ≤ n) : 0 ≤ hgt x i j ∧ hgt x i j ≤ n := by
 have := co_in s hn hi hj
 unfold hgt; omega
def HF (n : Nat) (h : Nat → Nat → Int) : Prop :=
 (∀ j, j ≤ n → h 0 j = j ∧ h j 0 = j ∧ h n j = (n : Int) - j ∧ h j n = (n : Int) - j) ∧
 (∀ i j, i < n → j ≤ n → h (i + 1) j - h i j = 1 ∨ h (i + 1) j - h i j = -1) ∧ (∀ i j, i ≤ n → j < n → h i (j + 1) - h i j = 1 ∨ h i (j + 1) - h i j = -1)
theorem S_one : ∀ m : Nat, S m (fun _ => 1) = (m : Int)
 | 0 => rfl
 | m + 1 => by rw [S, S_one m]; omega
theorem hgt_up (x : List (List Int)) (i j : Nat) : hgt x (i + 1) j - hgt x i j = 1 - 2 * S j (en x i) := by unfold hgt; rw [co_row]; omega
theorem hgt_right (x : List (List Int)) (i j : Nat) : hgt x i (j + 1) - hgt x i j = 1 - 2 * S i (fun k => en x k j) := by
 unfold hgt; rw [co_comm x i (j + 1), co_comm x i j, S]; omega
theorem hf_of {x : List (List Int)} (s : sign x = true) {n : Nat} (hn : x.length = n) : HF n (hgt x) := by
 obtain ⟨P, Q⟩ := pre_in s hn
 obtain ⟨_, _, _, _, R, C⟩ := sign_en s hn
 refine ⟨fun j hj => ?_, fun i j hi hj => ?_, fun i j hi hj => ?_⟩
 ·have a : co x 0 j = 0 := rfl
  have b : co x j 0 = 0 := by rw [co_comm]; rfl
  have c : co x n j = j := by rw [co_comm, S_congr (g := fun _ => 1) (fun l hl => C l (by omega)), S_one]
  have d : co x j n = j := by unfold co; rw [S_congr (g := fun _ => 1) (fun k hk => R k (by omega)), S_one]
  unfold hgt
  omega
 ·have := P i j hi hj
  have := hgt_up x i j
  omega
 ·have := Q i j hi hj
  have := hgt_right x i j
  omega
def mat (n : Nat) (h : Nat → Nat → Int) : List (List Int) := tab n n (fun i j => (h i (j + 1) + h (i + 1) j - h (i + 1) (j + 1) - h i j) / 2)
theorem mat_sq (n : Nat) (h : Nat → Nat → Int) : Sq n (mat n h) := tab_sq n _
theorem mat_en {n : Nat} (h : Nat → Nat → Int) {i j : Nat} (hi : i < n) (hj : j < n) : en (mat n h) i j = (h i (j + 1) + h (i + 1) j - h (i + 1) (j + 1) - h i j) / 2 := tab_en _ hi hj
theorem mat_row {n : Nat} {h : Nat → Nat → Int} (H : HF n h) {i : Nat} (hi : i < n) : ∀ j, j ≤ n → 2 * S j (en (mat n h) i) = 1 - (h (i + 1) j - h i j)
 | 0, _ => by
  have a := (H.1 i (by omega)).2.1
  have b := (H.1 (i + 1) (by omega)).2.1
  simp only [S]; omega
 | j + 1, hj => by
  have ih := mat_row H hi j (by omega)
  have a := H.2.1 i j hi (by omega)
  have b := H.2.1 i (j + 1) hi hj
  rw [S, mat_en h hi (by omega)]; omega
theorem mat_col {n : Nat} {h : Nat → Nat → Int} (H : HF n h) {j : Nat} (hj : j < n) : ∀ i, i ≤ n → 2 * S i (fun k => en (mat n h) k j) = 1 - (h i (j + 1) - h i j)
 | 0, _ => by
  have a := (H.1 j (by omega)).1
  have b := (H.1 (j + 1) (by omega)).1
  simp only [S]; omega
 | i + 1, hi => by
  have ih := mat_col H hj i (by omega)
  have a := H.2.2 i j (by omega) hj
  have b := H.2.2 (i + 1) j hi hj
  rw [S, mat_en h (by omega) hj]; omega
theorem mat_sign {n : Nat} {h : Nat → Nat → Int} (H : HF n h) (h1 : 1 ≤ n) (h6 : n ≤ 6) : sign (mat n h) = true := by
 have q := mat_sq n h
 refine sign_of q h1 h6 (fun r hr => ?_) (fun j hj => ?_)
 ·obtain ⟨i, hi, rfl⟩ := List.getElem_of_mem hr
  have hi' : i < n := by have := q.1; omega
  have e : (mat n h)[i] = (mat n h).getD i [] := (getD_at _ _ hi).symm
  have rl := q.row hi'
  rw [e]
  refine walk_of _ 0 (fun j hj => ?_) ?_
  ·rw [rl] at hj
   have a := mat_row H hi' j (by omega)
   have b := mat_row H hi' (j + 1) (by omega)
   have c := H.2.1 i j hi' (by omega)
   have d := H.2.1 i (j + 1) hi' (by omega)
   rw [S] at b
   rw [show S (j + 1) (fun k => ((mat n h).getD i []).getD k 0) = S j (en (mat n h) i) + en (mat n h) i j from rfl, show ((mat n h).getD i []).getD j 0 = en (mat n h) i j from rfl]
   omega
  ·rw [rl]
   have a := mat_row H hi' n (by omega)
   have b := (H.1 i (by omega)).2.2.2
   have c := (H.1 (i + 1) (by omega)).2.2.2
   rw [show S n (fun k => ((mat n h).getD i []).getD k 0) = S n (en (mat n h) i) from rfl]
   omega
 ·have cl : (colOf (mat n h) (j : Nat)).length = n := by simp [colOf, q.1]
  have ce : ∀ k, k < n → (colOf (mat n h) (j : Nat)).getD k 0 = en (mat n h) k j := fun k hk => col_at _ _ _ (by rw [q.1]; exact hk)
  refine walk_of _ 0 (fun i hi => ?_) ?_
  ·rw [cl] at hi
   have a := mat_col H hj i (by omega)
   have b := mat_col H hj (i + 1) (by omega)
   have c := H.2.2 i j (by omega) hj
   have d := H.2.2 (i + 1) j (by omega) hj
   rw [S] at b
   rw [S_congr (f := fun k => (colOf (mat n h) (j : Nat)).getD k 0) (g := fun k => en (mat n h) k j) (fun k hk => ce k (by omega)), ce i hi, S]
   omega
  ·rw [cl, S_congr (f := fun k => (colOf (mat n h) (j : Nat)).getD k 0) (g := fun k => en (mat n h) k j) (fun k hk => ce k hk)]
   have a := mat_col H hj n (by omega)
   have b := (H.1 j (by omega)).2.2.1
   have c := (H.1 (j + 1) (by omega)).2.2.1
   omega
theorem mat_hgt {n : Nat} {h : Nat → Nat → Int} (H : HF n h) {j : Nat} (hj : j ≤ n) : ∀ i, i ≤ n → hgt (mat n h) i j = h i j
 | 0, _ => by
  have a := (H.1 j hj).1
  have e : co (mat n h) 0 j = 0 := rfl
  unfold hgt; omega
 | i + 1, hi => by
  have ih := mat_hgt H hj i (by omega)
  have u := hgt_up (mat n h) i j
  have r := mat_row H (show i < n by omega) j hj
  omega
theorem mat_of {x : List (List Int)} (s : sign x = true) {n : Nat} (hn : x.length = n) : mat n (hgt x) = x := by
 obtain ⟨q, _⟩ := sign_en s hn
 refine ext_en (mat_sq n _) q fun i j hi hj => ?_
 rw [mat_en _ hi hj]
 have := co_four x i j
 unfold hgt; omega
theorem hf_parity {n : Nat} {h : Nat → Nat → Int} (H : HF n h) {j : Nat} (hj : j ≤ n) : ∀ i, i ≤ n → (h i j - i - j) % 2 = 0
 | 0, _ => by have := (H.1 j hj).1; omega
 | i + 1, hi => by
  have ih := hf_parity H hj i (by omega)
  have := H.2.1 i j (by omega) hj
  omega
theorem cornerSum {x : List (List Int)} (s : sign x = true) {n : Nat} (hn : x.length = n) {i j : Nat} (hi : i ≤ n) (hj : j ≤ n) : Ans (fun k => impl_cornerSum.f k x i j) (co x i j) := by
 obtain ⟨q, _, h6, _⟩ := sign_en s hn
 have tl : (x.take i).length = i := by rw [List.length_take]; omega
 have key : ∀ (d t : Nat), t + d = i → Ans (fun k => impl_cornerSum.l0 k j (co x t j) (x.take i) (i : Int) (t : Int)) (co x i j) := by
  intro d
  induction d with
  | zero =>
   intro t h
   obtain rfl : t = i := by omega
   refine Ans.step ?_
   simp only [impl_cornerSum.l0]
   exact Ans.not (by omega) (Ans.pure _)
  | succ d ih =>
   intro t h
   have e := ih (t + 1) (by omega)
   rw [show ((t + 1 : Nat) : Int) = (t : Int) + 1 by omega] at e
   have rw_ : rd_L3 (x.take i) (t : Int) = x.getD t [] := by
    unfold rd_L3
    rw [Int.toNat_natCast, getD_at _ _ (by rw [tl]; omega), getD_at _ _ (by omega), List.getElem_take]
   have rl : (x.getD t []).length = n := q.row (by omega)
   have pr := (pre_in s hn).1 t j (by omega) hj
   have ci := co_in s hn (show t + 1 ≤ n by omega) hj
   have cr := co_row x t j
   have sm := sumOf ((x.getD t []).take j) (by rw [List.length_take]; omega)
   rw [show ((x.getD t []).take j).length = j by rw [List.length_take]; omega, S_congr (g := en x t) (fun l hl => by
    unfold en
    rw [getD_at _ _ (by rw [List.length_take]; omega), getD_at (x.getD t []) 0 (by omega), List.getElem_take]), wrap64_in _ ⟨by omega, by omega⟩] at sm
   refine Ans.step ?_
   simp only [impl_cornerSum.l0, wrap64_up (show (0 : Int) ≤ t by omega) (by omega), rw_, Int.toNat_natCast]
   refine Ans.yes (by omega) (Ans.yes (by omega) (Ans.yes (by omega) (Ans.yes (by omega) (Ans.yes (by omega) (sm.bind ?_)))))
   rw [← cr, wrap64_in _ ⟨by omega, by omega⟩]
   exact e
 simp only [impl_cornerSum.f, Int.toNat_natCast, Option.bind_some]
 have := key i 0 (by omega)
 rw [tl]
 exact Ans.yes (by omega) (Ans.yes (by omega) this)
theorem implHeights {x : List (List Int)} (s : sign x = true) : Ans (fun k => impl_heights.f k x) (HT x) := by
 obtain ⟨_, _, h6, _⟩ := sign_en s rfl
 simp only [impl_heights.f]
 rw [show wrap64 ((x.length : Int) + 1) = ((x.length + 1 : Nat) : Int) by rw [wrap64_in _ ⟨by omega, by omega⟩]; omega]
 refine (table2 (x.length + 1) (x.length + 1) (by omega) (by omega) (fun k x0_ x1_ => impl_heights_1.f k x0_ x1_ x) (fun i j => hgt x i j) (fun i j hi hj => ?_)).bind (Ans.pure _)
 simp only [impl_heights_1.f]
 have c := co_in s rfl (show i ≤ x.length by omega) (show j ≤ x.length by omega)
 refine (cornerSum s rfl (show i ≤ x.length by omega) (show j ≤ x.length by omega)).bind ?_
 rw [wrap64_in ((i : Int) + j) ⟨by omega, by omega⟩, wrap64_in (2 * co x i j) ⟨by omega, by omega⟩, wrap64_in _ ⟨by omega, by omega⟩]
 exact Ans.pure _
theorem at_en (x : List (List Int)) (i j : Nat) : rd (rd_L3 x (i : Int)) (j : Int) = en x i j := by simp only [rd, rd_L3, Int.toNat_natCast, en]
theorem sgCorners {x : List (List Int)} (s : sign x = true) {n : Nat} (hn : x.length = n) : Ans (fun k => spec_sgCorners.f k x) (tab n n (fun i j => co x (i + 1) (j + 1))) := by
 obtain ⟨q, _, h6, _⟩ := sign_en s hn
 have inner : ∀ (i : Nat), i < n → ∀ (d j : Nat) (y : List (List Int)), j + d = n → Sq n y → (∀ a b : Nat, a < n → b < n → (a < i ∨ a = i ∧ b < j) → (y.getD a []).getD b 0 = co x (a + 1) (b + 1)) →
   (∀ y', Sq n y' → (∀ a b : Nat, a < n → b < n → a < i + 1 → (y'.getD a []).getD b 0 = co x (a + 1) (b + 1)) → Ans (fun k => spec_sgCorners.l0 k x y' (n : Int) ((i + 1 : Nat) : Int)) (tab n n (fun i j => co x (i + 1) (j + 1)))) →
   Ans (fun k => spec_sgCorners.l1 k x y (i : Int) (S j (en x i)) (n : Int) (i : Int) (x.getD i []) (n : Int) (j : Int)) (tab n n (fun i j => co x (i + 1) (j + 1))) := by
  intro i hi d
  induction d with
  | zero =>
   intro j y hj hy hv nx
   refine Ans.step ?_
   simp only [spec_sgCorners.l1, wrap64_up (show (0 : Int) ≤ i by omega) (by omega)]
   have := nx y hy (fun a b ha hb hlt => hv a b ha hb (by omega))
   rw [show ((i + 1 : Nat) : Int) = (i : Int) + 1 by omega] at this
   exact Ans.not (by omega) this
  | succ d ih =>
   intro j y hj hy hv nx
   have rx := q.row hi
   have ly := hy.1
   have pr := (pre_in s hn).1 i (j + 1) hi (by omega)
   have sj : S (j + 1) (en x i) = S j (en x i) + en x i j := rfl
   have er : rd (x.getD i []) (j : Int) = en x i j := by simp only [rd, Int.toNat_natCast, en]
   have wa : wrap64 (S j (en x i) + en x i j) = S (j + 1) (en x i) := by rw [← sj]; exact wrap64_in _ ⟨by omega, by omega⟩
   obtain ⟨q1, q2⟩ := put_sq hy i j hi (by omega) (S (j + 1) (en x i))
   have ry : (rd_L3 y (i : Int)).length = n := by unfold rd_L3; rw [Int.toNat_natCast]; exact hy.row hi
   refine Ans.step ?_
   simp only [spec_sgCorners.l1, er, wa, wrap64_up (show (0 : Int) ≤ j by omega) (by omega), Int.toNat_natCast, Option.bind_some]
   refine Ans.yes (by omega) (Ans.yes (by omega) (Ans.yes (by omega) (Ans.yes (by omega) (Ans.yes (by omega) (Ans.yes (by omega) ?_)))))
   rw [show rd_L3 y (i : Int) = y.getD i [] by unfold rd_L3; rw [Int.toNat_natCast]]
   by_cases c : i = 0
   ·have e := ih (j + 1) _ (by omega) q1 (fun a b ha hb hlt => by
     rw [q2 a b ha hb]
     by_cases c1 : a = i ∧ b = j
     ·rw [if_pos c1, c1.1, c1.2, c, co_row, show co x 0 (j + 1) = 0 from rfl, Int.zero_add]
     ·rw [if_neg c1]; exact hv a b ha hb (by omega)) nx
    rw [show ((j + 1 : Nat) : Int) = (j : Int) + 1 by omega] at e
    exact Ans.not (by omega) e
   ·have w1 : wrap64 ((i : Int) - 1) = ((i - 1 : Nat) : Int) := by rw [wrap64_in _ ⟨by omega, by omega⟩]; omega
    have z1 := q1.row hi
    have z2 := q1.row (show i - 1 < n by omega)
    have ci := co_in s hn (show i + 1 ≤ n by omega) (show j + 1 ≤ n by omega)
    have cr := co_row x i (j + 1)
    have v1 := q2 i j hi (by omega)
    rw [if_pos ⟨rfl, rfl⟩] at v1
    have v2 := q2 (i - 1) j (by omega) (by omega)
    rw [if_neg (by omega), hv (i - 1) j (by omega) (by omega) (Or.inl (by omega)), show i - 1 + 1 = i by omega] at v2
    obtain ⟨q3, q4⟩ := put_sq q1 i j hi (by omega) (co x (i + 1) (j + 1))
    have e := ih (j + 1) _ (by omega) q3 (fun a b ha hb hlt => by
     rw [q4 a b ha hb]
     by_cases c1 : a = i ∧ b = j
     ·rw [if_pos c1, c1.1, c1.2]
     ·rw [if_neg c1, q2 a b ha hb, if_neg c1]; exact hv a b ha hb (by omega)) nx
    rw [show ((j + 1 : Nat) : Int) = (j : Int) + 1 by omega] at e
    rw [w1]
    simp only [rd, rd_L3, Int.toNat_natCast]
    rw [v1, v2, show wrap64 (S (j + 1) (en x i) + co x i (j + 1)) = co x (i + 1) (j + 1) by rw [cr, Int.add_comm]; exact wrap64_in _ ⟨by omega, by omega⟩]
    exact Ans.yes (by omega) (Ans.yes (by omega) (Ans.yes (by omega) (Ans.yes (by omega) (Ans.yes (by omega) e))))
 have key : ∀ (d i : Nat) (y : List (List Int)), i + d = n → Sq n y → (∀ a b : Nat, a < n → b < n → a < i → (y.getD a []).getD b 0 = co x (a + 1) (b + 1)) → Ans (fun k => spec_sgCorners.l0 k x y (n : Int) (i : Int)) (tab n n (fun i j => co x (i + 1) (j + 1))) := by
  intro d
  induction d with
  | zero =>
   intro i y h1 hy hv
   rw [tab_is hy _ (fun a b ha hb => (hv a b ha hb (by omega)).symm)]
   exact Ans.step (by simp only [spec_sgCorners.l0]; exact Ans.not (by omega) (Ans.pure _))
  | succ d ih =>
   intro i y h1 hy hv
   have rx : (rd_L3 x (i : Int)).length = n := by unfold rd_L3; rw [Int.toNat_natCast]; exact q.row (by omega)
   have := inner i (by omega) n 0 y (by omega) hy (fun a b ha hb hlt => hv a b ha hb (by omega)) (fun y' hy' hv' => ih (i + 1) y' (by omega) hy' hv')
   refine Ans.step ?_
   simp only [spec_sgCorners.l0, rx]
   exact Ans.yes (by omega) (Ans.yes (by omega) (Ans.yes (by omega) (by simpa only [rd_L3, Int.toNat_natCast, S, Int.natCast_zero] using this)))
 simp only [spec_sgCorners.f, hn]
 exact (sgZero n (by omega)).bind (by
  have := key n 0 (List.replicate n (List.replicate n 0)) (by omega) (rep_sq n 0) (fun a b ha hb hlt => by omega)
  simpa using this)
theorem specHeights {x : List (List Int)} (s : sign x = true) : Ans (fun k => spec_heOf.f k x) (HT x) := by
 obtain ⟨n, hn⟩ : ∃ n, x.length = n := ⟨_, rfl⟩
 obtain ⟨q, _, h6, _⟩ := sign_en s hn
 have cs := tab_sq n (fun i j => co x (i + 1) (j + 1))
 have at_ : ∀ i j : Nat, i ≤ n → j ≤ n → spec_sgAt.f (tab n n (fun i j => co x (i + 1) (j + 1))) ((i : Int) - 1) ((j : Int) - 1) = some (co x i j) := by
  intro i j hi hj
  rw [sgAt cs _ _ (by omega) (by omega)]
  unfold sgat
  by_cases c : i = 0
  ·rw [if_pos (by omega), c]; rfl
  ·by_cases d : j = 0
   ·rw [if_neg (by omega), if_pos (by omega), d, co_comm]; rfl
   ·rw [if_neg (by omega), if_neg (by omega), show (i : Int) - 1 = ((i - 1 : Nat) : Int) by omega, show (j : Int) - 1 = ((j - 1 : Nat) : Int) by omega, at_en, tab_en _ (by omega) (by omega), show i - 1 + 1 = i by omega, show j - 1 + 1 = j by omega]
 have inner : ∀ (i : Nat) (y : List (List Int)), i ≤ n → y.length = i → Ans (fun k => spec_heOf.l0 k x (tab n n (fun i j => co x (i + 1) (j + 1))) (y ++ [(List.range (n + 1)).map fun j => hgt x i j]) ((i + 1 : Nat) : Int)) (HT x) →
   ∀ (d j : Nat), j + d = n + 1 → Ans (fun k => spec_heOf.l1 k x (tab n n (fun i j => co x (i + 1) (j + 1))) y (i : Int) ((List.range j).map fun j => hgt x i j) (j : Int)) (HT x) := by
  intro i y hi hy nx d
  induction d with
  | zero =>
   intro j h
   obtain rfl : j = n + 1 := by omega
   refine Ans.step ?_
   simp only [spec_heOf.l1, hn, wrap64_up (show (0 : Int) ≤ i by omega) (by omega)]
   rw [show ((i + 1 : Nat) : Int) = (i : Int) + 1 by omega] at nx
   exact Ans.not (by omega) (Ans.yes (by omega) nx)
  | succ d ih =>
   intro j h
   have e := ih (j + 1) (by omega)
   have c := co_in s hn hi (show j ≤ n by omega)
   rw [List.range_succ, List.map_append, show ((j + 1 : Nat) : Int) = (j : Int) + 1 by omega] at e
   refine Ans.step ?_
   simp only [spec_heOf.l1, hn, wrap64_up (show (0 : Int) ≤ j by omega) (by omega), wrap64_in ((i : Int) - 1) ⟨by omega, by omega⟩, wrap64_in ((j : Int) - 1) ⟨by omega, by omega⟩, at_ i j hi (by omega), Option.bind_some]
   rw [wrap64_in ((i : Int) + j) ⟨by omega, by omega⟩, wrap64_in (2 * co x i j) ⟨by omega, by omega⟩, wrap64_in ((i : Int) + j - 2 * co x i j) ⟨by omega, by omega⟩]
   exact Ans.yes (by omega) (Ans.yes (by rw [List.length_map, List.length_range]; omega) e)
 have key : ∀ (d i : Nat), i + d = n + 1 → Ans (fun k => spec_heOf.l0 k x (tab n n (fun i j => co x (i + 1) (j + 1))) ((List.range i).map fun i => (List.range (n + 1)).map fun j => hgt x i j) (i : Int)) (HT x) := by
  intro d
  induction d with
  | zero =>
   intro i h
   obtain rfl : i = n + 1 := by omega
   refine Ans.step ?_
   simp only [spec_heOf.l0, hn]
   unfold HT tab
   rw [hn]
   exact Ans.not (by omega) (Ans.pure _)
  | succ d ih =>
   intro i h
   have e := ih (i + 1) (by omega)
   rw [List.range_succ (n := i), List.map_append] at e
   have := inner i ((List.range i).map fun i => (List.range (n + 1)).map fun j => hgt x i j) (by omega) (by rw [List.length_map, List.length_range]) e (n + 1) 0 (by omega)
   refine Ans.step ?_
   simp only [spec_heOf.l0, hn]
   exact Ans.yes (by omega) this
 simp only [spec_heOf.f]
 exact (sgCorners s hn).bind (key (n + 1) 0 (by omega))
def leRow (A B : List (List Int)) (i : Nat) : Nat → Nat → Bool
 | 0, _ => true
 | d + 1, j => decide (en A i j ≤ en B i j) && leRow A B i d (j + 1)
def leTab (A B : List (List Int)) (m : Nat) : Nat → Nat → Bool
 | 0, _ => true
 | d + 1, i => leRow A B i m 0 && leTab A B m d (i + 1)
theorem leRow_iff (A B : List (List Int)) (i : Nat) : ∀ d j, leRow A B i d j = true ↔ ∀ l, j ≤ l → l < j + d → en A i l ≤ en B i l
 | 0, j => ⟨fun _ l h1 h2 => absurd h2 (by omega), fun _ => rfl⟩
 | d + 1, j => by
  rw [leRow, Bool.and_eq_true, decide_eq_true_iff, leRow_iff A B i d (j + 1)]
  constructor
  ·rintro ⟨h1, h2⟩ l h3 h4
   by_cases e : l = j
   ·rw [e]; exact h1
   ·exact h2 l (by omega) (by omega)
  ·exact fun h => ⟨h j (by omega) (by omega), fun l h3 h4 => h l (by omega) (by omega)⟩
theorem leTab_iff (A B : List (List Int)) (m : Nat) : ∀ d i, leTab A B m d i = true ↔ ∀ t l, i ≤ t → t < i + d → l < m → en A t l ≤ en B t l
 | 0, i => ⟨fun _ t l h1 h2 => absurd h2 (by omega), fun _ => rfl⟩
 | d + 1, i => by
  rw [leTab, Bool.and_eq_true, leRow_iff, leTab_iff A B m d (i + 1)]
  constructor
  ·rintro ⟨h1, h2⟩ t l h3 h4 h5
   by_cases e : t = i
   ·rw [e]; exact h1 l (by omega) (by omega)
   ·exact h2 t l (by omega) (by omega) h5
  ·exact fun h => ⟨fun l h3 h4 => h i l (by omega) (by omega) (by omega), fun t l h3 h4 h5 => h t l (by omega) (by omega) h5⟩
theorem below_impl {m : Nat} {A B : List (List Int)} (ha : Sq m A) (hb : Sq m B) (hm : m ≤ 1000) : Ans (fun k => impl_isBelow.l0 k B A (m : Int) 0) (leTab A B m m 0) := by
 have la := ha.1
 have lb := hb.1
 have inner : ∀ (i dn : Nat), i < m → Ans (fun k => impl_isBelow.l0 k B A (m : Int) ((i + 1 : Nat) : Int)) (leTab A B m dn (i + 1)) → ∀ (d j : Nat), j + d = m →
   Ans (fun k => impl_isBelow.l1 k B (i : Int) A (m : Int) (i : Int) (A.getD i []) (m : Int) (j : Int)) (leRow A B i d j && leTab A B m dn (i + 1)) := by
  intro i dn hi nx d
  induction d with
  | zero =>
   intro j h
   refine Ans.step ?_
   simp only [impl_isBelow.l1, wrap64_up (show (0 : Int) ≤ i by omega) (by omega), leRow, Bool.true_and]
   rw [show ((i + 1 : Nat) : Int) = (i : Int) + 1 by omega] at nx
   exact Ans.not (by omega) nx
  | succ d ih =>
   intro j h
   have e := ih (j + 1) (by omega)
   rw [show ((j + 1 : Nat) : Int) = (j : Int) + 1 by omega] at e
   have ra := ha.row hi
   have rb : (rd_L3 B (i : Int)).length = m := by unfold rd_L3; rw [Int.toNat_natCast]; exact hb.row hi
   have e1 : rd (A.getD i []) (j : Int) = en A i j := by simp only [rd, Int.toNat_natCast, en]
   refine Ans.step ?_
   simp only [impl_isBelow.l1, wrap64_up (show (0 : Int) ≤ j by omega) (by omega), e1, at_en, leRow]
   refine Ans.yes (by omega) (Ans.yes (by omega) (Ans.yes (by omega) (Ans.yes (by omega) (Ans.yes (by omega) (Ans.yes (by omega) ?_)))))
   by_cases c : en A i j ≤ en B i j
   ·rw [decide_eq_true c, Bool.true_and]; exact Ans.not (by omega) e
   ·rw [decide_eq_false c, Bool.false_and, Bool.false_and]; exact Ans.yes (by omega) (Ans.pure _)
 have key : ∀ (d i : Nat), i + d = m → Ans (fun k => impl_isBelow.l0 k B A (m : Int) (i : Int)) (leTab A B m d i) := by
  intro d
  induction d with
  | zero =>
   intro i h
   refine Ans.step ?_
   simp only [impl_isBelow.l0, leTab]
   exact Ans.not (by omega) (Ans.pure _)
  | succ d ih =>
   intro i h
   have := inner i d (by omega) (ih (i + 1) (by omega)) m 0 (by omega)
   have ra : (rd_L3 A (i : Int)).length = m := by unfold rd_L3; rw [Int.toNat_natCast]; exact ha.row (by omega)
   refine Ans.step ?_
   simp only [impl_isBelow.l0, leTab, ra]
   exact Ans.yes (by omega) (Ans.yes (by omega) (Ans.yes (by omega) (by simpa only [rd_L3, Int.toNat_natCast, Int.natCast_zero] using this)))
 exact key m 0 (by omega)
def bel (x y : List (List Int)) : Bool := leTab (HT x) (HT y) (x.length + 1) (x.length + 1) 0
theorem bel_iff {x y : List (List Int)} {n : Nat} (hx : x.length = n) (hy : y.length = n) : bel x y = true ↔ ∀ i j, i ≤ n → j ≤ n → hgt x i j ≤ hgt y i j := by
 unfold bel
 rw [leTab_iff, hx]
 constructor
 ·intro h i j hi hj
  have := h i j (by omega) (by omega) (by omega)
  rwa [HT_en hx hi hj, HT_en hy hi hj] at this
 ·intro h i j _ hi hj
  rw [HT_en hx (by omega) (by omega), HT_en hy (by omega) (by omega)]
  exact h i j (by omega) (by omega)
theorem isBelow {x y : List (List Int)} (s : sign x = true) (t : sign y = true) (h : x.length = y.length) : Ans (fun k => impl_isBelow.f k x y) (bel x y) := by
 have h6 := (sign_en s rfl).2.2.1
 have a := HT_sq x
 have b := HT_sq y
 rw [← h] at b
 simp only [impl_isBelow.f]
 refine (implHeights s).bind ((implHeights t).bind ?_)
 have := below_impl a b (by omega)
 rw [a.1]; exact this
def two (x y : List (List Int)) : Bool := sign x && (sign y && decide (x.length = y.length))
theorem two_iff {x y : List (List Int)} : two x y = true ↔ sign x = true ∧ sign y = true ∧ x.length = y.length := by unfold two; simp
def isb (x y : List (List Int)) : Bool × Bool := if two x y = true then (bel x y, true) else (false, false)
theorem len_eq (a b : Nat) : ((a : Int) == (b : Int)) = decide (a = b) := by
 by_cases c : a = b
 ·subst c; simp
 ·rw [decide_eq_false c]; exact beq_eq_false_iff_ne.mpr (by omega)
theorem arePair {x y : List (List Int)} (hx : x.length ≤ 1048576) (hy : y.length ≤ 1048576) : Ans (fun k => impl_arePair.f k x y) (two x y) := by
 simp only [impl_arePair.f, two, len_eq]
 refine (isSign x hx).bind ?_
 by_cases s : sign x = true
 ·refine Ans.yes s ((isSign y hy).bind ?_)
  by_cases t : sign y = true
  ·rw [s, t, Bool.true_and, Bool.true_and]; exact Ans.yes rfl (Ans.pure _)
  ·rw [s, Bool.true_and, Bool.eq_false_iff.mpr t, Bool.false_and]; exact Ans.not (by simp) (Ans.pure _)
 ·rw [Bool.eq_false_iff.mpr s, Bool.false_and]; exact Ans.not (by simp) (Ans.pure _)
theorem hePair {x y : List (List Int)} (hx : x.length ≤ 1048576) (hy : y.length ≤ 1048576) : Ans (fun k => spec_hePair.f k x y) (two x y) := by
 simp only [spec_hePair.f, two, len_eq]
 refine (sgGood x hx).bind ?_
 by_cases s : sign x = true
 ·refine Ans.yes s ((sgGood y hy).bind ?_)
  by_cases t : sign y = true
  ·rw [s, t, Bool.true_and, Bool.true_and]; exact Ans.yes rfl (Ans.pure _)
  ·rw [s, Bool.true_and, Bool.eq_false_iff.mpr t, Bool.false_and]; exact Ans.not (by simp) (Ans.pure _)
 ·rw [Bool.eq_false_iff.mpr s, Bool.false_and]; exact Ans.not (by simp) (Ans.pure _)
theorem implBelow {x y : List (List Int)} (hx : x.length ≤ 1048576) (hy : y.length ≤ 1048576) : Ans (fun k => impl_IsBelow.f k x y) (isb x y) := by
 simp only [impl_IsBelow.f, isb]
 refine (arePair hx hy).bind ?_
 by_cases c : two x y = true
 ·obtain ⟨s, t, h⟩ := two_iff.mp c
  rw [if_pos c]; exact Ans.yes c ((isBelow s t h).bind (Ans.pure _))
 ·rw [if_neg c]; exact Ans.not c (Ans.pure _)
def lea (n : Nat) : List (List Int) := tab n n (fun i j => if i = j then 1 else 0)
theorem lea_sign : ∀ n : Nat, 1 ≤ n → n ≤ 6 → sign (lea n) = true := by
 intro n h1 h2
 rcases (show n = 1 ∨ n = 2 ∨ n = 3 ∨ n = 4 ∨ n = 5 ∨ n = 6 by omega) with rfl | rfl | rfl | rfl | rfl | rfl
 all_goals decide +kernel
theorem lea_co : ∀ n : Nat, n ≤ 6 → ∀ i, i ≤ n → ∀ j, j ≤ n → co (lea n) i j = (min i j : Nat) := by decide +kernel
theorem bel_lea {x : List (List Int)} (s : sign x = true) : bel (lea x.length) x = true := by
 obtain ⟨n, hn⟩ : ∃ n, x.length = n := ⟨_, rfl⟩
 rw [hn, bel_iff (show (lea n).length = n from (tab_sq n _).1) hn]
 intro i j hi hj
 have c := co_in s hn hi hj
 have l := lea_co n (sign_en s hn).2.2.1 i hi j hj
 unfold hgt
 rw [l]; omega
theorem implLea (n : Nat) (hn : n ≤ 6) : Ans (fun k => impl_least.f k n) (lea n) := by
 simp only [impl_least.f]
 refine (table n n (by omega) (by omega) (fun x0_ x1_ => impl_least_1.f x0_ x1_) (fun i j => if i = j then 1 else 0) (fun i j hi hj => ?_)).bind (Ans.pure _)
 simp only [impl_least_1.f, impl_bit.f, len_eq]
 by_cases c : i = j
 ·simp [c]
 ·simp [c]
def allIn (x : List Int) (lo hi : Int) : Bool := x.all fun a => decide (lo ≤ a ∧ a ≤ hi)
theorem l1All (x : List Int) (hx : x.length ≤ 17592186044416) (lo hi : Int) : Ans (fun k => spec_l1All.f k x lo hi) (allIn x lo hi) := by
 have key : ∀ (d : Nat) (i : Int), 0 ≤ i → i + d = x.length → Ans (fun k => spec_l1All.l0 k lo hi x (x.length : Int) i) (allIn (x.drop i.toNat) lo hi) := by
  intro d
  induction d with
  | zero =>
   intro i h0 h1
   rw [List.drop_eq_nil_of_le (by omega)]; refine Ans.step ?_
   simp only [spec_l1All.l0]; exact Ans.not (by omega) (Ans.pure _)
  | succ d ih =>
   intro i h0 h1
   have hd := drop_at x 0 (show i.toNat < x.length by omega)
   have e := ih (i + 1) (by omega) (by omega)
   rw [hd, allIn, List.all_cons, show decide (lo ≤ x.getD i.toNat 0 ∧ x.getD i.toNat 0 ≤ hi) = decide (lo ≤ rd x i ∧ rd x i ≤ hi) from rfl]
   refine Ans.step ?_
   simp only [spec_l1All.l0, l1In, Option.bind_some, wrap64_up h0 (by omega : i ≤ 4611686018427387904)]
   refine Ans.yes (by omega) (Ans.yes h0 (Ans.yes (by omega) ?_))
   by_cases c : decide (lo ≤ rd x i ∧ rd x i ≤ hi) = true
   ·rw [c, Bool.true_and]; rw [show (i + 1).toNat = i.toNat + 1 by omega] at e; exact Ans.yes rfl e
   ·rw [Bool.eq_false_iff.mpr c, Bool.false_and]; exact Ans.not (by simp) (Ans.pure _)
 exact key x.length 0 (by omega) (by omega)
theorem l1Same (x y : List Int) (hx : x.length ≤ 17592186044416) : Ans (fun k => spec_l1Same.f k x y) (decide (x = y)) := by
 simp only [spec_l1Same.f]
 by_cases hl : (x.length : Int) = (y.length : Int)
 case neg => rw [decide_eq_false (fun h => hl (by rw [h]))]; exact Ans.not hl (Ans.pure _)
 have key : ∀ (d : Nat) (i : Int), 0 ≤ i → i + d = x.length → Ans (fun k => spec_l1Same.l0 k x y (x.length : Int) i) (decide (x.drop i.toNat = y.drop i.toNat)) := by
  intro d
  induction d with
  | zero =>
   intro i h0 h1
   rw [List.drop_eq_nil_of_le (by omega), List.drop_eq_nil_of_le (by omega)]; refine Ans.step ?_
   simp only [spec_l1Same.l0]; exact Ans.not (by omega) (Ans.pure _)
  | succ d ih =>
   intro i h0 h1
   have e := ih (i + 1) (by omega) (by omega)
   rw [show (i + 1).toNat = i.toNat + 1 by omega] at e
   rw [drop_at x 0 (show i.toNat < x.length by omega), drop_at y 0 (show i.toNat < y.length by omega), show x.getD i.toNat 0 = rd x i from rfl, show y.getD i.toNat 0 = rd y i from rfl]
   refine Ans.step ?_
   simp only [spec_l1Same.l0, wrap64_up h0 (by omega : i ≤ 4611686018427387904)]
   refine Ans.yes (by omega) (Ans.yes h0 (Ans.yes (by omega) (Ans.yes (by omega) ?_)))
   by_cases c : rd x i = rd y i
   ·rw [show decide (rd x i :: x.drop (i.toNat + 1) = rd y i :: y.drop (i.toNat + 1)) = decide (x.drop (i.toNat + 1) = y.drop (i.toNat + 1)) from decide_eq_decide.mpr ⟨fun h => (List.cons.inj h).2, fun h => by rw [c, h]⟩]; exact Ans.yes c e
   ·rw [decide_eq_false (fun h => c (List.cons.inj h).1)]; exact Ans.not c (Ans.pure _)
 exact Ans.yes hl (key x.length 0 (by omega) (by omega))
def hcor (h : List (List Int)) (i j : Nat) : Int := wrap64 (Int.tdiv (wrap64 (wrap64 ((i : Int) + j) - en h i j)) 2)
def hmat (n : Nat) (h : List (List Int)) : List (List Int) := tab n n (fun i j => wrap64 (wrap64 (wrap64 (hcor h (i + 1) (j + 1) - hcor h i (j + 1)) - hcor h (i + 1) j) + hcor h i j))
theorem implFromH {n : Nat} {h : List (List Int)} (q : Sq (n + 1) h) (hn : n ≤ 1000) : Ans (fun k => impl_fromHeights.f k h) (hmat n h) := by
 have corner : ∀ i j : Nat, i ≤ n → j ≤ n → impl_fromHeights_1.f i j h = some (hcor h i j) := fun i j hi hj => by
  have hr : (rd_L3 h (i : Int)).length = n + 1 := by unfold rd_L3; rw [Int.toNat_natCast]; exact q.row (by omega)
  have hl := q.1
  simp only [impl_fromHeights_1.f]
  rw [if_pos (by omega), if_pos (by omega), if_pos (by omega), if_pos (by omega)]
  simp only [hcor, rd, rd_L3, Int.toNat_natCast, en]
 simp only [impl_fromHeights.f, q.1]
 rw [show wrap64 (((n + 1 : Nat) : Int) - 1) = (n : Int) by rw [wrap64_in _ ⟨by omega, by omega⟩]; omega]
 refine (table n n (by omega) (by omega) _ _ (fun i j hi hj => ?_)).bind (Ans.pure _)
 simp only [impl_fromHeights_2.f, wrap64_up (show (0 : Int) ≤ i by omega) (by omega), wrap64_up (show (0 : Int) ≤ j by omega) (by omega)]
 have a := corner (i + 1) (j + 1) (by omega) (by omega)
 have b := corner i (j + 1) (by omega) (by omega)
 have c := corner (i + 1) j (by omega) (by omega)
 have d := corner i j (by omega) (by omega)
 rw [show ((i + 1 : Nat) : Int) = (i : Int) + 1 by omega] at a c
 rw [show ((j + 1 : Nat) : Int) = (j : Int) + 1 by omega] at a b
 rw [a, b, c, d]; rfl
def scor (h : List (List Int)) (i j : Nat) : Int := wrap64 (Int.tdiv (wrap64 (wrap64 (wrap64 ((i : Int) + j) + 2) - en h (i + 1) (j + 1))) 2)
def smat (n : Nat) (h : List (List Int)) : List (List Int) := frm (tab n n (scor h))
theorem specFromH {n : Nat} {h : List (List Int)} (q : Sq (n + 1) h) (hn : n ≤ 1000) : Ans (fun k => spec_heFrom.f k h) (smat n h) := by
 have hl := q.1
 have inner : ∀ (i : Nat), i < n → ∀ (d j : Nat) (y : List (List Int)), j + d = n → Sq n y → (∀ a b : Nat, a < n → b < n → (a < i ∨ a = i ∧ b < j) → (y.getD a []).getD b 0 = scor h a b) →
   (∀ y', Sq n y' → (∀ a b : Nat, a < n → b < n → a < i + 1 → (y'.getD a []).getD b 0 = scor h a b) → Ans (fun k => spec_heFrom.l0 k h y' (n : Int) ((i + 1 : Nat) : Int)) (smat n h)) →
   Ans (fun k => spec_heFrom.l1 k h y (i : Int) (n : Int) (i : Int) (n : Int) (j : Int)) (smat n h) := by
  intro i hi d
  induction d with
  | zero =>
   intro j y hj hy hv nx
   refine Ans.step ?_
   simp only [spec_heFrom.l1, wrap64_up (show (0 : Int) ≤ i by omega) (by omega)]
   have := nx y hy (fun a b ha hb hlt => hv a b ha hb (by omega))
   rw [show ((i + 1 : Nat) : Int) = (i : Int) + 1 by omega] at this
   exact Ans.not (by omega) this
  | succ d ih =>
   intro j y hj hy hv nx
   have ly := hy.1
   obtain ⟨q1, q2⟩ := put_sq hy i j hi (by omega) (scor h i j)
   have ry : (rd_L3 y (i : Int)).length = n := by unfold rd_L3; rw [Int.toNat_natCast]; exact hy.row hi
   have rh : (rd_L3 h ((i : Int) + 1)).length = n + 1 := by unfold rd_L3; rw [show ((i : Int) + 1).toNat = i + 1 by omega]; exact q.row (by omega)
   have e := ih (j + 1) _ (by omega) q1 (fun a b ha hb hlt => by
     rw [q2 a b ha hb]
     by_cases c1 : a = i ∧ b = j
     ·rw [if_pos c1, c1.1, c1.2]
     ·rw [if_neg c1]; exact hv a b ha hb (by omega)) nx
   rw [show ((j + 1 : Nat) : Int) = (j : Int) + 1 by omega] at e
   have ev : rd (rd_L3 h ((i : Int) + 1)) ((j : Int) + 1) = en h (i + 1) (j + 1) := by
    simp only [rd, rd_L3, en]; rw [show ((i : Int) + 1).toNat = i + 1 by omega, show ((j : Int) + 1).toNat = j + 1 by omega]
   refine Ans.step ?_
   simp only [spec_heFrom.l1, wrap64_up (show (0 : Int) ≤ i by omega) (by omega), wrap64_up (show (0 : Int) ≤ j by omega) (by omega), Int.toNat_natCast, ev]
   rw [show rd_L3 y (i : Int) = y.getD i [] by unfold rd_L3; rw [Int.toNat_natCast]]
   rw [show rd_L3 y (i : Int) = y.getD i [] by unfold rd_L3; rw [Int.toNat_natCast]] at ry
   exact Ans.yes (by omega) (Ans.yes (by omega) (Ans.yes (by omega) (Ans.yes (by omega) (Ans.yes (by omega) (Ans.yes (by omega) (Ans.yes (by omega) (Ans.yes (by omega) (Ans.yes (by omega) e))))))))
 have key : ∀ (d i : Nat) (y : List (List Int)), i + d = n → Sq n y → (∀ a b : Nat, a < n → b < n → a < i → (y.getD a []).getD b 0 = scor h a b) → Ans (fun k => spec_heFrom.l0 k h y (n : Int) (i : Int)) (smat n h) := by
  intro d
  induction d with
  | zero =>
   intro i y h1 hy hv
   have e := tab_is hy (scor h) (fun a b ha hb => (hv a b ha hb (by omega)).symm)
   have f := sgFrom n y hy hn
   refine Ans.step ?_
   simp only [spec_heFrom.l0]
   unfold smat
   rw [e]
   exact Ans.not (by omega) (f.bind (Ans.pure _))
  | succ d ih =>
   intro i y h1 hy hv
   have ly := hy.1
   refine Ans.step ?_
   simp only [spec_heFrom.l0, ly]
   exact Ans.yes (by omega) (inner i (by omega) n 0 y (by omega) hy (fun a b ha hb hlt => hv a b ha hb (by omega)) (fun y' hy' hv' => ih (i + 1) y' (by omega) hy' hv'))
 simp only [spec_heFrom.f, hl]
 rw [show wrap64 (((n + 1 : Nat) : Int) - 1) = (n : Int) by rw [wrap64_in _ ⟨by omega, by omega⟩]; omega]
 refine (sgZero n hn).bind ?_
 simp only [List.length_replicate]
 exact key n 0 _ (by omega) (rep_sq n 0) (fun a b ha hb hlt => by omega)
theorem hf_in {n : Nat} {h : Nat → Nat → Int} (H : HF n h) {i j : Nat} (hi : i ≤ n) (hj : j ≤ n) : -(n : Int) ≤ h i j ∧ h i j ≤ 2 * n ∧ (h i j - i - j) % 2 = 0 := by
 have p := hf_parity H hj i hi
 have key : ∀ i, i ≤ n → (j : Int) - i ≤ h i j ∧ h i j ≤ j + i := by
  intro i
  induction i with
  | zero => intro _; have := (H.1 j hj).1; omega
  | succ i ih => intro hi; have a := ih (by omega); have b := H.2.1 i j (by omega) hj; omega
 have := key i hi
 omega
theorem hcor_of {n : Nat} {h : Nat → Nat → Int} (H : HF n h) (hn : n ≤ 1000) {i j : Nat} (hi : i ≤ n) (hj : j ≤ n) : hcor (tab (n + 1) (n + 1) h) i j = ((i : Int) + j - h i j) / 2 := by
 have a := hf_in H hi hj
 unfold hcor
 rw [tab_en _ (by omega) (by omega), wrap64_in ((i : Int) + j) ⟨by omega, by omega⟩, wrap64_in ((i : Int) + j - h i j) ⟨by omega, by omega⟩]
 obtain ⟨t, ht⟩ : ∃ t, (i : Int) + j - h i j = 2 * t := ⟨((i : Int) + j - h i j) / 2, by omega⟩
 rw [ht, show Int.tdiv (2 * t) 2 = t by rw [Int.mul_comm]; exact Int.mul_tdiv_cancel t (by omega), wrap64_in t ⟨by omega, by omega⟩]; omega
theorem wrap_four (a b c d : Int) (ha : -1000000 ≤ a ∧ a ≤ 1000000) (hb : -1000000 ≤ b ∧ b ≤ 1000000) (hc : -1000000 ≤ c ∧ c ≤ 1000000) (hd : -1000000 ≤ d ∧ d ≤ 1000000) : wrap64 (wrap64 (wrap64 (a - b) - c) + d) = a - b - c + d := by
 rw [wrap64_in (a - b) ⟨by omega, by omega⟩, wrap64_in (a - b - c) ⟨by omega, by omega⟩, wrap64_in _ ⟨by omega, by omega⟩]
theorem hmat_of {n : Nat} {h : Nat → Nat → Int} (H : HF n h) (hn : n ≤ 1000) : hmat n (tab (n + 1) (n + 1) h) = mat n h := by
 refine ext_en (tab_sq n _) (mat_sq n h) fun i j hi hj => ?_
 unfold hmat
 rw [tab_en _ hi hj, mat_en h hi hj, hcor_of H hn (by omega) (by omega), hcor_of H hn (by omega) (by omega), hcor_of H hn (by omega) (by omega), hcor_of H hn (by omega) (by omega)]
 have a := hf_in H (i := i) (j := j) (by omega) (by omega)
 have b := hf_in H (i := i) (j := j + 1) (by omega) (by omega)
 have c := hf_in H (i := i + 1) (j := j) (by omega) (by omega)
 have d := hf_in H (i := i + 1) (j := j + 1) (by omega) (by omega)
 rw [wrap_four _ _ _ _ (by omega) (by omega) (by omega) (by omega)]
 omega
theorem scor_of {n : Nat} {h : Nat → Nat → Int} (H : HF n h) (hn : n ≤ 1000) (i j : Nat) (hi : i ≤ n) (hj : j ≤ n) : sgat (tab n n (scor (tab (n + 1) (n + 1) h))) ((i : Int) - 1) ((j : Int) - 1) = ((i : Int) + j - h i j) / 2 := by
 unfold sgat
 by_cases c : i = 0
 ·rw [if_pos (by omega), c]; have := (H.1 j hj).1; omega
 by_cases d : j = 0
 ·rw [if_neg (by omega), if_pos (by omega), d]; have := (H.1 i hi).2.1; omega
 rw [if_neg (by omega), if_neg (by omega), show (i : Int) - 1 = ((i - 1 : Nat) : Int) by omega, show (j : Int) - 1 = ((j - 1 : Nat) : Int) by omega, at_en, tab_en _ (by omega) (by omega)]
 unfold scor
 have a := hf_in H hi hj
 rw [tab_en _ (by omega) (by omega), show i - 1 + 1 = i by omega, show j - 1 + 1 = j by omega, wrap64_in (((i - 1 : Nat) : Int) + ((j - 1 : Nat) : Int)) ⟨by omega, by omega⟩, show ((i - 1 : Nat) : Int) + ((j - 1 : Nat) : Int) + 2 = (i : Int) + j by omega, wrap64_in ((i : Int) + j) ⟨by omega, by omega⟩, wrap64_in ((i : Int) + j - h i j) ⟨by omega, by omega⟩]
 obtain ⟨t, ht⟩ : ∃ t, (i : Int) + j - h i j = 2 * t := ⟨((i : Int) + j - h i j) / 2, by omega⟩
 rw [ht, show Int.tdiv (2 * t) 2 = t by rw [Int.mul_comm]; exact Int.mul_tdiv_cancel t (by omega), wrap64_in t ⟨by omega, by omega⟩]; omega
theorem smat_of {n : Nat} {h : Nat → Nat → Int} (H : HF n h) (hn : n ≤ 1000) : smat n (tab (n + 1) (n + 1) h) = mat n h := by
 have ts := tab_sq n (scor (tab (n + 1) (n + 1) h))
 refine ext_en (frm_sq ts) (mat_sq n h) fun i j hi hj => ?_
 unfold smat frm
 rw [ts.1, tab_en _ hi hj, mat_en h hi hj]
 unfold diff
 have e1 := scor_of H hn (i + 1) (j + 1) (by omega) (by omega)
 have e2 := scor_of H hn i (j + 1) (by omega) (by omega)
 have e3 := scor_of H hn (i + 1) j (by omega) (by omega)
 have e4 := scor_of H hn i j (by omega) (by omega)
 rw [show ((i + 1 : Nat) : Int) - 1 = i by omega] at e1 e3
 rw [show ((j + 1 : Nat) : Int) - 1 = j by omega] at e1 e2
 rw [e1, e2, e3, e4]
 have a := hf_in H (i := i) (j := j) (by omega) (by omega)
 have b := hf_in H (i := i) (j := j + 1) (by omega) (by omega)
 have c := hf_in H (i := i + 1) (j := j) (by omega) (by omega)
 have d := hf_in H (i := i + 1) (j := j + 1) (by omega) (by omega)
 rw [wrap_four _ _ _ _ (by omega) (by omega) (by omega) (by omega)]
 omega
theorem HT_hf {x : List (List Int)} (s : sign x = true) {n : Nat} (hn : x.length = n) : HT x = tab (n + 1) (n + 1) (hgt x) ∧ HF n (hgt x) ∧ mat n (hgt x) = x := by
 refine ⟨?_, hf_of s hn, mat_of s hn⟩
 unfold HT; rw [hn]
theorem heSame (x y : List (List Int)) (hx : x.length ≤ 1000000) (hr : ∀ r ∈ x, r.length ≤ 1000000) : Ans (fun k => spec_heSame.f k x y) (decide (x = y)) := by
 simp only [spec_heSame.f]
 by_cases hl : x.length = y.length
 case neg => rw [decide_eq_false (fun h => hl (by rw [h]))]; exact Ans.not (by omega) (Ans.pure _)
 have key : ∀ (d i : Nat), i + d = x.length → Ans (fun k => spec_heSame.l0 k y x (x.length : Int) (i : Int)) (decide (x.drop i = y.drop i)) := by
  intro d
  induction d with
  | zero =>
   intro i h
   rw [List.drop_eq_nil_of_le (show x.length ≤ i by omega), List.drop_eq_nil_of_le (show y.length ≤ i by omega)]
   refine Ans.step ?_
   simp only [spec_heSame.l0]
   exact Ans.not (by omega) (Ans.pure _)
  | succ d ih =>
   intro i h
   have e := ih (i + 1) (by omega)
   rw [show ((i + 1 : Nat) : Int) = (i : Int) + 1 by omega] at e
   have s := l1Same (x.getD i []) (y.getD i []) (by have := hr _ (getD_mem (x := x) [] (show i < x.length by omega)); omega)
   rw [drop_at x [] (show i < x.length by omega), drop_at y [] (show i < y.length by omega)]
   refine Ans.step ?_
   simp only [spec_heSame.l0, rd_L3, Int.toNat_natCast, wrap64_up (show (0 : Int) ≤ i by omega) (by omega)]
   refine Ans.yes (by omega) (Ans.yes (by omega) (Ans.yes (by omega) (Ans.yes (by omega) (s.bind ?_))))
   by_cases c : x.getD i [] = y.getD i []
   ·rw [c, show decide (y.getD i [] :: x.drop (i + 1) = y.getD i [] :: y.drop (i + 1)) = decide (x.drop (i + 1) = y.drop (i + 1)) by simp]
    exact Ans.yes (by simp) e
   ·rw [show decide (x.getD i [] :: x.drop (i + 1) = y.getD i [] :: y.drop (i + 1)) = false by simp only [decide_eq_false_iff_not]; intro h; exact c (List.cons.inj h).1]
    exact Ans.not (by simpa using c) (Ans.pure _)
 refine Ans.yes (by omega) ?_
 have := key x.length 0 (by omega)
 rwa [List.drop_zero, List.drop_zero] at this
theorem wrap_pred {i : Nat} (h : 1 ≤ i) (h2 : i ≤ 1000000) : wrap64 ((i : Int) - 1) = ((i - 1 : Nat) : Int) := by rw [wrap64_in _ ⟨by omega, by omega⟩]; omega
theorem wrap_succ {i : Nat} (h2 : i ≤ 1000000) : wrap64 ((i : Int) + 1) = ((i + 1 : Nat) : Int) := by rw [wrap64_in _ ⟨by omega, by omega⟩]; omega
theorem len_down {n : Nat} (h2 : n ≤ 1000000) : wrap64 (((n + 1 : Nat) : Int) - 1) = (n : Int) := by rw [wrap64_in _ ⟨by omega, by omega⟩]; omega
def wayH (h : Nat → Nat → Int) (i j : Nat) : Int :=
 if h (i - 1) j = h i j + 1 ∧ h (i + 1) j = h i j + 1 ∧ h i (j - 1) = h i j + 1 ∧ h i (j + 1) = h i j + 1 then 1
 else if h (i - 1) j = h i j - 1 ∧ h (i + 1) j = h i j - 1 ∧ h i (j - 1) = h i j - 1 ∧ h i (j + 1) = h i j - 1 then -1 else 0
theorem wayH_cases (h : Nat → Nat → Int) (i j : Nat) : (wayH h i j = 1 ∧ h (i - 1) j = h i j + 1 ∧ h (i + 1) j = h i j + 1 ∧ h i (j - 1) = h i j + 1 ∧ h i (j + 1) = h i j + 1) ∨
  (wayH h i j = -1 ∧ h (i - 1) j = h i j - 1 ∧ h (i + 1) j = h i j - 1 ∧ h i (j - 1) = h i j - 1 ∧ h i (j + 1) = h i j - 1) ∨ wayH h i j = 0 := by
 unfold wayH
 split
 ·exact .inl ⟨rfl, by assumption⟩
 ·split
  ·exact .inr (.inl ⟨rfl, by assumption⟩)
  ·exact .inr (.inr rfl)
def putH (h : Nat → Nat → Int) (i j : Nat) (v : Int) : Nat → Nat → Int := fun a b => if a = i ∧ b = j then v else h a b
def flipH (h : Nat → Nat → Int) (i j : Nat) : Nat → Nat → Int := putH h i j (h i j + 2 * wayH h i j)
theorem hf_flip {n : Nat} {h : Nat → Nat → Int} (H : HF n h) {i j : Nat} (hi : 1 ≤ i ∧ i < n) (hj : 1 ≤ j ∧ j < n) : HF n (flipH h i j) := by
 have w := wayH_cases h i j
 unfold flipH putH
 refine ⟨fun b hb => ?_, fun a b ha hb => ?_, fun a b ha hb => ?_⟩
 ·have := H.1 b hb
  dsimp only
  rw [if_neg (by omega), if_neg (by omega), if_neg (by omega), if_neg (by omega)]
  exact this
 ·have := H.2.1 a b ha hb
  dsimp only
  by_cases c : a + 1 = i ∧ b = j
  ·obtain ⟨rfl, rfl⟩ := c
   rw [if_pos ⟨rfl, rfl⟩, if_neg (by omega)]
   rw [show a + 1 - 1 = a by omega] at w
   omega
  ·rw [if_neg c]
   by_cases d : a = i ∧ b = j
   ·obtain ⟨rfl, rfl⟩ := d
    rw [if_pos ⟨rfl, rfl⟩]; omega
   ·rw [if_neg d]; exact this
 ·have := H.2.2 a b ha hb
  dsimp only
  by_cases c : a = i ∧ b + 1 = j
  ·obtain ⟨rfl, rfl⟩ := c
   rw [if_pos ⟨rfl, rfl⟩, if_neg (by omega)]
   rw [show b + 1 - 1 = b by omega] at w
   omega
  ·rw [if_neg c]
   by_cases d : a = i ∧ b = j
   ·obtain ⟨rfl, rfl⟩ := d
    rw [if_pos ⟨rfl, rfl⟩]; omega
   ·rw [if_neg d]; exact this
theorem tab_put {m : Nat} (h : Nat → Nat → Int) {i j : Nat} (hi : i < m) (hj : j < m) (v : Int) : (tab m m h).set i (((tab m m h).getD i []).set j v) = tab m m (putH h i j v) := by
 obtain ⟨q1, q2⟩ := put_sq (tab_sq m h) i j hi hj v
 refine ext_en q1 (tab_sq m _) fun a b ha hb => ?_
 have := q2 a b ha hb
 unfold en at *
 rw [this]
 have e1 := tab_en h ha hb
 have e2 := tab_en (putH h i j v) ha hb
 unfold en at e1 e2
 rw [e1, e2]; rfl
def rowF (p : Nat → Nat → Bool) (i : Nat) : Nat → Nat → List (List Int)
 | 0, _ => []
 | d + 1, j => (if p i j = true then [[(i : Int), (j : Int)]] else []) ++ rowF p i d (j + 1)
def tabF (p : Nat → Nat → Bool) (n : Nat) : Nat → Nat → List (List Int)
 | 0, _ => []
 | d + 1, i => rowF p i (n - 1) 1 ++ tabF p n d (i + 1)
def cellsF (n : Nat) (p : Nat → Nat → Bool) : List (List Int) := tabF p n (n - 1) 1
theorem rowF_len (p : Nat → Nat → Bool) (i : Nat) : ∀ d j, (rowF p i d j).length ≤ d
 | 0, _ => by simp [rowF]
 | d + 1, j => by
  have := rowF_len p i d (j + 1)
  rw [rowF, List.length_append]
  split <;> simp <;> omega
theorem rowF_mem {p : Nat → Nat → Bool} {i : Nat} {c : List Int} : ∀ {d j : Nat}, c ∈ rowF p i d j ↔ ∃ b, j ≤ b ∧ b < j + d ∧ p i b = true ∧ c = [(i : Int), (b : Int)]
 | 0, j => by
  simp only [rowF, List.not_mem_nil, false_iff]
  rintro ⟨b, h1, h2, _⟩; omega
 | d + 1, j => by
  rw [rowF, List.mem_append, rowF_mem]
  constructor
  ·rintro (h | ⟨b, h1, h2, h3⟩)
   ·by_cases q : p i j = true
    ·rw [if_pos q, List.mem_singleton] at h; exact ⟨j, by omega, by omega, q, h⟩
    ·rw [if_neg q] at h; simp at h
   ·exact ⟨b, by omega, by omega, h3⟩
  ·rintro ⟨b, h1, h2, h3, h4⟩
   by_cases e : b = j
   ·subst e; left; rw [if_pos h3, List.mem_singleton]; exact h4
   ·exact .inr ⟨b, by omega, by omega, h3, h4⟩
theorem tabF_mem {p : Nat → Nat → Bool} {n : Nat} {c : List Int} : ∀ {d i : Nat}, c ∈ tabF p n d i ↔ ∃ a b, i ≤ a ∧ a < i + d ∧ 1 ≤ b ∧ b < n ∧ p a b = true ∧ c = [(a : Int), (b : Int)]
 | 0, i => by
  simp only [tabF, List.not_mem_nil, false_iff]
  rintro ⟨a, b, h1, h2, _⟩; omega
 | d + 1, i => by
  rw [tabF, List.mem_append, tabF_mem, rowF_mem]
  constructor
  ·rintro (⟨b, h1, h2, h3, h4⟩ | ⟨a, b, h1, h2, h3⟩)
   ·exact ⟨i, b, by omega, by omega, h1, by omega, h3, h4⟩
   ·exact ⟨a, b, by omega, by omega, h3⟩
  ·rintro ⟨a, b, h1, h2, h3, h4, h5, h6⟩
   by_cases e : a = i
   ·subst e; exact .inl ⟨b, by omega, by omega, h5, h6⟩
   ·exact .inr ⟨a, b, by omega, by omega, h3, h4, h5, h6⟩
theorem cellsF_mem {p : Nat → Nat → Bool} {n : Nat} {c : List Int} : c ∈ cellsF n p ↔ ∃ a b : Nat, 1 ≤ a ∧ a < n ∧ 1 ≤ b ∧ b < n ∧ p a b = true ∧ c = [(a : Int), (b : Int)] := by
 unfold cellsF
 rw [tabF_mem]
 constructor
 ·rintro ⟨a, b, h1, h2, h3⟩; exact ⟨a, b, h1, by omega, h3⟩
 ·rintro ⟨a, b, h1, h2, h3⟩; exact ⟨a, b, h1, by omega, h3⟩
theorem allIn_four (a b c d v : Int) : allIn [a, b, c, d] v v = decide (a = v ∧ b = v ∧ c = v ∧ d = v) := by
 unfold allIn
 rw [Bool.eq_iff_iff]
 simp only [List.all_cons, List.all_nil, Bool.and_true, Bool.and_eq_true, decide_eq_true_eq]
 omega
theorem heWay {n : Nat} (h : Nat → Nat → Int) (hn : n ≤ 1000) (hb : ∀ i j, i ≤ n → j ≤ n → -10000 ≤ h i j ∧ h i j ≤ 10000) {i j : Nat} (hi : 1 ≤ i ∧ i < n) (hj : 1 ≤ j ∧ j < n) : Ans (fun k => spec_heWay.f k (tab (n + 1) (n + 1) h) i j) (wayH h i j) := by
 have q := tab_sq (n + 1) h
 have hl := q.1
 have row : ∀ a : Nat, a ≤ n → (rd_L3 (tab (n + 1) (n + 1) h) (a : Int)).length = n + 1 := fun a ha => by unfold rd_L3; rw [Int.toNat_natCast]; exact q.row (by omega)
 have num : ∀ a b : Nat, a ≤ n → b ≤ n → rd (rd_L3 (tab (n + 1) (n + 1) h) (a : Int)) (b : Int) = h a b := fun a b ha hb' => by rw [at_en, tab_en _ (by omega) (by omega)]
 have r0 := row i (by omega)
 have r1 := row (i - 1) (by omega)
 have r2 := row (i + 1) (by omega)
 have b0 := hb i j (by omega) (by omega)
 simp only [spec_heWay.f, wrap_pred (show 1 ≤ i by omega) (by omega), wrap_pred (show 1 ≤ j by omega) (by omega), wrap_succ (show i ≤ 1000000 by omega), wrap_succ (show j ≤ 1000000 by omega), Option.bind_some]
 rw [num i j (by omega) (by omega), num (i - 1) j (by omega) (by omega), num (i + 1) j (by omega) (by omega), num i (j - 1) (by omega) (by omega), num i (j + 1) (by omega) (by omega), wrap64_in (h i j + 1) ⟨by omega, by omega⟩, wrap64_in (h i j - 1) ⟨by omega, by omega⟩]
 have u := l1All [h (i - 1) j, h (i + 1) j, h i (j - 1), h i (j + 1)] (by simp) (h i j + 1) (h i j + 1)
 have v := l1All [h (i - 1) j, h (i + 1) j, h i (j - 1), h i (j + 1)] (by simp) (h i j - 1) (h i j - 1)
 rw [allIn_four] at u v
 refine Ans.yes (by omega) (Ans.yes (by omega) (Ans.yes (by omega) (Ans.yes (by omega) (Ans.yes (by omega) (Ans.yes (by omega) (Ans.yes (by omega) (Ans.yes (by omega) (Ans.yes (by omega) (Ans.yes (by omega) (Ans.yes (by omega) (Ans.yes (by omega) (Ans.yes (by omega) (Ans.yes (by omega) ?_)))))))))))))
 unfold wayH
 by_cases c : h (i - 1) j = h i j + 1 ∧ h (i + 1) j = h i j + 1 ∧ h i (j - 1) = h i j + 1 ∧ h i (j + 1) = h i j + 1
 ·rw [if_pos c]; exact u.bind (Ans.yes (decide_eq_true c) (Ans.pure _))
 ·rw [if_neg c]
  refine u.bind (Ans.not (by simpa using c) (v.bind ?_))
  by_cases d : h (i - 1) j = h i j - 1 ∧ h (i + 1) j = h i j - 1 ∧ h i (j - 1) = h i j - 1 ∧ h i (j + 1) = h i j - 1
  ·rw [if_pos d]; exact Ans.yes (decide_eq_true d) (Ans.pure _)
  ·rw [if_neg d]; exact Ans.not (by simpa using d) (Ans.pure _)
theorem heFlips {n : Nat} (h : Nat → Nat → Int) (hn : n ≤ 100) (hb : ∀ i j, i ≤ n → j ≤ n → -10000 ≤ h i j ∧ h i j ≤ 10000) (w : Int) : Ans (fun k => spec_heFlips.f k (tab (n + 1) (n + 1) h) w) (cellsF n (fun i j => decide (wayH h i j = w))) := by
 have q := tab_sq (n + 1) h
 have inner : ∀ (R : List (List Int)) (i : Nat), 1 ≤ i ∧ i < n → ∀ (d j : Nat) (y : List (List Int)), j + d = n → 1 ≤ j → y.length + d ≤ 20000 →
   Ans (fun k => spec_heFlips.l0 k (tab (n + 1) (n + 1) h) w (y ++ rowF (fun i j => decide (wayH h i j = w)) i d j) ((i + 1 : Nat) : Int)) R → Ans (fun k => spec_heFlips.l1 k (tab (n + 1) (n + 1) h) w y (i : Int) (j : Int)) R := by
  intro R i hi d
  induction d with
  | zero =>
   intro j y h1 h2 h3 nx
   rw [rowF, List.append_nil, show ((i + 1 : Nat) : Int) = (i : Int) + 1 by omega] at nx
   refine Ans.step ?_
   simp only [spec_heFlips.l1, q.1, len_down (show n ≤ 1000000 by omega), wrap64_up (show (0 : Int) ≤ i by omega) (by omega)]
   exact Ans.not (by omega) nx
  | succ d ih =>
   intro j y h1 h2 h3 nx
   have wy := heWay h (by omega) hb hi (show 1 ≤ j ∧ j < n by omega)
   rw [rowF, ← List.append_assoc] at nx
   refine Ans.step ?_
   simp only [spec_heFlips.l1, q.1, len_down (show n ≤ 1000000 by omega), wrap64_up (show (0 : Int) ≤ j by omega) (by omega)]
   refine Ans.yes (by omega) (wy.bind ?_)
   by_cases c : wayH h i j = w
   ·rw [if_pos (decide_eq_true c)] at nx
    have := ih (j + 1) (y ++ [[(i : Int), (j : Int)]]) (by omega) (by omega) (by simp; omega) nx
    rw [show ((j + 1 : Nat) : Int) = (j : Int) + 1 by omega] at this
    exact Ans.yes c (Ans.yes (by omega) this)
   ·rw [if_neg (by simpa using c), List.append_nil] at nx
    have := ih (j + 1) y (by omega) (by omega) (by omega) nx
    rw [show ((j + 1 : Nat) : Int) = (j : Int) + 1 by omega] at this
    exact Ans.not c this
 have key : ∀ (d i : Nat) (y : List (List Int)), i + d = n → 1 ≤ i → y.length ≤ 100 * i → Ans (fun k => spec_heFlips.l0 k (tab (n + 1) (n + 1) h) w y (i : Int)) (y ++ tabF (fun i j => decide (wayH h i j = w)) n d i) := by
  intro d
  induction d with
  | zero =>
   intro i y h1 h2 h3
   refine Ans.step ?_
   simp only [spec_heFlips.l0, q.1, len_down (show n ≤ 1000000 by omega), tabF, List.append_nil]
   exact Ans.not (by omega) (Ans.pure _)
  | succ d ih =>
   intro i y h1 h2 h3
   have rl := rowF_len (fun i j => decide (wayH h i j = w)) i (n - 1) 1
   have e := ih (i + 1) (y ++ rowF (fun i j => decide (wayH h i j = w)) i (n - 1) 1) (by omega) (by omega) (by rw [List.length_append]; omega)
   rw [List.append_assoc] at e
   rw [tabF]
   refine Ans.step ?_
   simp only [spec_heFlips.l0, q.1, len_down (show n ≤ 1000000 by omega)]
   exact Ans.yes (by omega) (inner _ i (by omega) (n - 1) 1 y (by omega) (by omega) (by omega) e)
 simp only [spec_heFlips.f]
 by_cases c : 1 ≤ n
 ·have := key (n - 1) 1 [] (by omega) (by omega) (by simp)
  rw [List.nil_append] at this
  exact this
 ·have z : cellsF n (fun i j => decide (wayH h i j = w)) = [] := by unfold cellsF; rw [show n - 1 = 0 by omega]; rfl
  rw [z]
  refine Ans.step ?_
  simp only [spec_heFlips.l0, q.1, len_down (show n ≤ 1000000 by omega)]
  exact Ans.not (by omega) (Ans.pure _)
theorem hgt_bound {x : List (List Int)} (s : sign x = true) {n : Nat} (hn : x.length = n) : ∀ i j, i ≤ n → j ≤ n → -10000 ≤ hgt x i j ∧ hgt x i j ≤ 10000 := fun i j hi hj => by
 have a := hgt_in s hn hi hj
 have b := (sign_en s hn).2.2.1
 omega
theorem heCell (n i j : Nat) (hn : n ≤ 1000) : spec_heCell.f (n : Int) i j = some (decide ((1 ≤ i ∧ i < n) ∧ (1 ≤ j ∧ j < n))) := by
 simp only [spec_heCell.f, l1In, Option.bind_some]
 rw [show wrap64 ((n : Int) - 1) = (n : Int) - 1 from wrap64_in _ ⟨by omega, by omega⟩]
 by_cases c : 1 ≤ i ∧ i < n
 ·rw [if_pos (by rw [decide_eq_true_eq]; omega)]; congr 1; rw [decide_eq_decide]; omega
 ·rw [if_neg (by rw [decide_eq_true_eq]; omega)]; congr 1; exact (decide_eq_false (by omega)).symm
theorem specFlip {x : List (List Int)} (s : sign x = true) {n : Nat} (hn : x.length = n) {i j : Nat} (hi : 1 ≤ i ∧ i < n) (hj : 1 ≤ j ∧ j < n) : Ans (fun k => spec_FlipAt.f k x i j) (if wayH (hgt x) i j = 0 then ([], false) else (mat n (flipH (hgt x) i j), true)) := by
 obtain ⟨_, h1, h6, _⟩ := sign_en s hn
 obtain ⟨a, b, c⟩ := HT_hf s hn
 have sg := sgGood x (by omega)
 rw [s] at sg
 have ho := specHeights s
 rw [a] at ho
 have wy := heWay (hgt x) (by omega) (hgt_bound s hn) hi hj
 have q := tab_sq (n + 1) (hgt x)
 have hl := q.1
 have hr : (rd_L3 (tab (n + 1) (n + 1) (hgt x)) (i : Int)).length = n + 1 := by unfold rd_L3; rw [Int.toNat_natCast]; exact q.row (by omega)
 have hb := hgt_bound s hn i j (by omega) (by omega)
 have wc := wayH_cases (hgt x) i j
 simp only [spec_FlipAt.f, hn, heCell n i j (by omega), Option.bind_some]
 refine sg.bind (Ans.yes rfl ?_)
 rw [decide_eq_true (show (1 ≤ i ∧ i < n) ∧ (1 ≤ j ∧ j < n) from ⟨hi, hj⟩)]
 refine Ans.step ?_
 simp only [spec_FlipAt.j0, Int.toNat_natCast]
 refine Ans.not (by simp) (ho.bind (wy.bind ?_))
 rw [show wrap64 (rd (rd_L3 (tab (n + 1) (n + 1) (hgt x)) (i : Int)) (j : Int) + wrap64 (2 * wayH (hgt x) i j)) = hgt x i j + 2 * wayH (hgt x) i j by
  rw [at_en, tab_en _ (by omega) (by omega), wrap64_in (2 * wayH (hgt x) i j) ⟨by omega, by omega⟩, wrap64_in _ ⟨by omega, by omega⟩], show rd_L3 (tab (n + 1) (n + 1) (hgt x)) (i : Int) = (tab (n + 1) (n + 1) (hgt x)).getD i [] by unfold rd_L3; rw [Int.toNat_natCast], tab_put _ (by omega) (by omega)]
 rw [show rd_L3 (tab (n + 1) (n + 1) (hgt x)) (i : Int) = (tab (n + 1) (n + 1) (hgt x)).getD i [] by unfold rd_L3; rw [Int.toNat_natCast]] at hr
 by_cases z : wayH (hgt x) i j = 0
 ·rw [if_pos z]; exact Ans.yes z (Ans.pure _)
 ·rw [if_neg z]
  have F := specFromH (tab_sq (n + 1) (flipH (hgt x) i j)) (by omega)
  rw [smat_of (hf_flip b hi hj) (by omega)] at F
  exact Ans.not z (Ans.yes (by omega) (Ans.yes (by omega) (Ans.yes (by omega) (Ans.yes (by omega) (F.bind (Ans.pure _))))))
theorem flip_sign {x : List (List Int)} (s : sign x = true) {n : Nat} (hn : x.length = n) {i j : Nat} (hi : 1 ≤ i ∧ i < n) (hj : 1 ≤ j ∧ j < n) : sign (mat n (flipH (hgt x) i j)) = true ∧ (mat n (flipH (hgt x) i j)).length = n :=
 ⟨mat_sign (hf_flip (HT_hf s hn).2.1 hi hj) (sign_en s hn).2.1 (sign_en s hn).2.2.1, (mat_sq n _).1⟩
def Aside (p : Prop) : Prop := p
theorem draw_pair (c : List Int) (hc : ∀ x ∈ c, (Lit.int .u8 x).wf = true) (a s : Int) (most : Nat) (hm : 1 ≤ most) (hm2 : most ≤ 6) (h0 : 0 ≤ a) (h1 : a ≤ 10000000000) :
  ∃ m l a' s', Ans (fun k => spec_l1Cur_pair.f k c a s most) (m, l, a', s') ∧ a ≤ a' ∧ a' ≤ a + 10000 ∧ (m.length ≤ 7 ∧ ∀ r ∈ m, r.length ≤ 7) ∧ (l.length ≤ 7 ∧ ∀ r ∈ l, r.length ≤ 7) := by
 obtain ⟨m, a1, s1, f1, p1, q1, m1, m2⟩ := draw_signs c hc a s most hm hm2 h0 (by omega)
 have sg := sgGood m (by omega)

 have alone : ∀ (a s : Int), 0 ≤ a → a ≤ 20000000000 → ∃ l a' s', Ans (fun k => spec_l1Cur_pair.j0 k most m true c a s) (m, l, a', s') ∧ a ≤ a' ∧ a' ≤ a + 3000 ∧ (l.length ≤ 7 ∧ ∀ r ∈ l, r.length ≤ 7) := by
  intro a s h0 h1
  obtain ⟨l, a2, s2, f2, p2, q2, l1, l2⟩ := draw_signs c hc a s most hm hm2 h0 (by omega)
  refine ⟨l, a2, s2, Ans.step ?_, p2, q2, l1, l2⟩
  simp only [spec_l1Cur_pair.j0]
  exact Ans.yes trivial (f2.bind (Ans.pure _))
 by_cases s' : sign m = true
 case neg =>
  rw [Bool.eq_false_iff.mpr s'] at sg
  obtain ⟨l, a2, s2, f2, p2, q2, l1⟩ := alone a1 s1 (by omega) (by omega)
  refine ⟨m, l, a2, s2, ?_, by omega, by omega, ⟨m1, m2⟩, l1⟩
  simp only [spec_l1Cur_pair.f]
  exact f1.bind (sg.bind (Ans.not (by simp) f2))
 rw [s'] at sg
 obtain ⟨v, a2, s2, e2, p2, q2⟩ := draw_one c hc a1 s1 10 (by omega) (by omega)
 cases v with
 | true =>
  obtain ⟨l, a3, s3, f3, p3, q3, l1⟩ := alone a2 s2 (by omega) (by omega)
  refine ⟨m, l, a3, s3, ?_, by omega, by omega, ⟨m1, m2⟩, l1⟩
  simp only [spec_l1Cur_pair.f]
  refine f1.bind (sg.bind (Ans.yes rfl ?_))
  simp only [e2, Option.bind_some]
  exact f3
 | false =>
  obtain ⟨n, hn⟩ : ∃ n, m.length = n := ⟨_, rfl⟩
  obtain ⟨_, n1, n6, _⟩ := sign_en s' hn
  obtain ⟨t, a3, s3, f3, p3, q3, t1, t2⟩ := draw_sure c hc a2 s2 n n1 n6 (by omega) (by omega)
  obtain ⟨u, a4, s4, e4, p4, q4⟩ := draw_one c hc a3 s3 3 (by omega) (by omega)
  cases u with
  | false =>
   refine ⟨m, t, a4, s4, ?_, by omega, by omega, ⟨m1, m2⟩, by rw [t1.1]; omega, fun r hr => by rw [t1.2 r hr]; omega⟩
   simp only [spec_l1Cur_pair.f]
   refine f1.bind (sg.bind (Ans.yes rfl ?_))
   simp only [e2, Option.bind_some]
   refine Ans.step ?_
   simp only [spec_l1Cur_pair.j0, hn]
   refine Ans.not (by simp) (f3.bind ?_)
   simp only [e4, Option.bind_some]
   exact Ans.not (by simp) (Ans.pure _)
  | true =>
   obtain ⟨v, a5, s5, e5, p5, q5, v0, v1⟩ := draw_pick c hc a4 s4 4 (by omega) (by omega)
   have loop : ∀ (d : Nat) (y : List (List Int)) (a s : Int), d ≤ 4 → sign y = true → y.length = n → 0 ≤ a → a + 4 * d ≤ 20000000000 → ∃ l a' s', Ans (fun k => spec_l1Cur_pair.l0 k m y (d : Int) c a s) (m, l, a', s') ∧ a ≤ a' ∧ a' ≤ a + 4 * d ∧ sign l = true ∧ l.length = n := by
    intro d
    induction d with
    | zero =>
     intro y a s _ sy hy h0 h1
     refine ⟨y, a, s, Ans.step ?_, by omega, by omega, sy, hy⟩
     simp only [spec_l1Cur_pair.l0]
     exact Ans.not (by omega) (Ans.pure _)
    | succ d ih =>
     intro y a s hd sy hy h0 h1
     obtain ⟨b, a1, s1, e1, p1, q1, b0, b1⟩ := draw_pick c hc a s 2 h0 (by omega)
     have ho := specHeights sy
     rw [(HT_hf sy hy).1] at ho
     obtain ⟨w, hw, wb⟩ : ∃ w, wrap64 ((wrap64 (2 * b)) - 1) = w ∧ w ≠ 0 := ⟨_, rfl, by
      rw [wrap64_in (2 * b) ⟨by omega, by omega⟩, wrap64_in _ ⟨by omega, by omega⟩]; omega⟩
     have fl := heFlips (hgt y) (by omega) (hgt_bound sy hy) w
     obtain ⟨L, hL⟩ : ∃ L, L = cellsF n (fun i j => decide (wayH (hgt y) i j = w)) := ⟨_, rfl⟩
     replace hw : Aside (wrap64 ((wrap64 (2 * b)) - 1) = w) := hw
     rw [← hL] at fl
     by_cases z : (L.length : Int) > 0
     ·obtain ⟨g, a2, s2, e2, p2, q2, g0, g1⟩ := draw_pick c hc a1 s1 (L.length : Int) (by omega) (by omega)
      have gm := getD_mem (x := L) [] (show g.toNat < L.length by omega)
      have gm' := gm
      rw [hL, cellsF_mem] at gm'
      obtain ⟨i, j, i1, i2, j1, j2, wy, ce⟩ := gm'
      rw [← hL] at ce
      have er : rd_L3 L g = [(i : Int), (j : Int)] := ce
      have sf := specFlip sy hy ⟨i1, i2⟩ ⟨j1, j2⟩
      rw [if_neg (by simp only [decide_eq_true_eq] at wy; rw [wy]; exact wb)] at sf
      obtain ⟨k1, k2⟩ := flip_sign sy hy ⟨i1, i2⟩ ⟨j1, j2⟩
      obtain ⟨l, a', s', e, r1, r2, r3⟩ := ih _ a2 s2 (by omega) k1 k2 (by omega) (by omega)
      refine ⟨l, a', s', Ans.step ?_, by omega, by omega, r3⟩
      simp only [spec_l1Cur_pair.l0, len_down (show d ≤ 1000000 by omega), e1, Option.bind_some, show wrap64 ((wrap64 (2 * b)) - 1) = w from hw]
      refine Ans.yes (by omega) (ho.bind (fl.bind (Ans.yes z ?_)))
      simp only [e2, Option.bind_some, er]
      refine Ans.yes g0 (Ans.yes (by omega) (Ans.yes (by simp) (Ans.yes (by simp) ?_)))
      exact sf.bind e
     ·obtain ⟨l, a', s', e, r1, r2, r3⟩ := ih y a1 s1 (by omega) sy hy (by omega) (by omega)
      refine ⟨l, a', s', Ans.step ?_, by omega, by omega, r3⟩
      simp only [spec_l1Cur_pair.l0, len_down (show d ≤ 1000000 by omega), e1, Option.bind_some, show wrap64 ((wrap64 (2 * b)) - 1) = w from hw]
      exact Ans.yes (by omega) (ho.bind (fl.bind (Ans.not z e)))
   obtain ⟨l, a6, s6, e6, p6, q6, r1, r2⟩ := loop v.toNat m a5 s5 (by omega) s' hn (by omega) (by omega)
   rw [Int.toNat_of_nonneg v0] at e6
   obtain ⟨lq, _⟩ := sign_en r1 r2
   refine ⟨m, l, a6, s6, ?_, by omega, by omega, ⟨m1, m2⟩, by omega, fun r hr => by rw [lq.2 r hr]; omega⟩
   simp only [spec_l1Cur_pair.f]
   refine f1.bind (sg.bind (Ans.yes rfl ?_))
   simp only [e2, Option.bind_some]
   refine Ans.step ?_
   simp only [spec_l1Cur_pair.j0, hn]
   refine Ans.not (by simp) (f3.bind ?_)
   simp only [e4, e5, Option.bind_some]
   exact Ans.yes trivial e6
theorem S_less (f g : Nat → Int) : ∀ n, S n (fun k => f k - g k) = S n f - S n g
 | 0 => by simp [S]
 | n + 1 => by rw [S, S, S, S_less f g n]; omega
theorem S_le {f g : Nat → Int} : ∀ {n : Nat}, (∀ i, i < n → f i ≤ g i) → S n f ≤ S n g
 | 0, _ => Int.le_refl _
 | n + 1, h => by
  have a := S_le (fun i hi => h i (by omega : i < n + 1)) (n := n)
  have b := h n (by omega)
  rw [S, S]; omega
theorem S_nn {f : Nat → Int} : ∀ {n : Nat}, (∀ i, i < n → 0 ≤ f i) → 0 ≤ S n f
 | 0, _ => Int.le_refl _
 | n + 1, h => by
  have a := S_nn (fun i hi => h i (by omega : i < n + 1)) (n := n)
  have b := h n (by omega)
  rw [S]; omega
theorem S_zero_all {f : Nat → Int} : ∀ {n : Nat}, (∀ i, i < n → 0 ≤ f i) → S n f = 0 → ∀ i, i < n → f i = 0
 | 0, _, _, i, hi => by omega
 | n + 1, h, e, i, hi => by
  have a := S_nn (fun i hi => h i (by omega : i < n + 1)) (n := n)
  have b := h n (by omega)
  rw [S] at e
  by_cases c : i = n
  ·subst c; omega
  ·exact S_zero_all (n := n) (fun i hi => h i (by omega)) (by omega) i (by omega)
theorem S_even {f : Nat → Int} : ∀ {n : Nat}, (∀ i, i < n → f i % 2 = 0) → S n f % 2 = 0
 | 0, _ => by simp [S]
 | n + 1, h => by
  have a := S_even (fun i hi => h i (by omega : i < n + 1)) (n := n)
  have b := h n (by omega)
  rw [S]; omega
theorem S_change {f f' : Nat → Int} {i : Nat} : ∀ {n : Nat}, i < n → (∀ k, k < n → k ≠ i → f' k = f k) → S n f' = S n f + (f' i - f i)
 | 0, hi, _ => by omega
 | n + 1, hi, h => by
  rw [S, S]
  by_cases c : i = n
  ·subst c
   rw [S_congr (fun k hk => h k (by omega) (by omega))]; omega
  ·have a := S_change (n := n) (show i < n by omega) (fun k hk hn => h k (by omega) hn)
   have b := h n (by omega) (by omega)
   omega
def dst (n : Nat) (h g : Nat → Nat → Int) : Int := S (n + 1) (fun i => S (n + 1) (fun j => max (h i j - g i j) (g i j - h i j)))
theorem dst_nn (n : Nat) (h g : Nat → Nat → Int) : 0 ≤ dst n h g := S_nn fun i _ => S_nn fun j _ => by omega
theorem dst_zero {n : Nat} {h g : Nat → Nat → Int} (e : dst n h g = 0) {i j : Nat} (hi : i ≤ n) (hj : j ≤ n) : h i j = g i j := by
 have a := S_zero_all (fun i _ => S_nn fun j _ => by omega) e i (by omega)
 have b := S_zero_all (fun j _ => by omega) a j (by omega)
 omega
theorem dst_same {n : Nat} {h g : Nat → Nat → Int} (e : ∀ i j, i ≤ n → j ≤ n → h i j = g i j) : dst n h g = 0 := by
 unfold dst
 rw [S_congr (g := fun _ => 0) (fun i hi => (S_congr (g := fun _ => 0) (fun j hj => by have := e i j (by omega) (by omega); omega)).trans (S_zero _)), S_zero]
theorem dst_even {n : Nat} {h g : Nat → Nat → Int} (H : HF n h) (G : HF n g) : dst n h g % 2 = 0 := by
 refine S_even fun i hi => S_even fun j hj => ?_
 have a := hf_parity H (show j ≤ n by omega) i (by omega)
 have b := hf_parity G (show j ≤ n by omega) i (by omega)
 omega
theorem inner_of {n : Nat} {h g : Nat → Nat → Int} (H : HF n h) (G : HF n g) {i j : Nat} (hi : i ≤ n) (hj : j ≤ n) (d : h i j ≠ g i j) : (1 ≤ i ∧ i < n) ∧ (1 ≤ j ∧ j < n) := by
 have a := H.1 i hi
 have b := G.1 i hi
 have a' := H.1 j hj
 have b' := G.1 j hj
 refine ⟨⟨Nat.pos_of_ne_zero fun c => d (by rw [c]; omega), ?_⟩, ⟨Nat.pos_of_ne_zero fun c => d (by rw [c]; omega), ?_⟩⟩
 ·by_cases c : i = n
  ·exact absurd (by rw [c]; omega) d
  ·omega
 ·by_cases c : j = n
  ·exact absurd (by rw [c]; omega) d
  ·omega
theorem lower {h1 h0 g1 g0 : Int} (a : h1 - h0 = 1 ∨ h1 - h0 = -1) (b : g1 - g0 = 1 ∨ g1 - g0 = -1) (p : h0 + 2 ≤ g0) : h1 = h0 + 1 ∨ (h1 = h0 - 1 ∧ h1 < g1) := by omega
theorem higher {h1 h0 g1 g0 : Int} (a : h1 - h0 = 1 ∨ h1 - h0 = -1) (b : g1 - g0 = 1 ∨ g1 - g0 = -1) (p : g0 + 2 ≤ h0) : h1 = h0 - 1 ∨ (h1 = h0 + 1 ∧ g1 < h1) := by omega
theorem four {n : Nat} {h : Nat → Nat → Int} (H : HF n h) {i j : Nat} (hi : 1 ≤ i ∧ i < n) (hj : 1 ≤ j ∧ j < n) : (h (i - 1) j - h i j = 1 ∨ h (i - 1) j - h i j = -1) ∧ (h (i + 1) j - h i j = 1 ∨ h (i + 1) j - h i j = -1) ∧ (h i (j - 1) - h i j = 1 ∨ h i (j - 1) - h i j = -1) ∧ (h i (j + 1) - h i j = 1 ∨ h i (j + 1) - h i j = -1) := by
 have u := H.2.1 (i - 1) j (by omega) (by omega)
 have d := H.2.1 i j (by omega) (by omega)
 have l := H.2.2 i (j - 1) (by omega) (by omega)
 have r := H.2.2 i j (by omega) (by omega)
 rw [show i - 1 + 1 = i by omega] at u
 rw [show j - 1 + 1 = j by omega] at l
 exact ⟨by omega, d, by omega, r⟩
theorem low_cell {n : Nat} {h g : Nat → Nat → Int} (H : HF n h) (G : HF n g) : ∀ (m : Nat) {i j : Nat}, i ≤ n → j ≤ n → h i j < g i j → h i j + n ≤ m → ∃ a b, (1 ≤ a ∧ a < n) ∧ (1 ≤ b ∧ b < n) ∧ h a b < g a b ∧ wayH h a b = 1
 | m, i, j, hi, hj, lt, le => by
  obtain ⟨i1, j1⟩ := inner_of H G hi hj (by omega)
  have gap : h i j + 2 ≤ g i j := by
   have p := hf_parity H hj i hi
   have q := hf_parity G hj i hi
   omega
  obtain ⟨u, d, l, r⟩ := four H i1 j1
  obtain ⟨u', d', l', r'⟩ := four G i1 j1
  have go : ∀ {a b : Nat}, a ≤ n → b ≤ n → h a b = h i j - 1 ∧ h a b < g a b → ∃ a b, (1 ≤ a ∧ a < n) ∧ (1 ≤ b ∧ b < n) ∧ h a b < g a b ∧ wayH h a b = 1 := by
   intro a b ha hb e
   cases m with
   | zero => have := (hf_in H ha hb).1; clear u d l r u' d' l' r'; omega
   | succ m => exact low_cell H G m ha hb e.2 (by clear u d l r u' d' l' r'; omega)
  rcases lower u u' gap with e1 | e1
  case inr => exact go (show i - 1 ≤ n by omega) hj e1
  rcases lower d d' gap with e2 | e2
  case inr => exact go (show i + 1 ≤ n by omega) hj e2
  rcases lower l l' gap with e3 | e3
  case inr => exact go hi (show j - 1 ≤ n by omega) e3
  rcases lower r r' gap with e4 | e4
  case inr => exact go hi (show j + 1 ≤ n by omega) e4
  exact ⟨i, j, i1, j1, lt, by unfold wayH; rw [if_pos ⟨e1, e2, e3, e4⟩]⟩
theorem high_cell {n : Nat} {h g : Nat → Nat → Int} (H : HF n h) (G : HF n g) : ∀ (m : Nat) {i j : Nat}, i ≤ n → j ≤ n → g i j < h i j → 2 * n - h i j ≤ m → ∃ a b, (1 ≤ a ∧ a < n) ∧ (1 ≤ b ∧ b < n) ∧ g a b < h a b ∧ wayH h a b = -1
 | m, i, j, hi, hj, lt, le => by
  obtain ⟨i1, j1⟩ := inner_of H G hi hj (by omega)
  have gap : g i j + 2 ≤ h i j := by
   have p := hf_parity H hj i hi
   have q := hf_parity G hj i hi
   omega
  obtain ⟨u, d, l, r⟩ := four H i1 j1
  obtain ⟨u', d', l', r'⟩ := four G i1 j1
  have go : ∀ {a b : Nat}, a ≤ n → b ≤ n → h a b = h i j + 1 ∧ g a b < h a b → ∃ a b, (1 ≤ a ∧ a < n) ∧ (1 ≤ b ∧ b < n) ∧ g a b < h a b ∧ wayH h a b = -1 := by
   intro a b ha hb e
   cases m with
   | zero => have := (hf_in H ha hb).2.1; clear u d l r u' d' l' r'; omega
   | succ m => exact high_cell H G m ha hb e.2 (by clear u d l r u' d' l' r'; omega)
  rcases higher u u' gap with e1 | e1
  case inr => exact go (show i - 1 ≤ n by omega) hj e1
  rcases higher d d' gap with e2 | e2
  case inr => exact go (show i + 1 ≤ n by omega) hj e2
  rcases higher l l' gap with e3 | e3
  case inr => exact go hi (show j - 1 ≤ n by omega) e3
  rcases higher r r' gap with e4 | e4
  case inr => exact go hi (show j + 1 ≤ n by omega) e4
  exact ⟨i, j, i1, j1, lt, by unfold wayH; rw [if_neg (by omega), if_pos ⟨e1, e2, e3, e4⟩]⟩
theorem dst_flip {n : Nat} {h g : Nat → Nat → Int} (H : HF n h) (G : HF n g) {i j : Nat} (hi : i ≤ n) (hj : j ≤ n) (c : (h i j < g i j ∧ wayH h i j = 1) ∨ (g i j < h i j ∧ wayH h i j = -1)) : dst n (flipH h i j) g = dst n h g - 2 := by
 have p := hf_parity H hj i hi
 have q := hf_parity G hj i hi
 have row : S (n + 1) (fun b => max (flipH h i j i b - g i b) (g i b - flipH h i j i b)) = S (n + 1) (fun b => max (h i b - g i b) (g i b - h i b)) + ((max (flipH h i j i j - g i j) (g i j - flipH h i j i j)) - max (h i j - g i j) (g i j - h i j)) := by
  refine S_change (show j < n + 1 by omega) fun k hk kn => ?_
  rw [show flipH h i j i k = h i k from if_neg (by omega)]
 have all := S_change (f := fun a => S (n + 1) (fun b => max (h a b - g a b) (g a b - h a b))) (f' := fun a => S (n + 1) (fun b => max (flipH h i j a b - g a b) (g a b - flipH h i j a b))) (show i < n + 1 by omega) (fun k hk kn => S_congr fun b _ => by
  rw [show flipH h i j k b = h k b from if_neg (by omega)])
 have e : flipH h i j i j = h i j + 2 * wayH h i j := if_pos ⟨rfl, rfl⟩
 unfold dst
 rw [all, row, e]
 omega
def upP (h g : Nat → Nat → Int) (i j : Nat) : Bool := decide (h i j < g i j) && decide (wayH h i j = 1)
def dnP (h g : Nat → Nat → Int) (i j : Nat) : Bool := decide (g i j < h i j) && decide (wayH h i j = -1)
def nextC (n : Nat) (h g : Nat → Nat → Int) : List Int := (cellsF n (upP h g) ++ cellsF n (dnP h g)).headD []
def cI (c : List Int) : Nat := (c.getD 0 0).toNat
def cJ (c : List Int) : Nat := (c.getD 1 0).toNat
theorem next_in {n : Nat} {h g : Nat → Nat → Int} (H : HF n h) (G : HF n g) (d : dst n h g ≠ 0) : ∃ i j : Nat, nextC n h g = [(i : Int), (j : Int)] ∧ (1 ≤ i ∧ i < n) ∧ (1 ≤ j ∧ j < n) ∧ ((h i j < g i j ∧ wayH h i j = 1) ∨ (g i j < h i j ∧ wayH h i j = -1)) := by
 have ne : ∃ i j, i ≤ n ∧ j ≤ n ∧ h i j ≠ g i j := by
  refine Classical.byContradiction fun c => d (dst_same fun i j hi hj => Classical.byContradiction fun e => c ⟨i, j, hi, hj, e⟩)
 have some_ : ∃ c, c ∈ cellsF n (upP h g) ++ cellsF n (dnP h g) := by
  obtain ⟨i, j, hi, hj, e⟩ := ne
  by_cases l : h i j < g i j
  ·obtain ⟨a, b, a1, b1, l1, w⟩ := low_cell H G (h i j + n).toNat hi hj l (by have := (hf_in H hi hj).1; omega)
   exact ⟨[(a : Int), (b : Int)], List.mem_append.mpr (.inl (cellsF_mem.mpr ⟨a, b, a1.1, a1.2, b1.1, b1.2, by simp [upP, l1, w], rfl⟩))⟩
  ·obtain ⟨a, b, a1, b1, l1, w⟩ := high_cell H G (2 * n - h i j).toNat hi hj (by omega) (by have := (hf_in H hi hj).2.1; omega)
   exact ⟨[(a : Int), (b : Int)], List.mem_append.mpr (.inr (cellsF_mem.mpr ⟨a, b, a1.1, a1.2, b1.1, b1.2, by simp [dnP, l1, w], rfl⟩))⟩
 have mem : nextC n h g ∈ cellsF n (upP h g) ++ cellsF n (dnP h g) := by
  unfold nextC
  obtain ⟨c, hc⟩ := some_
  cases e : cellsF n (upP h g) ++ cellsF n (dnP h g) with
  | nil => rw [e] at hc; simp at hc
  | cons x xs => simp
 rcases List.mem_append.mp mem with m | m
 ·obtain ⟨a, b, a1, a2, b1, b2, p, e⟩ := cellsF_mem.mp m
  simp only [upP, Bool.and_eq_true, decide_eq_true_eq] at p
  exact ⟨a, b, e, ⟨a1, a2⟩, ⟨b1, b2⟩, .inl p⟩
 ·obtain ⟨a, b, a1, a2, b1, b2, p, e⟩ := cellsF_mem.mp m
  simp only [dnP, Bool.and_eq_true, decide_eq_true_eq] at p
  exact ⟨a, b, e, ⟨a1, a2⟩, ⟨b1, b2⟩, .inr p⟩
theorem way_flip {h : Nat → Nat → Int} {i j : Nat} (hi : 1 ≤ i) (hj : 1 ≤ j) : wayH (flipH h i j) i j = - wayH h i j := by
 have e : flipH h i j i j = h i j + 2 * wayH h i j := if_pos ⟨rfl, rfl⟩
 have a : flipH h i j (i - 1) j = h (i - 1) j := if_neg (by omega)
 have b : flipH h i j (i + 1) j = h (i + 1) j := if_neg (by omega)
 have c : flipH h i j i (j - 1) = h i (j - 1) := if_neg (by omega)
 have d : flipH h i j i (j + 1) = h i (j + 1) := if_neg (by omega)
 rcases wayH_cases h i j with ⟨w, x⟩ | ⟨w, x⟩ | w
 ·rw [w] at e ⊢
  unfold wayH
  rw [a, b, c, d, e, if_neg (by omega), if_pos (by omega)]
 ·rw [w] at e ⊢
  unfold wayH
  rw [a, b, c, d, e, if_pos (by omega)]; rfl
 ·have : flipH h i j = h := by
   funext p q
   unfold flipH putH
   rw [w]
   by_cases z : p = i ∧ q = j
   ·rw [if_pos z, z.1, z.2]; omega
   ·rw [if_neg z]
  rw [this, w]; rfl
theorem flip_flip {h : Nat → Nat → Int} {i j : Nat} (hi : 1 ≤ i) (hj : 1 ≤ j) : flipH (flipH h i j) i j = h := by
 have w := way_flip (h := h) hi hj
 have e : flipH h i j i j = h i j + 2 * wayH h i j := if_pos ⟨rfl, rfl⟩
 funext p q
 rw [show flipH (flipH h i j) i j p q = if p = i ∧ q = j then flipH h i j i j + 2 * wayH (flipH h i j) i j else flipH h i j p q from rfl, w, e]
 by_cases z : p = i ∧ q = j
 ·rw [if_pos z, z.1, z.2]; omega
 ·rw [if_neg z]; exact if_neg z
def pathF (n : Nat) (g : Nat → Nat → Int) : Nat → (Nat → Nat → Int) → List (List Int)
 | 0, _ => []
 | d + 1, h => nextC n h g :: pathF n g d (flipH h (cI (nextC n h g)) (cJ (nextC n h g)))
theorem pathF_len (n : Nat) (g : Nat → Nat → Int) : ∀ d h, (pathF n g d h).length = d
 | 0, _ => rfl
 | d + 1, h => by rw [pathF, List.length_cons, pathF_len n g d]
def foll (h : Nat → Nat → Int) (p : List (List Int)) : Nat → Nat → Int := p.foldl (fun h c => flipH h (cI c) (cJ c)) h
theorem cI_of (i j : Nat) : cI [(i : Int), (j : Int)] = i := by simp [cI]
theorem cJ_of (i j : Nat) : cJ [(i : Int), (j : Int)] = j := by simp [cJ]
def okPath (n : Nat) : (Nat → Nat → Int) → List (List Int) → Prop
 | _, [] => True
 | h, c :: p => (∃ i j : Nat, c = [(i : Int), (j : Int)] ∧ (1 ≤ i ∧ i < n) ∧ (1 ≤ j ∧ j < n) ∧ wayH h i j ≠ 0) ∧ okPath n (flipH h (cI c) (cJ c)) p
theorem path_ok {n : Nat} {g : Nat → Nat → Int} (G : HF n g) : ∀ (d : Nat) (h : Nat → Nat → Int), HF n h → dst n h g = 2 * d → okPath n h (pathF n g d h) ∧ HF n (foll h (pathF n g d h)) ∧ ∀ i j, i ≤ n → j ≤ n → foll h (pathF n g d h) i j = g i j
 | 0, h, H, e => ⟨trivial, H, fun i j hi hj => show h i j = g i j from dst_zero (h := h) (g := g) (by simpa using e) hi hj⟩
 | d + 1, h, H, e => by
  obtain ⟨i, j, c, i1, j1, w⟩ := next_in H G (by omega)
  have F := hf_flip H i1 j1
  have D := dst_flip H G (by omega) (by omega) w
  obtain ⟨a, b, z⟩ := path_ok G d (flipH h i j) F (by omega)
  simp only [pathF, foll, List.foldl_cons, okPath]
  rw [c, cI_of, cJ_of]
  exact ⟨⟨⟨i, j, rfl, i1, j1, by rcases w with w | w <;> omega⟩, a⟩, b, z⟩
def mnL : Int → List Int → Int
 | m, [] => m
 | m, x :: l => if x < m then mnL x l else mnL m l
def mxL : Int → List Int → Int
 | m, [] => m
 | m, x :: l => if m < x then mxL x l else mxL m l
theorem minAns (l : List Int) (hl : l.length ≤ 1000) : ∀ (d i : Nat) (m : Int), i + d = l.length → Ans (fun k => slices_Min_int_int.l0 k l m (i : Int)) (mnL m (l.drop i)) := by
 intro d
 induction d with
 | zero =>
  intro i m h
  rw [drop_all _ (by omega)]
  exact Ans.step (by simp only [slices_Min_int_int.l0]; exact Ans.not (by omega) (Ans.pure _))
 | succ d ih =>
  intro i m h
  rw [drop_at l 0 (by omega), mnL]
  refine Ans.step ?_
  simp only [slices_Min_int_int.l0, wrap64_up (show (0 : Int) ≤ i by omega) (by omega), rd, Int.toNat_natCast]
  refine Ans.yes (by omega) (Ans.yes (by omega) ?_)
  by_cases c : l.getD i 0 < m
  ·have e := ih (i + 1) (l.getD i 0) (by omega)
   rw [show ((i + 1 : Nat) : Int) = (i : Int) + 1 by omega] at e
   rw [if_pos c]; exact Ans.yes c e
  ·have e := ih (i + 1) m (by omega)
   rw [show ((i + 1 : Nat) : Int) = (i : Int) + 1 by omega] at e
   rw [if_neg c]; exact Ans.not c e
theorem maxAns (l : List Int) (hl : l.length ≤ 1000) : ∀ (d i : Nat) (m : Int), i + d = l.length → Ans (fun k => slices_Max_int_int.l0 k l m (i : Int)) (mxL m (l.drop i)) := by
 intro d
 induction d with
 | zero =>
  intro i m h
  rw [drop_all _ (by omega)]
  exact Ans.step (by simp only [slices_Max_int_int.l0]; exact Ans.not (by omega) (Ans.pure _))
 | succ d ih =>
  intro i m h
  rw [drop_at l 0 (by omega), mxL]
  refine Ans.step ?_
  simp only [slices_Max_int_int.l0, wrap64_up (show (0 : Int) ≤ i by omega) (by omega), rd, Int.toNat_natCast]
  refine Ans.yes (by omega) (Ans.yes (by omega) ?_)
  by_cases c : m < l.getD i 0
  ·have e := ih (i + 1) (l.getD i 0) (by omega)
   rw [show ((i + 1 : Nat) : Int) = (i : Int) + 1 by omega] at e
   rw [if_pos c]; exact Ans.yes c e
  ·have e := ih (i + 1) m (by omega)
   rw [show ((i + 1 : Nat) : Int) = (i : Int) + 1 by omega] at e
   rw [if_neg c]; exact Ans.not c e
theorem mn4 (a b c d : Int) : mnL a [b, c, d] ≤ a ∧ mnL a [b, c, d] ≤ b ∧ mnL a [b, c, d] ≤ c ∧ mnL a [b, c, d] ≤ d ∧ (mnL a [b, c, d] = a ∨ mnL a [b, c, d] = b ∨ mnL a [b, c, d] = c ∨ mnL a [b, c, d] = d) := by
 simp only [mnL]
 repeat' split
 all_goals omega
theorem mx4 (a b c d : Int) : a ≤ mxL a [b, c, d] ∧ b ≤ mxL a [b, c, d] ∧ c ≤ mxL a [b, c, d] ∧ d ≤ mxL a [b, c, d] ∧ (mxL a [b, c, d] = a ∨ mxL a [b, c, d] = b ∨ mxL a [b, c, d] = c ∨ mxL a [b, c, d] = d) := by
 simp only [mxL]
 repeat' split
 all_goals omega
theorem implWay {n : Nat} {h : Nat → Nat → Int} (H : HF n h) (hn : n ≤ 1000) {i j : Nat} (hi : 1 ≤ i ∧ i < n) (hj : 1 ≤ j ∧ j < n) : Ans (fun k => impl_way.f k (tab (n + 1) (n + 1) h) i j) (2 * wayH h i j) := by
 have q := tab_sq (n + 1) h
 have hl := q.1
 have row : ∀ a : Nat, a ≤ n → (rd_L3 (tab (n + 1) (n + 1) h) (a : Int)).length = n + 1 := fun a ha => by unfold rd_L3; rw [Int.toNat_natCast]; exact q.row (by omega)
 have num : ∀ a b : Nat, a ≤ n → b ≤ n → rd (rd_L3 (tab (n + 1) (n + 1) h) (a : Int)) (b : Int) = h a b := fun a b ha hb' => by rw [at_en, tab_en _ (by omega) (by omega)]
 have r0 := row i (by omega)
 have r1 := row (i - 1) (by omega)
 have r2 := row (i + 1) (by omega)
 have b0 := hf_in H (show i ≤ n by omega) (show j ≤ n by omega)
 have u := H.2.1 (i - 1) j (by omega) (by omega)
 have d := H.2.1 i j (by omega) (by omega)
 have l := H.2.2 i (j - 1) (by omega) (by omega)
 have r := H.2.2 i j (by omega) (by omega)
 rw [show i - 1 + 1 = i by omega] at u
 rw [show j - 1 + 1 = j by omega] at l
 simp only [impl_way.f, wrap_pred (show 1 ≤ i by omega) (by omega), wrap_pred (show 1 ≤ j by omega) (by omega), wrap_succ (show i ≤ 1000000 by omega), wrap_succ (show j ≤ 1000000 by omega), Option.bind_some]
 rw [num i j (by omega) (by omega), num (i - 1) j (by omega) (by omega), num (i + 1) j (by omega) (by omega), num i (j - 1) (by omega) (by omega), num i (j + 1) (by omega) (by omega)]
 have m1 := minAns [h (i - 1) j, h i (j + 1), h (i + 1) j, h i (j - 1)] (by simp) 3 1 (h (i - 1) j) rfl
 have m2 := maxAns [h (i - 1) j, h i (j + 1), h (i + 1) j, h i (j - 1)] (by simp) 3 1 (h (i - 1) j) rfl
 rw [show [h (i - 1) j, h i (j + 1), h (i + 1) j, h i (j - 1)].drop 1 = [h i (j + 1), h (i + 1) j, h i (j - 1)] from rfl] at m1 m2
 have p1 := mn4 (h (i - 1) j) (h i (j + 1)) (h (i + 1) j) (h i (j - 1))
 have p2 := mx4 (h (i - 1) j) (h i (j + 1)) (h (i + 1) j) (h i (j - 1))
 have M1 : Ans (fun k => slices_Min_int_int.f k [h (i - 1) j, h i (j + 1), h (i + 1) j, h i (j - 1)]) (mnL (h (i - 1) j) [h i (j + 1), h (i + 1) j, h i (j - 1)]) := by
  simp only [slices_Min_int_int.f]
  exact Ans.yes (by simp) m1
 have M2 : Ans (fun k => slices_Max_int_int.f k [h (i - 1) j, h i (j + 1), h (i + 1) j, h i (j - 1)]) (mxL (h (i - 1) j) [h i (j + 1), h (i + 1) j, h i (j - 1)]) := by
  simp only [slices_Max_int_int.f]
  exact Ans.yes (by simp) m2
 clear m1 m2
 generalize mnL (h (i - 1) j) [h i (j + 1), h (i + 1) j, h i (j - 1)] = lo at *
 generalize mxL (h (i - 1) j) [h i (j + 1), h (i + 1) j, h i (j - 1)] = up at *
 refine Ans.yes (by omega) (Ans.yes (by omega) (Ans.yes (by omega) (Ans.yes (by omega) (Ans.yes (by omega) (Ans.yes (by omega) (Ans.yes (by omega) (Ans.yes (by omega) (Ans.yes (by omega) (Ans.yes (by omega) (Ans.yes (by omega) (Ans.yes (by omega) (Ans.yes (by omega) (M1.bind (M2.bind ?_))))))))))))))
 by_cases c : lo = up
 ·have w : 2 * wayH h i j = 2 * (lo - h i j) := by
   unfold wayH
   by_cases e : lo = h i j + 1
   ·rw [if_pos (by omega)]; omega
   ·rw [if_neg (by omega), if_pos (by omega)]; omega
  rw [wrap64_in (lo - h i j) ⟨by omega, by omega⟩, wrap64_in (2 * (lo - h i j)) ⟨by omega, by omega⟩, w]
  exact Ans.yes c (Ans.yes (by omega) (Ans.pure _))
 ·have w : wayH h i j = 0 := by
   unfold wayH
   rw [if_neg (by omega), if_neg (by omega)]
  rw [w]
  exact Ans.not c (Ans.pure _)
theorem cells2 (n : Nat) (hn : n ≤ 1000) (g : Nat → Int → Int → Option Bool) (p : Nat → Nat → Bool) (hp : ∀ i j : Nat, 1 ≤ i ∧ i < n → 1 ≤ j ∧ j < n → Ans (fun q => g q i j) (p i j)) : Ans (fun k => impl_cells.f k n (g k)) (cellsF n p) := by
 have inner : ∀ (R : List (List Int)) (i : Nat), 1 ≤ i ∧ i < n → ∀ (d j : Nat) (y : List (List Int)), j + d = n → 1 ≤ j → y.length + d ≤ 2000000 →
   Ans2 (fun k q => impl_cells.l0 k n (g q) (y ++ rowF p i d j) ((i + 1 : Nat) : Int)) R → Ans2 (fun k q => impl_cells.l1 k n (g q) y (i : Int) (j : Int)) R := by
  intro R i hi d
  induction d with
  | zero =>
   intro j y h1 h2 h3 nx
   rw [rowF, List.append_nil, show ((i + 1 : Nat) : Int) = (i : Int) + 1 by omega] at nx
   refine Ans2.step ?_
   simp only [impl_cells.l1, wrap64_up (show (0 : Int) ≤ i by omega) (by omega)]
   exact Ans2.not (by omega) nx
  | succ d ih =>
   intro j y h1 h2 h3 nx
   have wy := hp i j hi (show 1 ≤ j ∧ j < n by omega)
   rw [rowF, ← List.append_assoc] at nx
   refine Ans2.step ?_
   simp only [impl_cells.l1, wrap64_up (show (0 : Int) ≤ j by omega) (by omega)]
   refine Ans2.yes (by omega) ((Ans2.two wy).bind ?_)
   by_cases c : p i j = true
   ·rw [if_pos c] at nx
    have := ih (j + 1) (y ++ [[(i : Int), (j : Int)]]) (by omega) (by omega) (by simp; omega) nx
    rw [show ((j + 1 : Nat) : Int) = (j : Int) + 1 by omega] at this
    exact Ans2.yes c (Ans2.yes (by omega) this)
   ·rw [if_neg c, List.append_nil] at nx
    have := ih (j + 1) y (by omega) (by omega) (by omega) nx
    rw [show ((j + 1 : Nat) : Int) = (j : Int) + 1 by omega] at this
    exact Ans2.not c this
 have key : ∀ (d i : Nat) (y : List (List Int)), i + d = n → 1 ≤ i → y.length ≤ 1000 * i → Ans2 (fun k q => impl_cells.l0 k n (g q) y (i : Int)) (y ++ tabF p n d i) := by
  intro d
  induction d with
  | zero =>
   intro i y h1 h2 h3
   refine Ans2.step ?_
   simp only [impl_cells.l0, tabF, List.append_nil]
   exact Ans2.not (by omega) (Ans2.pure _)
  | succ d ih =>
   intro i y h1 h2 h3
   have rl := rowF_len p i (n - 1) 1
   have e := ih (i + 1) (y ++ rowF p i (n - 1) 1) (by omega) (by omega) (by rw [List.length_append]; omega)
   rw [List.append_assoc] at e
   rw [tabF]
   refine Ans2.step ?_
   simp only [impl_cells.l0]
   exact Ans2.yes (by omega) (inner _ i (by omega) (n - 1) 1 y (by omega) (by omega) (by omega) e)
 simp only [impl_cells.f]
 by_cases c : 1 ≤ n
 ·have := (key (n - 1) 1 [] (by omega) (by omega) (by simp)).join
  rw [List.nil_append] at this
  exact this
 ·have z : cellsF n p = [] := by unfold cellsF; rw [show n - 1 = 0 by omega]; rfl
  rw [z]
  refine Ans.step ?_
  simp only [impl_cells.l0]
  exact Ans.not (by omega) (Ans.pure _)
theorem implFlips {x : List (List Int)} (s : sign x = true) {n : Nat} (hn : x.length = n) (up : Bool) : Ans (fun k => impl_flips.f k x up) (cellsF n (fun i j => decide (wayH (hgt x) i j = if up = true then 1 else -1))) := by
 obtain ⟨a, b, c⟩ := HT_hf s hn
 obtain ⟨_, h1, h6, _⟩ := sign_en s hn
 have ho := implHeights s
 rw [a] at ho
 simp only [impl_flips.f, hn]
 refine ho.bind ((cells2 n (by omega) (fun k x0_ x1_ => impl_flips_1.f k x0_ x1_ (tab (n + 1) (n + 1) (hgt x)) up) _ (fun i j hi hj => ?_)).bind (Ans.pure _))
 have w := implWay b (by omega) hi hj
 have wc := wayH_cases (hgt x) i j
 simp only [impl_flips_1.f]
 refine w.bind ?_
 by_cases z : wayH (hgt x) i j = 0
 ·rw [z, decide_eq_false (by cases up <;> simp)]
  exact Ans.yes (by omega) (Ans.pure _)
 ·refine Ans.not (by omega) (w.bind ?_)
  rw [show decide (wayH (hgt x) i j = if up = true then 1 else -1) = (decide (2 * wayH (hgt x) i j > 0) == up) by
   rcases wc with ⟨e, _⟩ | ⟨e, _⟩ | e
   ·rw [e]; cases up <;> rfl
   ·rw [e]; cases up <;> rfl
   ·exact absurd e z]
  exact Ans.pure _
def flRes (x : List (List Int)) (up : Bool) : List (List Int) × Bool := if sign x = true then (cellsF x.length (fun i j => decide (wayH (hgt x) i j = if up = true then 1 else -1)), true) else ([], false)
theorem flipsOf (x : List (List Int)) (hx : x.length ≤ 1000) (up : Bool) : Ans (fun k => impl_FlipsOf.f k x up) (flRes x up) ∧ Ans (fun k => spec_FlipsOf.f k x up) (flRes x up) := by
 have s1 := isSign x (by omega)
 have s2 := sgGood x (by omega)
 simp only [impl_FlipsOf.f, spec_FlipsOf.f, flRes]
 by_cases s : sign x = true
 ·rw [if_pos s]
  rw [s] at s1 s2
  have ho := specHeights s
  rw [(HT_hf s rfl).1] at ho
  have h6 := (sign_en s rfl).2.2.1
  refine ⟨s1.bind (Ans.yes rfl ((implFlips s rfl up).bind (Ans.pure _))), s2.bind (Ans.yes rfl ?_)⟩
  cases up with
  | true => exact Ans.yes rfl (ho.bind ((heFlips (hgt x) (by omega) (hgt_bound s rfl) 1).bind (Ans.pure _)))
  | false => exact Ans.not (by simp) (ho.bind ((heFlips (hgt x) (by omega) (hgt_bound s rfl) (-1)).bind (Ans.pure _)))
 ·rw [if_neg s]
  rw [Bool.eq_false_iff.mpr s] at s1 s2
  exact ⟨s1.bind (Ans.not (by simp) (Ans.pure _)), s2.bind (Ans.not (by simp) (Ans.pure _))⟩
def cellB (n : Nat) (c : List Int) : Bool := decide (c.length = 2) && (decide (1 ≤ rd c 0 ∧ rd c 0 < n) && decide (1 ≤ rd c 1 ∧ rd c 1 < n))
theorem cellB_of {n : Nat} {c : List Int} (h : cellB n c = true) : c.length = 2 ∧ ∃ i j : Nat, rd c 0 = i ∧ rd c 1 = j ∧ cI c = i ∧ cJ c = j ∧ (1 ≤ i ∧ i < n) ∧ (1 ≤ j ∧ j < n) := by
 unfold cellB at h
 simp only [Bool.and_eq_true, decide_eq_true_eq] at h
 obtain ⟨a, b, c'⟩ := h
 exact ⟨a, (rd c 0).toNat, (rd c 1).toNat, by omega, by omega, rfl, rfl, by omega, by omega⟩
def folO (n : Nat) : (Nat → Nat → Int) → List (List Int) → Option (Nat → Nat → Int)
 | h, [] => some h
 | h, c :: p => if cellB n c = true then (if wayH h (cI c) (cJ c) = 0 then none else folO n (flipH h (cI c) (cJ c)) p) else none
def resO (n : Nat) : Option (Nat → Nat → Int) → List (List Int) × Bool
 | some h => (mat n h, true)
 | none => ([], false)
theorem folO_all {n : Nat} : ∀ (p : List (List Int)) (h : Nat → Nat → Int), (p.all (cellB n)) = false → folO n h p = none
 | [], h, e => by simp at e
 | c :: p, h, e => by
  rw [folO]
  by_cases b : cellB n c = true
  ·rw [if_pos b]
   split
   ·rfl
   ·exact folO_all p _ (by simpa [b] using e)
  ·rw [if_neg b]
theorem specCell (n : Nat) (hn : n ≤ 1000) (a b : Int) : spec_heCell.f (n : Int) a b = some (decide (1 ≤ a ∧ a < n) && decide (1 ≤ b ∧ b < n)) := by
 simp only [spec_heCell.f, l1In, Option.bind_some]
 rw [show wrap64 ((n : Int) - 1) = (n : Int) - 1 from wrap64_in _ ⟨by omega, by omega⟩]
 by_cases c : 1 ≤ a ∧ a < n
 ·rw [if_pos (by rw [decide_eq_true_eq]; omega), decide_eq_true c, Bool.true_and]; congr 1; rw [decide_eq_decide]; omega
 ·rw [if_neg (by rw [decide_eq_true_eq]; omega), decide_eq_false c, Bool.false_and]
theorem implCell (n : Nat) (hn : n ≤ 1000) (a b : Int) : impl_isCell.f (n : Int) a b = some (decide (1 ≤ a ∧ a < n) && decide (1 ≤ b ∧ b < n)) := by
 simp only [impl_isCell.f, within, Option.bind_some]
 rw [show wrap64 ((n : Int) - 1) = (n : Int) - 1 from wrap64_in _ ⟨by omega, by omega⟩]
 by_cases c : 1 ≤ a ∧ a < n
 ·rw [if_pos (by rw [decide_eq_true_eq]; omega), decide_eq_true c, Bool.true_and]; congr 1; rw [decide_eq_decide]; omega
 ·rw [if_neg (by rw [decide_eq_true_eq]; omega), decide_eq_false c, Bool.false_and]
theorem areCells (n : Nat) (hn : n ≤ 1000) (p : List (List Int)) (hp : p.length ≤ 1000000) : Ans (fun k => impl_areCells.f k n p) (decide (p.length ≤ 200) && p.all (cellB n)) := by
 have one : ∀ a : List Int, impl_areCells_1.f a (n : Int) = some (!cellB n a) := fun a => by
  simp only [impl_areCells_1.f, implCell n hn, Option.bind_some, cellB]
  by_cases c : a.length = 2
  ·rw [if_pos (by omega), if_pos (by omega), if_pos (by omega), decide_eq_true c, Bool.true_and]
  ·rw [if_neg (by omega), decide_eq_false c, Bool.false_and]; rfl
 have e := containsL p (by omega) (fun x0_ => impl_areCells_1.f x0_ (n : Int)) (fun a => !cellB n a) one
 simp only [impl_areCells.f]
 by_cases c : p.length ≤ 200
 ·rw [decide_eq_true c, Bool.true_and]
  refine Ans.yes (by omega) (e.bind ?_)
  rw [show p.all (cellB n) = !(p.any fun a => !cellB n a) by rw [List.not_any_eq_all_not]; simp]
  exact Ans.pure _
 ·rw [decide_eq_false c, Bool.false_and]; exact Ans.not (by omega) (Ans.pure _)
theorem flip_put {n : Nat} {h : Nat → Nat → Int} {i j : Nat} (hi : i < n + 1) (hj : j < n + 1) {v : Int} (e : v = h i j + 2 * wayH h i j) : (tab (n + 1) (n + 1) h).set i ((rd_L3 (tab (n + 1) (n + 1) h) (i : Int)).set j v) = tab (n + 1) (n + 1) (flipH h i j) := by
 rw [show rd_L3 (tab (n + 1) (n + 1) h) (i : Int) = (tab (n + 1) (n + 1) h).getD i [] by unfold rd_L3; rw [Int.toNat_natCast], e]
 exact tab_put h hi hj _
theorem way_b (h : Nat → Nat → Int) (i j : Nat) : -1 ≤ wayH h i j ∧ wayH h i j ≤ 1 := by
 rcases wayH_cases h i j with ⟨w, _⟩ | ⟨w, _⟩ | w <;> omega
theorem implFollow {n : Nat} (hn : n ≤ 100) {p : List (List Int)} (hp : p.length ≤ 1000000) (ok : p.all (cellB n) = true) : ∀ (d i : Nat) (h : Nat → Nat → Int), i + d = p.length → HF n h → Ans (fun k => impl_FollowFlips.l0 k (tab (n + 1) (n + 1) h) p (p.length : Int) (i : Int)) (resO n (folO n h (p.drop i))) := by
 intro d
 induction d with
 | zero =>
  intro i h e H
  rw [drop_all _ (by omega), folO, resO]
  have F := implFromH (tab_sq (n + 1) h) (by omega)
  rw [hmat_of H (by omega)] at F
  refine Ans.step ?_
  simp only [impl_FollowFlips.l0]
  exact Ans.not (by omega) (F.bind (Ans.pure _))
 | succ d ih =>
  intro i h e H
  have cb := List.all_eq_true.mp ok _ (getD_mem (x := p) [] (show i < p.length by omega))
  obtain ⟨cl, a, b, ea, eb, ia, jb, ha, hb⟩ := cellB_of cb
  have w := implWay H (by omega) ha hb
  have wb := way_b h a b
  have q := tab_sq (n + 1) h
  have ql := q.1
  have rl : (rd_L3 (tab (n + 1) (n + 1) h) (a : Int)).length = n + 1 := by unfold rd_L3; rw [Int.toNat_natCast]; exact q.row (by omega)
  have er : rd_L3 p (i : Int) = p.getD i [] := by unfold rd_L3; rw [Int.toNat_natCast]
  have hb0 := hf_in H (show a ≤ n by omega) (show b ≤ n by omega)
  rw [drop_at p [] (by omega), folO, if_pos cb, ia, jb]
  refine Ans.step ?_
  simp only [impl_FollowFlips.l0, er, ea, eb, Int.toNat_natCast, wrap64_up (show (0 : Int) ≤ i by omega) (by omega)]
  refine Ans.yes (by omega) (Ans.yes (by omega) (Ans.yes (by omega) (Ans.yes (by omega) (Ans.yes (by omega) (w.bind ?_)))))
  by_cases z : wayH h a b = 0
  ·rw [if_pos z]; exact Ans.yes (by omega) (Ans.pure _)
  ·rw [if_neg z]
   have e1 := ih (i + 1) (flipH h a b) (by omega) (hf_flip H ha hb)
   rw [show ((i + 1 : Nat) : Int) = (i : Int) + 1 by omega] at e1
   rw [flip_put (n := n) (h := h) (i := a) (j := b) (by omega) (by omega) (by rw [at_en, tab_en _ (by omega) (by omega)]; exact wrap64_in _ ⟨by omega, by omega⟩)]
   exact Ans.not (by omega) (Ans.yes (by omega) (Ans.yes (by omega) (Ans.yes (by omega) (Ans.yes (by omega) e1))))
theorem specFollow {n : Nat} (hn : n ≤ 100) {x : List (List Int)} (hx : x.length = n) {p : List (List Int)} (hp : p.length ≤ 1000000) : ∀ (d i : Nat) (h : Nat → Nat → Int), i + d = p.length → HF n h → Ans (fun k => spec_FollowFlips.l0 k x (tab (n + 1) (n + 1) h) p (p.length : Int) (i : Int)) (resO n (folO n h (p.drop i))) := by
 intro d
 induction d with
 | zero =>
  intro i h e H
  rw [drop_all _ (by omega), folO, resO]
  have F := specFromH (tab_sq (n + 1) h) (by omega)
  rw [smat_of H (by omega)] at F
  refine Ans.step ?_
  simp only [spec_FollowFlips.l0]
  exact Ans.not (by omega) (F.bind (Ans.pure _))
 | succ d ih =>
  intro i h e H
  have er : rd_L3 p (i : Int) = p.getD i [] := by unfold rd_L3; rw [Int.toNat_natCast]
  have nw := wrap64_up (show (0 : Int) ≤ i by omega) (by omega)
  have no : ∀ (c : List Int), Ans (fun k => spec_FollowFlips.j2 k x (tab (n + 1) (n + 1) h) c p (p.length : Int) (i : Int) true) ([], false) := fun c => Ans.step (by simp only [spec_FollowFlips.j2]; exact Ans.yes trivial (Ans.pure _))
  rw [drop_at p [] (by omega), folO]
  refine Ans.step ?_
  simp only [spec_FollowFlips.l0, er, hx, specCell n (by omega), Option.bind_some]
  refine Ans.yes (by omega) (Ans.yes (by omega) (Ans.yes (by omega) ?_))
  by_cases cl : (p.getD i []).length = 2
  case neg =>
   rw [if_neg (by unfold cellB; rw [decide_eq_false cl]; simp)]
   exact Ans.not (by omega) (no _)
  refine Ans.yes (by omega) (Ans.yes (by omega) (Ans.yes (by omega) ?_))
  by_cases cb : cellB n (p.getD i []) = true
  case neg =>
   rw [if_neg cb]
   rw [show (decide (1 ≤ rd (p.getD i []) 0 ∧ rd (p.getD i []) 0 < (n : Int)) && decide (1 ≤ rd (p.getD i []) 1 ∧ rd (p.getD i []) 1 < (n : Int))) = false by
    have := Bool.eq_false_iff.mpr cb
    unfold cellB at this
    rwa [decide_eq_true cl, Bool.true_and] at this]
   exact no _
  rw [show (decide (1 ≤ rd (p.getD i []) 0 ∧ rd (p.getD i []) 0 < (n : Int)) && decide (1 ≤ rd (p.getD i []) 1 ∧ rd (p.getD i []) 1 < (n : Int))) = true by
   have := cb
   unfold cellB at this
   rwa [decide_eq_true cl, Bool.true_and] at this]
  obtain ⟨_, a, b, ea, eb, ia, jb, ha, hb⟩ := cellB_of cb
  have w := heWay h (by omega) (fun i j hi hj => by have := hf_in H hi hj; omega) ha hb
  have wb := way_b h a b
  have q := tab_sq (n + 1) h
  have ql := q.1
  have rl : (rd_L3 (tab (n + 1) (n + 1) h) (a : Int)).length = n + 1 := by unfold rd_L3; rw [Int.toNat_natCast]; exact q.row (by omega)
  have hb0 := hf_in H (show a ≤ n by omega) (show b ≤ n by omega)
  rw [if_pos cb, ia, jb]
  refine Ans.step ?_
  simp only [spec_FollowFlips.j2, ea, eb, Int.toNat_natCast, nw]
  clear nw
  refine Ans.not (by simp) (Ans.yes (by omega) (Ans.yes (by omega) (w.bind ?_)))
  by_cases z : wayH h a b = 0
  ·rw [if_pos z]; exact Ans.yes z (Ans.pure _)
  ·rw [if_neg z]
   have e1 := ih (i + 1) (flipH h a b) (by omega) (hf_flip H ha hb)
   rw [show ((i + 1 : Nat) : Int) = (i : Int) + 1 by omega] at e1
   rw [flip_put (n := n) (h := h) (i := a) (j := b) (by omega) (by omega) (by
    rw [at_en, tab_en _ (by omega) (by omega), wrap64_in (2 * wayH h a b) ⟨by omega, by omega⟩]; exact wrap64_in _ ⟨by omega, by omega⟩)]
   exact Ans.not z (Ans.yes (by omega) (Ans.yes (by omega) (Ans.yes (by omega) (Ans.yes (by omega) e1))))
def foRes (x : List (List Int)) (p : List (List Int)) : List (List Int) × Bool := if sign x = true then (if p.length ≤ 200 then resO x.length (folO x.length (hgt x) p) else ([], false)) else ([], false)
theorem follow (x : List (List Int)) (hx : x.length ≤ 1000) (p : List (List Int)) (hp : p.length ≤ 1000000) : Ans (fun k => impl_FollowFlips.f k x p) (foRes x p) ∧ Ans (fun k => spec_FollowFlips.f k x p) (foRes x p) := by
 have s1 := isSign x (by omega)
 have s2 := sgGood x (by omega)
 have n1 : Ans (fun k => impl_FollowFlips.j0 k x p true) ([], false) := Ans.step (by simp only [impl_FollowFlips.j0]; exact Ans.yes trivial (Ans.pure _))
 have n2 : Ans (fun k => spec_FollowFlips.j0 k x p true) ([], false) := Ans.step (by simp only [spec_FollowFlips.j0]; exact Ans.yes trivial (Ans.pure _))
 simp only [impl_FollowFlips.f, spec_FollowFlips.f, foRes]
 by_cases s : sign x = true
 case neg =>
  rw [if_neg s]
  rw [Bool.eq_false_iff.mpr s] at s1 s2
  exact ⟨s1.bind (Ans.not (by simp) n1), s2.bind (Ans.not (by simp) n2)⟩
 rw [if_pos s]
 rw [s] at s1 s2
 obtain ⟨n, hn⟩ : ∃ n, x.length = n := ⟨_, rfl⟩
 obtain ⟨e, H, _⟩ := HT_hf s hn
 have h6 := (sign_en s hn).2.2.1
 have ac := areCells n (by omega) p hp
 have h1 := implHeights s
 have h2 := specHeights s
 rw [e] at h1 h2
 rw [hn]
 by_cases c : p.length ≤ 200
 case neg =>
  rw [if_neg c]
  rw [decide_eq_false c, Bool.false_and] at ac
  refine ⟨s1.bind (Ans.yes rfl (ac.bind n1)), s2.bind (Ans.yes rfl ?_)⟩
  rw [decide_eq_true (show (p.length : Int) > 200 by omega)]
  exact n2
 rw [if_pos c]
 rw [decide_eq_true c, Bool.true_and] at ac
 constructor
 ·refine s1.bind (Ans.yes rfl (ac.bind ?_))
  cases ok : p.all (cellB n) with
  | false => rw [folO_all p _ ok]; exact n1
  | true =>
   refine Ans.step ?_
   simp only [impl_FollowFlips.j0]
   have := implFollow (n := n) (by omega) hp ok p.length 0 (hgt x) (by omega) H
   rw [List.drop_zero] at this
   exact Ans.not (by simp) (h1.bind this)
 ·refine s2.bind (Ans.yes rfl ?_)
  rw [decide_eq_false (show ¬ (p.length : Int) > 200 by omega)]
  refine Ans.step ?_
  simp only [spec_FollowFlips.j0]
  have := specFollow (n := n) (by omega) hn hp p.length 0 (hgt x) (by omega) H
  rw [List.drop_zero] at this
  exact Ans.not (by simp) (h2.bind this)
def faRes (x : List (List Int)) (i j : Int) : List (List Int) × Bool := foRes x [[i, j]]
theorem implFlipAt (x : List (List Int)) (hx : x.length ≤ 1000) (i j : Int) : Ans (fun k => impl_FlipAt.f k x i j) (faRes x i j) := by
 simp only [impl_FlipAt.f]
 exact (follow x hx [[i, j]] (by simp)).1.bind (Ans.pure _)
theorem cellB_two (n : Nat) (i j : Int) : cellB n [i, j] = (decide (1 ≤ i ∧ i < n) && decide (1 ≤ j ∧ j < n)) := by
 unfold cellB
 rw [show rd [i, j] 0 = i from rfl, show rd [i, j] 1 = j from rfl]; rfl
theorem specFlipAt (x : List (List Int)) (hx : x.length ≤ 1000) (i j : Int) : Ans (fun k => spec_FlipAt.f k x i j) (faRes x i j) := by
 have s2 := sgGood x (by omega)
 have n2 : Ans (fun k => spec_FlipAt.j0 k x i j true) ([], false) := Ans.step (by simp only [spec_FlipAt.j0]; exact Ans.yes trivial (Ans.pure _))
 by_cases s : sign x = true
 case neg =>
  rw [show faRes x i j = ([], false) from if_neg s]
  simp only [spec_FlipAt.f]
  rw [Bool.eq_false_iff.mpr s] at s2
  exact s2.bind (Ans.not (by simp) n2)
 obtain ⟨n, hn⟩ : ∃ n, x.length = n := ⟨_, rfl⟩
 have h6 := (sign_en s hn).2.2.1
 have v : faRes x i j = resO n (folO n (hgt x) [[i, j]]) := by unfold faRes foRes; rw [if_pos s, if_pos (by simp), hn]
 rw [v]
 by_cases c : cellB n [i, j] = true
 ·rw [cellB_two] at c
  simp only [Bool.and_eq_true, decide_eq_true_eq] at c
  obtain ⟨a, rfl⟩ : ∃ a : Nat, i = a := ⟨i.toNat, by omega⟩
  obtain ⟨b, rfl⟩ : ∃ b : Nat, j = b := ⟨j.toNat, by omega⟩
  have f := specFlip s hn (i := a) (j := b) (by omega) (by omega)
  rw [folO, if_pos (by rw [cellB_two]; simp; omega), cI_of, cJ_of]
  by_cases z : wayH (hgt x) a b = 0
  ·rw [if_pos z] at f ⊢; exact f
  ·rw [if_neg z] at f ⊢; exact f
 ·rw [folO, if_neg c, resO]
  rw [cellB_two] at c
  simp only [spec_FlipAt.f, hn, specCell n (by omega), Option.bind_some]
  rw [s] at s2
  refine s2.bind (Ans.yes rfl ?_)
  rw [Bool.eq_false_iff.mpr c]
  exact n2
theorem okPath_fol {n : Nat} : ∀ (p : List (List Int)) (h : Nat → Nat → Int), okPath n h p → folO n h p = some (foll h p)
 | [], h, _ => rfl
 | c :: p, h, ⟨⟨i, j, e, hi, hj, w⟩, r⟩ => by
  have ih := okPath_fol p _ r
  rw [folO, if_pos (by rw [e, cellB_two]; simp; omega), if_neg (by rw [e, cI_of, cJ_of]; exact w), ih]
  rfl
theorem mx_eq (a b : Int) : mx a b = max a b := by unfold mx; split <;> omega
theorem rowSum_in {n : Nat} {f g : Nat → Nat → Int} (hn : n ≤ 6) {i c : Nat} (hi : i ≤ n) (hc : c ≤ n + 1) (F : ∀ i j, i ≤ n → j ≤ n → 0 ≤ f i j ∧ f i j ≤ n) (G : ∀ i j, i ≤ n → j ≤ n → 0 ≤ g i j ∧ g i j ≤ n) : 0 ≤ S c (fun j => max (f i j - g i j) (g i j - f i j)) ∧ S c (fun j => max (f i j - g i j) (g i j - f i j)) ≤ 100 := by
 have := S_range (n := c) (f := fun j => max (f i j - g i j) (g i j - f i j)) (a := 0) (b := 6) (fun j hj => by
  have a := F i j hi (by omega); have b := G i j hi (by omega); omega)
 omega
theorem tabSum_in {n : Nat} {f g : Nat → Nat → Int} (hn : n ≤ 6) {r : Nat} (hr : r ≤ n + 1) (F : ∀ i j, i ≤ n → j ≤ n → 0 ≤ f i j ∧ f i j ≤ n) (G : ∀ i j, i ≤ n → j ≤ n → 0 ≤ g i j ∧ g i j ≤ n) : 0 ≤ S r (fun i => S (n + 1) (fun j => max (f i j - g i j) (g i j - f i j))) ∧ S r (fun i => S (n + 1) (fun j => max (f i j - g i j) (g i j - f i j))) ≤ 1000 := by
 have := S_range (n := r) (f := fun i => S (n + 1) (fun j => max (f i j - g i j) (g i j - f i j))) (a := 0) (b := 100) (fun i hi => rowSum_in hn (by omega) (Nat.le_refl _) F G)
 omega
theorem half (d : Int) (h : d % 2 = 0) (h0 : 0 ≤ d ∧ d ≤ 1000) : wrap64 (Int.tdiv d 2) = d / 2 := by
 obtain ⟨t, ht⟩ : ∃ t, d = 2 * t := ⟨d / 2, by omega⟩
 rw [ht, show Int.tdiv (2 * t) 2 = t by rw [Int.mul_comm]; exact Int.mul_tdiv_cancel t (by omega), wrap64_in t ⟨by omega, by omega⟩]; omega
theorem distances {n : Nat} {f g : Nat → Nat → Int} (hn : n ≤ 6) (HFf : HF n f) (HFg : HF n g) (F : ∀ i j, i ≤ n → j ≤ n → 0 ≤ f i j ∧ f i j ≤ n) (G : ∀ i j, i ≤ n → j ≤ n → 0 ≤ g i j ∧ g i j ≤ n) :
  Ans (fun k => impl_distance.l0 k (tab (n + 1) (n + 1) g) 0 (tab (n + 1) (n + 1) f) ((n + 1 : Nat) : Int) 0) (dst n f g / 2) ∧ Ans (fun k => spec_heApart.l0 k (tab (n + 1) (n + 1) g) 0 (tab (n + 1) (n + 1) f) ((n + 1 : Nat) : Int) 0) (dst n f g / 2) := by
 have qf := tab_sq (n + 1) f
 have qg := tab_sq (n + 1) g
 have lf := qf.1
 have lg := qg.1
 have rowf : ∀ a : Nat, a ≤ n → (rd_L3 (tab (n + 1) (n + 1) f) (a : Int)).length = n + 1 := fun a ha => by unfold rd_L3; rw [Int.toNat_natCast]; exact qf.row (by omega)
 have rowg : ∀ a : Nat, a ≤ n → (rd_L3 (tab (n + 1) (n + 1) g) (a : Int)).length = n + 1 := fun a ha => by unfold rd_L3; rw [Int.toNat_natCast]; exact qg.row (by omega)
 have numf : ∀ a b : Nat, a ≤ n → b ≤ n → rd (rd_L3 (tab (n + 1) (n + 1) f) (a : Int)) (b : Int) = f a b := fun a b ha hb' => by rw [at_en, tab_en _ (by omega) (by omega)]
 have numg : ∀ a b : Nat, a ≤ n → b ≤ n → rd (rd_L3 (tab (n + 1) (n + 1) g) (a : Int)) (b : Int) = g a b := fun a b ha hb' => by rw [at_en, tab_en _ (by omega) (by omega)]
 have all := tabSum_in hn (Nat.le_refl (n + 1)) F G
 have ev := dst_even HFf HFg
 constructor
 ·have inner : ∀ (R T : Int) (i : Nat), i ≤ n → 0 ≤ T → T ≤ 1000 → Ans (fun k => impl_distance.l0 k (tab (n + 1) (n + 1) g) (T + S (n + 1) (fun j => max (f i j - g i j) (g i j - f i j))) (tab (n + 1) (n + 1) f) ((n + 1 : Nat) : Int) ((i : Int) + 1)) R → ∀ (d j : Nat), j + d = n + 1 →
    Ans (fun k => impl_distance.l1 k (tab (n + 1) (n + 1) g) (T + S j (fun j => max (f i j - g i j) (g i j - f i j))) (i : Int) (tab (n + 1) (n + 1) f) ((n + 1 : Nat) : Int) (i : Int) (rd_L3 (tab (n + 1) (n + 1) f) (i : Int)) ((n + 1 : Nat) : Int) (j : Int)) R := by
   intro R T i hi t0 t1 nx d
   induction d with
   | zero =>
    intro j h
    obtain rfl : j = n + 1 := by omega
    refine Ans.step ?_
    simp only [impl_distance.l1, wrap64_up (show (0 : Int) ≤ i by omega) (by omega)]
    exact Ans.not (by omega) nx
   | succ d ih =>
    intro j h
    have e := ih (j + 1) (by omega)
    rw [show ((j + 1 : Nat) : Int) = (j : Int) + 1 by omega] at e
    have rf := rowf i hi
    have rg := rowg i hi
    have a := F i j hi (by omega)
    have b := G i j hi (by omega)
    have s1 := rowSum_in hn hi (show j + 1 ≤ n + 1 by omega) F G
    have es : S (j + 1) (fun j => max (f i j - g i j) (g i j - f i j)) = S j (fun j => max (f i j - g i j) (g i j - f i j)) + max (f i j - g i j) (g i j - f i j) := rfl
    refine Ans.step ?_
    simp only [impl_distance.l1, wrap64_up (show (0 : Int) ≤ j by omega) (by omega)]
    rw [numf i j hi (by omega), numg i j hi (by omega), wrap64_in (f i j - g i j) ⟨by omega, by omega⟩, wrap64_in (g i j - f i j) ⟨by omega, by omega⟩, mx_eq, wrap64_in (T + S j (fun j => max (f i j - g i j) (g i j - f i j)) + max (f i j - g i j) (g i j - f i j)) ⟨by omega, by omega⟩, Int.add_assoc, ← es]
    exact Ans.yes (by omega) (Ans.yes (by omega) (Ans.yes (by omega) (Ans.yes (by omega) (Ans.yes (by omega) (Ans.yes (by omega) e)))))
  have key : ∀ (d i : Nat), i + d = n + 1 → Ans (fun k => impl_distance.l0 k (tab (n + 1) (n + 1) g) (S i (fun i => S (n + 1) (fun j => max (f i j - g i j) (g i j - f i j)))) (tab (n + 1) (n + 1) f) ((n + 1 : Nat) : Int) (i : Int)) (dst n f g / 2) := by
   intro d
   induction d with
   | zero =>
    intro i h
    obtain rfl : i = n + 1 := by omega
    refine Ans.step ?_
    simp only [impl_distance.l0]
    rw [half (S (n + 1) (fun i => S (n + 1) (fun j => max (f i j - g i j) (g i j - f i j)))) ev all]
    exact Ans.not (by omega) (Ans.pure _)
   | succ d ih =>
    intro i h
    have e := ih (i + 1) (by omega)
    rw [show ((i + 1 : Nat) : Int) = (i : Int) + 1 by omega] at e
    have t := tabSum_in hn (show i ≤ n + 1 by omega) F G
    have := inner _ _ i (by omega) t.1 t.2 e (n + 1) 0 (by omega)
    rw [show S 0 (fun j => max (f i j - g i j) (g i j - f i j)) = 0 from rfl, Int.add_zero] at this
    refine Ans.step ?_
    simp only [impl_distance.l0, rowf i (by omega)]
    exact Ans.yes (by omega) (Ans.yes (by omega) (Ans.yes (by omega) this))
  exact key (n + 1) 0 (by omega)
 ·have inner : ∀ (R T : Int) (i : Nat), i ≤ n → 0 ≤ T → T ≤ 1000 → Ans (fun k => spec_heApart.l0 k (tab (n + 1) (n + 1) g) (T + S (n + 1) (fun j => max (f i j - g i j) (g i j - f i j))) (tab (n + 1) (n + 1) f) ((n + 1 : Nat) : Int) ((i : Int) + 1)) R → ∀ (d j : Nat), j + d = n + 1 →
    Ans (fun k => spec_heApart.l1 k (tab (n + 1) (n + 1) g) (T + S j (fun j => max (f i j - g i j) (g i j - f i j))) (i : Int) (tab (n + 1) (n + 1) f) ((n + 1 : Nat) : Int) (i : Int) (rd_L3 (tab (n + 1) (n + 1) f) (i : Int)) ((n + 1 : Nat) : Int) (j : Int)) R := by
   intro R T i hi t0 t1 nx d
   induction d with
   | zero =>
    intro j h
    obtain rfl : j = n + 1 := by omega
    refine Ans.step ?_
    simp only [spec_heApart.l1, wrap64_up (show (0 : Int) ≤ i by omega) (by omega)]
    exact Ans.not (by omega) nx
   | succ d ih =>
    intro j h
    have e := ih (j + 1) (by omega)
    rw [show ((j + 1 : Nat) : Int) = (j : Int) + 1 by omega] at e
    have rf := rowf i hi
    have rg := rowg i hi
    have a := F i j hi (by omega)
    have b := G i j hi (by omega)
    have s1 := rowSum_in hn hi (show j + 1 ≤ n + 1 by omega) F G
    have es : S (j + 1) (fun j => max (f i j - g i j) (g i j - f i j)) = S j (fun j => max (f i j - g i j) (g i j - f i j)) + max (f i j - g i j) (g i j - f i j) := rfl
    have ab : spec_l1Abs.f (f i j - g i j) = some (max (f i j - g i j) (g i j - f i j)) := by
     simp only [spec_l1Abs.f, spec_l1Most.f]
     rw [wrap64_in (-(f i j - g i j)) ⟨by omega, by omega⟩]
     by_cases c : f i j - g i j > -(f i j - g i j)
     ·rw [if_pos c, Option.bind_some]; congr 1; omega
     ·rw [if_neg c, Option.bind_some]; congr 1; omega
    refine Ans.step ?_
    simp only [spec_heApart.l1, wrap64_up (show (0 : Int) ≤ j by omega) (by omega)]
    rw [numf i j hi (by omega), numg i j hi (by omega), wrap64_in (f i j - g i j) ⟨by omega, by omega⟩, ab]
    simp only [Option.bind_some]
    rw [wrap64_in (T + S j (fun j => max (f i j - g i j) (g i j - f i j)) + max (f i j - g i j) (g i j - f i j)) ⟨by omega, by omega⟩, Int.add_assoc, ← es]
    exact Ans.yes (by omega) (Ans.yes (by omega) (Ans.yes (by omega) (Ans.yes (by omega) (Ans.yes (by omega) (Ans.yes (by omega) e)))))
  have key : ∀ (d i : Nat), i + d = n + 1 → Ans (fun k => spec_heApart.l0 k (tab (n + 1) (n + 1) g) (S i (fun i => S (n + 1) (fun j => max (f i j - g i j) (g i j - f i j)))) (tab (n + 1) (n + 1) f) ((n + 1 : Nat) : Int) (i : Int)) (dst n f g / 2) := by
   intro d
   induction d with
   | zero =>
    intro i h
    obtain rfl : i = n + 1 := by omega
    refine Ans.step ?_
    simp only [spec_heApart.l0]
    rw [half (S (n + 1) (fun i => S (n + 1) (fun j => max (f i j - g i j) (g i j - f i j)))) ev all]
    exact Ans.not (by omega) (Ans.pure _)
   | succ d ih =>
    intro i h
    have e := ih (i + 1) (by omega)
    rw [show ((i + 1 : Nat) : Int) = (i : Int) + 1 by omega] at e
    have t := tabSum_in hn (show i ≤ n + 1 by omega) F G
    have := inner _ _ i (by omega) t.1 t.2 e (n + 1) 0 (by omega)
    rw [show S 0 (fun j => max (f i j - g i j) (g i j - f i j)) = 0 from rfl, Int.add_zero] at this
    refine Ans.step ?_
    simp only [spec_heApart.l0, rowf i (by omega)]
    exact Ans.yes (by omega) (Ans.yes (by omega) (Ans.yes (by omega) this))
  exact key (n + 1) 0 (by omega)
theorem implDist {x y : List (List Int)} (s : sign x = true) (t : sign y = true) {n : Nat} (hn : x.length = n) (hm : y.length = n) : Ans (fun k => impl_distance.f k x y) (dst n (hgt x) (hgt y) / 2) := by
 obtain ⟨ex, Hx, _⟩ := HT_hf s hn
 obtain ⟨ey, Hy, _⟩ := HT_hf t hm
 have h1 := implHeights s
 have h2 := implHeights t
 rw [ex] at h1
 rw [ey] at h2
 have D := (distances (sign_en s hn).2.2.1 Hx Hy (fun i j hi hj => hgt_in s hn hi hj) (fun i j hi hj => hgt_in t hm hi hj)).1
 simp only [impl_distance.f]
 refine h1.bind (h2.bind ?_)
 rw [(tab_sq (n + 1) (hgt x)).1]
 exact D
theorem specDist {x y : List (List Int)} (s : sign x = true) (t : sign y = true) {n : Nat} (hn : x.length = n) (hm : y.length = n) : Ans (fun k => spec_heApart.f k (HT x) (HT y)) (dst n (hgt x) (hgt y) / 2) := by
 obtain ⟨ex, Hx, _⟩ := HT_hf s hn
 obtain ⟨ey, Hy, _⟩ := HT_hf t hm
 have D := (distances (sign_en s hn).2.2.1 Hx Hy (fun i j hi hj => hgt_in s hn hi hj) (fun i j hi hj => hgt_in t hm hi hj)).2
 simp only [spec_heApart.f]
 rw [ex, ey, (tab_sq (n + 1) (hgt x)).1]
 exact D
def fdRes (x y : List (List Int)) : Int × Bool := if two x y = true then (dst x.length (hgt x) (hgt y) / 2, true) else (0, false)
theorem flipDistance (x y : List (List Int)) (hx : x.length ≤ 1000) (hy : y.length ≤ 1000) : Ans (fun k => impl_FlipDistance.f k x y) (fdRes x y) ∧ Ans (fun k => spec_FlipDistance.f k x y) (fdRes x y) := by
 have a := arePair (x := x) (y := y) (by omega) (by omega)
 have b := hePair (x := x) (y := y) (by omega) (by omega)
 simp only [impl_FlipDistance.f, spec_FlipDistance.f, fdRes]
 by_cases c : two x y = true
 ·obtain ⟨s, t, h⟩ := two_iff.mp c
  rw [if_pos c]
  exact ⟨a.bind (Ans.yes c ((implDist s t rfl h.symm).bind (Ans.pure _))), b.bind (Ans.yes c ((specHeights s).bind ((specHeights t).bind ((specDist s t rfl h.symm).bind (Ans.pure _)))))⟩
 ·rw [if_neg c]
  exact ⟨a.bind (Ans.not c (Ans.pure _)), b.bind (Ans.not c (Ans.pure _))⟩
def rank (x : List (List Int)) : Int := dst x.length (hgt x) (hgt (lea x.length)) / 2
theorem rankOf {x : List (List Int)} (s : sign x = true) : Ans (fun k => impl_RankOf.f k x) (rank x, true) := by
 obtain ⟨_, h1, h6, _⟩ := sign_en s rfl
 have si := isSign x (by omega)
 rw [s] at si
 simp only [impl_RankOf.f]
 exact si.bind (Ans.yes rfl ((implLea x.length h6).bind ((implDist s (lea_sign _ h1 h6) rfl (tab_sq _ _).1).bind (Ans.pure _))))
def fnd (Q : List Int → Bool) : List (List Int) → List Int
 | [] => []
 | c :: l => if Q c = true then c else fnd Q l
theorem fnd_row {Q : List Int → Bool} {p q : Nat → Nat → Bool} (hQ : ∀ i j : Nat, Q [(i : Int), (j : Int)] = q i j) (i : Nat) (X Y : List (List Int)) (hX : fnd Q X = Y.headD []) : ∀ d j, fnd Q (rowF p i d j ++ X) = (rowF (fun a b => p a b && q a b) i d j ++ Y).headD []
 | 0, j => by simpa [rowF] using hX
 | d + 1, j => by
  have ih := fnd_row (p := p) hQ i X Y hX d (j + 1)
  rw [rowF, rowF]
  by_cases a : p i j = true
  ·by_cases b : q i j = true
   ·rw [if_pos a, if_pos (by rw [a, b]; rfl)]
    simp [fnd, hQ, b]
   ·rw [if_pos a, if_neg (by rw [a]; simpa using b)]
    simp only [List.singleton_append, List.cons_append, List.nil_append, fnd, hQ]
    rw [if_neg b]; exact ih
  ·rw [if_neg a, if_neg (by simp [a])]
   simpa using ih
theorem fnd_tab {Q : List Int → Bool} {p q : Nat → Nat → Bool} (hQ : ∀ i j : Nat, Q [(i : Int), (j : Int)] = q i j) (n : Nat) : ∀ d i, fnd Q (tabF p n d i) = (tabF (fun a b => p a b && q a b) n d i).headD []
 | 0, i => rfl
 | d + 1, i => by
  rw [tabF, tabF]
  exact fnd_row hQ i _ _ (fnd_tab hQ n d (i + 1)) (n - 1) 1
theorem heFirst {n : Nat} {h g : Nat → Nat → Int} (hn : n ≤ 100) (H : HF n h) (G : HF n g) (w : Int) (hw : w = 1 ∨ w = -1) : Ans (fun k => spec_heFirst.f k (tab (n + 1) (n + 1) h) (tab (n + 1) (n + 1) g) w) ((cellsF n (fun i j => decide (wayH h i j = w) && decide (0 < w * (g i j - h i j)))).headD []) := by
 have qh := tab_sq (n + 1) h
 have qg := tab_sq (n + 1) g
 have lh := qh.1
 have lg := qg.1
 have rowh : ∀ a : Nat, a ≤ n → (rd_L3 (tab (n + 1) (n + 1) h) (a : Int)).length = n + 1 := fun a ha => by unfold rd_L3; rw [Int.toNat_natCast]; exact qh.row (by omega)
 have rowg : ∀ a : Nat, a ≤ n → (rd_L3 (tab (n + 1) (n + 1) g) (a : Int)).length = n + 1 := fun a ha => by unfold rd_L3; rw [Int.toNat_natCast]; exact qg.row (by omega)
 have numh : ∀ a b : Nat, a ≤ n → b ≤ n → rd (rd_L3 (tab (n + 1) (n + 1) h) (a : Int)) (b : Int) = h a b := fun a b ha hb' => by rw [at_en, tab_en _ (by omega) (by omega)]
 have numg : ∀ a b : Nat, a ≤ n → b ≤ n → rd (rd_L3 (tab (n + 1) (n + 1) g) (a : Int)) (b : Int) = g a b := fun a b ha hb' => by rw [at_en, tab_en _ (by omega) (by omega)]
 have fl := heFlips h hn (fun i j hi hj => by have := hf_in H hi hj; omega) w
 rw [show (cellsF n (fun i j => decide (wayH h i j = w) && decide (0 < w * (g i j - h i j)))).headD [] = fnd (fun c => decide (0 < w * (g (cI c) (cJ c) - h (cI c) (cJ c)))) (cellsF n (fun i j => decide (wayH h i j = w))) from
  (fnd_tab (fun i j => by rw [cI_of, cJ_of]) n (n - 1) 1).symm]
 simp only [spec_heFirst.f]
 refine fl.bind ?_
 have mem : ∀ c ∈ cellsF n (fun i j => decide (wayH h i j = w)), ∃ a b : Nat, 1 ≤ a ∧ a < n ∧ 1 ≤ b ∧ b < n ∧ c = [(a : Int), (b : Int)] := fun c hc => by
  obtain ⟨a, b, h1, h2, h3, h4, _, e⟩ := cellsF_mem.mp hc
  exact ⟨a, b, h1, h2, h3, h4, e⟩
 have small : (cellsF n (fun i j => decide (wayH h i j = w))).length ≤ 1000000 := by
  have key : ∀ d i, (tabF (fun i j => decide (wayH h i j = w)) n d i).length ≤ d * n := by
   intro d
   induction d with
   | zero => intro i; simp [tabF]
   | succ d ih =>
    intro i
    have a := ih (i + 1)
    have b := rowF_len (fun i j => decide (wayH h i j = w)) i (n - 1) 1
    rw [tabF, List.length_append, Nat.succ_mul]; omega
  have := key (n - 1) 1
  have : (n - 1) * n ≤ 100 * 100 := Nat.mul_le_mul (by omega) hn
  unfold cellsF; omega
 generalize cellsF n (fun i j => decide (wayH h i j = w)) = L at *
 clear fl
 have key : ∀ (d i : Nat), i + d = L.length → Ans (fun k => spec_heFirst.l0 k (tab (n + 1) (n + 1) h) (tab (n + 1) (n + 1) g) w L (L.length : Int) (i : Int)) (fnd (fun c => decide (0 < w * (g (cI c) (cJ c) - h (cI c) (cJ c)))) (L.drop i)) := by
  intro d
  induction d with
  | zero =>
   intro i e
   rw [drop_all _ (by omega)]
   refine Ans.step ?_
   simp only [spec_heFirst.l0]
   exact Ans.not (by omega) (Ans.pure _)
  | succ d ih =>
   intro i e
   have e1 := ih (i + 1) (by omega)
   rw [show ((i + 1 : Nat) : Int) = (i : Int) + 1 by omega] at e1
   obtain ⟨a, b, h1, h2, h3, h4, ce⟩ := mem _ (getD_mem (x := L) [] (show i < L.length by omega))
   have er : rd_L3 L (i : Int) = [(a : Int), (b : Int)] := by unfold rd_L3; rw [Int.toNat_natCast]; exact ce
   have r1 := rowh a (by omega)
   have r2 := rowg a (by omega)
   have b1 := hf_in H (show a ≤ n by omega) (show b ≤ n by omega)
   have b2 := hf_in G (show a ≤ n by omega) (show b ≤ n by omega)
   have vw : wrap64 (w * (g a b - h a b)) = w * (g a b - h a b) := by rcases hw with rfl | rfl <;> exact wrap64_in _ ⟨by omega, by omega⟩
   rw [drop_at L [] (by omega), fnd, ce, cI_of, cJ_of]
   refine Ans.step ?_
   simp only [spec_heFirst.l0, er, wrap64_up (show (0 : Int) ≤ i by omega) (by omega), show rd [(a : Int), (b : Int)] 0 = (a : Int) from rfl, show rd [(a : Int), (b : Int)] 1 = (b : Int) from rfl]
   rw [numh a b (by omega) (by omega), numg a b (by omega) (by omega), wrap64_in (g a b - h a b) ⟨by omega, by omega⟩, vw]
   clear vw
   refine Ans.yes (by omega) (Ans.yes (by omega) (Ans.yes (by omega) (Ans.yes (by simp) (Ans.yes (by omega) (Ans.yes (by omega) (Ans.yes (by simp) (Ans.yes (by omega) (Ans.yes (by omega) (Ans.yes (by omega) (Ans.yes (by omega) ?_))))))))))
   by_cases c : 0 < w * (g a b - h a b)
   ·rw [if_pos (decide_eq_true c)]; exact Ans.yes c (Ans.pure _)
   ·rw [if_neg (by simpa using c)]; exact Ans.not c e1
 have := key L.length 0 (by omega)
 rwa [List.drop_zero] at this
theorem cells_congr {n : Nat} {p q : Nat → Nat → Bool} (e : ∀ i j, p i j = q i j) : cellsF n p = cellsF n q := by rw [show p = q from funext fun i => funext fun j => e i j]
theorem head_app {l1 l2 : List (List Int)} : (l1 ++ l2).headD [] = if l1.length = 0 then l2.headD [] else l1.headD [] := by
 cases l1 with
 | nil => simp
 | cons a l => simp
theorem tab_eq_iff {n : Nat} {h g : Nat → Nat → Int} : tab (n + 1) (n + 1) h = tab (n + 1) (n + 1) g ↔ dst n h g = 0 := by
 constructor
 ·intro e
  exact dst_same fun i j hi hj => by
   have a := tab_en h (show i < n + 1 by omega) (show j < n + 1 by omega)
   have b := tab_en g (show i < n + 1 by omega) (show j < n + 1 by omega)
   rw [← a, ← b, e]
 ·intro e
  refine ext_en (tab_sq (n + 1) h) (tab_sq (n + 1) g) fun i j hi hj => ?_
  rw [tab_en h hi hj, tab_en g hi hj]
  exact dst_zero e (by omega) (by omega)
theorem specPath {n : Nat} {g : Nat → Nat → Int} (hn : n ≤ 100) (G : HF n g) : ∀ (d : Nat) (h : Nat → Nat → Int) (out : List (List Int)), HF n h → dst n h g = 2 * d → out.length + d ≤ 1000000 → Ans (fun k => spec_FlipPath.l0 k (tab (n + 1) (n + 1) h) (tab (n + 1) (n + 1) g) out) (out ++ pathF n g d h, true) := by
 have sq := fun h : Nat → Nat → Int => tab_sq (n + 1) h
 intro d
 induction d with
 | zero =>
  intro h out H e hl
  have sm := heSame (tab (n + 1) (n + 1) h) (tab (n + 1) (n + 1) g) (by rw [(sq h).1]; omega) (fun r hr => by rw [(sq h).2 r hr]; omega)
  rw [decide_eq_true (tab_eq_iff.mpr (by omega))] at sm
  rw [pathF, List.append_nil]
  refine Ans.step ?_
  simp only [spec_FlipPath.l0]
  exact sm.bind (Ans.yes rfl (Ans.pure _))
 | succ d ih =>
  intro h out H e hl
  have sm := heSame (tab (n + 1) (n + 1) h) (tab (n + 1) (n + 1) g) (by rw [(sq h).1]; omega) (fun r hr => by rw [(sq h).2 r hr]; omega)
  rw [decide_eq_false (fun c => by have := tab_eq_iff.mp c; omega)] at sm
  obtain ⟨i, j, c, i1, j1, w⟩ := next_in H G (by omega)
  have F := hf_flip H i1 j1
  have D := dst_flip H G (by omega) (by omega) w
  have nx := ih (flipH h i j) (out ++ [[(i : Int), (j : Int)]]) F (by omega) (by simp; omega)
  have f1 := heFirst hn H G 1 (.inl rfl)
  have f2 := heFirst hn H G (-1) (.inr rfl)
  rw [cells_congr (q := upP h g) (fun i j => by unfold upP; rw [Bool.and_comm]; congr 1; rw [decide_eq_decide]; omega)] at f1
  rw [cells_congr (q := dnP h g) (fun i j => by unfold dnP; rw [Bool.and_comm]; congr 1; rw [decide_eq_decide]; omega)] at f2
  have nc := c
  unfold nextC at nc
  rw [head_app] at nc
  have ql := (sq h).1
  have rl : (rd_L3 (tab (n + 1) (n + 1) h) (i : Int)).length = n + 1 := by unfold rd_L3; rw [Int.toNat_natCast]; exact (sq h).row (by omega)
  have b1 := hf_in H (show i ≤ n by omega) (show j ≤ n by omega)

  have step : ∀ v : Int, v = wayH h i j → Ans (fun k => spec_FlipPath.stp (fun h out => spec_FlipPath.l0 k h (tab (n + 1) (n + 1) g) out) (tab (n + 1) (n + 1) h) out [(i : Int), (j : Int)] v) (out ++ pathF n g (d + 1) h, true) := by
   intro v hv
   have wb := way_b h i j
   simp only [spec_FlipPath.stp, show rd [(i : Int), (j : Int)] 0 = (i : Int) from rfl, show rd [(i : Int), (j : Int)] 1 = (j : Int) from rfl, Int.toNat_natCast]
   rw [flip_put (n := n) (h := h) (i := i) (j := j) (by omega) (by omega) (by
    rw [at_en, tab_en _ (by omega) (by omega), hv, wrap64_in (2 * wayH h i j) ⟨by omega, by omega⟩]; exact wrap64_in _ ⟨by omega, by omega⟩)]
   rw [pathF, c, cI_of, cJ_of, show out ++ [(i : Int), (j : Int)] :: pathF n g d (flipH h i j) = (out ++ [[(i : Int), (j : Int)]]) ++ pathF n g d (flipH h i j) by simp]
   exact Ans.yes (by simp) (Ans.yes (by simp) (Ans.yes (by omega) (Ans.yes (by omega) (Ans.yes (by omega) (Ans.yes (by omega) (Ans.yes (by omega) nx))))))
  refine Ans.step ?_
  simp only [spec_FlipPath.l0]
  refine sm.bind (Ans.not (by simp) ?_)
  by_cases z : (cellsF n (upP h g)).length = 0
  ·rw [if_pos z] at nc
   rw [show cellsF n (upP h g) = [] from List.eq_nil_of_length_eq_zero z] at f1
   rw [nc] at f2
   refine f1.bind (Ans.yes rfl (f2.bind (step (-1) ?_)))
   have m : [(i : Int), (j : Int)] ∈ cellsF n (dnP h g) := by
    rw [← nc]
    cases e2 : cellsF n (dnP h g) with
    | nil => rw [e2] at nc; simp at nc
    | cons a l => simp
   obtain ⟨a, b, _, _, _, _, p, e2⟩ := cellsF_mem.mp m
   have ea : i = a := by injection e2 with x1 x2; omega
   have eb : j = b := by injection e2 with x1 x2; injection x2 with x3 x4; omega
   subst ea eb
   simp only [dnP, Bool.and_eq_true, decide_eq_true_eq] at p
   exact p.2.symm
  ·rw [if_neg z] at nc
   rw [nc] at f1
   refine f1.bind (Ans.not (by simp) (step 1 ?_))
   have m : [(i : Int), (j : Int)] ∈ cellsF n (upP h g) := by
    rw [← nc]
    cases e2 : cellsF n (upP h g) with
    | nil => rw [e2] at z; simp at z
    | cons a l => simp
   obtain ⟨a, b, _, _, _, _, p, e2⟩ := cellsF_mem.mp m
   have ea : i = a := by injection e2 with x1 x2; omega
   have eb : j = b := by injection e2 with x1 x2; injection x2 with x3 x4; omega
   subst ea eb
   simp only [upP, Bool.and_eq_true, decide_eq_true_eq] at p
   exact p.2.symm
theorem implPath {n : Nat} {g : Nat → Nat → Int} (hn : n ≤ 100) (G : HF n g) : ∀ (d : Nat) (h : Nat → Nat → Int) (out : List (List Int)), HF n h → dst n h g = 2 * d → out.length + d ≤ 1000000 → Ans (fun k => impl_FlipPath.l0 k n (tab (n + 1) (n + 1) h) (tab (n + 1) (n + 1) g) out) (out ++ pathF n g d h, true) := by
 have sq := fun h : Nat → Nat → Int => tab_sq (n + 1) h
 intro d
 induction d with
 | zero =>
  intro h out H e hl
  have cp := compareTables (tab (n + 1) (n + 1) h) (tab (n + 1) (n + 1) g) (by rw [(sq h).1]; omega) (by rw [(sq g).1]; omega) (fun r hr => by rw [(sq h).2 r hr]; omega) (fun r hr => by rw [(sq g).2 r hr]; omega)
  rw [pathF, List.append_nil]
  refine Ans.step ?_
  simp only [impl_FlipPath.l0]
  exact cp.bind (Ans.yes ((cmpLL_zero _ _).mpr (tab_eq_iff.mpr (by omega))) (Ans.pure _))
 | succ d ih =>
  intro h out H e hl
  have cp := compareTables (tab (n + 1) (n + 1) h) (tab (n + 1) (n + 1) g) (by rw [(sq h).1]; omega) (by rw [(sq g).1]; omega) (fun r hr => by rw [(sq h).2 r hr]; omega) (fun r hr => by rw [(sq g).2 r hr]; omega)
  have nz : ¬ cmpLL (tab (n + 1) (n + 1) h) (tab (n + 1) (n + 1) g) = 0 := fun c => by have := tab_eq_iff.mp ((cmpLL_zero _ _).mp c); omega
  obtain ⟨i, j, c, i1, j1, w⟩ := next_in H G (by omega)
  have F := hf_flip H i1 j1
  have D := dst_flip H G (by omega) (by omega) w
  have nx := ih (flipH h i j) (out ++ [[(i : Int), (j : Int)]]) F (by omega) (by simp; omega)
  have qh := sq h
  have qg := sq g
  have lh := qh.1
  have lg := qg.1
  have rowh : ∀ a : Nat, a ≤ n → (rd_L3 (tab (n + 1) (n + 1) h) (a : Int)).length = n + 1 := fun a ha => by unfold rd_L3; rw [Int.toNat_natCast]; exact qh.row (by omega)
  have rowg : ∀ a : Nat, a ≤ n → (rd_L3 (tab (n + 1) (n + 1) g) (a : Int)).length = n + 1 := fun a ha => by unfold rd_L3; rw [Int.toNat_natCast]; exact qg.row (by omega)
  have numh : ∀ a b : Nat, a ≤ n → b ≤ n → rd (rd_L3 (tab (n + 1) (n + 1) h) (a : Int)) (b : Int) = h a b := fun a b ha hb' => by rw [at_en, tab_en _ (by omega) (by omega)]
  have numg : ∀ a b : Nat, a ≤ n → b ≤ n → rd (rd_L3 (tab (n + 1) (n + 1) g) (a : Int)) (b : Int) = g a b := fun a b ha hb' => by rw [at_en, tab_en _ (by omega) (by omega)]
  have f1 := cells2 n (by omega) (fun k i j => impl_FlipPath_1.f k i j (tab (n + 1) (n + 1) h) (tab (n + 1) (n + 1) g)) (upP h g) (fun a b ha hb => by
   have r1 := rowh a (by omega)
   have r2 := rowg a (by omega)
   have wy := implWay H (by omega) ha hb
   simp only [impl_FlipPath_1.f]
   rw [numh a b (by omega) (by omega), numg a b (by omega) (by omega)]
   refine Ans.yes (by omega) (Ans.yes (by omega) (Ans.yes (by omega) (Ans.yes (by omega) (Ans.yes (by omega) (Ans.yes (by omega) ?_)))))
   unfold upP
   by_cases l : h a b < g a b
   ·rw [decide_eq_true l, Bool.true_and]
    refine Ans.yes l (wy.bind ?_)
    rw [show decide (wayH h a b = 1) = decide (2 * wayH h a b > 0) by rw [decide_eq_decide]; have := way_b h a b; omega]
    exact Ans.pure _
   ·rw [decide_eq_false l, Bool.false_and]; exact Ans.not l (Ans.pure _))
  have f2 := cells2 n (by omega) (fun k i j => impl_FlipPath_2.f k i j (tab (n + 1) (n + 1) h) (tab (n + 1) (n + 1) g)) (dnP h g) (fun a b ha hb => by
   have r1 := rowh a (by omega)
   have r2 := rowg a (by omega)
   have wy := implWay H (by omega) ha hb
   simp only [impl_FlipPath_2.f]
   rw [numh a b (by omega) (by omega), numg a b (by omega) (by omega)]
   refine Ans.yes (by omega) (Ans.yes (by omega) (Ans.yes (by omega) (Ans.yes (by omega) (Ans.yes (by omega) (Ans.yes (by omega) ?_)))))
   unfold dnP
   by_cases l : h a b > g a b
   ·rw [decide_eq_true (show g a b < h a b from l), Bool.true_and]
    refine Ans.yes l (wy.bind ?_)
    rw [show decide (wayH h a b = -1) = decide (2 * wayH h a b < 0) by rw [decide_eq_decide]; have := way_b h a b; omega]
    exact Ans.pure _
   ·rw [decide_eq_false (show ¬ g a b < h a b from l), Bool.false_and]; exact Ans.not l (Ans.pure _))
  have nc := c
  unfold nextC at nc
  rw [head_app] at nc
  have rl := rowh i (by omega)
  have wy := implWay H (by omega) i1 j1
  have b1 := hf_in H (show i ≤ n by omega) (show j ≤ n by omega)
  have wb := way_b h i j

  have step : ∀ L : List (List Int), 0 < L.length → L.headD [] = [(i : Int), (j : Int)] → Ans (fun k => impl_FlipPath.stp k (fun h out => impl_FlipPath.l0 k n h (tab (n + 1) (n + 1) g) out) (tab (n + 1) (n + 1) h) out L) (out ++ pathF n g (d + 1) h, true) := by
   intro L hL hd
   have e0 : rd_L3 L 0 = [(i : Int), (j : Int)] := by
    rw [← hd]
    cases L with
    | nil => simp at hL
    | cons a l => rfl
   simp only [impl_FlipPath.stp, e0, show rd [(i : Int), (j : Int)] 0 = (i : Int) from rfl, show rd [(i : Int), (j : Int)] 1 = (j : Int) from rfl, Int.toNat_natCast]
   refine Ans.yes (by omega) (Ans.yes (by simp) (Ans.yes (by simp) (Ans.yes (by omega) (Ans.yes (by omega) (Ans.yes (by omega) (Ans.yes (by omega) (Ans.yes (by omega) (wy.bind ?_))))))))
   rw [flip_put (n := n) (h := h) (i := i) (j := j) (by omega) (by omega) (by
    rw [at_en, tab_en _ (by omega) (by omega)]; exact wrap64_in _ ⟨by omega, by omega⟩)]
   rw [pathF, c, cI_of, cJ_of, show out ++ [(i : Int), (j : Int)] :: pathF n g d (flipH h i j) = (out ++ [[(i : Int), (j : Int)]]) ++ pathF n g d (flipH h i j) by simp]
   exact nx
  refine Ans.step ?_
  simp only [impl_FlipPath.l0]
  refine cp.bind (Ans.not nz (f1.bind ?_))
  by_cases z : (cellsF n (upP h g)).length = 0
  ·rw [if_pos z] at nc
   refine Ans.yes (by omega) (f2.bind (step _ ?_ nc))
   refine Nat.pos_of_ne_zero fun q => ?_
   rw [List.eq_nil_of_length_eq_zero q] at nc
   simp at nc
  ·rw [if_neg z] at nc
   exact Ans.not (by omega) (step _ (by omega) nc)
def fpRes (x y : List (List Int)) : List (List Int) × Bool := if two x y = true then (pathF x.length (hgt y) (dst x.length (hgt x) (hgt y) / 2).toNat (hgt x), true) else ([], false)
theorem flipPath (x y : List (List Int)) (hx : x.length ≤ 1000) (hy : y.length ≤ 1000) : Ans (fun k => impl_FlipPath.f k x y) (fpRes x y) ∧ Ans (fun k => spec_FlipPath.f k x y) (fpRes x y) := by
 have a := arePair (x := x) (y := y) (by omega) (by omega)
 have b := hePair (x := x) (y := y) (by omega) (by omega)
 simp only [impl_FlipPath.f, spec_FlipPath.f, fpRes]
 by_cases c : two x y = true
 ·obtain ⟨s, t, h⟩ := two_iff.mp c
  obtain ⟨n, hn⟩ : ∃ n, x.length = n := ⟨_, rfl⟩
  have hm : y.length = n := by omega
  obtain ⟨ex, Hx, _⟩ := HT_hf s hn
  obtain ⟨ey, Hy, _⟩ := HT_hf t hm
  have h6 := (sign_en s hn).2.2.1
  have bd := tabSum_in h6 (Nat.le_refl (n + 1)) (fun i j hi hj => hgt_in s hn hi hj) (fun i j hi hj => hgt_in t hm hi hj)
  have ev := dst_even Hx Hy
  have nn := dst_nn n (hgt x) (hgt y)
  have hd : dst n (hgt x) (hgt y) = 2 * ((dst n (hgt x) (hgt y) / 2).toNat : Int) := by omega
  have sm : dst n (hgt x) (hgt y) ≤ 1000 := bd.2
  have h1 := implHeights s
  have h2 := implHeights t
  have h3 := specHeights s
  have h4 := specHeights t
  rw [ex] at h1 h3
  rw [ey] at h2 h4
  rw [if_pos c, hn]
  have p1 := implPath (by omega) Hy _ (hgt x) [] Hx hd (by simp; omega)
  have p2 := specPath (by omega) Hy _ (hgt x) [] Hx hd (by simp; omega)
  rw [List.nil_append] at p1 p2
  exact ⟨a.bind (Ans.yes c (h1.bind (h2.bind p1))), b.bind (Ans.yes c (h3.bind (h4.bind p2)))⟩
 ·rw [if_neg c]
  exact ⟨a.bind (Ans.not c (Ans.pure _)), b.bind (Ans.not c (Ans.pure _))⟩
theorem big_ans (c m : List Int) : ∃ b, laws_big.f c m = some b := by
 simp only [laws_big.f]
 split
 ·exact ⟨_, rfl⟩
 ·exact ⟨_, rfl⟩
theorem small_sign {x : List (List Int)} (s : sign x = true) : x.length ≤ 1000 ∧ ∀ r ∈ x, r.length ≤ 1000 := by
 obtain ⟨q, h⟩ := sign_sq s
 exact ⟨by omega, fun r hr => by rw [q.2 r hr]; omega⟩
theorem cells_small {n : Nat} (hn : n ≤ 6) (p : Nat → Nat → Bool) : (cellsF n p).length ≤ 1000 ∧ ∀ r ∈ cellsF n p, r.length ≤ 1000 := by
 have key : ∀ d i, (tabF p n d i).length ≤ d * 6 := by
  intro d
  induction d with
  | zero => intro i; simp [tabF]
  | succ d ih =>
   intro i
   have a := ih (i + 1)
   have b := rowF_len p i (n - 1) 1
   rw [tabF, List.length_append, Nat.succ_mul]; omega
 have := key (n - 1) 1
 refine ⟨by unfold cellsF; omega, fun r hr => ?_⟩
 obtain ⟨a, b, _, _, _, _, _, e⟩ := cellsF_mem.mp hr
 rw [e]; simp
theorem res_small {n : Nat} (hn : n ≤ 6) (o : Option (Nat → Nat → Int)) : (resO n o).1.length ≤ 1000 ∧ ∀ r ∈ (resO n o).1, r.length ≤ 1000 := by
 cases o with
 | none => simp [resO]
 | some h =>
  have q := mat_sq n h
  exact ⟨by show (mat n h).length ≤ 1000; rw [q.1]; omega, fun r hr => by rw [q.2 r hr]; omega⟩
theorem foRes_small (x : List (List Int)) (p : List (List Int)) : (foRes x p).1.length ≤ 1000 ∧ ∀ r ∈ (foRes x p).1, r.length ≤ 1000 := by
 unfold foRes
 by_cases s : sign x = true
 ·rw [if_pos s]
  split
  ·exact res_small (sign_en s rfl).2.2.1 _
  ·simp
 ·rw [if_neg s]; simp
theorem sameR {x : List (List Int)} (h : x.length ≤ 1000 ∧ ∀ r ∈ x, r.length ≤ 1000) : Ans (fun k => laws_hRows.f k x x) true := hRows x (by have := h.1; omega) (fun r hr => by have := h.2 r hr; omega)
theorem path_small {n : Nat} {g : Nat → Nat → Int} (G : HF n g) : ∀ (d : Nat) (h : Nat → Nat → Int), HF n h → dst n h g = 2 * d → ∀ r ∈ pathF n g d h, r.length ≤ 1000
 | 0, h, H, e => by simp [pathF]
 | d + 1, h, H, e => by
  obtain ⟨i, j, c, i1, j1, w⟩ := next_in H G (by omega)
  have ih := path_small G d (flipH h i j) (hf_flip H i1 j1) (by have := dst_flip H G (by omega) (by omega) w; omega)
  intro r hr
  rw [pathF, c, cI_of, cJ_of] at hr
  rcases List.mem_cons.mp hr with rfl | hr
  ·simp
  ·exact ih r hr
theorem path_is {x y : List (List Int)} (s : sign x = true) (t : sign y = true) {n : Nat} (hn : x.length = n) (hm : y.length = n) : ∃ P, pathF n (hgt y) (dst n (hgt x) (hgt y) / 2).toNat (hgt x) = P ∧ ((P.length : Nat) : Int) = dst n (hgt x) (hgt y) / 2 ∧ P.length ≤ 200 ∧ (∀ r ∈ P, r.length ≤ 1000) ∧ foRes x P = (y, true) := by
 obtain ⟨_, Hx, _⟩ := HT_hf s hn
 obtain ⟨_, Hy, my⟩ := HT_hf t hm
 obtain ⟨_, h1, h6, _⟩ := sign_en s hn
 have nn := dst_nn n (hgt x) (hgt y)
 have ev := dst_even Hx Hy
 have le : dst n (hgt x) (hgt y) ≤ 400 := by
  have row : ∀ i, i < n + 1 → S (n + 1) (fun j => max (hgt x i j - hgt y i j) (hgt y i j - hgt x i j)) ≤ 42 := fun i hi => by
   have := S_range (n := n + 1) (f := fun j => max (hgt x i j - hgt y i j) (hgt y i j - hgt x i j)) (a := 0) (b := 6) (fun j hj => by
    have a := hgt_in s hn (show i ≤ n by omega) (show j ≤ n by omega); have b := hgt_in t hm (show i ≤ n by omega) (show j ≤ n by omega); omega)
   omega
  have := S_range (n := n + 1) (f := fun i => S (n + 1) (fun j => max (hgt x i j - hgt y i j) (hgt y i j - hgt x i j))) (a := 0) (b := 42) (fun i hi => ⟨S_nn fun j _ => by omega, row i hi⟩)
  unfold dst; omega
 have hd : dst n (hgt x) (hgt y) = 2 * ((dst n (hgt x) (hgt y) / 2).toNat : Int) := by omega
 obtain ⟨ok, F, z⟩ := path_ok Hy _ (hgt x) Hx hd
 refine ⟨_, rfl, by rw [pathF_len]; omega, by rw [pathF_len]; omega, path_small Hy _ (hgt x) Hx hd, ?_⟩
 unfold foRes
 rw [if_pos s, if_pos (by rw [pathF_len]; omega), hn, okPath_fol _ _ ok]
 show (mat n _, true) = (y, true)
 rw [show mat n (foll (hgt x) (pathF n (hgt y) (dst n (hgt x) (hgt y) / 2).toNat (hgt x))) = y from ?_]
 refine ext_en (mat_sq n _) (sign_en t hm).1 fun i j hi hj => ?_
 have e := mat_en (hgt y) hi hj
 rw [my] at e
 rw [mat_en _ hi hj, z i (j + 1) (by omega) (by omega), z (i + 1) j (by omega) (by omega), z (i + 1) (j + 1) (by omega) (by omega), z i j (by omega) (by omega), e]
theorem dst_tri {n : Nat} {f g l : Nat → Nat → Int} (lf : ∀ i j, i ≤ n → j ≤ n → l i j ≤ f i j) (lg : ∀ i j, i ≤ n → j ≤ n → l i j ≤ g i j) : dst n g l - dst n f l ≤ dst n f g ∧ dst n f l - dst n g l ≤ dst n f g ∧ ((∀ i j, i ≤ n → j ≤ n → f i j ≤ g i j) → dst n g l - dst n f l = dst n f g) := by
 have e : dst n g l - dst n f l = S (n + 1) (fun i => S (n + 1) (fun j => g i j - f i j)) := by
  unfold dst
  rw [← S_less]
  refine S_congr fun i hi => ?_
  rw [← S_less]
  refine S_congr fun j hj => ?_
  have a := lf i j (by omega) (by omega); have b := lg i j (by omega) (by omega); omega
 have up : S (n + 1) (fun i => S (n + 1) (fun j => g i j - f i j)) ≤ dst n f g := S_le fun i hi => S_le fun j hj => by omega
 have dn : S (n + 1) (fun i => S (n + 1) (fun j => (-1) * (g i j - f i j))) ≤ dst n f g := S_le fun i hi => S_le fun j hj => by omega
 rw [show S (n + 1) (fun i => S (n + 1) (fun j => (-1) * (g i j - f i j))) = (-1) * S (n + 1) (fun i => S (n + 1) (fun j => g i j - f i j)) by
  rw [← S_mul]; exact S_congr fun i _ => S_mul _ _ _] at dn
 refine ⟨by omega, by omega, fun h => ?_⟩
 rw [e]
 exact S_congr fun i hi => S_congr fun j hj => by have := h i j (by omega) (by omega); omega
theorem lea_le {x : List (List Int)} (s : sign x = true) {n : Nat} (hn : x.length = n) : ∀ i j, i ≤ n → j ≤ n → hgt (lea n) i j ≤ hgt x i j := by
 have := bel_lea s
 rw [hn, bel_iff (show (lea n).length = n from (tab_sq n _).1) hn] at this
 exact this
theorem rank_in {x : List (List Int)} (s : sign x = true) : 0 ≤ rank x ∧ rank x ≤ 500 ∧ 2 * rank x = dst x.length (hgt x) (hgt (lea x.length)) := by
 obtain ⟨_, h1, h6, _⟩ := sign_en s rfl
 have sl := lea_sign _ h1 h6
 obtain ⟨_, Hx, _⟩ := HT_hf s rfl
 obtain ⟨_, Hl, _⟩ := HT_hf sl (show (lea x.length).length = x.length from (tab_sq _ _).1)
 have b := tabSum_in h6 (Nat.le_refl _) (fun i j hi hj => hgt_in s rfl hi hj) (fun i j hi hj => hgt_in sl (show (lea x.length).length = x.length from (tab_sq _ _).1) hi hj)
 have e := dst_even Hx Hl
 have nn := dst_nn x.length (hgt x) (hgt (lea x.length))
 have up : dst x.length (hgt x) (hgt (lea x.length)) ≤ 1000 := b.2
 unfold rank
 omega
theorem ranks {x y : List (List Int)} (s : sign x = true) (t : sign y = true) {n : Nat} (hn : x.length = n) (hm : y.length = n) : 2 * (rank y - rank x) ≤ dst n (hgt x) (hgt y) ∧ 2 * (rank x - rank y) ≤ dst n (hgt x) (hgt y) ∧ (bel x y = true → 2 * (rank y - rank x) = dst n (hgt x) (hgt y)) := by
 have a := rank_in s
 have b := rank_in t
 rw [hn] at a
 rw [hm] at b
 have d := dst_tri (lea_le s hn) (lea_le t hm)
 refine ⟨by omega, by omega, fun h => ?_⟩
 have := d.2.2 ((bel_iff hn hm).mp h)
 omega
theorem isb_of {x y : List (List Int)} (s : sign x = true) (t : sign y = true) (h : x.length = y.length) : isb x y = (bel x y, true) := if_pos (two_iff.mpr ⟨s, t, h⟩)
theorem draw_follow (c : List Int) (hc : ∀ x ∈ c, (Lit.int .u8 x).wf = true) : ∃ x p, Ans (fun k => spec_DrawFollowFlips.f k c) (x, p) ∧ x.length ≤ 7 ∧ p.length ≤ 1000 := by
 obtain ⟨x, y, a, s, f, a0, a1, hx, hy⟩ := draw_pair c hc 0 0 5 (by omega) (by omega) (by omega) (by omega)
 have F := (flipPath x y (by have := hx.1; omega) (by have := hy.1; omega)).2
 have pl : (fpRes x y).1.length ≤ 200 := by
  unfold fpRes
  by_cases t : two x y = true
  ·rw [if_pos t]
   obtain ⟨s, t, h⟩ := two_iff.mp t
   obtain ⟨P, e, _, q, _⟩ := path_is s t rfl h.symm
   rw [e]; exact q
  ·rw [if_neg t]; simp
 have fill : ∀ (d : Nat) (p : List (List Int)), p.length + d = 201 → ∃ p', Ans (fun k => spec_DrawFollowFlips.l0 k x p) (x, p') ∧ p'.length ≤ 1000 := by
  intro d
  induction d with
  | zero =>
   intro p h
   refine ⟨p, ⟨1, fun k hk => ?_⟩, by omega⟩
   obtain ⟨k, rfl⟩ : ∃ q, k = q + 1 := ⟨k - 1, by omega⟩
   show (if (p.length : Int) < 201 then _ else some (x, p)) = _
   rw [if_neg (by omega)]
  | succ d ih =>
   intro p h
   obtain ⟨p', e, l⟩ := ih (p ++ [[1, 1]]) (by simp; omega)
   obtain ⟨m, hm⟩ := e
   refine ⟨p', ⟨m + 1, fun k hk => ?_⟩, l⟩
   obtain ⟨k, rfl⟩ : ∃ q, k = q + 1 := ⟨k - 1, by omega⟩
   show (if (p.length : Int) < 201 then (if p.length < 5864062014805 then spec_DrawFollowFlips.l0 k x (p ++ [[1, 1]]) else none) else _) = _
   rw [if_pos (by omega), if_pos (by omega)]
   exact hm k (by omega)
 have j2 : ∀ (p : List (List Int)) (a s : Int), p.length ≤ 201 → 0 ≤ a → a ≤ 1000000000 → ∃ p', Ans (fun k => spec_DrawFollowFlips.j2 k x p c a s) (x, p') ∧ p'.length ≤ 1000 := by
  intro p a s hp h0 h1
  obtain ⟨v, b, s2, e, _, _⟩ := draw_one c hc a s 20 h0 (by omega)
  cases v with
  | true =>
   obtain ⟨p', e2, l⟩ := fill (201 - p.length) p (by omega)
   refine ⟨p', Ans.step ?_, l⟩
   simp only [spec_DrawFollowFlips.j2, e, Option.bind_some]
   exact Ans.yes trivial e2
  | false =>
   refine ⟨p, Ans.step ?_, by omega⟩
   simp only [spec_DrawFollowFlips.j2, e, Option.bind_some]
   exact Ans.not (by simp) (Ans.pure _)
 have j1 : ∀ (p : List (List Int)) (a s : Int), p.length ≤ 200 → 0 ≤ a → a ≤ 100000000 → ∃ p', Ans (fun k => spec_DrawFollowFlips.j1 k x p c a s) (x, p') ∧ p'.length ≤ 1000 := by
  intro p a s hp h0 h1
  obtain ⟨v, b, s2, e, q1, q2⟩ := draw_one c hc a s 12 h0 (by omega)
  cases v with
  | true =>
   obtain ⟨u, b2, s3, e2, q3, q4, _⟩ := draw_among c hc b s2 [0, 1, (-1)] (by simp) (by omega) (by omega)
   obtain ⟨p', e3, l⟩ := j2 (p ++ [[u, 1]]) b2 s3 (by simp; omega) (by omega) (by omega)
   refine ⟨p', Ans.step ?_, l⟩
   simp only [spec_DrawFollowFlips.j1, e, e2, Option.bind_some]
   exact Ans.yes trivial (Ans.yes (by omega) e3)
  | false =>
   obtain ⟨p', e3, l⟩ := j2 p b s2 (by omega) (by omega) (by omega)
   refine ⟨p', Ans.step ?_, l⟩
   simp only [spec_DrawFollowFlips.j1, e, Option.bind_some]
   exact Ans.not (by simp) e3
 have j0 : ∀ (p : List (List Int)) (v : Bool) (a s : Int), p.length ≤ 200 → 0 ≤ a → a ≤ 10000000 → ∃ p', Ans (fun k => spec_DrawFollowFlips.j0 k x p v c a s) (x, p') ∧ p'.length ≤ 1000 := by
  intro p v a s hp h0 h1
  cases v with
  | true =>
   obtain ⟨u, b, s2, e, q1, q2, _⟩ := draw_pick c hc a s 4 h0 (by omega)
   obtain ⟨p', e3, l⟩ := j1 [[1, 1], [1, 1], [u, 1]] b s2 (by simp) (by omega) (by omega)
   refine ⟨p', Ans.step ?_, l⟩
   simp only [spec_DrawFollowFlips.j0, e, Option.bind_some]
   exact Ans.yes trivial e3
  | false =>
   obtain ⟨p', e3, l⟩ := j1 p a s hp h0 (by omega)
   refine ⟨p', Ans.step ?_, l⟩
   simp only [spec_DrawFollowFlips.j0]
   exact Ans.not (by simp) e3
 by_cases z : (fpRes x y).2 = true
 ·obtain ⟨v, b, s2, e, q1, q2⟩ := draw_one c hc a s 4 (by omega) (by omega)
  obtain ⟨p', e3, l⟩ := j0 (fpRes x y).1 v b s2 pl (by omega) (by omega)
  refine ⟨x, p', ?_, hx.1, l⟩
  simp only [spec_DrawFollowFlips.f]
  refine f.bind (F.bind (Ans.yes z ?_))
  simp only [e, Option.bind_some]
  exact e3
 ·obtain ⟨p', e3, l⟩ := j0 (fpRes x y).1 true a s pl (by omega) (by omega)
  refine ⟨x, p', ?_, hx.1, l⟩
  simp only [spec_DrawFollowFlips.f]
  exact f.bind (F.bind (Ans.not z e3))
theorem law_j4 (c : List Int) (hc : ∀ x ∈ c, (Lit.int .u8 x).wf = true) : Ans (fun k => laws_FnFlips.j4 k c) true := by
 obtain ⟨x, p, D, hx, hp⟩ := draw_follow c hc
 obtain ⟨f1, f2⟩ := follow x (by omega) p (by omega)
 obtain ⟨m, a, s, g, _, _, h1, h2⟩ := draw_signs c hc 0 0 5 (by omega) (by omega) (by omega) (by omega)
 obtain ⟨v, b, s2, e, _, _⟩ := draw_one c hc a s 2 (by omega) (by omega)
 have E : Ans (fun k => spec_DrawFlipsOf.f k c) (m, v) := by
  simp only [spec_DrawFlipsOf.f]
  refine g.bind ?_
  simp only [e, Option.bind_some]
  exact Ans.pure _
 obtain ⟨g1, g2⟩ := flipsOf m (by omega) v
 have sm : (flRes m v).1.length ≤ 1000 ∧ ∀ r ∈ (flRes m v).1, r.length ≤ 1000 := by
  unfold flRes
  by_cases s : sign m = true
  ·rw [if_pos s]; exact cells_small (sign_en s rfl).2.2.1 _
  ·rw [if_neg s]; simp
 refine Ans.step ?_
 simp only [laws_FnFlips.j4]
 exact D.bind (f1.bind (f2.bind (E.bind (g1.bind (g2.bind (Ans.yes (by simp) ((sameR (foRes_small x p)).bind (Ans.yes rfl (Ans.yes (by simp) ((sameR sm).bind (Ans.pure _)))))))))))
theorem law_j2 (c : List Int) (hc : ∀ x ∈ c, (Lit.int .u8 x).wf = true) : Ans (fun k => laws_FnFlips.j2 k c) true := by
 obtain ⟨x, y, a, s, f, _, _, hx, hy⟩ := draw_pair c hc 0 0 5 (by omega) (by omega) (by omega) (by omega)
 have D : Ans (fun k => spec_DrawFlipPath.f k c) (x, y) := by
  simp only [spec_DrawFlipPath.f, spec_DrawIsBelow.f]
  exact (f.bind (h := fun _ bt => some (bt.1, bt.2.1)) (Ans.pure _)).bind (Ans.pure _)
 have hx1 := hx.1
 have hy1 := hy.1
 obtain ⟨p1, p2⟩ := flipPath x y (by omega) (by omega)
 obtain ⟨d1, d2⟩ := flipDistance x y (by omega) (by omega)
 refine Ans.step ?_
 simp only [laws_FnFlips.j2]
 refine D.bind (p1.bind (p2.bind (d1.bind (d2.bind (Ans.not (by simp) ?_)))))
 by_cases t : two x y = true
 case neg =>
  rw [show fpRes x y = ([], false) from if_neg t, show fdRes x y = (0, false) from if_neg t]
  refine (sameR (x := []) (by simp)).bind (Ans.yes rfl (Ans.not (by simp) (Ans.yes rfl (Ans.step ?_))))
  simp only [laws_FnFlips.j3]
  exact Ans.not (by simp) (Ans.not (by simp) (law_j4 c hc))
 obtain ⟨s, t', h⟩ := two_iff.mp t
 obtain ⟨n, hn⟩ : ∃ n, x.length = n := ⟨_, rfl⟩
 have hm : y.length = n := by omega
 obtain ⟨P, eP, lP, l2, sP, fP⟩ := path_is s t' hn hm
 rw [show fpRes x y = (P, true) by unfold fpRes; rw [if_pos t, hn, eP], show fdRes x y = (dst n (hgt x) (hgt y) / 2, true) by unfold fdRes; rw [if_pos t, hn]]
 have FO := (follow x (by omega) P (by omega)).1
 rw [fP] at FO
 have R1 := rankOf s
 have R2 := rankOf t'
 have B := implBelow (x := x) (y := y) (by omega) (by omega)
 rw [isb_of s t' h] at B
 have rk := ranks s t' hn hm
 have b1 := rank_in s
 have b2 := rank_in t'
 have ev := dst_even (HT_hf s hn).2.1 (HT_hf t' hm).2.1
 have nn := dst_nn n (hgt x) (hgt y)
 generalize dst n (hgt x) (hgt y) = dd at *
 refine (sameR ⟨by omega, sP⟩).bind (Ans.yes rfl (Ans.not (by simp) (Ans.yes rfl (Ans.step ?_))))
 simp only [laws_FnFlips.j3]
 refine Ans.not (by simp) (Ans.yes trivial (FO.bind (R1.bind (R2.bind (B.bind (Ans.yes lP (Ans.yes rfl ((sameR (small_sign t')).bind (Ans.yes rfl (Ans.yes rfl (Ans.yes rfl (Ans.yes rfl ?_))))))))))))
 rw [wrap64_in (rank y - rank x) ⟨by omega, by omega⟩, wrap64_in (rank x - rank y) ⟨by omega, by omega⟩]
 by_cases b : bel x y = true
 ·have := rk.2.2 b
  exact Ans.yes b (Ans.yes (by omega) (Ans.not (by omega) (Ans.not (by omega) (law_j4 c hc))))
 ·exact Ans.not b (Ans.not (by omega) (Ans.not (by omega) (law_j4 c hc)))
theorem law_found (c : List Int) (hc : ∀ x ∈ c, (Lit.int .u8 x).wf = true) {x y : List (List Int)} (s : sign x = true) (t : sign y = true) {i j : Nat} {r1 r2 : Int} (hr : r1 - r2 = 1 ∨ r2 - r1 = 1) (b1 : 0 ≤ r1 ∧ r1 ≤ 500) (b2 : 0 ≤ r2 ∧ r2 ≤ 500) {L : List (List Int)} (hL : L.length ≤ 1000) (hl : ∀ c ∈ L, ∃ a b : Nat, c = [(a : Int), (b : Int)]) : ∀ (d q : Nat) (f : Bool), q + d = L.length → (f = true ∨ [(i : Int), (j : Int)] ∈ L.drop q) →
  Ans (fun k => laws_FnFlips.l0 k c x (i : Int) (j : Int) y x true r1 true r2 true true f L (L.length : Int) (q : Int)) true := by
 intro d
 induction d with
 | zero =>
  intro q f h hf
  rw [drop_all _ (by omega)] at hf
  obtain rfl : f = true := hf.resolve_right (by simp)
  have J := law_j2 c hc
  have I := isSign y (by have := (small_sign t).1; omega)
  rw [t] at I
  refine Ans.step ?_
  simp only [laws_FnFlips.l0]
  rw [wrap64_in (r1 - r2) ⟨by omega, by omega⟩, wrap64_in (r2 - r1) ⟨by omega, by omega⟩]
  refine Ans.not (by omega) (Ans.yes trivial ((sameR (small_sign s)).bind (Ans.yes rfl (Ans.yes trivial (Ans.yes trivial ?_)))))
  by_cases z : r1 - r2 = 1
  ·exact Ans.yes z (Ans.yes trivial (Ans.yes trivial (I.bind (Ans.yes rfl J))))
  ·exact Ans.not z (Ans.yes (by omega) (Ans.yes trivial (Ans.yes trivial (I.bind (Ans.yes rfl J)))))
 | succ d ih =>
  intro q f h hf
  obtain ⟨a, b, ce⟩ := hl _ (getD_mem (x := L) [] (show q < L.length by omega))
  have er : rd_L3 L (q : Int) = [(a : Int), (b : Int)] := by unfold rd_L3; rw [Int.toNat_natCast]; exact ce
  have up : ∀ f', (f' = true ∨ [(i : Int), (j : Int)] ∈ L.drop (q + 1)) → Ans (fun k => laws_FnFlips.l0 k c x (i : Int) (j : Int) y x true r1 true r2 true true f' L (L.length : Int) ((q : Int) + 1)) true := fun f' h' => by
   have := ih (q + 1) f' (by omega) h'
   rwa [show ((q + 1 : Nat) : Int) = (q : Int) + 1 by omega] at this
  refine Ans.step ?_
  simp only [laws_FnFlips.l0, er, wrap64_up (show (0 : Int) ≤ q by omega) (by omega), show rd [(a : Int), (b : Int)] 0 = (a : Int) from rfl, show rd [(a : Int), (b : Int)] 1 = (b : Int) from rfl]
  refine Ans.yes (by omega) (Ans.yes (by omega) (Ans.yes (by omega) ?_))
  cases f with
  | true => exact Ans.yes rfl (up true (.inl rfl))
  | false =>
   refine Ans.not (by simp) (Ans.yes (by simp) ?_)
   have hm := hf.resolve_left (by simp)
   rw [drop_at L [] (by omega), ce, List.mem_cons] at hm
   by_cases e1 : (a : Int) = (i : Int)
   ·refine Ans.yes e1 (Ans.yes (by simp) ?_)
    by_cases e2 : (b : Int) = (j : Int)
    ·rw [show ((b : Int) == (j : Int)) = true by simpa using e2]; exact up true (.inl rfl)
    ·rw [show ((b : Int) == (j : Int)) = false by simpa using e2]
     refine up false (.inr (hm.resolve_left fun q => ?_))
     injection q with q1 q2
     injection q2 with q3 q4
     exact e2 q3.symm
   ·refine Ans.not e1 (up false (.inr (hm.resolve_left fun q => ?_)))
    injection q with q1 q2
    exact e1 q1.symm
theorem FnFlips : laws_FnFlips.Pure := by
 intro c m _ _ hc _ _ hm
 refine Ans.at (g := fun k => laws_FnFlips.f k c m) ?_
 simp only [laws_FnFlips.f]
 obtain ⟨b, hb⟩ := big_ans c m
 simp only [hb, Option.bind_some]
 cases b with
 | true => exact Ans.yes rfl (Ans.pure _)
 | false =>
  refine Ans.not (by simp) ?_
  obtain ⟨x, a, s, f, a0, a1, h1, h2⟩ := draw_signs c hc 0 0 5 (by omega) (by omega) (by omega) (by omega)
  obtain ⟨M, hM, mM⟩ : ∃ M, spec_l1Most.f 1 (x.length : Int) = some M ∧ M ≤ 100 := by
   simp only [spec_l1Most.f]
   split
   ·exact ⟨_, rfl, by omega⟩
   ·exact ⟨_, rfl, by omega⟩
  obtain ⟨u1, b1, t1, e1, p1, q1, u10, u11⟩ := draw_pick c hc a s M (by omega) (by omega)
  obtain ⟨u2, b2, t2, e2, p2, q2, u20, u21⟩ := draw_pick c hc b1 t1 2 (by omega) (by omega)
  obtain ⟨u3, b3, t3, e3, p3, q3, u30, u31⟩ := draw_pick c hc b2 t2 M (by omega) (by omega)
  obtain ⟨u4, b4, t4, e4, p4, q4, u40, u41⟩ := draw_pick c hc b3 t3 2 (by omega) (by omega)
  obtain ⟨i, hi⟩ : ∃ i : Nat, wrap64 (u1 + u2) = i := ⟨(u1 + u2).toNat, by rw [wrap64_in _ ⟨by omega, by omega⟩]; omega⟩
  obtain ⟨j, hj⟩ : ∃ j : Nat, wrap64 (u3 + u4) = j := ⟨(u3 + u4).toNat, by rw [wrap64_in _ ⟨by omega, by omega⟩]; omega⟩
  have D : Ans (fun k => spec_DrawFlipAt.f k c) (x, (i : Int), (j : Int)) := by
   simp only [spec_DrawFlipAt.f]
   refine f.bind ?_
   simp only [hM, e1, e2, e3, e4, hi, hj, Option.bind_some]
   exact Ans.pure _
  clear hi hj e1 e2 e3 e4
  have I := implFlipAt x (by omega) i j
  have J := specFlipAt x (by omega) i j
  refine D.bind (I.bind (J.bind (Ans.not (by simp) ((sameR (foRes_small x [[(i : Int), (j : Int)]])).bind (Ans.step ?_)))))
  simp only [laws_FnFlips.j0]
  refine Ans.not (by simp) ?_
  by_cases ok : (faRes x i j).2 = true
  case neg => exact Ans.not ok (law_j2 m hm)
  refine Ans.yes ok ?_

  have sx : sign x = true := by
   refine Classical.byContradiction fun q => ?_
   unfold faRes foRes at ok
   rw [if_neg q] at ok; simp at ok
  obtain ⟨n, hn⟩ : ∃ n, x.length = n := ⟨_, rfl⟩
  have v : faRes x i j = resO n (folO n (hgt x) [[(i : Int), (j : Int)]]) := by unfold faRes foRes; rw [if_pos sx, if_pos (by simp), hn]
  have cb : cellB n [(i : Int), (j : Int)] = true := by
   refine Classical.byContradiction fun q => ?_
   rw [v, folO, if_neg q] at ok; simp [resO] at ok
  have wz : wayH (hgt x) i j ≠ 0 := fun q => by
   rw [v, folO, if_pos cb, cI_of, cJ_of, if_pos q] at ok; simp [resO] at ok
  have w : faRes x i j = (mat n (flipH (hgt x) i j), true) := by
   rw [v, folO, if_pos cb, cI_of, cJ_of, if_neg wz]; rfl
  have cb' := cb
  rw [cellB_two] at cb'
  simp only [Bool.and_eq_true, decide_eq_true_eq] at cb'
  have ii : 1 ≤ i ∧ i < n := by omega
  have jj : 1 ≤ j ∧ j < n := by omega
  obtain ⟨ex, Hx, mx_⟩ := HT_hf sx hn
  obtain ⟨_, n1, n6, _⟩ := sign_en sx hn
  obtain ⟨y, hy⟩ : ∃ y, y = mat n (flipH (hgt x) i j) := ⟨_, rfl⟩
  rw [w, ← hy]
  have F := hf_flip Hx ii jj
  have sy : sign y = true := by rw [hy]; exact mat_sign F n1 n6
  have ly : y.length = n := by rw [hy]; exact (mat_sq n _).1
  have hg : ∀ a b, a ≤ n → b ≤ n → hgt y a b = flipH (hgt x) i j a b := fun a b ha hb => by rw [hy]; exact mat_hgt F hb a ha

  have wy : wayH (hgt y) i j = - wayH (hgt x) i j := by
   rw [← way_flip ii.1 jj.1]
   unfold wayH
   rw [hg (i - 1) j (by omega) (by omega), hg (i + 1) j (by omega) (by omega), hg i (j - 1) (by omega) (by omega), hg i (j + 1) (by omega) (by omega), hg i j (by omega) (by omega)]
  have back : faRes y i j = (x, true) := by
   unfold faRes foRes
   rw [if_pos sy, if_pos (by simp), ly, folO, if_pos cb, cI_of, cJ_of, if_neg (by omega), folO]
   show (mat n (flipH (hgt y) i j), true) = (x, true)
   rw [show mat n (flipH (hgt y) i j) = x from ?_]
   refine ext_en (mat_sq n _) (sign_en sx hn).1 fun a b ha hb => ?_
   have e := mat_en (hgt x) ha hb
   rw [mx_] at e
   have ff : ∀ a b, a ≤ n → b ≤ n → flipH (hgt y) i j a b = hgt x a b := fun a b ha hb => by
    have := congrFun (congrFun (flip_flip (h := hgt x) ii.1 jj.1) a) b
    rw [← this]
    unfold flipH putH
    rw [wy]
    have e0 := hg i j (by omega) (by omega)
    have e1 := way_flip (h := hgt x) ii.1 jj.1
    unfold flipH putH at e0 e1
    by_cases z : a = i ∧ b = j
    ·rw [if_pos z, if_pos z, e0, e1]
    ·rw [if_neg z, if_neg z, hg a b ha hb]; rfl
   rw [mat_en _ ha hb, ff a (b + 1) (by omega) (by omega), ff (a + 1) b (by omega) (by omega), ff (a + 1) (b + 1) (by omega) (by omega), ff a b (by omega) (by omega), e]

  have wb := way_b (hgt x) i j
  have rx := rank_in sx
  have ry := rank_in sy
  rw [hn] at rx
  rw [ly] at ry
  have sl := lea_sign n n1 n6
  have rk : rank y - rank x = wayH (hgt x) i j := by
   have e : dst n (hgt y) (hgt (lea n)) = dst n (hgt x) (hgt (lea n)) + 2 * wayH (hgt x) i j := by
    have lo := lea_le sx hn
    have lo2 := lea_le sy ly
    have d : dst n (hgt y) (hgt (lea n)) - dst n (hgt x) (hgt (lea n)) = S (n + 1) (fun a => S (n + 1) (fun b => if a = i ∧ b = j then 2 * wayH (hgt x) i j else 0)) := by
     unfold dst
     rw [← S_less]
     refine S_congr fun a ha => ?_
     rw [← S_less]
     refine S_congr fun b hb => ?_
     have p := lo a b (by omega) (by omega)
     have q := lo2 a b (by omega) (by omega)
     have r := hg a b (by omega) (by omega)
     unfold flipH putH at r
     by_cases z : a = i ∧ b = j
     ·obtain ⟨z1, z2⟩ := z
      subst z1 z2
      rw [if_pos ⟨rfl, rfl⟩] at r ⊢
      omega
     ·rw [if_neg z] at r ⊢; omega
    rw [S_congr (g := fun a => if a = i then 2 * wayH (hgt x) i j else 0) (fun a ha => by
     by_cases z : a = i
     ·rw [if_pos z, S_congr (g := fun b => if b = j then 2 * wayH (hgt x) i j else 0) (fun b hb => by simp [z]), S_single _ _ _ (by omega)]
     ·rw [if_neg z, S_congr (g := fun _ => 0) (fun b hb => by simp [z]), S_zero]), S_single _ _ _ (by omega)] at d
    omega
   omega
  have R1 := rankOf sx
  have R2 := rankOf sy
  have B := implFlipAt y (by omega) i j
  rw [back] at B
  have up : decide (rank y > rank x) = decide (wayH (hgt x) i j = 1) := by rw [decide_eq_decide]; omega
  have L := (flipsOf x (by omega) (decide (rank y > rank x))).1
  rw [show flRes x (decide (rank y > rank x)) = (cellsF n (fun a b => decide (wayH (hgt x) a b = if decide (rank y > rank x) = true then 1 else -1)), true) by unfold flRes; rw [if_pos sx, hn]] at L
  refine B.bind (R1.bind (R2.bind (L.bind ?_)))
  have cs := cells_small n6 (fun a b => decide (wayH (hgt x) a b = if decide (rank y > rank x) = true then 1 else -1))
  have mem : [(i : Int), (j : Int)] ∈ cellsF n (fun a b => decide (wayH (hgt x) a b = if decide (rank y > rank x) = true then 1 else -1)) := by
   refine cellsF_mem.mpr ⟨i, j, ii.1, ii.2, jj.1, jj.2, ?_, rfl⟩
   rw [decide_eq_true_eq, up]
   by_cases z : wayH (hgt x) i j = 1
   ·rw [decide_eq_true z, if_pos rfl]; exact z
   ·rw [decide_eq_false z, if_neg (by simp)]; omega
  exact law_found m hm sx sy (by omega) ⟨rx.1, rx.2.1⟩ ⟨ry.1, ry.2.1⟩ cs.1 (fun c hc => by
   obtain ⟨a, b, _, _, _, _, _, e⟩ := cellsF_mem.mp hc
   exact ⟨a, b, e⟩) (cellsF n (fun a b => decide (wayH (hgt x) a b = if decide (rank y > rank x) = true then 1 else -1))).length 0 false (Nat.zero_add _) (.inr (by rw [List.drop_zero]; exact mem))
end Go.Proofs.Ytgpmlfggfhkifaa.Pure
