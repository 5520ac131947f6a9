/- For all bytes the statement on turns and mirrors answers true: no condition. -/
import Derived.Test.YtiajdpjfofbpnaaCFnTurnsAndMirrorsx4
import Derived.Test.YtiajdpjfofbpnaaQTwo
import Derived.Test.YtiajdpjfofbpnaaQByte
import Derived.Test.YtiajdpjfofbpnaaQByte
namespace Go.Proofs.Ytiajdpjfofbpnaa.Pure
open Go.RowKit Go.Proofs.Ytiajdpjfofbpnaa.X Go.Proofs.YtiajdpjfofbpnaaW.PrintWords Go.Proofs.YtiajdpjfofbpnaaW.PrintLast Go.Proofs.Ytiajdpjfofbpnaa.Q
set_option linter.unusedVariables false
set_option linter.unusedSimpArgs false
theorem rd_L1_mem {x : List (List Int)} {i : Int} (h0 : 0 ≤ i) (h1 : i < x.length) : rd_L3 x i ∈ x := by unfold rd_L3; exact getD_mem _ (by omega)
theorem LeO.far {α : Type} {g : Nat → Option α} {r : α} (h : ∀ k, LeO (g k) (g (k + 1))) (m : Nat) (e : g m = some r) : Ans g r :=
  ⟨m, fun k hk => by
    obtain ⟨j, rfl⟩ : ∃ j, k = m + j := ⟨k - m, by omega⟩
    clear hk
    induction j with
    | zero => exact e
    | succ j ih => exact h _ r ih⟩
theorem l1In (a b c : Int) : spec_l1In.f a b c = some (decide (b ≤ a ∧ a ≤ c)) := by
  unfold spec_l1In.f
  by_cases h : a ≥ b
  · rw [if_pos h]; refine congrArg some (decide_eq_decide.mpr ⟨fun q => ⟨h, q⟩, fun q => q.2⟩)
  · rw [if_neg h, decide_eq_false (by omega)]
theorem within (a b c : Int) : impl_within.f a b c = some (decide (b ≤ a ∧ a ≤ c)) := by
  unfold impl_within.f
  by_cases h : b ≤ a
  · rw [if_pos h]; refine congrArg some (decide_eq_decide.mpr ⟨fun q => ⟨h, q⟩, fun q => q.2⟩)
  · rw [if_neg h, decide_eq_false (by omega)]
theorem containsL (x : List (List Int)) (hx : x.length ≤ 17592186044416) (g : List Int → Option Bool) (p : List Int → Bool) (hg : ∀ a, g a = some (p a)) : Ans (fun k => slices_ContainsFunc_int_int.f k x g) (x.any p) := by
  have key : ∀ (d : Nat) (i : Int), 0 ≤ i → i + d = x.length → ∃ z : Int, Ans (fun k => slices_IndexFunc_int_int.l0 k x g (x.length : Int) i) z ∧ decide (z ≥ 0) = (x.drop i.toNat).any p := by
    intro d
    induction d with
    | zero =>
      intro i h0 h1
      refine ⟨-1, Ans.step ?_, by rw [List.drop_eq_nil_of_le (by omega)]; rfl⟩
      simp only [slices_IndexFunc_int_int.l0]; exact Ans.not (by omega) (Ans.pure _)
    | succ d ih =>
      intro i h0 h1
      have hd := drop_at x [] (show i.toNat < x.length by omega)
      by_cases c : p (rd_L3 x i) = true
      · refine ⟨i, Ans.step ?_, by rw [hd, List.any_cons, show p (x.getD i.toNat []) = true from c]; simp [h0]⟩
        simp only [slices_IndexFunc_int_int.l0, hg, Option.bind_some]
        exact Ans.yes (by omega) (Ans.yes h0 (Ans.yes (by omega) (Ans.yes c (Ans.pure _))))
      · obtain ⟨z, e, hz⟩ := ih (i + 1) (by omega) (by omega)
        refine ⟨z, Ans.step ?_, by rw [hz, hd, List.any_cons, show p (x.getD i.toNat []) = false from Bool.eq_false_iff.mpr c, show (i + 1).toNat = i.toNat + 1 by omega]; simp⟩
        simp only [slices_IndexFunc_int_int.l0, hg, Option.bind_some, wrap64_up h0 (by omega : i ≤ 4611686018427387904)]
        exact Ans.yes (by omega) (Ans.yes h0 (Ans.yes (by omega) (Ans.not c e)))
  obtain ⟨z, e, hz⟩ := key x.length 0 (by omega) (by omega)
  simp only [slices_ContainsFunc_int_int.f, slices_IndexFunc_int_int.f]
  have := e.bind (h := fun _ t => some (decide (t ≥ 0))) (Ans.pure (decide (z ≥ 0)))
  rwa [hz] at this
theorem isSquare (x : List (List Int)) (hx : x.length ≤ 17592186044416) : Ans (fun k => impl_isSquare.f k x) (x.all fun r => decide (r.length = x.length)) := by
  have e := containsL x hx (fun x0_ => impl_isSquare_1.f x0_ x) (fun r => (r.length : Int) != (x.length : Int)) (fun a => rfl)
  have := e.bind (h := fun _ t => some (!t)) (Ans.pure _)
  rw [List.not_any_eq_all_not] at this
  rwa [show (fun r : List Int => !((r.length : Int) != (x.length : Int))) = fun r => decide (r.length = x.length) from funext fun r => by by_cases h : r.length = x.length <;> simp [bne, h]; omega] at this
def colOf (x : List (List Int)) (j : Int) : List Int := x.map fun r => rd r j
theorem range_drop {n i : Nat} (h : i < n) : (List.range n).drop i = i :: (List.range n).drop (i + 1) := by
  rw [drop_at (List.range n) 0 (by simpa using h), getD_at _ _ (by simpa using h), List.getElem_range]
theorem sgTurn (x : List (List Int)) (h : x.length ≤ 1048576) (hr : ∀ r ∈ x, r.length = x.length) : Ans (fun k => spec_sgTurn.f k x) ((List.range x.length).map fun (j : Nat) => colOf x j) := by
  have inner : ∀ (out : List (List Int)) (j : Int) (R : List (List Int)), 0 ≤ j → j < x.length → out.length ≤ 1048576 → ∀ (d : Nat) (i : Int) (acc : List Int), 0 ≤ i → i + d = x.length → acc.length + d ≤ 1048576 →
      Ans (fun k => spec_sgTurn.l0 k x (out ++ [acc ++ colOf (x.drop i.toNat) j]) (x.length : Int) (j + 1)) R → Ans (fun k => spec_sgTurn.l1 k x out j acc (x.length : Int) j x (x.length : Int) i) R := by
    intro out j R hj hj' ho d
    induction d with
    | zero =>
      intro i acc h0 h1 h2 e
      rw [List.drop_eq_nil_of_le (by omega), colOf, List.map_nil, List.append_nil] at e; refine Ans.step ?_
      simp only [spec_sgTurn.l1, wrap64_up hj (by omega : j ≤ 4611686018427387904)]; exact Ans.not (by omega) (Ans.yes (by omega) e)
    | succ d ih =>
      intro i acc h0 h1 h2 e
      have hm := rd_L1_mem h0 (show i < x.length by omega)
      rw [drop_at x [] (show i.toNat < x.length by omega), show x.getD i.toNat [] = rd_L3 x i from rfl] at e
      refine Ans.step ?_
      simp only [spec_sgTurn.l1, wrap64_up h0 (by omega : i ≤ 4611686018427387904)]
      refine Ans.yes (by omega) (Ans.yes h0 (Ans.yes (by omega) (Ans.yes hj (Ans.yes (by have := hr _ hm; omega) (Ans.yes (by omega) (ih (i + 1) _ (by omega) (by omega) (by simp only [List.length_append, List.length_singleton]; omega) ?_))))))
      rw [show (i + 1).toNat = i.toNat + 1 by omega, List.append_assoc, List.singleton_append]
      exact e
  have key : ∀ (d : Nat) (j : Int) (out : List (List Int)), 0 ≤ j → j + d = x.length → out.length + d ≤ 1048576 → Ans (fun k => spec_sgTurn.l0 k x out (x.length : Int) j) (out ++ ((List.range x.length).drop j.toNat).map fun (j : Nat) => colOf x j) := by
    intro d
    induction d with
    | zero =>
      intro j out h0 h1 h2
      rw [List.drop_eq_nil_of_le (by simp only [List.length_range]; omega), List.map_nil, List.append_nil]; refine Ans.step ?_
      simp only [spec_sgTurn.l0]; exact Ans.not (by omega) (Ans.pure _)
    | succ d ih =>
      intro j out h0 h1 h2
      have e := ih (j + 1) (out ++ [colOf x j]) (by omega) (by omega) (by simp only [List.length_append, List.length_singleton]; omega)
      rw [show (j + 1).toNat = j.toNat + 1 by omega, List.append_assoc, List.singleton_append] at e
      rw [range_drop (show j.toNat < x.length by omega), List.map_cons, show ((j.toNat : Nat) : Int) = j by omega]
      refine Ans.step ?_
      simp only [spec_sgTurn.l0]
      exact Ans.yes (by omega) (inner out j _ h0 (by omega) (by omega) x.length 0 [] (by omega) (by omega) (by simp only [List.length_nil]; omega) e)
  exact key x.length 0 [] (by omega) (by omega) (by simp only [List.length_nil]; omega)
/-- The numbers are -1, 0, 1, and their sums from s on are 0 or 1, the last one 1. -/
def walkOk : Int → List Int → Bool
  | s, [] => s == 1
  | s, a :: x => decide (-1 ≤ a ∧ a ≤ 1) && (decide (0 ≤ s + a ∧ s + a ≤ 1) && walkOk (s + a) x)
theorem alternate (x : List Int) (hx : x.length ≤ 17592186044416) : Ans (fun k => impl_alternate.f k x) (walkOk 0 x) := by
  have key : ∀ (d : Nat) (i s : Int), 0 ≤ i → i + d = x.length → 0 ≤ s → s ≤ 1 → Ans (fun k => impl_alternate.l0 k s x (x.length : Int) i) (walkOk s (x.drop i.toNat)) := by
    intro d
    induction d with
    | zero =>
      intro i s h0 h1 s0 s1
      rw [List.drop_eq_nil_of_le (by omega)]; refine Ans.step ?_
      simp only [impl_alternate.l0]; exact Ans.not (by omega) (Ans.pure _)
    | succ d ih =>
      intro i s h0 h1 s0 s1
      rw [drop_at x 0 (show i.toNat < x.length by omega), show x.getD i.toNat 0 = rd x i from rfl, walkOk]
      refine Ans.step ?_
      simp only [impl_alternate.l0, within, Option.bind_some, wrap64_up h0 (by omega : i ≤ 4611686018427387904)]
      refine Ans.yes (by omega) (Ans.yes h0 (Ans.yes (by omega) ?_))
      by_cases c1 : decide (-1 ≤ rd x i ∧ rd x i ≤ 1) = true
      · have b1 := of_decide_eq_true c1
        have hw : wrap64 (s + rd x i) = s + rd x i := wrap64_in _ ⟨by omega, by omega⟩
        simp only [hw]
        rw [c1, Bool.true_and]
        refine Ans.yes rfl ?_
        by_cases c2 : decide (0 ≤ s + rd x i ∧ s + rd x i ≤ 1) = true
        · have b2 := of_decide_eq_true c2
          have e := ih (i + 1) (s + rd x i) (by omega) (by omega) b2.1 b2.2
          rw [show (i + 1).toNat = i.toNat + 1 by omega] at e
          rw [c2, Bool.true_and]; exact Ans.yes rfl e
        · rw [Bool.eq_false_iff.mpr c2, Bool.false_and]; exact Ans.not (by simp) (Ans.pure _)
      · rw [Bool.eq_false_iff.mpr c1, Bool.false_and]; exact Ans.not (by simp) (Ans.pure _)
  exact key x.length 0 0 (by omega) (by omega) (by omega) (by omega)
theorem sgRows (x : List (List Int)) (hx : x.length ≤ 17592186044416) (hr : ∀ r ∈ x, r.length ≤ 17592186044416) : Ans (fun k => spec_sgRows.f k x) (x.all (walkOk 0)) := by
  have inner : ∀ (row : List Int) (m : Int) (R : Bool), row.length ≤ 17592186044416 → 0 ≤ m → m ≤ 17592186044416 → Ans (fun k => spec_sgRows.l0 k x (x.length : Int) (m + 1)) R →
      ∀ (d : Nat) (i s : Int), 0 ≤ i → i + d = row.length → 0 ≤ s → s ≤ 1 → Ans (fun k => spec_sgRows.l1 k s x (x.length : Int) m row (row.length : Int) i) (walkOk s (row.drop i.toNat) && R) := by
    intro row m R hrow hm hm' e d
    induction d with
    | zero =>
      intro i s h0 h1 s0 s1
      rw [List.drop_eq_nil_of_le (by omega), walkOk]; refine Ans.step ?_
      simp only [spec_sgRows.l1, wrap64_up hm (by omega : m ≤ 4611686018427387904)]
      refine Ans.not (by omega) ?_
      by_cases c : s = 1
      · rw [show (s == 1) = true by simp [c], Bool.true_and]; exact Ans.yes c e
      · rw [show (s == 1) = false by simp [c], Bool.false_and]; exact Ans.not c (Ans.pure _)
    | succ d ih =>
      intro i s h0 h1 s0 s1
      rw [drop_at row 0 (show i.toNat < row.length by omega), show row.getD i.toNat 0 = rd row i from rfl, walkOk]
      refine Ans.step ?_
      simp only [spec_sgRows.l1, l1In, Option.bind_some, wrap64_up h0 (by omega : i ≤ 4611686018427387904)]
      refine Ans.yes (by omega) (Ans.yes h0 (Ans.yes (by omega) ?_))
      by_cases c1 : decide (-1 ≤ rd row i ∧ rd row i ≤ 1) = true
      · have b1 := of_decide_eq_true c1
        have hw : wrap64 (s + rd row i) = s + rd row i := wrap64_in _ ⟨by omega, by omega⟩
        simp only [hw]
        rw [c1, Bool.true_and]
        refine Ans.yes rfl ?_
        by_cases c2 : decide (0 ≤ s + rd row i ∧ s + rd row i ≤ 1) = true
        · have b2 := of_decide_eq_true c2
          have e := ih (i + 1) (s + rd row i) (by omega) (by omega) b2.1 b2.2
          rw [show (i + 1).toNat = i.toNat + 1 by omega] at e
          rw [c2, Bool.true_and]; exact Ans.yes rfl e
        · rw [Bool.eq_false_iff.mpr c2, Bool.false_and, Bool.false_and]; exact Ans.not (by simp) (Ans.pure _)
      · rw [Bool.eq_false_iff.mpr c1, Bool.false_and, Bool.false_and]; exact Ans.not (by simp) (Ans.pure _)
  have key : ∀ (d : Nat) (i : Int), 0 ≤ i → i + d = x.length → Ans (fun k => spec_sgRows.l0 k x (x.length : Int) i) ((x.drop i.toNat).all (walkOk 0)) := by
    intro d
    induction d with
    | zero =>
      intro i h0 h1
      rw [List.drop_eq_nil_of_le (by omega)]; refine Ans.step ?_
      simp only [spec_sgRows.l0]; exact Ans.not (by omega) (Ans.pure _)
    | succ d ih =>
      intro i h0 h1
      have hm := rd_L1_mem h0 (show i < x.length by omega)
      rw [drop_at x [] (show i.toNat < x.length by omega), show x.getD i.toNat [] = rd_L3 x i from rfl, List.all_cons]
      have e := ih (i + 1) (by omega) (by omega)
      rw [show (i + 1).toNat = i.toNat + 1 by omega] at e
      refine Ans.step ?_
      simp only [spec_sgRows.l0]
      exact Ans.yes (by omega) (Ans.yes h0 (Ans.yes (by omega) (inner _ i _ (hr _ hm) h0 (by omega) e _ 0 0 (by omega) (show (0 : Int) + ((rd_L3 x i).length : Nat) = _ by omega) (by omega) (by omega))))
  exact key x.length 0 (by omega) (by omega)
theorem column (x : List (List Int)) (j : Int) (h : x.length ≤ 1048576) (hj : 0 ≤ j) (hr : ∀ r ∈ x, j < r.length) : Ans (fun k => impl_column.f k x j) (colOf x j) := by
  have key : ∀ (d : Nat) (i : Int) (acc : List Int), 0 ≤ i → i + d = x.length → acc.length + d ≤ 1048576 → Ans (fun k => impl_column.l0 k j acc x (x.length : Int) i) (acc ++ colOf (x.drop i.toNat) j) := by
    intro d
    induction d with
    | zero =>
      intro i acc h0 h1 h2
      rw [List.drop_eq_nil_of_le (by omega), colOf, List.map_nil, List.append_nil]; refine Ans.step ?_
      simp only [impl_column.l0]; exact Ans.not (by omega) (Ans.pure _)
    | succ d ih =>
      intro i acc h0 h1 h2
      have hm := rd_L1_mem h0 (show i < x.length by omega)
      have e := ih (i + 1) (acc ++ [rd (rd_L3 x i) j]) (by omega) (by omega) (by simp only [List.length_append, List.length_singleton]; omega)
      rw [show (i + 1).toNat = i.toNat + 1 by omega, List.append_assoc, List.singleton_append] at e
      rw [drop_at x [] (show i.toNat < x.length by omega), show x.getD i.toNat [] = rd_L3 x i from rfl]
      refine Ans.step ?_
      simp only [impl_column.l0, wrap64_up h0 (by omega : i ≤ 4611686018427387904)]
      exact Ans.yes (by omega) (Ans.yes h0 (Ans.yes (by omega) (Ans.yes hj (Ans.yes (hr _ hm) (Ans.yes (by omega) e)))))
  exact key x.length 0 [] (by omega) (by omega) (by simp only [List.length_nil]; omega)
theorem sgSquare (x : List (List Int)) (h : x.length ≤ 1048576) : Ans (fun k => spec_sgSquare.f k x) (decide (1 ≤ x.length ∧ x.length ≤ 6) && x.all fun r => decide (r.length = x.length)) := by
  have key : ∀ (d : Nat) (i : Int), 0 ≤ i → i + d = x.length → Ans (fun k => spec_sgSquare.l0 k x x (x.length : Int) i) ((x.drop i.toNat).all fun r => decide (r.length = x.length)) := by
    intro d
    induction d with
    | zero =>
      intro i h0 h1
      rw [List.drop_eq_nil_of_le (by omega)]; refine Ans.step ?_
      simp only [spec_sgSquare.l0]; exact Ans.not (by omega) (Ans.pure _)
    | succ d ih =>
      intro i h0 h1
      rw [drop_at x [] (show i.toNat < x.length by omega), show x.getD i.toNat [] = rd_L3 x i from rfl, List.all_cons]
      have e := ih (i + 1) (by omega) (by omega)
      rw [show (i + 1).toNat = i.toNat + 1 by omega] at e
      refine Ans.step ?_
      simp only [spec_sgSquare.l0, wrap64_up h0 (by omega : i ≤ 4611686018427387904)]
      refine Ans.yes (by omega) (Ans.yes h0 (Ans.yes (by omega) ?_))
      by_cases c : (rd_L3 x i).length = x.length
      · rw [decide_eq_true c, Bool.true_and]; exact Ans.yes (by omega) e
      · rw [decide_eq_false c, Bool.false_and]; exact Ans.not (by omega) (Ans.pure _)
  simp only [spec_sgSquare.f, l1In, Option.bind_some]
  by_cases c : decide ((1 : Int) ≤ (x.length : Int) ∧ (x.length : Int) ≤ 6) = true
  · have b := of_decide_eq_true c
    rw [show decide (1 ≤ x.length ∧ x.length ≤ 6) = true from decide_eq_true ⟨by omega, by omega⟩, Bool.true_and]
    exact Ans.yes c (key x.length 0 (by omega) (by omega))
  · have b : ¬ ((1 : Int) ≤ (x.length : Int) ∧ (x.length : Int) ≤ 6) := fun h => c (decide_eq_true h)
    rw [show decide (1 ≤ x.length ∧ x.length ≤ 6) = false from decide_eq_false (by omega), Bool.false_and]
    exact Ans.not c (Ans.pure _)
/-- What a sign matrix is, in plain words: square, up to six rows, rows and columns that alternate. -/
def sign (x : List (List Int)) : Bool :=
  (decide (1 ≤ x.length ∧ x.length ≤ 6) && x.all fun r => decide (r.length = x.length)) && (x.all (walkOk 0) && (List.range x.length).all fun (j : Nat) => walkOk 0 (colOf x j))
theorem square_of {x : List (List Int)} (h : (decide (1 ≤ x.length ∧ x.length ≤ 6) && x.all fun r => decide (r.length = x.length)) = true) : 1 ≤ x.length ∧ x.length ≤ 6 ∧ ∀ r ∈ x, r.length = x.length := by
  rw [Bool.and_eq_true] at h
  have b := of_decide_eq_true h.1
  exact ⟨b.1, b.2, fun r hr => of_decide_eq_true (List.all_eq_true.mp h.2 r hr)⟩
theorem sgGood (x : List (List Int)) (h : x.length ≤ 1048576) : Ans (fun k => spec_sgGood.f k x) (sign x) := by
  simp only [spec_sgGood.f]
  refine (sgSquare x h).bind ?_
  unfold sign
  by_cases c : (decide (1 ≤ x.length ∧ x.length ≤ 6) && x.all fun r => decide (r.length = x.length)) = true
  · obtain ⟨b1, b2, b3⟩ := square_of c
    rw [c, Bool.true_and]
    refine Ans.yes rfl ((sgRows x (by omega) (fun r hr => by have := b3 r hr; omega)).bind ?_)
    by_cases c2 : x.all (walkOk 0) = true
    · rw [c2, Bool.true_and]
      have e := sgRows ((List.range x.length).map fun (j : Nat) => colOf x j) (by simp only [List.length_map, List.length_range]; omega) (fun r hr => by
        obtain ⟨j, _, rfl⟩ := List.mem_map.1 hr
        simp only [colOf, List.length_map]; omega)
      rw [List.all_map] at e
      exact Ans.yes rfl ((sgTurn x h b3).bind (e.bind (Ans.pure _)))
    · rw [Bool.eq_false_iff.mpr c2, Bool.false_and]; exact Ans.not (by simp) (Ans.pure _)
  · rw [Bool.eq_false_iff.mpr c, Bool.false_and]; exact Ans.not (by simp) (Ans.pure _)
theorem isSign (x : List (List Int)) (h : x.length ≤ 1048576) : Ans (fun k => impl_IsSignMatrix.f k x) (sign x) := by
  have no : Ans (fun k => impl_IsSignMatrix.j0 k x true) false := by
    refine Ans.step ?_; simp only [impl_IsSignMatrix.j0]; exact Ans.yes (by simp) (Ans.pure _)
  simp only [impl_IsSignMatrix.f, impl_isSide.f, within, Option.bind_some]
  by_cases c : decide ((1 : Int) ≤ (x.length : Int) ∧ (x.length : Int) ≤ 6) = true
  · have b := of_decide_eq_true c
    refine Ans.yes c ((isSquare x (by omega)).bind ?_)
    unfold sign
    rw [show decide (1 ≤ x.length ∧ x.length ≤ 6) = true from decide_eq_true ⟨by omega, by omega⟩, Bool.true_and]
    by_cases c2 : (x.all fun r => decide (r.length = x.length)) = true
    · rw [c2, Bool.true_and]
      have b3 : ∀ r ∈ x, r.length = x.length := fun r hr => of_decide_eq_true (List.all_eq_true.mp c2 r hr)
      have key : ∀ (d : Nat) (i : Int), 0 ≤ i → i + d = x.length → Ans (fun k => impl_IsSignMatrix.l0 k x (x.length : Int) i) ((x.drop i.toNat).all (walkOk 0) && ((List.range x.length).drop i.toNat).all fun (j : Nat) => walkOk 0 (colOf x j)) := by
        intro d
        induction d with
        | zero =>
          intro i h0 h1
          rw [List.drop_eq_nil_of_le (by omega), List.drop_eq_nil_of_le (by simp only [List.length_range]; omega)]; refine Ans.step ?_
          simp only [impl_IsSignMatrix.l0]; exact Ans.not (by omega) (Ans.pure _)
        | succ d ih =>
          intro i h0 h1
          have hm := rd_L1_mem h0 (show i < x.length by omega)
          have e := ih (i + 1) (by omega) (by omega)
          rw [show (i + 1).toNat = i.toNat + 1 by omega] at e
          rw [drop_at x [] (show i.toNat < x.length by omega), show x.getD i.toNat [] = rd_L3 x i from rfl, range_drop (show i.toNat < x.length by omega), List.all_cons, List.all_cons, show ((i.toNat : Nat) : Int) = i by omega]
          refine Ans.step ?_
          simp only [impl_IsSignMatrix.l0, wrap64_up h0 (by omega : i ≤ 4611686018427387904)]
          refine Ans.yes (by omega) (Ans.yes h0 (Ans.yes (by omega) ((alternate _ (by have := b3 _ hm; omega)).bind ?_)))
          by_cases q1 : walkOk 0 (rd_L3 x i) = true
          · rw [q1, Bool.true_and]
            refine Ans.yes rfl ((column x i h h0 (fun r hr => by have := b3 r hr; omega)).bind ((alternate _ (by simp only [colOf, List.length_map]; omega)).bind ?_))
            by_cases q2 : walkOk 0 (colOf x i) = true
            · rw [q2, Bool.true_and]; exact Ans.yes rfl e
            · rw [Bool.eq_false_iff.mpr q2, Bool.false_and, Bool.and_false]; exact Ans.not (by simp) (Ans.pure _)
          · rw [Bool.eq_false_iff.mpr q1, Bool.false_and, Bool.false_and]; exact Ans.not (by simp) (Ans.pure _)
      refine Ans.step ?_
      simp only [impl_IsSignMatrix.j0]
      exact Ans.not (by simp) (key x.length 0 (by omega) (by omega))
    · rw [Bool.eq_false_iff.mpr c2, Bool.false_and]; exact no
  · have b : ¬ ((1 : Int) ≤ (x.length : Int) ∧ (x.length : Int) ≤ 6) := fun h => c (decide_eq_true h)
    unfold sign
    rw [show decide (1 ≤ x.length ∧ x.length ≤ 6) = false from decide_eq_false (by omega), Bool.false_and, Bool.false_and]
    exact Ans.not c no
def tab (r c : Nat) (v : Nat → Nat → Int) : List (List Int) := (List.range r).map fun i => (List.range c).map fun j => v i j
theorem table_row (c : Nat) (hc : c ≤ 1048576) (g : Int → Int → Option Int) (v : Nat → Int) (n : Int) (i : Nat) (hi : i ≤ 1048576) (hg : ∀ j : Nat, j < c → g i j = some (v j)) {R : List (List Int)} :
    ∀ (d j : Nat) (y : List (List Int)), j + d = c → i < y.length → (y.getD i []).length = c → Ans (fun k => impl_table.l0 k c g (y.set i ((y.getD i []).take j ++ ((List.range c).drop j).map v)) n ((i + 1 : Nat) : Int)) R →
      Ans (fun k => impl_table.l1 k c g y i n i (c : Int) j) R := by
  intro d
  induction d with
  | zero =>
    intro j y h1 h2 h3 e
    rw [List.drop_eq_nil_of_le (by simp only [List.length_range]; omega), List.map_nil, List.append_nil, List.take_of_length_le (by omega), set_same y [] i h2] at e
    refine Ans.step ?_
    simp only [impl_table.l1, wrap64_up (show (0 : Int) ≤ (i : Int) by omega) (by omega : (i : Int) ≤ 4611686018427387904)]
    refine Ans.not (by omega) ?_
    rw [show ((i + 1 : Nat) : Int) = (i : Int) + 1 by omega] at e
    exact e
  | succ d ih =>
    intro j y h1 h2 h3 e
    have hrow : rd_L3 y (i : Int) = y.getD i [] := by unfold rd_L3; rw [Int.toNat_natCast]
    refine Ans.step ?_
    simp only [impl_table.l1, hg j (by omega), Option.bind_some, wrap64_up (show (0 : Int) ≤ (j : Int) by omega) (by omega : (j : Int) ≤ 4611686018427387904), hrow, Int.toNat_natCast]
    refine Ans.yes (by omega) (Ans.yes (by omega) (Ans.yes (by omega) (Ans.yes (by omega) (Ans.yes (by omega) ?_))))
    have hj : j < (y.getD i []).length := by omega
    obtain ⟨t1, _⟩ := take_set_drop (y.getD i []) j (v j) hj
    have hget : (y.set i ((y.getD i []).set j (v j))).getD i [] = (y.getD i []).set j (v j) := by
      rw [getD_at _ _ (by simpa using h2)]; simp
    have := ih (j + 1) (y.set i ((y.getD i []).set j (v j))) (by omega) (by simpa using h2) (by rw [hget]; simpa using h3) (by
      rw [hget, List.set_set, t1, List.append_assoc]
      rw [range_drop (show j < c by omega), List.map_cons] at e
      exact e)
    rwa [show ((j + 1 : Nat) : Int) = (j : Int) + 1 by omega] at this
theorem table (r c : Nat) (hr : r ≤ 1048576) (hc : c ≤ 1048576) (g : Int → Int → Option Int) (v : Nat → Nat → Int) (hg : ∀ i j : Nat, i < r → j < c → g i j = some (v i j)) : Ans (fun k => impl_table.f k r c g) (tab r c v) := by
  have key : ∀ (d i : Nat) (y : List (List Int)), i + d = r → y.length = r → Ans (fun k => impl_table.l0 k c g y (r : Int) i) (y.take i ++ ((List.range r).drop i).map fun i => (List.range c).map fun j => v i j) := by
    intro d
    induction d with
    | zero =>
      intro i y h1 h2
      rw [List.drop_eq_nil_of_le (by simp only [List.length_range]; omega), List.map_nil, List.append_nil, List.take_of_length_le (by omega)]; refine Ans.step ?_
      simp only [impl_table.l0]; exact Ans.not (by omega) (Ans.pure _)
    | succ d ih =>
      intro i y h1 h2
      have hi : i < y.length := by omega
      have hget : (y.set i (List.replicate c 0)).getD i [] = List.replicate c 0 := by rw [getD_at _ _ (by simpa using hi)]; simp
      obtain ⟨t1, _⟩ := take_set_drop y i ((List.range c).map fun j => v i j) hi
      have e := ih (i + 1) (y.set i ((List.range c).map fun j => v i j)) (by omega) (by simpa using h2)
      rw [t1, List.append_assoc, List.singleton_append] at e
      rw [range_drop (show i < r by omega), List.map_cons]
      have hrow : rd_L3 (y.set i (List.replicate c 0)) (i : Int) = List.replicate c 0 := by unfold rd_L3; rw [Int.toNat_natCast]; exact hget
      refine Ans.step ?_
      simp only [impl_table.l0, Option.bind_some, Int.toNat_natCast, hrow, List.length_replicate]
      refine Ans.yes (by omega) (Ans.yes (by omega) (Ans.yes (by omega) (Ans.yes (by omega) (Ans.yes (by omega) ?_))))
      have := table_row c hc g (v i) (r : Int) i (by omega) (fun j hj => hg i j (by omega) hj) c 0 (y.set i (List.replicate c 0)) (by omega) (by simpa using hi) (by rw [hget]; simp) (by
        rw [List.set_set, List.take_zero, List.drop_zero, List.nil_append]; exact e)
      exact this
  simp only [impl_table.f, Option.bind_some, Int.toNat_natCast, List.length_replicate]
  refine Ans.yes (by omega) (Ans.yes (by omega) ?_)
  have := key r 0 (List.replicate r []) (by omega) (by simp)
  simpa [tab] using this
def cmpI (a b : Int) : Int := if a < b then -1 else if a > b then 1 else 0
theorem cmpI_zero {a b : Int} : cmpI a b = 0 ↔ a = b := by
  unfold cmpI; split
  · constructor <;> intro h <;> omega
  · split
    · constructor <;> intro h <;> omega
    · constructor <;> intro h <;> omega
def lexBy {α : Type} (c : α → α → Int) : List α → List α → Int
  | [], [] => 0
  | [], _ :: _ => -1
  | _ :: _, [] => 1
  | a :: x, b :: y => if c a b = 0 then lexBy c x y else c a b
theorem lexBy_zero {α : Type} {c : α → α → Int} (hc : ∀ a b, c a b = 0 ↔ a = b) : ∀ (x y : List α), lexBy c x y = 0 ↔ x = y
  | [], [] => by simp [lexBy]
  | [], _ :: _ => by simp [lexBy]
  | _ :: _, [] => by simp [lexBy]
  | a :: x, b :: y => by
    rw [lexBy]
    by_cases h : c a b = 0
    · rw [if_pos h, lexBy_zero hc x y, (hc a b).mp h]; simp
    · rw [if_neg h]; constructor
      · intro e; exact absurd e h
      · intro e; exact absurd ((hc a b).mpr (List.cons.inj e).1) h
def cmpL : List Int → List Int → Int := lexBy cmpI
def cmpLL : List (List Int) → List (List Int) → Int := lexBy cmpL
theorem cmpInt (a b : Int) : cmp_Compare_int.f a b = some (cmpI a b) := by
  simp only [cmp_Compare_int.f, cmp_isNaN_int.f, Option.bind_some, cmpI]
  simp
  repeat' split
  all_goals rfl
theorem compare (x y : List Int) (hx : x.length ≤ 17592186044416) (hy : y.length ≤ 17592186044416) (k : Nat) (hk : x.length < k) : slices_Compare_int_int.f k x y = some (cmpL x y) := by
  have key : ∀ (d : Nat) (i : Int), 0 ≤ i → i + d = x.length → i ≤ y.length → ∀ k, d < k → slices_Compare_int_int.l0 k x y x (x.length : Int) i = some (cmpL (x.drop i.toNat) (y.drop i.toNat)) := by
    intro d
    induction d with
    | zero =>
      intro i h0 h1 h2 k hk; obtain ⟨j, rfl⟩ : ∃ j, k = j + 1 := ⟨k - 1, by omega⟩
      unfold slices_Compare_int_int.l0
      rw [if_neg (by omega), drop_all x (by omega)]
      by_cases c : (x.length : Int) < (y.length : Int)
      · rw [if_pos c, drop_at y 0 (show i.toNat < y.length by omega)]; rfl
      · rw [if_neg c, drop_all y (by omega)]; rfl
    | succ d ih =>
      intro i h0 h1 h2 k hk; obtain ⟨j, rfl⟩ : ∃ j, k = j + 1 := ⟨k - 1, by omega⟩
      unfold slices_Compare_int_int.l0
      rw [if_pos (by omega), if_pos h0, if_pos (by omega), drop_at x 0 (show i.toNat < x.length by omega)]
      by_cases c : i ≥ (y.length : Int)
      · rw [if_pos c, drop_all y (by omega)]; rfl
      · rw [if_neg c, if_pos (by omega), cmpInt, Option.bind_some, drop_at y 0 (show i.toNat < y.length by omega), wrap64_up h0 (by omega)]
        show (if cmpI (rd x i) (rd y i) = 0 then _ else _) = some (if cmpI (rd x i) (rd y i) = 0 then lexBy cmpI (x.drop (i.toNat + 1)) (y.drop (i.toNat + 1)) else cmpI (rd x i) (rd y i))
        by_cases q : cmpI (rd x i) (rd y i) = 0
        · rw [if_pos q, if_pos q, ih (i + 1) (by omega) (by omega) (by omega) j (by omega), show (i + 1).toNat = i.toNat + 1 by omega]; rfl
        · rw [if_neg q, if_neg q]
  exact key x.length 0 (by omega) (by omega) (by omega) k (by omega)
theorem compareTables (x y : List (List Int)) (hx : x.length ≤ 1048576) (hy : y.length ≤ 1048576) (hrx : ∀ r ∈ x, r.length ≤ 1048576) (hry : ∀ r ∈ y, r.length ≤ 1048576) : Ans (fun k => impl_compareTables.f k x y) (cmpLL x y) := by
  refine Ans.from 1048577 fun k0 hk0 => ?_
  unfold impl_compareTables.f slices_CompareFunc_int_int_int_int.f
  have key : ∀ (d : Nat) (i : Int), 0 ≤ i → i + d = x.length → i ≤ y.length → ∀ k, d < k → slices_CompareFunc_int_int_int_int.l0 k x y (fun x0_ x1_ => impl_compareTables_1.f k0 x0_ x1_) x (x.length : Int) i = some (cmpLL (x.drop i.toNat) (y.drop i.toNat)) := by
    intro d
    induction d with
    | zero =>
      intro i h0 h1 h2 k hk; obtain ⟨j, rfl⟩ : ∃ j, k = j + 1 := ⟨k - 1, by omega⟩
      unfold slices_CompareFunc_int_int_int_int.l0
      rw [if_neg (by omega), drop_all x (by omega)]
      by_cases c : (x.length : Int) < (y.length : Int)
      · rw [if_pos c, drop_at y [] (show i.toNat < y.length by omega)]; rfl
      · rw [if_neg c, drop_all y (by omega)]; rfl
    | succ d ih =>
      intro i h0 h1 h2 k hk; obtain ⟨j, rfl⟩ : ∃ j, k = j + 1 := ⟨k - 1, by omega⟩
      unfold slices_CompareFunc_int_int_int_int.l0
      rw [if_pos (by omega), if_pos h0, if_pos (by omega), drop_at x [] (show i.toNat < x.length by omega)]
      by_cases c : i ≥ (y.length : Int)
      · rw [if_pos c, drop_all y (by omega)]; rfl
      · have m1 := hrx _ (rd_L1_mem h0 (show i < x.length by omega))
        have m2 := hry _ (rd_L1_mem h0 (show i < y.length by omega))
        rw [if_neg c, if_pos (by omega)]
        simp only [impl_compareTables_1.f]
        rw [compare _ _ (by omega) (by omega) k0 (by omega), Option.bind_some, Option.bind_some, drop_at y [] (show i.toNat < y.length by omega), wrap64_up h0 (by omega)]
        show (if cmpL (rd_L3 x i) (rd_L3 y i) = 0 then _ else _) = some (if cmpL (rd_L3 x i) (rd_L3 y i) = 0 then lexBy cmpL (x.drop (i.toNat + 1)) (y.drop (i.toNat + 1)) else cmpL (rd_L3 x i) (rd_L3 y i))
        by_cases q : cmpL (rd_L3 x i) (rd_L3 y i) = 0
        · rw [if_pos q, if_pos q]
          have := ih (i + 1) (by omega) (by omega) (by omega) j (by omega)
          simp only [impl_compareTables_1.f] at this
          rw [this, show (i + 1).toNat = i.toNat + 1 by omega]; rfl
        · rw [if_neg q, if_neg q]
  have := key x.length 0 (by omega) (by omega) (by omega) k0 (by omega)
  rw [this]; rfl
/-- Square, with n rows. -/
def Sq (n : Nat) (x : List (List Int)) : Prop := x.length = n ∧ ∀ r ∈ x, r.length = n
theorem Sq.row {n : Nat} {x : List (List Int)} (h : Sq n x) {i : Nat} (hi : i < n) : (x.getD i []).length = n := h.2 _ (getD_mem [] (by rw [h.1]; exact hi))
theorem tab_is {n : Nat} {y : List (List Int)} (h : Sq n y) (v : Nat → Nat → Int) (hv : ∀ i j : Nat, i < n → j < n → v i j = (y.getD i []).getD j 0) : tab n n v = y := by
  refine List.ext_getElem (by simp [tab, h.1]) fun i h1 h2 => ?_
  have hi : i < n := by rw [← h.1]; exact h2
  have hr := h.row hi
  rw [show (tab n n v)[i] = (List.range n).map (fun j => v i j) by simp [tab], ← getD_at y [] h2]
  refine List.ext_getElem (by simp only [List.length_map, List.length_range]; exact hr.symm) fun j g1 g2 => ?_
  rw [List.getElem_map, List.getElem_range, hv i j hi (by rw [← hr]; exact g2), getD_at _ _ g2]
theorem ext_sq {n : Nat} {x y : List (List Int)} (hx : Sq n x) (hy : Sq n y) (h : ∀ i j : Nat, i < n → j < n → (x.getD i []).getD j 0 = (y.getD i []).getD j 0) : x = y := by
  rw [← tab_is hx (fun i j => (x.getD i []).getD j 0) (fun _ _ _ _ => rfl), tab_is hy _ h]
def mir (x : List (List Int)) : List (List Int) := x.map List.reverse
def tr (x : List (List Int)) : List (List Int) := (List.range x.length).map fun (j : Nat) => colOf x j
def cw (x : List (List Int)) : List (List Int) := mir (tr x)
theorem mir_sq {n : Nat} {x : List (List Int)} (h : Sq n x) : Sq n (mir x) := ⟨by simp [mir, h.1], fun r hr => by obtain ⟨a, ha, rfl⟩ := List.mem_map.1 hr; rw [List.length_reverse]; exact h.2 a ha⟩
theorem tr_sq {n : Nat} {x : List (List Int)} (h : Sq n x) : Sq n (tr x) := ⟨by simp [tr, h.1], fun r hr => by obtain ⟨a, ha, rfl⟩ := List.mem_map.1 hr; simp [colOf, h.1]⟩
theorem cw_sq {n : Nat} {x : List (List Int)} (h : Sq n x) : Sq n (cw x) := mir_sq (tr_sq h)
theorem rev_at (x : List Int) {n j : Nat} (hl : x.length = n) (h : j < n) : x.reverse.getD j 0 = x.getD (n - 1 - j) 0 := by
  rw [getD_at _ _ (by simp; omega), getD_at _ _ (by omega), List.getElem_reverse]; congr 1; omega
theorem mir_at {n : Nat} {x : List (List Int)} (h : Sq n x) {i j : Nat} (hi : i < n) (hj : j < n) : ((mir x).getD i []).getD j 0 = (x.getD i []).getD (n - 1 - j) 0 := by
  rw [show (mir x).getD i [] = (x.getD i []).reverse by rw [getD_at _ _ (by simp [mir, h.1]; exact hi), getD_at _ _ (by rw [h.1]; exact hi)]; simp [mir], rev_at _ (h.row hi) hj]
theorem tr_at {n : Nat} {x : List (List Int)} (h : Sq n x) {i j : Nat} (hi : i < n) (hj : j < n) : ((tr x).getD i []).getD j 0 = (x.getD j []).getD i 0 := by
  have e : (tr x).getD i [] = colOf x (i : Int) := by rw [getD_at _ _ (by simp [tr, h.1]; exact hi)]; simp [tr]
  rw [e, getD_at _ _ (by simp [colOf, h.1]; exact hj), getD_at x [] (by rw [h.1]; exact hj)]
  simp [colOf, rd]
theorem turned (n : Nat) (x : List (List Int)) (h : Sq n x) (hn : n ≤ 1048576) : Ans (fun k => impl_turned.f k x) (cw x) := by
  simp only [impl_turned.f, h.1]
  have hg : ∀ i j : Nat, i < n → j < n → impl_turned_1.f i j x (n : Int) = some ((x.getD (n - 1 - j) []).getD i 0) := by
    intro i j hi hj
    have w1 : wrap64 ((n : Int) - 1) = (n : Int) - 1 := wrap64_in _ ⟨by omega, by omega⟩
    have w2 : wrap64 ((n : Int) - 1 - (j : Int)) = ((n - 1 - j : Nat) : Int) := by rw [wrap64_in _ ⟨by omega, by omega⟩]; omega
    have hr : (rd_L3 x ((n - 1 - j : Nat) : Int)).length = n := h.2 _ (rd_L1_mem (by omega) (by rw [h.1]; omega))
    have hl := h.1
    simp only [impl_turned_1.f, w1, w2]
    rw [if_pos (by omega), if_pos (by omega), if_pos (by omega), if_pos (by omega)]
    simp only [rd, rd_L3, Int.toNat_natCast]
  have e := table n n hn hn (fun x0_ x1_ => impl_turned_1.f x0_ x1_ x (n : Int)) _ hg
  rw [tab_is (cw_sq h) _ (fun i j hi hj => by rw [cw, mir_at (tr_sq h) hi hj, tr_at h hi (by omega)])] at e
  exact e.bind (Ans.pure _)
theorem mirrored (n : Nat) (x : List (List Int)) (h : Sq n x) (hn : n ≤ 1048576) : Ans (fun k => impl_mirrored.f k x) (mir x) := by
  simp only [impl_mirrored.f, h.1]
  have hg : ∀ i j : Nat, i < n → j < n → impl_mirrored_1.f i j x (n : Int) = some ((x.getD i []).getD (n - 1 - j) 0) := by
    intro i j hi hj
    have w1 : wrap64 ((n : Int) - 1) = (n : Int) - 1 := wrap64_in _ ⟨by omega, by omega⟩
    have w2 : wrap64 ((n : Int) - 1 - (j : Int)) = ((n - 1 - j : Nat) : Int) := by rw [wrap64_in _ ⟨by omega, by omega⟩]; omega
    have hr : (rd_L3 x (i : Int)).length = n := h.2 _ (rd_L1_mem (by omega) (by rw [h.1]; omega))
    have hl := h.1
    simp only [impl_mirrored_1.f, w1, w2]
    rw [if_pos (by omega), if_pos (by omega), if_pos (by omega), if_pos (by omega)]
    simp only [rd, rd_L3, Int.toNat_natCast]
  have e := table n n hn hn (fun x0_ x1_ => impl_mirrored_1.f x0_ x1_ x (n : Int)) _ hg
  rw [tab_is (mir_sq h) _ (fun i j hi hj => by rw [mir_at h hi hj])] at e
  exact e.bind (Ans.pure _)
theorem sgMirror (x : List (List Int)) (h : x.length ≤ 1048576) (hr : ∀ r ∈ x, r.length ≤ 1048576) : Ans (fun k => spec_sgMirror.f k x) (mir x) := by
  have inner : ∀ (out : List (List Int)) (row : List Int) (m : Int) (R : List (List Int)), row.length ≤ 1048576 → 0 ≤ m → m ≤ 1048576 → out.length ≤ 1048576 → ∀ (d : Nat) (acc : List Int), d ≤ row.length → acc.length + d ≤ 1048576 →
      Ans (fun k => spec_sgMirror.l0 k (out ++ [acc ++ (row.take d).reverse]) x (x.length : Int) (m + 1)) R → Ans (fun k => spec_sgMirror.l1 k out row acc ((d : Int) - 1) x (x.length : Int) m) R := by
    intro out row m R hrow hm hm' ho d
    induction d with
    | zero =>
      intro acc h2 h3 e
      rw [List.take_zero, List.reverse_nil, List.append_nil] at e
      refine Ans.step ?_
      simp only [spec_sgMirror.l1, wrap64_up hm (by omega : m ≤ 4611686018427387904)]
      exact Ans.not (by omega) (Ans.yes (by omega) e)
    | succ d ih =>
      intro acc h2 h3 e
      rw [take_up row 0 (show d < row.length by omega), List.reverse_append, List.reverse_singleton, List.singleton_append] at e
      have hj : ((d + 1 : Nat) : Int) - 1 = (d : Int) := by omega
      have := ih (acc ++ [rd row d]) (by omega) (by simp only [List.length_append, List.length_singleton]; omega) (by
        rw [List.append_assoc, List.singleton_append, show rd row (d : Int) = row.getD d 0 by unfold rd; rw [Int.toNat_natCast]]; exact e)
      refine Ans.step ?_
      simp only [spec_sgMirror.l1, hj, wrap64_down (show (0 : Int) ≤ (d : Int) by omega) (by omega : (d : Int) ≤ 4611686018427387904)]
      exact Ans.yes (by omega) (Ans.yes (by omega) (Ans.yes (by omega) (Ans.yes (by omega) this)))
  have key : ∀ (d : Nat) (i : Int) (out : List (List Int)), 0 ≤ i → i + d = x.length → out.length + d ≤ 1048576 → Ans (fun k => spec_sgMirror.l0 k out x (x.length : Int) i) (out ++ mir (x.drop i.toNat)) := by
    intro d
    induction d with
    | zero =>
      intro i out h0 h1 h2
      rw [List.drop_eq_nil_of_le (by omega), mir, List.map_nil, List.append_nil]; refine Ans.step ?_
      simp only [spec_sgMirror.l0]; exact Ans.not (by omega) (Ans.pure _)
    | succ d ih =>
      intro i out h0 h1 h2
      have hm := hr _ (rd_L1_mem h0 (show i < x.length by omega))
      have e := ih (i + 1) (out ++ [(rd_L3 x i).reverse]) (by omega) (by omega) (by simp only [List.length_append, List.length_singleton]; omega)
      rw [show (i + 1).toNat = i.toNat + 1 by omega, List.append_assoc, List.singleton_append] at e
      rw [drop_at x [] (show i.toNat < x.length by omega), show x.getD i.toNat [] = rd_L3 x i from rfl]
      have hw : wrap64 (((rd_L3 x i).length : Int) - 1) = ((rd_L3 x i).length : Int) - 1 := wrap64_in _ ⟨by omega, by omega⟩
      refine Ans.step ?_
      simp only [spec_sgMirror.l0, hw]
      refine Ans.yes (by omega) (Ans.yes h0 (Ans.yes (by omega) (inner out _ i _ hm h0 (by omega) (by omega) _ [] (Nat.le_refl _) (by simp only [List.length_nil]; omega) ?_)))
      rw [List.nil_append, List.take_length]; exact e
  exact key x.length 0 [] (by omega) (by omega) (by simp only [List.length_nil]; omega)
theorem sgClockwise (n : Nat) (x : List (List Int)) (h : Sq n x) (hn : n ≤ 1048576) : Ans (fun k => spec_sgClockwise.f k x) (cw x) := by
  have hl := h.1
  simp only [spec_sgClockwise.f]
  have s := tr_sq h
  exact (sgTurn x (by omega) (fun r hr => by rw [h.2 r hr, hl])).bind ((sgMirror (tr x) (by rw [s.1]; omega) (fun r hr => by rw [s.2 r hr]; omega)).bind (Ans.pure _))
/-- All images. -/
def images (x : List (List Int)) : List (List (List Int)) := [x, cw x, cw (cw x), cw (cw (cw x)), mir x, mir (cw x), mir (cw (cw x)), mir (cw (cw (cw x)))]
theorem eight (n : Nat) (x : List (List Int)) (h : Sq n x) (hn : n ≤ 1048576) : Ans (fun k => impl_eight.f k x) (images x) := by
  have s1 := cw_sq h; have s2 := cw_sq s1; have s3 := cw_sq s2
  simp only [impl_eight.f]
  refine Ans.step ?_; simp only [impl_eight.l0, w01, w12, w23, w34]
  refine Ans.yes (by decide) (Ans.yes (by simp) ((turned n x h hn).bind (Ans.step ?_))); simp only [impl_eight.l0, w01, w12, w23, w34]
  refine Ans.yes (by decide) (Ans.yes (by simp) ((turned n _ s1 hn).bind (Ans.step ?_))); simp only [impl_eight.l0, w01, w12, w23, w34]
  refine Ans.yes (by decide) (Ans.yes (by simp) ((turned n _ s2 hn).bind (Ans.step ?_))); simp only [impl_eight.l0, w01, w12, w23, w34]
  refine Ans.yes (by decide) (Ans.yes (by simp) ((turned n _ s3 hn).bind (Ans.step ?_))); simp only [impl_eight.l0, w01, w12, w23, w34]
  refine Ans.not (by decide) (Ans.step ?_); simp only [impl_eight.l1, w01, w12, w23, w34]
  refine Ans.yes (by decide) (Ans.yes (by decide) (Ans.yes (by simp) (Ans.bind (a := mir x) (mirrored n x h hn) (Ans.yes (by simp) (Ans.step ?_))))); simp only [impl_eight.l1, w01, w12, w23, w34]
  refine Ans.yes (by decide) (Ans.yes (by decide) (Ans.yes (by first | (simp; done) | (simp; decide)) (Ans.bind (a := mir (cw x)) (mirrored n _ s1 hn) (Ans.yes (by simp) (Ans.step ?_))))); simp only [impl_eight.l1, w01, w12, w23, w34]
  refine Ans.yes (by decide) (Ans.yes (by decide) (Ans.yes (by first | (simp; done) | (simp; decide)) (Ans.bind (a := mir (cw (cw x))) (mirrored n _ s2 hn) (Ans.yes (by simp) (Ans.step ?_))))); simp only [impl_eight.l1, w01, w12, w23, w34]
  refine Ans.yes (by decide) (Ans.yes (by decide) (Ans.yes (by first | (simp; done) | (simp; decide)) (Ans.bind (a := mir (cw (cw (cw x)))) (mirrored n _ s3 hn) (Ans.yes (by simp) (Ans.step ?_))))); simp only [impl_eight.l1, w01, w12, w23, w34]
  exact Ans.not (by decide) (Ans.pure _)
theorem tablesSame (n : Nat) (x y : List (List Int)) (hx : Sq n x) (hy : Sq n y) (hn : n ≤ 1048576) : Ans (fun k => impl_compareTables.f k x y) (cmpLL x y) :=
  compareTables x y (by rw [hx.1]; exact hn) (by rw [hy.1]; exact hn) (fun r hr => by rw [hx.2 r hr]; exact hn) (fun r hr => by rw [hy.2 r hr]; exact hn)
theorem sign_sq {x : List (List Int)} (s : sign x = true) : Sq x.length x ∧ x.length ≤ 6 := by
  unfold sign at s
  rw [Bool.and_eq_true] at s
  obtain ⟨b1, b2, b3⟩ := square_of s.1
  exact ⟨⟨rfl, b3⟩, b2⟩
/-! sums over indices -/
def S : Nat → (Nat → Int) → Int
  | 0, _ => 0
  | n + 1, f => S n f + f n
theorem S_congr {f g : Nat → Int} : ∀ {n : Nat}, (∀ i, i < n → f i = g i) → S n f = S n g
  | 0, _ => rfl
  | n + 1, h => by rw [S, S, S_congr (fun i hi => h i (by omega)), h n (by omega)]
theorem S_add (f g : Nat → Int) : ∀ n, S n (fun i => f i + g i) = S n f + S n g
  | 0 => rfl
  | n + 1 => by rw [S, S, S, S_add f g n]; omega
theorem S_zero : ∀ n, S n (fun _ => 0) = 0
  | 0 => rfl
  | n + 1 => by rw [S, S_zero n]; rfl
theorem S_mul (c : Int) (f : Nat → Int) : ∀ n, S n (fun i => c * f i) = c * S n f
  | 0 => by simp [S]
  | n + 1 => by rw [S, S, S_mul c f n, Int.mul_add]
theorem S_comm (F : Nat → Nat → Int) (m : Nat) : ∀ n, S n (fun i => S m (fun j => F i j)) = S m (fun j => S n (fun i => F i j))
  | 0 => by simp only [S]; rw [S_zero]
  | n + 1 => by rw [S, S_comm F m n, ← S_add]; rfl
theorem S_front (f : Nat → Int) : ∀ n, S (n + 1) f = f 0 + S n (fun i => f (i + 1))
  | 0 => by simp [S]
  | n + 1 => by rw [S, S_front f n, S]; omega
/-- The sum over all pairs k < i. -/
def T (n : Nat) (F : Nat → Nat → Int) : Int := S n (fun i => S i (fun k => F i k))
theorem T_congr {F G : Nat → Nat → Int} {n : Nat} (h : ∀ i k, i < n → k < i → F i k = G i k) : T n F = T n G := S_congr fun i hi => S_congr fun k hk => h i k hi hk
theorem T_add (F G : Nat → Nat → Int) (n : Nat) : T n (fun i k => F i k + G i k) = T n F + T n G := by
  unfold T; rw [← S_add]; exact S_congr fun i _ => S_add _ _ i
theorem T_zero (n : Nat) : T n (fun _ _ => 0) = 0 := by unfold T; rw [S_congr (fun i _ => S_zero i), S_zero]
theorem S_T (G : Nat → Nat → Nat → Int) (m : Nat) : ∀ n, S n (fun i => T m (fun j l => G i j l)) = T m (fun j l => S n (fun i => G i j l))
  | 0 => by simp only [S]; rw [T_zero]
  | n + 1 => by rw [S, S_T G m n, ← T_add]; rfl
theorem T_T (G : Nat → Nat → Nat → Nat → Int) (n m : Nat) : T n (fun i k => T m (fun j l => G i k j l)) = T m (fun j l => T n (fun i k => G i k j l)) := by
  have e := S_congr (n := n) (f := fun i => S i (fun k => T m (fun j l => G i k j l))) (g := fun i => T m (fun j l => S i (fun k => G i k j l))) (fun i _ => S_T (fun k j l => G i k j l) m i)
  exact e.trans (S_T (fun i j l => S i (fun k => G i k j l)) m n)
/-- All pairs. -/
theorem T_one : ∀ n : Nat, 2 * T n (fun _ _ => 1) = (n : Int) * ((n : Int) - 1)
  | 0 => by simp [T, S]
  | n + 1 => by
    have e : ∀ k : Nat, S k (fun _ => 1) = (k : Int) := fun k => by
      induction k with
      | zero => rfl
      | succ k ih => rw [S, ih]; omega
    have h := T_one n
    unfold T at h ⊢
    rw [S, Int.mul_add, h, e]
    rw [Int.natCast_add, Int.natCast_one, Int.add_sub_cancel, Int.add_mul, Int.mul_sub, Int.mul_one]; omega
/-- The whole square is the two halves and the diagonal. -/
theorem S_square (F : Nat → Nat → Int) : ∀ n, S n (fun i => S n (fun k => F i k)) = T n F + T n (fun i k => F k i) + S n (fun i => F i i)
  | 0 => by simp [S, T]
  | n + 1 => by
    have h := S_square F n
    simp only [T, S] at h ⊢
    rw [S_add, h]; omega
theorem S_rev (f : Nat → Int) : ∀ n, S n (fun j => f (n - 1 - j)) = S n f
  | 0 => rfl
  | n + 1 => by
    rw [S_front, S, Nat.add_sub_cancel, Nat.sub_zero, ← S_rev f n, S_congr (f := fun i => f (n - (i + 1))) (g := fun j => f (n - 1 - j)) (fun i hi => by rw [show n - (i + 1) = n - 1 - i by omega])]
    omega
theorem S_cut (f : Nat → Int) (j : Nat) : ∀ n, j ≤ n → S n (fun l => if l < j then f l else 0) = S j f
  | 0, h => by rw [show j = 0 by omega]; rfl
  | n + 1, h => by
    by_cases e : j = n + 1
    · subst e; exact S_congr fun i hi => if_pos hi
    · rw [S, S_cut f j n (by omega), if_neg (by omega), Int.add_zero]
theorem T_ind (F : Nat → Nat → Int) (n : Nat) : T n F = S n (fun j => S n (fun l => if l < j then F j l else 0)) :=
  S_congr fun i hi => (S_cut (fun l => F i l) i n (by omega)).symm
theorem T_rev (F : Nat → Nat → Int) (n : Nat) : T n (fun j l => F (n - 1 - j) (n - 1 - l)) = T n (fun j l => F l j) := by
  rw [T_ind, T_ind, S_comm (fun j l => if l < j then F l j else 0)]
  rw [← S_rev (fun l => S n (fun i => if l < i then F l i else 0)) n]
  refine S_congr fun j hj => ?_
  rw [← S_rev (fun i => if n - 1 - j < i then F (n - 1 - j) i else 0) n]
  refine S_congr fun l hl => ?_
  by_cases c : l < j
  · rw [if_pos c, if_pos (by omega)]
  · rw [if_neg c, if_neg (by omega)]
theorem T_up (G : Nat → Nat → Int) : ∀ n, S n (fun i => S (n - 1 - i) (fun t => G i (i + 1 + t))) = T n (fun k i => G i k)
  | 0 => rfl
  | n + 1 => by
    have h := T_up G n
    simp only [T, S] at h ⊢
    rw [show n + 1 - 1 - n = 0 by omega, S, Int.add_zero, ← h, ← S_add]
    refine S_congr fun i hi => ?_
    rw [show n + 1 - 1 - i = (n - 1 - i) + 1 by omega, S, show i + 1 + (n - 1 - i) = n by omega]
theorem S_bound {f : Nat → Int} {B : Int} : ∀ {n : Nat}, (∀ i, i < n → -B ≤ f i ∧ f i ≤ B) → -(B * n) ≤ S n f ∧ S n f ≤ B * n
  | 0, _ => by simp [S]
  | n + 1, h => by
    have a := S_bound (fun i hi => h i (by omega : i < n + 1)) (n := n)
    have b := h n (by omega)
    rw [S, Int.natCast_add, Int.natCast_one, Int.mul_add, Int.mul_one]; omega
/-- An entry. -/
def en (x : List (List Int)) (i j : Nat) : Int := (x.getD i []).getD j 0
def inv (x : List (List Int)) : Int := T x.length (fun i k => T x.length (fun j l => en x k j * en x i l))
def minus (x : List (List Int)) : Int := S x.length (fun i => S x.length (fun j => if en x i j = -1 then 1 else 0))
theorem tr_en {n : Nat} {x : List (List Int)} (h : Sq n x) {i j : Nat} (hi : i < n) (hj : j < n) : en (tr x) i j = en x j i := tr_at h hi hj
theorem mir_en {n : Nat} {x : List (List Int)} (h : Sq n x) {i j : Nat} (hi : i < n) (hj : j < n) : en (mir x) i j = en x i (n - 1 - j) := mir_at h hi hj
theorem inv_tr {n : Nat} {x : List (List Int)} (h : Sq n x) : inv (tr x) = inv x := by
  unfold inv
  rw [h.1, (tr_sq h).1, T_T]
  refine T_congr fun i k hi hk => T_congr fun j l hj hl => ?_
  rw [tr_en h (by omega) (by omega), tr_en h (by omega) (by omega), Int.mul_comm]
theorem minus_tr {n : Nat} {x : List (List Int)} (h : Sq n x) : minus (tr x) = minus x := by
  unfold minus
  rw [h.1, (tr_sq h).1, S_comm]
  exact S_congr fun i hi => S_congr fun j hj => by rw [tr_en h hj hi]
theorem minus_mir {n : Nat} {x : List (List Int)} (h : Sq n x) : minus (mir x) = minus x := by
  unfold minus
  rw [h.1, (mir_sq h).1]
  refine S_congr fun i hi => ?_
  rw [← S_rev (fun j => if en x i j = -1 then 1 else 0) n]
  exact S_congr fun j hj => by rw [mir_en h hi hj]
theorem walk_pre : ∀ (c : List Int) (s : Int), 0 ≤ s → s ≤ 1 → walkOk s c = true → (∀ i, i < c.length → (-1 ≤ c.getD i 0 ∧ c.getD i 0 ≤ 1) ∧ 0 ≤ s + S i (fun k => c.getD k 0) ∧ s + S i (fun k => c.getD k 0) ≤ 1 ∧ 0 ≤ s + S i (fun k => c.getD k 0) + c.getD i 0 ∧ s + S i (fun k => c.getD k 0) + c.getD i 0 ≤ 1) ∧ s + S c.length (fun k => c.getD k 0) = 1
  | [], s, _, _, h => ⟨fun i hi => absurd hi (by simp), by simp only [walkOk, beq_iff_eq] at h; simp [S, h]⟩
  | a :: c, s, h0, h1, h => by
    simp only [walkOk, Bool.and_eq_true, decide_eq_true_eq] at h
    obtain ⟨b1, b2, b3⟩ := h
    have ih := walk_pre c (s + a) b2.1 b2.2 b3
    have fr : ∀ m, S (m + 1) (fun k => (a :: c).getD k 0) = a + S m (fun k => c.getD k 0) := fun m => S_front _ m
    refine ⟨fun i hi => ?_, by rw [List.length_cons, fr]; omega⟩
    cases i with
    | zero => simp only [S, List.getD_cons_zero]; omega
    | succ i =>
      have := ih.1 i (by simpa using hi)
      rw [fr, List.getD_cons_succ]; omega
/-- What rows and columns of a sign matrix are. -/
theorem sign_en {x : List (List Int)} (s : sign x = true) {n : Nat} (hn : x.length = n) : Sq n x ∧ 1 ≤ n ∧ n ≤ 6 ∧
    (∀ i j, i < n → j < n → (-1 ≤ en x i j ∧ en x i j ≤ 1) ∧ (0 ≤ S j (en x i) ∧ S j (en x i) ≤ 1 ∧ 0 ≤ S j (en x i) + en x i j ∧ S j (en x i) + en x i j ≤ 1) ∧ (0 ≤ S i (fun k => en x k j) ∧ S i (fun k => en x k j) ≤ 1 ∧ 0 ≤ S i (fun k => en x k j) + en x i j ∧ S i (fun k => en x k j) + en x i j ≤ 1)) ∧
    (∀ i, i < n → S n (en x i) = 1) ∧ ∀ j, j < n → S n (fun k => en x k j) = 1 := by
  subst hn
  have s' := s
  unfold sign at s'
  simp only [Bool.and_eq_true] at s'
  obtain ⟨h1, h2, q⟩ := square_of (show (decide (1 ≤ x.length ∧ x.length ≤ 6) && x.all fun r => decide (r.length = x.length)) = true by simp only [Bool.and_eq_true]; exact s'.1)
  have sq : Sq x.length x := ⟨rfl, q⟩
  have R : ∀ i, i < x.length → walkOk 0 (x.getD i []) = true := fun i hi => List.all_eq_true.mp s'.2.1 _ (getD_mem [] hi)
  have C : ∀ j, j < x.length → walkOk 0 (colOf x j) = true := fun j hj => List.all_eq_true.mp s'.2.2 j (List.mem_range.mpr hj)
  have ce : ∀ i j, i < x.length → (colOf x (j : Nat)).getD i 0 = en x i j := fun i j hi => by
    rw [getD_at _ _ (by simpa [colOf] using hi)]
    simp only [colOf, List.getElem_map, rd, Int.toNat_natCast, en]
    rw [getD_at x [] hi]
  have cl : ∀ j : Nat, (colOf x j).length = x.length := fun j => by simp [colOf]
  refine ⟨sq, h1, h2, fun i j hi hj => ?_, fun i hi => ?_, fun j hj => ?_⟩
  · have a := (walk_pre _ 0 (by omega) (by omega) (R i hi)).1 j (by rw [sq.row hi]; exact hj)
    have b := (walk_pre _ 0 (by omega) (by omega) (C j hj)).1 i (by rw [cl]; exact hi)
    rw [S_congr (fun k hk => ce k j (by omega : k < x.length)), ce i j hi] at b
    have e : S j (en x i) = S j (fun k => (x.getD i []).getD k 0) := rfl
    rw [e]
    have e2 : en x i j = (x.getD i []).getD j 0 := rfl
    rw [← e2] at a
    omega
  · have a := (walk_pre _ 0 (by omega) (by omega) (R i hi)).2
    rw [sq.row hi] at a
    have e : S x.length (en x i) = S x.length (fun k => (x.getD i []).getD k 0) := rfl
    omega
  · have b := (walk_pre _ 0 (by omega) (by omega) (C j hj)).2
    rw [cl, S_congr (fun k hk => ce k j hk)] at b
    omega
theorem S_prod (f g : Nat → Int) (n : Nat) : S n (fun i => S n (fun k => f i * g k)) = S n f * S n g := by
  rw [S_congr (g := fun i => S n g * f i) (fun i _ => by rw [S_mul, Int.mul_comm]), S_mul, Int.mul_comm]
theorem inv_mir {n : Nat} {x : List (List Int)} (hl : x.length = n) (s : sign x = true) : 2 * (inv x + inv (mir x) - minus x) = (n : Int) * ((n : Int) - 1) := by
  obtain ⟨h, h1, h2, E, R, C⟩ := sign_en s hl
  have m0 : inv (mir x) = T n (fun i k => T n (fun j l => en x k l * en x i j)) := by
    unfold inv
    rw [(mir_sq h).1]
    refine T_congr fun i k hi hk => ?_
    rw [← T_rev (fun j l => en x k j * en x i l) n]
    exact T_congr fun j l hj hl => by rw [mir_en h (by omega) (by omega), mir_en h (by omega) (by omega)]
  have pair : ∀ i k, i < n → k < i → T n (fun j l => en x k j * en x i l) + T n (fun j l => en x k l * en x i j) + S n (fun j => en x k j * en x i j) = 1 := fun i k hi hk => by
    have e := S_square (fun j l => en x k j * en x i l) n
    rw [S_prod (en x k) (en x i), R k (by omega), R i hi] at e
    omega
  have tot : inv x + inv (mir x) + T n (fun i k => S n (fun j => en x k j * en x i j)) = T n (fun _ _ => 1) := by
    rw [m0, show inv x = T n (fun i k => T n (fun j l => en x k j * en x i l)) by unfold inv; rw [hl], ← T_add, ← T_add]
    exact T_congr pair
  have dots : T n (fun i k => S n (fun j => en x k j * en x i j)) = -minus x := by
    have e1 : T n (fun i k => S n (fun j => en x k j * en x i j)) = S n (fun j => T n (fun i k => en x k j * en x i j)) := (S_T (fun j i k => en x k j * en x i j) n n).symm
    have e2 : ∀ j, j < n → T n (fun i k => en x k j * en x i j) = S n (fun i => -(if en x i j = -1 then 1 else 0)) := fun j hj => by
      refine S_congr fun i hi => ?_
      rw [S_congr (g := fun k => en x i j * en x k j) (fun k _ => Int.mul_comm _ _), S_mul]
      obtain ⟨a, _, b⟩ := E i j hi hj
      rcases (show en x i j = -1 ∨ en x i j = 0 ∨ en x i j = 1 by omega) with c | c | c
      · rw [c, if_pos rfl, show S i (fun k => en x k j) = 1 by omega]; rfl
      · rw [c, if_neg (by omega)]; omega
      · rw [c, if_neg (by omega), show S i (fun k => en x k j) = 0 by omega]; rfl
    rw [e1, S_congr e2, S_comm]
    unfold minus
    rw [hl]
    have neg : ∀ (f : Nat → Int) (m : Nat), S m (fun i => -f i) = -S m f := fun f m => by
      rw [S_congr (g := fun i => (-1) * f i) (fun i _ => by omega), S_mul]; omega
    rw [S_congr (fun i _ => neg _ n), neg]
  rw [dots] at tot
  have t1 := T_one n
  omega
/-- Sign matrices stay such ones. -/
theorem S_split (f : Nat → Int) (a : Nat) : ∀ b, S (a + b) f = S a f + S b (fun t => f (a + t))
  | 0 => by simp [S]
  | b + 1 => by rw [← Nat.add_assoc, S, S_split f a b, S]; omega
theorem walk_of : ∀ (c : List Int) (s : Int), (∀ i, i < c.length → (-1 ≤ c.getD i 0 ∧ c.getD i 0 ≤ 1) ∧ 0 ≤ s + S (i + 1) (fun k => c.getD k 0) ∧ s + S (i + 1) (fun k => c.getD k 0) ≤ 1) → s + S c.length (fun k => c.getD k 0) = 1 → walkOk s c = true
  | [], s, _, h => by simp only [List.length_nil, S] at h; simp only [walkOk, beq_iff_eq]; omega
  | a :: c, s, h, t => by
    have fr : ∀ m, S (m + 1) (fun k => (a :: c).getD k 0) = a + S m (fun k => c.getD k 0) := fun m => S_front _ m
    have h0 := h 0 (by simp)
    rw [fr] at h0
    simp only [S, List.getD_cons_zero] at h0
    simp only [walkOk, Bool.and_eq_true, decide_eq_true_eq]
    refine ⟨h0.1, by omega, walk_of c (s + a) (fun i hi => ?_) (by rw [List.length_cons, fr] at t; omega)⟩
    have := h (i + 1) (by simpa using hi)
    rw [fr, List.getD_cons_succ] at this
    omega
theorem walk_rev {c : List Int} (h : walkOk 0 c = true) : walkOk 0 c.reverse = true := by
  obtain ⟨a, b⟩ := walk_pre c 0 (by omega) (by omega) h
  have rv : ∀ k, k < c.length → c.reverse.getD k 0 = c.getD (c.length - 1 - k) 0 := fun k hk => rev_at c rfl hk
  have pr : ∀ i, i ≤ c.length → S i (fun k => c.reverse.getD k 0) = S c.length (fun k => c.getD k 0) - S (c.length - i) (fun k => c.getD k 0) := fun i hi => by
    have e := S_split (fun k => c.getD k 0) (c.length - i) i
    rw [show c.length - i + i = c.length by omega, ← S_rev (fun t => c.getD (c.length - i + t) 0) i] at e
    rw [S_congr (g := fun j => c.getD (c.length - i + (i - 1 - j)) 0) (fun k hk => by rw [rv k (by omega)]; congr 1; omega)]
    omega
  refine walk_of _ 0 (fun i hi => ?_) ?_
  · rw [List.length_reverse] at hi
    have h1 := a (c.length - 1 - i) (by omega)
    rw [rv i hi, pr (i + 1) (by omega), show c.length - (i + 1) = c.length - 1 - i by omega]
    omega
  · rw [List.length_reverse, pr c.length (Nat.le_refl _), Nat.sub_self]; simp only [S]; omega
theorem sign_of {n : Nat} {x : List (List Int)} (h : Sq n x) (h1 : 1 ≤ n) (h2 : n ≤ 6) (R : ∀ r ∈ x, walkOk 0 r = true) (C : ∀ j : Nat, j < n → walkOk 0 (colOf x j) = true) : sign x = true := by
  have hl := h.1
  unfold sign
  simp only [Bool.and_eq_true, decide_eq_true_eq, List.all_eq_true, List.mem_range]
  exact ⟨⟨by omega, fun r hr => by rw [h.2 r hr, hl]⟩, R, fun j hj => C j (by omega)⟩
theorem sign_parts {x : List (List Int)} (s : sign x = true) {n : Nat} (hn : x.length = n) : Sq n x ∧ 1 ≤ n ∧ n ≤ 6 ∧ (∀ r ∈ x, walkOk 0 r = true) ∧ ∀ j : Nat, j < n → walkOk 0 (colOf x j) = true := by
  subst hn
  obtain ⟨q, h1, h2, _⟩ := sign_en s rfl
  unfold sign at s
  simp only [Bool.and_eq_true, List.all_eq_true, List.mem_range] at s
  exact ⟨q, h1, h2, s.2.1, s.2.2⟩
theorem col_at (x : List (List Int)) (j i : Nat) (hi : i < x.length) : (colOf x (j : Nat)).getD i 0 = en x i j := by
  rw [getD_at _ _ (by simpa [colOf] using hi)]
  simp only [colOf, List.getElem_map, rd, Int.toNat_natCast, en]
  rw [getD_at x [] hi]
theorem list_ext {a b : List Int} {n : Nat} (ha : a.length = n) (hb : b.length = n) (h : ∀ i, i < n → a.getD i 0 = b.getD i 0) : a = b :=
  List.ext_getElem (by omega) fun i h1 h2 => by have := h i (by omega); rwa [getD_at _ _ h1, getD_at _ _ h2] at this
theorem sign_tr {x : List (List Int)} (s : sign x = true) : sign (tr x) = true := by
  obtain ⟨q, h1, h2, R, C⟩ := sign_parts s rfl
  refine sign_of (tr_sq q) h1 h2 (fun r hr => ?_) (fun j hj => ?_)
  · obtain ⟨j, hj, rfl⟩ := List.mem_map.1 hr
    exact C j (List.mem_range.1 hj)
  · have : colOf (tr x) (j : Nat) = x.getD j [] := list_ext (n := x.length) (by simp [colOf, tr]) (q.row hj) fun i hi => by
      rw [col_at _ _ _ (by simpa [tr] using hi), tr_en q hi hj]; rfl
    rw [this]; exact R _ (getD_mem [] hj)
theorem sign_mir {x : List (List Int)} (s : sign x = true) : sign (mir x) = true := by
  obtain ⟨q, h1, h2, R, C⟩ := sign_parts s rfl
  refine sign_of (mir_sq q) h1 h2 (fun r hr => ?_) (fun j hj => ?_)
  · obtain ⟨a, ha, rfl⟩ := List.mem_map.1 hr
    exact walk_rev (R a ha)
  · have : colOf (mir x) (j : Nat) = colOf x ((x.length - 1 - j : Nat) : Int) := list_ext (n := x.length) (by simp [colOf, mir]) (by simp [colOf]) fun i hi => by
      rw [col_at _ _ _ (by simpa [mir] using hi), col_at _ _ _ hi, mir_en q hi hj]
    rw [this]; exact C _ (by omega)
theorem sign_cw {x : List (List Int)} (s : sign x = true) : sign (cw x) = true := sign_mir (sign_tr s)
/-- The least one of matrices, as the program finds it. -/
def leastOf : List (List Int) → List (List (List Int)) → List (List Int)
  | m, [] => m
  | m, x :: xs => if cmpLL x m < 0 then leastOf x xs else leastOf m xs
theorem minFunc (n : Nat) (hn : n ≤ 6) (L : List (List (List Int))) (hL : ∀ y ∈ L, Sq n y) (h0 : L.length ≤ 1000) (m : List (List Int)) (xs : List (List (List Int))) (he : L = m :: xs) :
    Ans (fun k => slices_MinFunc_int_int.f k L (fun x0_ x1_ => impl_compareTables.f k x0_ x1_)) (leastOf m xs) := by
  have key : ∀ (d : Nat) (i : Int) (m : List (List Int)), 0 ≤ i → i + d = L.length → Sq n m → Ans2 (fun k j => slices_MinFunc_int_int.l0 k L (fun x0_ x1_ => impl_compareTables.f j x0_ x1_) m i) (leastOf m (L.drop i.toNat)) := by
    intro d
    induction d with
    | zero =>
      intro i m h0 h1 hm
      rw [List.drop_eq_nil_of_le (by omega), leastOf]; refine Ans2.step ?_
      simp only [slices_MinFunc_int_int.l0]
      exact Ans2.not (by omega) (Ans2.pure _)
    | succ d ih =>
      intro i m h0 h1 hm
      have hlt : i.toNat < L.length := by omega
      have hx := hL _ (getD_mem [] hlt)
      have e := fun m h => ih (i + 1) m (by omega) (by omega) h
      rw [show (i + 1).toNat = i.toNat + 1 by omega] at e
      rw [drop_at L [] hlt, leastOf]
      refine Ans2.step ?_
      simp only [slices_MinFunc_int_int.l0]
      refine Ans2.yes (by omega) (Ans2.yes h0 ((Ans2.two (tablesSame n _ _ hx hm (by omega))).bind ?_))
      by_cases c : cmpLL (L.getD i.toNat []) m < 0
      · rw [if_pos c]; exact Ans2.yes c (e _ hx)
      · rw [if_neg c]; exact Ans2.not c (e _ hm)
  simp only [slices_MinFunc_int_int.f]
  have e := key (L.length - 1) 1 m (by omega) (by rw [he]; simp; omega) (hL m (by rw [he]; simp))
  subst he
  exact Ans.yes (by simp) e.join
theorem images_sq {n : Nat} {m : List (List Int)} (h : Sq n m) : ∀ y ∈ images m, Sq n y := by
  have s1 := cw_sq h; have s2 := cw_sq s1; have s3 := cw_sq s2
  intro y hy
  simp only [images, List.mem_cons, List.mem_nil_iff, or_false] at hy
  rcases hy with rfl | rfl | rfl | rfl | rfl | rfl | rfl | rfl
  · exact h
  · exact s1
  · exact s2
  · exact s3
  · exact mir_sq h
  · exact mir_sq s1
  · exact mir_sq s2
  · exact mir_sq s3
/-- A comparison that orders. -/
structure Ordr {α : Type} (c : α → α → Int) : Prop where
  zero : ∀ a b, c a b = 0 ↔ a = b
  neg : ∀ a b, c b a = -c a b
  trans : ∀ a b d, c a b ≤ 0 → c b d ≤ 0 → c a d ≤ 0
theorem ordI : Ordr cmpI := ⟨fun _ _ => cmpI_zero, fun a b => by unfold cmpI; split <;> split <;> (try split) <;> (try split) <;> omega, fun a b d h1 h2 => by
  unfold cmpI at *
  by_cases c1 : a < b
  · by_cases c2 : b < d
    · rw [if_pos (by omega)]; omega
    · rw [if_neg c2] at h2; split at h2
      · omega
      · rw [if_pos (by omega)]; omega
  · rw [if_neg c1] at h1; split at h1
    · omega
    · split
      · omega
      · split
        · split at h2
          · omega
          · split at h2 <;> omega
        · omega⟩
theorem Ordr.lexNeg {α : Type} {c : α → α → Int} (h : Ordr c) : ∀ x y : List α, lexBy c y x = -lexBy c x y
  | [], [] => rfl
  | [], _ :: _ => rfl
  | _ :: _, [] => rfl
  | a :: x, b :: y => by
    rw [lexBy, lexBy]
    have e := h.neg a b
    by_cases q : c a b = 0
    · rw [if_pos q, if_pos (by omega), Ordr.lexNeg h x y]
    · rw [if_neg q, if_neg (by omega), e]
theorem Ordr.lexTrans {α : Type} {c : α → α → Int} (h : Ordr c) : ∀ x y z : List α, lexBy c x y ≤ 0 → lexBy c y z ≤ 0 → lexBy c x z ≤ 0
  | [], _, [], _, _ => by simp [lexBy]
  | [], _, _ :: _, _, _ => by simp [lexBy]
  | _ :: _, [], _, h1, _ => by simp [lexBy] at h1
  | _ :: _, _ :: _, [], _, h2 => by simp [lexBy] at h2
  | a :: x, b :: y, d :: z, h1, h2 => by
    rw [lexBy] at h1 h2 ⊢
    have ih := Ordr.lexTrans h x y z
    by_cases q1 : c a b = 0
    · rw [if_pos q1] at h1
      rw [(h.zero a b).mp q1]
      by_cases q2 : c b d = 0
      · rw [if_pos q2] at h2 ⊢; exact ih h1 h2
      · rw [if_neg q2] at h2 ⊢; exact h2
    · rw [if_neg q1] at h1
      by_cases q2 : c b d = 0
      · rw [← (h.zero b d).mp q2, if_neg q1]; exact h1
      · rw [if_neg q2] at h2
        by_cases q3 : c a d = 0
        · have e := (h.zero a d).mp q3
          have n := h.neg a b
          rw [← e] at h2; omega
        · rw [if_neg q3]; exact h.trans a b d h1 h2
theorem Ordr.lex {α : Type} {c : α → α → Int} (h : Ordr c) : Ordr (lexBy c) := ⟨lexBy_zero h.zero, h.lexNeg, h.lexTrans⟩
theorem ordLL : Ordr cmpLL := ordI.lex.lex
theorem least_in : ∀ (xs : List (List (List Int))) (m : List (List Int)), leastOf m xs ∈ m :: xs ∧ ∀ z ∈ m :: xs, cmpLL (leastOf m xs) z ≤ 0
  | [], m => ⟨by simp [leastOf], fun z hz => by rw [List.mem_singleton.1 hz, leastOf, (ordLL.zero m m).mpr rfl]; omega⟩
  | x :: xs, m => by
    rw [leastOf]
    by_cases c : cmpLL x m < 0
    · rw [if_pos c]
      obtain ⟨a, b⟩ := least_in xs x
      refine ⟨List.mem_cons_of_mem _ a, fun z hz => ?_⟩
      rcases List.mem_cons.1 hz with rfl | hz
      · exact ordLL.trans _ x _ (b x (by simp)) (by omega)
      · exact b z hz
    · rw [if_neg c]
      obtain ⟨a, b⟩ := least_in xs m
      refine ⟨?_, fun z hz => ?_⟩
      · rcases List.mem_cons.1 a with e | e
        · rw [e]; simp
        · exact List.mem_cons_of_mem _ (List.mem_cons_of_mem _ e)
      · rcases List.mem_cons.1 hz with rfl | hz
        · exact b _ (by simp)
        · rcases List.mem_cons.1 hz with rfl | hz
          · exact ordLL.trans _ m _ (b m (by simp)) (by have := ordLL.neg z m; omega)
          · exact b z (List.mem_cons_of_mem _ hz)
theorem least_one {L M : List (List (List Int))} {p q : List (List Int)} (hp : p ∈ L ∧ ∀ z ∈ L, cmpLL p z ≤ 0) (hq : q ∈ M ∧ ∀ z ∈ M, cmpLL q z ≤ 0) (h1 : ∀ z ∈ L, z ∈ M) (h2 : ∀ z ∈ M, z ∈ L) : p = q := by
  have a := hp.2 q (h2 q hq.1)
  have b := hq.2 p (h1 p hp.1)
  have e := ordLL.neg p q
  exact (ordLL.zero p q).mp (by omega)
/-- The least of all images. -/
def lot (x : List (List Int)) : List (List Int) := leastOf x [cw x, cw (cw x), cw (cw (cw x)), mir x, mir (cw x), mir (cw (cw x)), mir (cw (cw (cw x)))]
theorem lot_in (x : List (List Int)) : lot x ∈ images x ∧ ∀ z ∈ images x, cmpLL (lot x) z ≤ 0 := least_in _ x
theorem cw_en {n : Nat} {x : List (List Int)} (h : Sq n x) {i j : Nat} (hi : i < n) (hj : j < n) : en (cw x) i j = en x (n - 1 - j) i := by
  rw [show cw x = mir (tr x) from rfl, mir_en (tr_sq h) hi hj, tr_en h hi (by omega)]
theorem ext_en {n : Nat} {x y : List (List Int)} (hx : Sq n x) (hy : Sq n y) (h : ∀ i j : Nat, i < n → j < n → en x i j = en y i j) : x = y := ext_sq hx hy h
theorem cw4 {n : Nat} {x : List (List Int)} (h : Sq n x) : cw (cw (cw (cw x))) = x := by
  have s1 := cw_sq h; have s2 := cw_sq s1; have s3 := cw_sq s2
  refine ext_en (cw_sq s3) h fun i j hi hj => ?_
  rw [cw_en s3 hi hj, cw_en s2 (by omega) hi, cw_en s1 (by omega) (by omega), cw_en h (by omega) (by omega)]
  congr 1 <;> omega
theorem mir2 {n : Nat} {x : List (List Int)} (h : Sq n x) : mir (mir x) = x := by
  refine ext_en (mir_sq (mir_sq h)) h fun i j hi hj => ?_
  rw [mir_en (mir_sq h) hi hj, mir_en h hi (by omega)]
  congr 1; omega
theorem tr2 {n : Nat} {x : List (List Int)} (h : Sq n x) : tr (tr x) = x := by
  refine ext_en (tr_sq (tr_sq h)) h fun i j hi hj => ?_
  rw [tr_en (tr_sq h) hi hj, tr_en h hj hi]
theorem lot_cw {n : Nat} {x : List (List Int)} (h : Sq n x) : lot (cw x) = lot x := by
  have c4 := cw4 h
  refine least_one (lot_in (cw x)) (lot_in x) (fun z hz => ?_) (fun z hz => ?_)
  · simp only [images, List.mem_cons, List.mem_nil_iff, or_false, c4] at hz ⊢
    rcases hz with hz | hz | hz | hz | hz | hz | hz | hz <;> simp [hz]
  · simp only [images, List.mem_cons, List.mem_nil_iff, or_false, c4] at hz ⊢
    rcases hz with hz | hz | hz | hz | hz | hz | hz | hz <;> simp [hz]
theorem wrap_add (a b : Int) : wrap64 (wrap64 a + b) = wrap64 (a + b) := by unfold wrap64; omega
theorem wrap_add2 (a b : Int) : wrap64 (wrap64 a + wrap64 b) = wrap64 (a + b) := by unfold wrap64; omega
theorem sumOf (r : List Int) (hr : r.length ≤ 1048576) : Ans (fun k => impl_sum.f k r) (wrap64 (S r.length (fun t => r.getD t 0))) := by
  have key : ∀ (d i : Nat) (a : Int), i + d = r.length → Ans (fun k => impl_sum.l0 k (wrap64 a) r (r.length : Int) (i : Int)) (wrap64 (a + S d (fun t => r.getD (i + t) 0))) := by
    intro d
    induction d with
    | zero =>
      intro i a h
      refine Ans.step ?_
      simp only [impl_sum.l0, S, Int.add_zero]
      exact Ans.not (by omega) (Ans.pure _)
    | succ d ih =>
      intro i a h
      have e := ih (i + 1) (a + r.getD i 0) (by omega)
      rw [S_front, Nat.add_zero, ← Int.add_assoc, S_congr (f := fun t => r.getD (i + (t + 1)) 0) (g := fun t => r.getD (i + 1 + t) 0) (fun t _ => by congr 1; omega)]
      rw [show ((i + 1 : Nat) : Int) = (i : Int) + 1 by omega] at e
      refine Ans.step ?_
      simp only [impl_sum.l0, wrap64_up (show (0 : Int) ≤ i by omega) (by omega)]
      refine Ans.yes (by omega) (Ans.yes (by omega) (Ans.yes (by omega) ?_))
      rw [show rd r (i : Int) = r.getD i 0 by simp only [rd, Int.toNat_natCast], wrap_add]
      exact e
  have := key r.length 0 0 (by omega)
  rw [show wrap64 0 = 0 from wrap64_in 0 ⟨by omega, by omega⟩, Int.zero_add, S_congr (g := fun t => r.getD t 0) (fun t _ => by rw [Nat.zero_add])] at this
  exact this
def invRes (x : List (List Int)) : Int × Bool := if sign x = true then (inv x, true) else (0, false)
theorem invRes_of {x : List (List Int)} (s : sign x = true) : invRes x = (inv x, true) := if_pos s
theorem inv_bound {x : List (List Int)} (s : sign x = true) : -1296 ≤ inv x ∧ inv x ≤ 1296 := by
  obtain ⟨h, h1, h2, E, _, _⟩ := sign_en s rfl
  have b1 : ∀ i k, i < x.length → k < i → -36 ≤ T x.length (fun j l => en x k j * en x i l) ∧ T x.length (fun j l => en x k j * en x i l) ≤ 36 := fun i k hi hk => by
    have a : ∀ j l, j < x.length → l < j → -1 ≤ en x k j * en x i l ∧ en x k j * en x i l ≤ 1 := fun j l hj hl => by
      have p := (E k j (by omega) hj).1
      have q := (E i l hi (by omega)).1
      rcases (show en x k j = -1 ∨ en x k j = 0 ∨ en x k j = 1 by omega) with c | c | c <;> rw [c] <;> omega
    have := S_bound (n := x.length) (f := fun j => S j (fun l => en x k j * en x i l)) (B := 6) (fun j hj => by
      have := S_bound (n := j) (f := fun l => en x k j * en x i l) (B := 1) (fun l hl => a j l hj hl)
      omega)
    rw [show T x.length (fun j l => en x k j * en x i l) = S x.length (fun j => S j (fun l => en x k j * en x i l)) from rfl]
    omega
  have := S_bound (n := x.length) (f := fun i => S i (fun k => T x.length (fun j l => en x k j * en x i l))) (B := 216) (fun i hi => by
    have := S_bound (n := i) (f := fun k => T x.length (fun j l => en x k j * en x i l)) (B := 36) (fun k hk => b1 i k hi hk)
    omega)
  unfold inv
  rw [show T x.length (fun i k => T x.length (fun j l => en x k j * en x i l)) = S x.length (fun i => S i (fun k => T x.length (fun j l => en x k j * en x i l))) from rfl]
  omega
theorem minus_bound {x : List (List Int)} (s : sign x = true) : -36 ≤ minus x ∧ minus x ≤ 36 := by
  obtain ⟨h, h1, h2, E, _, _⟩ := sign_en s rfl
  unfold minus
  have := S_bound (n := x.length) (f := fun i => S x.length (fun j => if en x i j = -1 then 1 else 0)) (B := 6) (fun i hi => by
    have := S_bound (n := x.length) (f := fun j => if en x i j = -1 then 1 else 0) (B := 1) (fun j hj => by split <;> omega)
    omega)
  omega
theorem specInv {n : Nat} {x : List (List Int)} (h : Sq n x) (hn : n ≤ 6) : Ans (fun k => spec_InversionsOf.l0 k x (wrap64 0) (n : Int) 0) (wrap64 (inv x), true) := by
  have hl := h.1
  have row : ∀ i : Nat, i < n → (rd_L3 x (i : Int)).length = n := fun i hi => by unfold rd_L3; rw [Int.toNat_natCast]; exact h.row hi
  have rde : ∀ i j : Nat, rd (rd_L3 x (i : Int)) (j : Int) = en x i j := fun i j => by simp only [rd, rd_L3, Int.toNat_natCast, en]
  have l3 : ∀ (i kk j : Nat) (R : Int × Bool), i < n → kk < n → j < n → ∀ (d l : Nat) (a : Int), l + d = j →
      Ans (fun k => spec_InversionsOf.l2 k x (wrap64 (a + S d (fun t => en x i j * en x kk (l + t)))) i kk n i (rd_L3 x (i : Int)) n ((j + 1 : Nat) : Int)) R →
      Ans (fun k => spec_InversionsOf.l3 k x (wrap64 a) i kk j (en x i j) l n i (rd_L3 x (i : Int)) n j) R := by
    intro i kk j R hi hk hj d
    induction d with
    | zero =>
      intro l a hd e
      simp only [S, Int.add_zero] at e
      refine Ans.step ?_
      simp only [spec_InversionsOf.l3, wrap64_up (show (0 : Int) ≤ j by omega) (by omega)]
      rw [show ((j + 1 : Nat) : Int) = (j : Int) + 1 by omega] at e
      exact Ans.not (by omega) e
    | succ d ih =>
      intro l a hd e
      rw [S_front, Nat.add_zero, ← Int.add_assoc, S_congr (g := fun t => en x i j * en x kk (l + 1 + t)) (fun t _ => by rw [show l + (t + 1) = l + 1 + t by omega])] at e
      have := ih (l + 1) _ (by omega) e
      rw [show ((l + 1 : Nat) : Int) = (l : Int) + 1 by omega] at this
      refine Ans.step ?_
      simp only [spec_InversionsOf.l3, wrap64_up (show (0 : Int) ≤ l by omega) (by omega)]
      have r := row kk hk
      refine Ans.yes (by omega) (Ans.yes (by omega) (Ans.yes (by omega) (Ans.yes (by omega) (Ans.yes (by omega) ?_))))
      rw [rde, wrap_add2]
      exact this
  have l2 : ∀ (i kk : Nat) (R : Int × Bool), i < n → kk < n → ∀ (d j : Nat) (a : Int), j + d = n →
      Ans (fun k => spec_InversionsOf.l1 k x (wrap64 (a + S d (fun t => S (j + t) (fun l => en x i (j + t) * en x kk l)))) i ((kk + 1 : Nat) : Int) n i) R →
      Ans (fun k => spec_InversionsOf.l2 k x (wrap64 a) i kk n i (rd_L3 x (i : Int)) n j) R := by
    intro i kk R hi hk d
    induction d with
    | zero =>
      intro j a hd e
      simp only [S, Int.add_zero] at e
      refine Ans.step ?_
      simp only [spec_InversionsOf.l2, wrap64_up (show (0 : Int) ≤ kk by omega) (by omega)]
      rw [show ((kk + 1 : Nat) : Int) = (kk : Int) + 1 by omega] at e
      exact Ans.not (by omega) e
    | succ d ih =>
      intro j a hd e
      rw [S_front, Nat.add_zero, ← Int.add_assoc, S_congr (f := fun t => S (j + (t + 1)) (fun l => en x i (j + (t + 1)) * en x kk l)) (g := fun t => S (j + 1 + t) (fun l => en x i (j + 1 + t) * en x kk l)) (fun t _ => by rw [show j + (t + 1) = j + 1 + t by omega])] at e
      have e1 := ih (j + 1) _ (by omega) e
      have e2 := l3 i kk j R hi hk (by omega) j 0 a (by omega) (by
        rw [S_congr (g := fun l => en x i j * en x kk l) (fun t _ => by rw [Nat.zero_add])]; exact e1)
      refine Ans.step ?_
      simp only [spec_InversionsOf.l2]
      have r := row i hi
      refine Ans.yes (by omega) (Ans.yes (by omega) (Ans.yes (by omega) ?_))
      rw [rde]
      exact e2
  have l1 : ∀ (i : Nat) (R : Int × Bool), i < n → ∀ (d kk : Nat) (a : Int), kk + d = n →
      Ans (fun k => spec_InversionsOf.l0 k x (wrap64 (a + S d (fun t => T n (fun j l => en x i j * en x (kk + t) l)))) n ((i + 1 : Nat) : Int)) R →
      Ans (fun k => spec_InversionsOf.l1 k x (wrap64 a) i kk n i) R := by
    intro i R hi d
    induction d with
    | zero =>
      intro kk a hd e
      simp only [S, Int.add_zero] at e
      refine Ans.step ?_
      simp only [spec_InversionsOf.l1, hl, wrap64_up (show (0 : Int) ≤ i by omega) (by omega)]
      rw [show ((i + 1 : Nat) : Int) = (i : Int) + 1 by omega] at e
      exact Ans.not (by omega) e
    | succ d ih =>
      intro kk a hd e
      rw [S_front, Nat.add_zero, ← Int.add_assoc, S_congr (g := fun t => T n (fun j l => en x i j * en x (kk + 1 + t) l)) (fun t _ => by rw [show kk + (t + 1) = kk + 1 + t by omega])] at e
      have e1 := ih (kk + 1) _ (by omega) e
      have e2 := l2 i kk R hi (by omega) n 0 a (by omega) (by
        rw [S_congr (g := fun t => S t (fun l => en x i t * en x kk l)) (fun t _ => by rw [Nat.zero_add])]; exact e1)
      refine Ans.step ?_
      simp only [spec_InversionsOf.l1, hl, row i hi]
      exact Ans.yes (by omega) (Ans.yes (by omega) (Ans.yes (by omega) e2))
  have l0 : ∀ (d i : Nat) (a : Int), i + d = n → Ans (fun k => spec_InversionsOf.l0 k x (wrap64 a) n i) (wrap64 (a + S d (fun t => S (n - 1 - (i + t)) (fun u => T n (fun j l => en x (i + t) j * en x (i + t + 1 + u) l)))), true) := by
    intro d
    induction d with
    | zero =>
      intro i a hd
      refine Ans.step ?_
      simp only [spec_InversionsOf.l0, S, Int.add_zero]
      exact Ans.not (by omega) (Ans.pure _)
    | succ d ih =>
      intro i a hd
      have e := ih (i + 1) (a + S (n - 1 - i) (fun u => T n (fun j l => en x i j * en x (i + 1 + u) l))) (by omega)
      rw [S_front, Nat.add_zero, ← Int.add_assoc, S_congr (f := fun t => S (n - 1 - (i + (t + 1))) (fun u => T n (fun j l => en x (i + (t + 1)) j * en x (i + (t + 1) + 1 + u) l))) (g := fun t => S (n - 1 - (i + 1 + t)) (fun u => T n (fun j l => en x (i + 1 + t) j * en x (i + 1 + t + 1 + u) l))) (fun t _ => by rw [show i + (t + 1) = i + 1 + t by omega])]
      have e2 := l1 i _ (by omega) (n - 1 - i) (i + 1) a (by omega) e
      rw [show ((i + 1 : Nat) : Int) = (i : Int) + 1 by omega] at e2
      refine Ans.step ?_
      simp only [spec_InversionsOf.l0, wrap64_up (show (0 : Int) ≤ i by omega) (by omega)]
      exact Ans.yes (by omega) e2
  have := l0 n 0 0 (by omega)
  have w := T_up (fun i k => T n (fun j l => en x i j * en x k l)) n
  rw [Int.zero_add, S_congr (g := fun t => S (n - 1 - t) (fun u => T n (fun j l => en x t j * en x (t + 1 + u) l))) (fun t _ => by rw [Nat.zero_add]), w] at this
  rw [show inv x = T n (fun i k => T n (fun j l => en x k j * en x i l)) by unfold inv; rw [hl]]
  exact this
theorem implInv {n : Nat} {x : List (List Int)} (s : sign x = true) (hl : x.length = n) : Ans (fun k => impl_inversions.f k x) (wrap64 (inv x)) := by
  obtain ⟨h, _, hn, E, _, _⟩ := sign_en s hl
  have row : ∀ i : Nat, i < n → (rd_L3 x (i : Int)).length = n := fun i hi => by unfold rd_L3; rw [Int.toNat_natCast]; exact h.row hi
  have rde : ∀ i j : Nat, rd (rd_L3 x (i : Int)) (j : Int) = en x i j := fun i j => by simp only [rd, rd_L3, Int.toNat_natCast, en]
  have l2 : ∀ (i j : Nat) (R : Int), i < n → j < n → ∀ (d u : Nat) (a : Int), u + d = n - 1 - i →
      Ans (fun k => impl_inversions.l1 k x (wrap64 (a + S d (fun t => S j (fun l => en x i j * en x (i + 1 + (u + t)) l)))) i x n i (rd_L3 x (i : Int)) n ((j + 1 : Nat) : Int)) R →
      Ans (fun k => impl_inversions.l2 k x (wrap64 a) i j (en x i j) x n i (rd_L3 x (i : Int)) n j (x.drop (i + 1)) ((n - 1 - i : Nat) : Int) u) R := by
    intro i j R hi hj d
    induction d with
    | zero =>
      intro u a hd e
      simp only [S, Int.add_zero] at e
      refine Ans.step ?_
      simp only [impl_inversions.l2, wrap64_up (show (0 : Int) ≤ j by omega) (by omega)]
      rw [show ((j + 1 : Nat) : Int) = (j : Int) + 1 by omega] at e
      exact Ans.not (by omega) e
    | succ d ih =>
      intro u a hd e
      rw [S_front, Nat.add_zero, ← Int.add_assoc, S_congr (f := fun t => S j (fun l => en x i j * en x (i + 1 + (u + (t + 1))) l)) (g := fun t => S j (fun l => en x i j * en x (i + 1 + (u + 1 + t)) l)) (fun t _ => by rw [show u + (t + 1) = u + 1 + t by omega])] at e
      have e1 := ih (u + 1) _ (by omega) e
      have rr : rd_L3 (x.drop (i + 1)) (u : Int) = x.getD (i + 1 + u) [] := by
        simp only [rd_L3, Int.toNat_natCast]
        rw [getD_at _ _ (by rw [List.length_drop, hl]; omega), getD_at _ _ (by rw [hl]; omega), List.getElem_drop]
      have rl := h.row (show i + 1 + u < n by omega)
      have dl : (x.drop (i + 1)).length = n - 1 - i := by rw [List.length_drop, hl]; omega
      have sm := sumOf ((x.getD (i + 1 + u) []).take j) (by rw [List.length_take]; omega)
      have tl : ((x.getD (i + 1 + u) []).take j).length = j := by rw [List.length_take]; omega
      rw [tl, S_congr (g := en x (i + 1 + u)) (fun t ht => by rw [getD_at _ _ (by rw [tl]; exact ht), List.getElem_take]; simp only [en]; rw [getD_at _ 0 (by omega)])] at sm
      have b := (E (i + 1 + u) j (by omega) hj).2.1
      rw [wrap64_in _ ⟨by omega, by omega⟩] at sm
      refine Ans.step ?_
      simp only [impl_inversions.l2, rr, rl, dl, Int.toNat_natCast, wrap64_up (show (0 : Int) ≤ u by omega) (by omega)]
      refine Ans.yes (by omega) (Ans.yes (by omega) (Ans.yes (by omega) (Ans.yes (by omega) (Ans.yes (by omega) (sm.bind ?_)))))
      rw [wrap_add2, ← S_mul]
      rw [show ((u + 1 : Nat) : Int) = (u : Int) + 1 by omega] at e1
      exact e1
  have l1 : ∀ (i : Nat) (R : Int), i < n → ∀ (d j : Nat) (a : Int), j + d = n →
      Ans (fun k => impl_inversions.l0 k x (wrap64 (a + S d (fun t => S (n - 1 - i) (fun u => S (j + t) (fun l => en x i (j + t) * en x (i + 1 + u) l))))) x n ((i + 1 : Nat) : Int)) R →
      Ans (fun k => impl_inversions.l1 k x (wrap64 a) i x n i (rd_L3 x (i : Int)) n j) R := by
    intro i R hi d
    induction d with
    | zero =>
      intro j a hd e
      simp only [S, Int.add_zero] at e
      refine Ans.step ?_
      simp only [impl_inversions.l1, wrap64_up (show (0 : Int) ≤ i by omega) (by omega)]
      rw [show ((i + 1 : Nat) : Int) = (i : Int) + 1 by omega] at e
      exact Ans.not (by omega) e
    | succ d ih =>
      intro j a hd e
      rw [S_front, Nat.add_zero, ← Int.add_assoc, S_congr (f := fun t => S (n - 1 - i) (fun u => S (j + (t + 1)) (fun l => en x i (j + (t + 1)) * en x (i + 1 + u) l))) (g := fun t => S (n - 1 - i) (fun u => S (j + 1 + t) (fun l => en x i (j + 1 + t) * en x (i + 1 + u) l))) (fun t _ => by rw [show j + (t + 1) = j + 1 + t by omega])] at e
      have e1 := ih (j + 1) _ (by omega) e
      have e2 := l2 i j R hi (by omega) (n - 1 - i) 0 a (by omega) (by
        rw [S_congr (g := fun u => S j (fun l => en x i j * en x (i + 1 + u) l)) (fun t _ => by rw [Nat.zero_add])]; exact e1)
      refine Ans.step ?_
      simp only [impl_inversions.l1, wrap64_up (show (0 : Int) ≤ i by omega) (by omega), Option.bind_some]
      have r := row i hi
      have dl : (x.drop (i + 1)).length = n - 1 - i := by rw [List.length_drop, hl]; omega
      refine Ans.yes (by omega) (Ans.yes (by omega) (Ans.yes (by omega) (Ans.yes (by omega) (Ans.yes (by omega) ?_))))
      rw [show ((i : Int) + 1).toNat = i + 1 by omega, rde, dl]
      exact e2
  have l0 : ∀ (d i : Nat) (a : Int), i + d = n → Ans (fun k => impl_inversions.l0 k x (wrap64 a) x n i) (wrap64 (a + S d (fun t => S (n - 1 - (i + t)) (fun u => T n (fun j l => en x (i + t) j * en x (i + t + 1 + u) l))))) := by
    intro d
    induction d with
    | zero =>
      intro i a hd
      refine Ans.step ?_
      simp only [impl_inversions.l0, S, Int.add_zero]
      exact Ans.not (by omega) (Ans.pure _)
    | succ d ih =>
      intro i a hd
      have e := ih (i + 1) (a + S (n - 1 - i) (fun u => T n (fun j l => en x i j * en x (i + 1 + u) l))) (by omega)
      rw [S_front, Nat.add_zero, ← Int.add_assoc, S_congr (f := fun t => S (n - 1 - (i + (t + 1))) (fun u => T n (fun j l => en x (i + (t + 1)) j * en x (i + (t + 1) + 1 + u) l))) (g := fun t => S (n - 1 - (i + 1 + t)) (fun u => T n (fun j l => en x (i + 1 + t) j * en x (i + 1 + t + 1 + u) l))) (fun t _ => by rw [show i + (t + 1) = i + 1 + t by omega])]
      have e2 := l1 i _ (by omega) n 0 a (by omega) (by
        rw [S_congr (g := fun t => S (n - 1 - i) (fun u => S t (fun l => en x i t * en x (i + 1 + u) l))) (fun t _ => by rw [Nat.zero_add]), S_comm]; exact e)
      refine Ans.step ?_
      simp only [impl_inversions.l0, row i (by omega)]
      exact Ans.yes (by omega) (Ans.yes (by omega) (Ans.yes (by omega) e2))
  have := l0 n 0 0 (by omega)
  have w := T_up (fun i k => T n (fun j l => en x i j * en x k l)) n
  rw [Int.zero_add, S_congr (g := fun t => S (n - 1 - t) (fun u => T n (fun j l => en x t j * en x (t + 1 + u) l))) (fun t _ => by rw [Nat.zero_add]), w] at this
  rw [show inv x = T n (fun i k => T n (fun j l => en x k j * en x i l)) by unfold inv; rw [hl]]
  simp only [impl_inversions.f, hl]
  rw [show wrap64 0 = 0 from wrap64_in 0 ⟨by omega, by omega⟩] at this
  exact this
theorem invOf (x : List (List Int)) (hx : x.length ≤ 1048576) : Ans (fun k => impl_InversionsOf.f k x) (invRes x) ∧ Ans (fun k => spec_InversionsOf.f k x) (invRes x) := by
  simp only [impl_InversionsOf.f, spec_InversionsOf.f, invRes]
  by_cases s : sign x = true
  · obtain ⟨q, h6⟩ := sign_sq s
    have b := inv_bound s
    have w : wrap64 (inv x) = inv x := wrap64_in _ ⟨by omega, by omega⟩
    have e1 := implInv s rfl
    have e2 := specInv q h6
    rw [w] at e1 e2
    rw [show wrap64 0 = 0 from wrap64_in 0 ⟨by omega, by omega⟩] at e2
    rw [if_pos s]
    exact ⟨(isSign x hx).bind (Ans.yes s (e1.bind (Ans.pure _))), (sgGood x hx).bind (Ans.yes s e2)⟩
  · rw [if_neg s]
    exact ⟨(isSign x hx).bind (Ans.not s (Ans.pure _)), (sgGood x hx).bind (Ans.not s (Ans.pure _))⟩
theorem countOf {n : Nat} {x : List (List Int)} (h : Sq n x) (hn : n ≤ 100) (v : Int) : Ans (fun k => impl_countOf.f k x v) (wrap64 (S n (fun i => S n (fun j => if en x i j = v then 1 else 0)))) := by
  have hl := h.1
  have row : ∀ i : Nat, i < n → (rd_L3 x (i : Int)).length = n := fun i hi => by unfold rd_L3; rw [Int.toNat_natCast]; exact h.row hi
  have rde : ∀ i j : Nat, rd (rd_L3 x (i : Int)) (j : Int) = en x i j := fun i j => by simp only [rd, rd_L3, Int.toNat_natCast, en]
  have l1 : ∀ (i : Nat) (R : Int), i < n → ∀ (d j : Nat) (a : Int), j + d = n →
      Ans (fun k => impl_countOf.l0 k v (wrap64 (a + S d (fun t => if en x i (j + t) = v then 1 else 0))) x n ((i + 1 : Nat) : Int)) R →
      Ans (fun k => impl_countOf.l1 k v (wrap64 a) x n i (rd_L3 x (i : Int)) n j) R := by
    intro i R hi d
    induction d with
    | zero =>
      intro j a hd e
      simp only [S, Int.add_zero] at e
      refine Ans.step ?_
      simp only [impl_countOf.l1, wrap64_up (show (0 : Int) ≤ i by omega) (by omega)]
      rw [show ((i + 1 : Nat) : Int) = (i : Int) + 1 by omega] at e
      exact Ans.not (by omega) e
    | succ d ih =>
      intro j a hd e
      rw [S_front, Nat.add_zero, ← Int.add_assoc, S_congr (g := fun t => if en x i (j + 1 + t) = v then 1 else 0) (fun t _ => by rw [show j + (t + 1) = j + 1 + t by omega])] at e
      have e1 := ih (j + 1) _ (by omega) e
      rw [show ((j + 1 : Nat) : Int) = (j : Int) + 1 by omega] at e1
      refine Ans.step ?_
      simp only [impl_countOf.l1, impl_bit.f, wrap64_up (show (0 : Int) ≤ j by omega) (by omega), rde]
      have r := row i hi
      refine Ans.yes (by omega) (Ans.yes (by omega) (Ans.yes (by omega) ?_))
      by_cases c : en x i j = v
      · rw [if_pos c] at e1; rw [show (en x i j == v) = true by simp [c], if_pos rfl]; simp only [Option.bind_some, wrap_add]; exact e1
      · rw [if_neg c] at e1; rw [show (en x i j == v) = false by simp [c], if_neg (by simp)]; simp only [Option.bind_some, wrap_add]; exact e1
  have l0 : ∀ (d i : Nat) (a : Int), i + d = n → Ans (fun k => impl_countOf.l0 k v (wrap64 a) x n i) (wrap64 (a + S d (fun t => S n (fun j => if en x (i + t) j = v then 1 else 0)))) := by
    intro d
    induction d with
    | zero =>
      intro i a hd
      refine Ans.step ?_
      simp only [impl_countOf.l0, S, Int.add_zero]
      exact Ans.not (by omega) (Ans.pure _)
    | succ d ih =>
      intro i a hd
      have e := ih (i + 1) (a + S n (fun j => if en x i j = v then 1 else 0)) (by omega)
      rw [S_front, Nat.add_zero, ← Int.add_assoc, S_congr (f := fun t => S n (fun j => if en x (i + (t + 1)) j = v then 1 else 0)) (g := fun t => S n (fun j => if en x (i + 1 + t) j = v then 1 else 0)) (fun t _ => by rw [show i + (t + 1) = i + 1 + t by omega])]
      have e2 := l1 i _ (by omega) n 0 a (by omega) (by
        rw [S_congr (g := fun j => if en x i j = v then 1 else 0) (fun t _ => by rw [Nat.zero_add])]; exact e)
      refine Ans.step ?_
      simp only [impl_countOf.l0, row i (by omega)]
      exact Ans.yes (by omega) (Ans.yes (by omega) (Ans.yes (by omega) e2))
  have := l0 n 0 0 (by omega)
  rw [Int.zero_add, S_congr (g := fun t => S n (fun j => if en x t j = v then 1 else 0)) (fun t _ => by rw [Nat.zero_add]), show wrap64 0 = 0 from wrap64_in 0 ⟨by omega, by omega⟩] at this
  simp only [impl_countOf.f, hl]
  exact this
theorem minusOf (x : List (List Int)) (s : sign x = true) : Ans (fun k => impl_MinusOnes.f k x) (minus x, true) := by
  obtain ⟨q, h6⟩ := sign_sq s
  have b := minus_bound s
  have e := countOf q (by omega) (-1)
  rw [show S x.length (fun i => S x.length (fun j => if en x i j = -1 then 1 else 0)) = minus x from rfl, wrap64_in _ ⟨by omega, by omega⟩] at e
  simp only [impl_MinusOnes.f]
  exact (isSign x (by omega)).bind (Ans.yes s (e.bind (Ans.pure _)))
/-- The first one that is not zero is a one. -/
theorem walk_first : ∀ c : List Int, walkOk 0 c = true → ∃ p, p < c.length ∧ c.getD p 0 = 1 ∧ ∀ q, q < p → c.getD q 0 = 0
  | [], h => by simp [walkOk] at h
  | a :: c, h => by
    simp only [walkOk, Bool.and_eq_true, decide_eq_true_eq] at h
    by_cases e : a = 0
    · subst e
      obtain ⟨p, h1, h2, h3⟩ := walk_first c (by simpa using h.2.2)
      refine ⟨p + 1, by simpa using h1, by simpa using h2, fun q hq => ?_⟩
      cases q with
      | zero => rfl
      | succ q => simpa using h3 q (by omega)
    · exact ⟨0, by simp, by simp only [List.getD_cons_zero]; omega, fun q hq => absurd hq (by omega)⟩
def firstIx : List Int → Nat
  | [] => 0
  | a :: c => if a = 0 then firstIx c + 1 else 0
theorem firstIx_is : ∀ (c : List Int) (p : Nat), p < c.length → c.getD p 0 ≠ 0 → (∀ q, q < p → c.getD q 0 = 0) → firstIx c = p
  | [], p, h, _, _ => by simp at h
  | a :: c, p, h, h1, h2 => by
    rw [firstIx]
    cases p with
    | zero => rw [if_neg (by simpa using h1)]
    | succ p =>
      rw [if_pos (by simpa using h2 0 (by omega)), firstIx_is c p (by simpa using h) (by simpa using h1) (fun q hq => by simpa using h2 (q + 1) (by omega))]
def firstRes (x : List (List Int)) : Int × Bool := if sign x = true then ((firstIx (x.getD 0 []) : Int), true) else (0, false)
theorem first_row {x : List (List Int)} (s : sign x = true) : firstIx (x.getD 0 []) < (x.getD 0 []).length ∧ (x.getD 0 []).getD (firstIx (x.getD 0 [])) 0 = 1 ∧ ∀ q, q < firstIx (x.getD 0 []) → (x.getD 0 []).getD q 0 = 0 := by
  obtain ⟨q, h1, h6, R, C⟩ := sign_parts s rfl
  obtain ⟨p, a, b, c⟩ := walk_first _ (R _ (getD_mem (n := 0) [] h1))
  have e := firstIx_is _ p a (by omega) c
  rw [e]; exact ⟨a, b, c⟩
theorem firstRes_at {x : List (List Int)} (s : sign x = true) : (firstRes x).2 = true ∧ 0 < (x.length : Int) ∧ (0 ≤ (firstRes x).1 ∧ (firstRes x).1 < x.length) ∧ (x.getD 0 []).getD (firstRes x).1.toNat 0 = 1 := by
  obtain ⟨q, h1, h6, R, C⟩ := sign_parts s rfl
  obtain ⟨a, b, c⟩ := first_row s
  have := q.row h1
  rw [show firstRes x = ((firstIx (x.getD 0 []) : Int), true) from if_pos s]
  refine ⟨rfl, by omega, ⟨by simp only; omega, by simp only; omega⟩, ?_⟩
  simp only [Int.toNat_natCast]; exact b
theorem firstOf (x : List (List Int)) (hx : x.length ≤ 1048576) : Ans (fun k => impl_FirstColumn.f k x) (firstRes x) ∧ Ans (fun k => spec_FirstColumn.f k x) (firstRes x) := by
  simp only [impl_FirstColumn.f, spec_FirstColumn.f, firstRes]
  by_cases s : sign x = true
  case neg =>
    rw [if_neg s]
    exact ⟨(isSign x hx).bind (Ans.not s (Ans.pure _)), (sgGood x hx).bind (Ans.not s (Ans.pure _))⟩
  obtain ⟨q, h1, h6, R, C⟩ := sign_parts s rfl
  obtain ⟨a, b, c⟩ := first_row s
  obtain ⟨r, hr⟩ : ∃ r, r = x.getD 0 [] := ⟨_, rfl⟩
  have rl := q.row h1
  rw [← hr] at a b c rl
  have r0 : rd_L3 x 0 = r := by rw [hr]; rfl
  rw [if_pos s, ← hr]
  obtain ⟨p, hp⟩ : ∃ p, p = firstIx r := ⟨_, rfl⟩
  rw [← hp] at a b c ⊢
  have e1 : ∀ (d i : Nat), i + d = p → Ans (fun k => slices_Index_int_int.l0 k r 1 (r.length : Int) (i : Int)) (p : Int) := by
    intro d
    induction d with
    | zero =>
      intro i h
      obtain rfl : i = p := by omega
      refine Ans.step ?_
      simp only [slices_Index_int_int.l0]
      exact Ans.yes (by omega) (Ans.yes (by omega) (Ans.yes (by omega) (Ans.yes (by simp only [rd, Int.toNat_natCast]; omega) (Ans.pure _))))
    | succ d ih =>
      intro i h
      have e := ih (i + 1) (by omega)
      rw [show ((i + 1 : Nat) : Int) = (i : Int) + 1 by omega] at e
      have z := c i (by omega)
      refine Ans.step ?_
      simp only [slices_Index_int_int.l0, wrap64_up (show (0 : Int) ≤ i by omega) (by omega)]
      exact Ans.yes (by omega) (Ans.yes (by omega) (Ans.yes (by omega) (Ans.not (by simp only [rd, Int.toNat_natCast]; omega) e)))
  have e2 : ∀ (d i : Nat), i + d = p → Ans (fun k => spec_FirstColumn.l0 k x (i : Int)) ((p : Int), true) := by
    intro d
    induction d with
    | zero =>
      intro i h
      obtain rfl : i = p := by omega
      refine Ans.step ?_
      simp only [spec_FirstColumn.l0, r0]
      exact Ans.yes (by omega) (Ans.yes (by omega) (Ans.yes (by omega) (Ans.not (by simp only [rd, Int.toNat_natCast]; omega) (Ans.pure _))))
    | succ d ih =>
      intro i h
      have e := ih (i + 1) (by omega)
      rw [show ((i + 1 : Nat) : Int) = (i : Int) + 1 by omega] at e
      have z := c i (by omega)
      refine Ans.step ?_
      simp only [spec_FirstColumn.l0, r0, wrap64_up (show (0 : Int) ≤ i by omega) (by omega)]
      exact Ans.yes (by omega) (Ans.yes (by omega) (Ans.yes (by omega) (Ans.yes (by simp only [rd, Int.toNat_natCast]; exact z) e)))
  have f1 := e1 p 0 (by omega)
  have f2 := e2 p 0 (by omega)
  have g1 : Ans (fun k => slices_Index_int_int.f k r 1) (p : Int) := by simp only [slices_Index_int_int.f]; exact f1
  refine ⟨(isSign x hx).bind (Ans.yes s (Ans.yes (by omega) ?_)), (sgGood x hx).bind (Ans.yes s f2)⟩
  rw [r0]
  exact g1.bind (Ans.pure _)
theorem copyTable (x : List (List Int)) (h : x.length ≤ 1048576) (hr : ∀ r ∈ x, r.length ≤ 1048576) : Ans (fun k => impl_copyTable.f k x) x := by
  have key : ∀ (d : Nat) (i : Int) (acc : List (List Int)), 0 ≤ i → i + d = x.length → acc.length + d ≤ 1048576 → Ans (fun k => impl_copyTable.l0 k acc x (x.length : Int) i) (acc ++ x.drop i.toNat) := by
    intro d
    induction d with
    | zero =>
      intro i acc h0 h1 h2
      rw [List.drop_eq_nil_of_le (by omega), List.append_nil]; refine Ans.step ?_
      simp only [impl_copyTable.l0]; exact Ans.not (by omega) (Ans.pure _)
    | succ d ih =>
      intro i acc h0 h1 h2
      have hm := hr _ (rd_L1_mem h0 (show i < x.length by omega))
      have e := ih (i + 1) (acc ++ [rd_L3 x i]) (by omega) (by omega) (by simp only [List.length_append, List.length_singleton]; omega)
      rw [show (i + 1).toNat = i.toNat + 1 by omega, List.append_assoc, List.singleton_append] at e
      rw [drop_at x [] (show i.toNat < x.length by omega), show x.getD i.toNat [] = rd_L3 x i from rfl]
      refine Ans.step ?_
      simp only [impl_copyTable.l0, slices_Clone_int_int.f, Option.bind_some, if_pos (by omega : (rd_L3 x i).length < 17592186044416), wrap64_up h0 (by omega : i ≤ 4611686018427387904)]
      exact Ans.yes (by omega) (Ans.yes h0 (Ans.yes (by omega) (Ans.yes (by omega) e)))
  exact key x.length 0 [] (by omega) (by omega) (by simp only [List.length_nil]; omega)
/-- The reader of draws: from place a on, at most n places on. -/
theorem draw_next (c : List Int) (hc : ∀ x ∈ c, (Lit.int .u8 x).wf = true) (a s : Int) (h0 : 0 ≤ a) (h1 : a ≤ 2305843009213693952) : ∃ b s', spec_l1Cur_next.f c a s = some (b, a + 1, s') ∧ 0 ≤ b ∧ b ≤ 255 := by
  have hw : wrap64 (a + 1) = a + 1 := wrap64_in _ ⟨by omega, by omega⟩
  simp only [spec_l1Cur_next.f, hw]
  by_cases c1 : a < (c.length : Int)
  · have hr := byte_wf (hc (rd c a) (getD_mem 0 (by omega)))
    have hw2 : wrap64 (rd c a) = rd c a := wrap64_in _ ⟨by omega, by omega⟩
    rw [if_pos c1, if_pos h0, if_pos (by omega)]
    exact ⟨_, _, rfl, by rw [hw2]; exact hr.1, by rw [hw2]; exact hr.2⟩
  · rw [if_neg c1, if_neg (by omega)]
    exact ⟨_, _, rfl, (byte_and _).1, (byte_and _).2⟩
theorem tmod_in {x n : Int} (h : 0 ≤ x) (hn : 1 < n) : 0 ≤ Int.tmod x n ∧ Int.tmod x n < n := ⟨Int.tmod_nonneg _ h, Int.tmod_lt_of_pos _ (by omega)⟩
theorem draw_pick (c : List Int) (hc : ∀ x ∈ c, (Lit.int .u8 x).wf = true) (a s n : Int) (h0 : 0 ≤ a) (h1 : a ≤ 1152921504606846976) : ∃ v a' s', spec_l1Cur_pick.f c a s n = some (v, a', s') ∧ a ≤ a' ∧ a' ≤ a + 2 ∧ 0 ≤ v ∧ (v < n ∨ v = 0) := by
  simp only [spec_l1Cur_pick.f]
  by_cases c1 : n ≤ 1
  · rw [if_pos c1]; exact ⟨_, _, _, rfl, by omega, by omega, by omega, by omega⟩
  · rw [if_neg c1]
    obtain ⟨b, s1, e1, b0, b1⟩ := draw_next c hc a s h0 (by omega)
    rw [e1]; simp only [Option.bind_some]
    by_cases c2 : n > 200
    · rw [if_pos c2]
      obtain ⟨b', s2, e2, b0', b1'⟩ := draw_next c hc (a + 1) s1 (by omega) (by omega)
      rw [e2]; simp only [Option.bind_some]
      rw [if_neg (by omega), wrap64_in (b * 256) ⟨by omega, by omega⟩, wrap64_in (b * 256 + b') ⟨by omega, by omega⟩]
      have := tmod_in (x := b * 256 + b') (n := n) (by omega) (by omega)
      exact ⟨_, _, _, rfl, by omega, by omega, this.1, .inl this.2⟩
    · rw [if_neg c2, if_neg (by omega)]
      have := tmod_in (x := b) (n := n) (by omega) (by omega)
      exact ⟨_, _, _, rfl, by omega, by omega, this.1, .inl this.2⟩
theorem draw_one (c : List Int) (hc : ∀ x ∈ c, (Lit.int .u8 x).wf = true) (a s n : Int) (h0 : 0 ≤ a) (h1 : a ≤ 1152921504606846976) : ∃ v a' s', spec_l1Cur_one.f c a s n = some (v, a', s') ∧ a ≤ a' ∧ a' ≤ a + 2 := by
  obtain ⟨v, a', s', e, h2, h3, _⟩ := draw_pick c hc a s n h0 h1
  simp only [spec_l1Cur_one.f, e, Option.bind_some]
  exact ⟨_, _, _, rfl, h2, h3⟩
theorem draw_among (c : List Int) (hc : ∀ x ∈ c, (Lit.int .u8 x).wf = true) (a s : Int) (l : List Int) (hl : 0 < l.length) (h0 : 0 ≤ a) (h1 : a ≤ 1152921504606846976) : ∃ v a' s', spec_l1Cur_among.f c a s l = some (v, a', s') ∧ a ≤ a' ∧ a' ≤ a + 2 ∧ v ∈ l := by
  obtain ⟨v, a', s', e, h2, h3, h4, h5⟩ := draw_pick c hc a s (l.length : Int) h0 h1
  simp only [spec_l1Cur_among.f, e, Option.bind_some]
  rw [if_pos h4, if_pos (by omega)]
  exact ⟨_, _, _, rfl, h2, h3, getD_mem 0 (by omega)⟩
/-- A number of a square table is put. -/
theorem put_sq {n : Nat} {y : List (List Int)} (h : Sq n y) (i j : Nat) (hi : i < n) (hj : j < n) (v : Int) : Sq n (y.set i ((y.getD i []).set j v)) ∧
    ∀ a b : Nat, a < n → b < n → ((y.set i ((y.getD i []).set j v)).getD a []).getD b 0 = if a = i ∧ b = j then v else (y.getD a []).getD b 0 := by
  have hr := h.row hi
  refine ⟨⟨by rw [List.length_set]; exact h.1, fun r hr' => ?_⟩, fun a b ha hb => ?_⟩
  · rcases List.mem_or_eq_of_mem_set hr' with h1 | h1
    · exact h.2 r h1
    · rw [h1, List.length_set]; exact hr
  · have ra := h.row ha
    by_cases e : i = a
    · subst e
      rw [show (y.set i ((y.getD i []).set j v)).getD i [] = (y.getD i []).set j v from by rw [getD_at (y.set i _) [] (by rw [List.length_set, h.1]; exact hi), List.getElem_set_self]]
      by_cases e2 : j = b
      · subst e2; rw [if_pos ⟨rfl, rfl⟩, getD_at _ _ (by rw [List.length_set, hr]; exact hj), List.getElem_set_self]
      · rw [if_neg (fun h => e2 h.2.symm), getD_at _ _ (by rw [List.length_set, hr]; exact hb), List.getElem_set_ne e2, ← getD_at _ 0 (by rw [hr]; exact hb)]
    · rw [if_neg (fun h => e h.1.symm), getD_at _ [] (by rw [List.length_set, h.1]; exact ha), List.getElem_set_ne e, ← getD_at y [] (by rw [h.1]; exact ha)]
theorem rep_sq (n : Nat) (v : Int) : Sq n (List.replicate n (List.replicate n v)) := ⟨by simp, fun r hr => by rw [List.eq_of_mem_replicate hr]; simp⟩
theorem sgZero (n : Nat) (hn : n ≤ 1000) : Ans (fun k => spec_sgZero.f k n) (List.replicate n (List.replicate n 0)) := by
  have key : ∀ (d i : Nat), i + d = n → Ans (fun k => spec_sgZero.l0 k n (List.replicate i (List.replicate n 0)) (i : Int)) (List.replicate n (List.replicate n 0)) := by
    intro d
    induction d with
    | zero =>
      intro i h
      obtain rfl : i = n := by omega
      exact Ans.step (by simp only [spec_sgZero.l0]; exact Ans.not (by omega) (Ans.pure _))
    | succ d ih =>
      intro i h
      have e := ih (i + 1) (by omega)
      refine Ans.step ?_
      simp only [spec_sgZero.l0, wrap64_up (show (0 : Int) ≤ i by omega) (by omega), Int.toNat_natCast]
      rw [List.replicate_succ', show ((i + 1 : Nat) : Int) = (i : Int) + 1 by omega] at e
      exact Ans.yes (by omega) (Ans.yes (by omega) (Ans.yes (by omega) (Ans.yes (by rw [List.length_replicate]; omega) e)))
  exact key n 0 (by omega)
/-- A corner sum, 0 beside the table. -/
def sgat (x : List (List Int)) (i j : Int) : Int := if i < 0 then 0 else if j < 0 then 0 else rd (rd_L3 x i) j
theorem sgAt {n : Nat} {x : List (List Int)} (h : Sq n x) (i j : Int) (hi : i < n) (hj : j < n) : spec_sgAt.f x i j = some (sgat x i j) := by
  simp only [spec_sgAt.f, sgat]
  by_cases c1 : i < 0
  · rw [if_pos c1, if_pos c1]
  · by_cases c2 : j < 0
    · rw [if_neg c1, if_neg c1, if_pos c2, if_pos c2]
    · have hr : (rd_L3 x i).length = n := h.row (by omega)
      rw [if_neg c1, if_neg c1, if_neg c2, if_neg c2, if_pos (by omega), if_pos (by have := h.1; omega), if_pos (by omega), if_pos (by omega)]
/-- The number that corner sums leave. -/
def diff (x : List (List Int)) (i j : Int) : Int := wrap64 (wrap64 (wrap64 (sgat x i j - sgat x (i - 1) j) - sgat x i (j - 1)) + sgat x (i - 1) (j - 1))
def frm (x : List (List Int)) : List (List Int) := tab x.length x.length (fun i j => diff x i j)
theorem tab_sq (n : Nat) (v : Nat → Nat → Int) : Sq n (tab n n v) := ⟨by simp [tab], fun r hr => by obtain ⟨a, _, rfl⟩ := List.mem_map.1 hr; simp⟩
theorem sgFrom (n : Nat) (x : List (List Int)) (h : Sq n x) (hn : n ≤ 1000) : Ans (fun k => spec_sgFrom.f k x) (frm x) := by
  have hx := h.1
  have inner : ∀ (i : Nat), i < n → ∀ (d j : Nat) (y : List (List Int)), j + d = n → Sq n y → (∀ a b : Nat, a < n → b < n → (a < i ∨ a = i ∧ b < j) → (y.getD a []).getD b 0 = diff x a b) →
      (∀ y', Sq n y' → (∀ a b : Nat, a < n → b < n → a < i + 1 → (y'.getD a []).getD b 0 = diff x a b) → Ans (fun k => spec_sgFrom.l0 k x y' (n : Int) ((i + 1 : Nat) : Int)) (frm x)) →
      Ans (fun k => spec_sgFrom.l1 k x y (i : Int) (n : Int) (i : Int) (n : Int) (j : Int)) (frm x) := by
    intro i hi d
    induction d with
    | zero =>
      intro j y hj hy hv nx
      refine Ans.step ?_
      simp only [spec_sgFrom.l1, wrap64_up (show (0 : Int) ≤ i by omega) (by omega)]
      have := nx y hy (fun a b ha hb hlt => hv a b ha hb (by omega))
      rw [show ((i + 1 : Nat) : Int) = (i : Int) + 1 by omega] at this
      exact Ans.not (by omega) this
    | succ d ih =>
      intro j y hj hy hv nx
      obtain ⟨q1, q2⟩ := put_sq hy i j hi (by omega) (diff x i j)
      have e := ih (j + 1) _ (by omega) q1 (fun a b ha hb hlt => by
        rw [q2 a b ha hb]
        by_cases c : a = i ∧ b = j
        · rw [if_pos c, c.1, c.2]
        · rw [if_neg c]; exact hv a b ha hb (by omega)) nx
      have hr : (rd_L3 y (i : Int)).length = n := by unfold rd_L3; rw [Int.toNat_natCast]; exact hy.row hi
      have w1 : wrap64 ((i : Int) - 1) = (i : Int) - 1 := wrap64_in _ ⟨by omega, by omega⟩
      have w2 : wrap64 ((j : Int) - 1) = (j : Int) - 1 := wrap64_in _ ⟨by omega, by omega⟩
      refine Ans.step ?_
      simp only [spec_sgFrom.l1, w1, w2, wrap64_up (show (0 : Int) ≤ j by omega) (by omega), sgAt h i j (by omega) (by omega), sgAt h ((i : Int) - 1) j (by omega) (by omega), sgAt h i ((j : Int) - 1) (by omega) (by omega), sgAt h ((i : Int) - 1) ((j : Int) - 1) (by omega) (by omega), Option.bind_some, Int.toNat_natCast]
      rw [show ((j + 1 : Nat) : Int) = (j : Int) + 1 by omega] at e
      exact Ans.yes (by omega) (Ans.yes (by omega) (Ans.yes (by have := hy.1; omega) (Ans.yes (by omega) (Ans.yes (by omega) e))))
  have key : ∀ (d i : Nat) (y : List (List Int)), i + d = n → Sq n y → (∀ a b : Nat, a < n → b < n → a < i → (y.getD a []).getD b 0 = diff x a b) → Ans (fun k => spec_sgFrom.l0 k x y (n : Int) (i : Int)) (frm x) := by
    intro d
    induction d with
    | zero =>
      intro i y h1 hy hv
      have : y = frm x := by unfold frm; rw [hx]; exact (tab_is hy _ (fun a b ha hb => (hv a b ha hb (by omega)).symm)).symm
      rw [this]
      exact Ans.step (by simp only [spec_sgFrom.l0]; exact Ans.not (by omega) (Ans.pure _))
    | succ d ih =>
      intro i y h1 hy hv
      refine Ans.step ?_
      simp only [spec_sgFrom.l0, hx]
      exact Ans.yes (by omega) (inner i (by omega) n 0 y (by omega) hy (fun a b ha hb hlt => hv a b ha hb (by omega)) (fun y' hy' hv' => ih (i + 1) y' (by omega) hy' hv'))
  simp only [spec_sgFrom.f, hx]
  exact (sgZero n hn).bind (by
    have := key n 0 (List.replicate n (List.replicate n 0)) (by omega) (rep_sq n 0) (fun a b ha hb hlt => by omega)
    simpa [rep_sq] using this)
theorem frm_sq {n : Nat} {x : List (List Int)} (h : Sq n x) : Sq n (frm x) := by unfold frm; rw [h.1]; exact tab_sq n _
/-- The corner sums of the least sign matrix. -/
def corn (n : Nat) : List (List Int) := tab n n (fun i j => ((min i j : Nat) : Int) + 1)
theorem corn_sign : ∀ n : Nat, 1 ≤ n → n ≤ 6 → sign (frm (corn n)) = true := by
  intro n h1 h2
  rcases (show n = 1 ∨ n = 2 ∨ n = 3 ∨ n = 4 ∨ n = 5 ∨ n = 6 by omega) with rfl | rfl | rfl | rfl | rfl | rfl
  all_goals decide +kernel
/-- All numbers are in range. -/
def InZ (x : List (List Int)) : Prop := ∀ r ∈ x, ∀ v ∈ r, -9223372036854775808 ≤ v ∧ v ≤ 9223372036854775807
theorem wrap64_range (n : Int) : -9223372036854775808 ≤ wrap64 n ∧ wrap64 n ≤ 9223372036854775807 := by unfold wrap64; omega
theorem InZ.put {x : List (List Int)} (h : InZ x) (i j : Nat) (hi : i < x.length) (n : Int) : InZ (x.set i ((x.getD i []).set j (wrap64 n))) := by
  intro r hr v hv
  rcases List.mem_or_eq_of_mem_set hr with h1 | h1
  · exact h r h1 v hv
  · subst h1
    rcases List.mem_or_eq_of_mem_set hv with h2 | h2
    · exact h _ (getD_mem [] hi) v h2
    · rw [h2]; exact wrap64_range n
theorem draw_sure (c : List Int) (hc : ∀ x ∈ c, (Lit.int .u8 x).wf = true) (a s : Int) (n : Nat) (hn : 1 ≤ n) (hn2 : n ≤ 6) (h0 : 0 ≤ a) (h1 : a ≤ 1000000000000) :
    ∃ m a' s', Ans (fun k => spec_l1Cur_sure.f k c a s n) (m, a', s') ∧ a ≤ a' ∧ a' ≤ a + 1000 ∧ Sq n m ∧ sign m = true := by
  -- the flips
  have flips : ∀ (d : Nat) (x : List (List Int)) (a s : Int), Sq n x → InZ x → sign (frm x) = true → 0 ≤ a → a + 6 * d ≤ 1000000002000 →
      ∃ m a' s', Ans (fun k => spec_l1Cur_sure.l2 k n x (d : Int) c a s) (m, a', s') ∧ a ≤ a' ∧ a' ≤ a + 6 * d ∧ Sq n m ∧ sign m = true := by
    intro d
    induction d with
    | zero =>
      intro x a s hx hz hs h0 h1
      refine ⟨frm x, a, s, Ans.step ?_, by omega, by omega, frm_sq hx, hs⟩
      simp only [spec_l1Cur_sure.l2]
      refine Ans.not (by omega) (Ans.step ?_)
      simp only [spec_l1Cur_sure.j3]
      exact Ans.not (by simp) ((sgFrom n x hx (by omega)).bind (Ans.pure _))
    | succ d ih =>
      intro x a s hx hz hs h0 h1
      by_cases c1 : (n : Int) > 1
      · have wn : wrap64 ((n : Int) - 1) = (n : Int) - 1 := wrap64_in _ ⟨by omega, by omega⟩
        obtain ⟨i, a1, s1, e1, p1, q1, i0, i1⟩ := draw_pick c hc a s ((n : Int) - 1) h0 (by omega)
        obtain ⟨j, a2, s2, e2, p2, q2, j0, j1⟩ := draw_pick c hc a1 s1 ((n : Int) - 1) (by omega) (by omega)
        obtain ⟨v, a3, s3, e3, p3, q3, v0, v1⟩ := draw_pick c hc a2 s2 2 (by omega) (by omega)
        have hr : (rd_L3 x i).length = n := hx.row (by omega)
        have hl := hx.1
        obtain ⟨y, hy⟩ : ∃ y, y = x.set i.toNat ((rd_L3 x i).set j.toNat (wrap64 ((rd (rd_L3 x i) j) + (wrap64 ((wrap64 (2 * v)) - 1))))) := ⟨_, rfl⟩
        have ys : Sq n y := by rw [hy]; exact (put_sq hx i.toNat j.toNat (by omega) (by omega) _).1
        have yz : InZ y := by rw [hy]; exact hz.put i.toNat j.toNat (by omega) _
        have wd : wrap64 (((d + 1 : Nat) : Int) - 1) = d := by rw [wrap64_in _ ⟨by omega, by omega⟩]; omega
        by_cases c2 : sign (frm y) = true
        · obtain ⟨m, a', s', e, g1, g2, g3, g4⟩ := ih y a3 s3 ys yz c2 (by omega) (by omega)
          refine ⟨m, a', s', Ans.step ?_, by omega, by omega, g3, g4⟩
          simp only [spec_l1Cur_sure.l2]
          refine Ans.yes (by omega) (Ans.step ?_)
          simp only [spec_l1Cur_sure.j3, wn, wd, e1, e2, e3, Option.bind_some, ← hy]
          have gg := sgGood (frm y) (by rw [(frm_sq ys).1]; omega)
          rw [c2] at gg
          exact Ans.yes (by simp; omega) (Ans.yes i0 (Ans.yes (by omega) (Ans.yes j0 (Ans.yes (by omega) ((sgFrom n y ys (by omega)).bind (gg.bind (Ans.yes rfl e)))))))
        · have back : y.set i.toNat ((rd_L3 y i).set j.toNat (wrap64 ((rd (rd_L3 y i) j) - (wrap64 ((wrap64 (2 * v)) - 1))))) = x := by
            have hq := put_sq hx i.toNat j.toNat (by omega) (by omega) (wrap64 ((rd (rd_L3 x i) j) + (wrap64 ((wrap64 (2 * v)) - 1))))
            have hq2 := put_sq ys i.toNat j.toNat (by omega) (by omega) (wrap64 ((rd (rd_L3 y i) j) - (wrap64 ((wrap64 (2 * v)) - 1))))
            refine ext_sq hq2.1 hx (fun a b ha hb => ?_)
            have e1 := hq2.2 a b ha hb
            rw [show y.getD i.toNat [] = rd_L3 y i from rfl] at e1
            rw [e1]
            have hyv := hq.2 a b ha hb
            rw [show x.getD i.toNat [] = rd_L3 x i from rfl, ← hy] at hyv
            by_cases c3 : a = i.toNat ∧ b = j.toNat
            · rw [if_pos c3]
              rw [if_pos c3] at hyv
              have e4 : rd (rd_L3 y i) j = wrap64 ((rd (rd_L3 x i) j) + (wrap64 ((wrap64 (2 * v)) - 1))) := by rw [← hyv, c3.1, c3.2]; rfl
              rw [e4, c3.1, c3.2, show (x.getD i.toNat []).getD j.toNat 0 = rd (rd_L3 x i) j from rfl]
              have hz1 := hz (rd_L3 x i) (getD_mem [] (by omega)) (rd (rd_L3 x i) j) (getD_mem 0 (by omega))
              unfold wrap64
              omega
            · rw [if_neg c3]; rw [if_neg c3] at hyv; exact hyv
          have hry : (rd_L3 y i).length = n := ys.row (by omega)
          obtain ⟨m, a', s', e, g1, g2, g3, g4⟩ := ih x a3 s3 hx hz hs (by omega) (by omega)
          refine ⟨m, a', s', Ans.step ?_, by omega, by omega, g3, g4⟩
          simp only [spec_l1Cur_sure.l2]
          refine Ans.yes (by omega) (Ans.step ?_)
          simp only [spec_l1Cur_sure.j3, wn, wd, e1, e2, e3, Option.bind_some, ← hy, back]
          have gg := sgGood (frm y) (by rw [(frm_sq ys).1]; omega)
          rw [Bool.eq_false_iff.mpr c2] at gg
          exact Ans.yes (by simp; omega) (Ans.yes i0 (Ans.yes (by omega) (Ans.yes j0 (Ans.yes (by omega) ((sgFrom n y ys (by omega)).bind (gg.bind (Ans.not (by simp) (Ans.yes (by omega) e))))))))
      · refine ⟨frm x, a, s, Ans.step ?_, by omega, by omega, frm_sq hx, hs⟩
        simp only [spec_l1Cur_sure.l2]
        refine Ans.yes (by omega) (Ans.step ?_)
        simp only [spec_l1Cur_sure.j3]
        exact Ans.not (by simp; omega) ((sgFrom n x hx (by omega)).bind (Ans.pure _))
  -- the corner sums at first
  have w3 : wrap64 ((wrap64 (3 * (n : Int))) * n) = 3 * (n : Int) * n := by
    have : (3 * (n : Int)) * n ≤ 18 * 6 := Int.mul_le_mul (by omega) (by omega) (by omega) (by omega)
    have h0 : 0 ≤ 3 * (n : Int) * n := Int.mul_nonneg (by omega) (by omega)
    rw [wrap64_in (3 * (n : Int)) ⟨by omega, by omega⟩, wrap64_in _ ⟨by omega, by omega⟩]
  obtain ⟨t, a1, s1, e1, p1, q1, t0, t1⟩ := draw_pick c hc a s (3 * (n : Int) * n) h0 (by omega)
  have ht : t ≤ 108 := by
    have : (3 * (n : Int)) * n ≤ 18 * 6 := Int.mul_le_mul (by omega) (by omega) (by omega) (by omega)
    omega
  obtain ⟨m, a', s', e2, p2, q2, g3, g4⟩ := flips t.toNat (corn n) a1 s1 (tab_sq n _) (by
    intro r hr v hv
    obtain ⟨i, hi, rfl⟩ := List.mem_map.1 hr
    obtain ⟨j, hj, rfl⟩ := List.mem_map.1 hv
    rw [List.mem_range] at hi hj
    show -9223372036854775808 ≤ ((min i j : Nat) : Int) + 1 ∧ ((min i j : Nat) : Int) + 1 ≤ 9223372036854775807
    have := Nat.min_le_left i j
    omega) (corn_sign n hn hn2) (by omega) (by omega)
  rw [Int.toNat_of_nonneg t0] at e2
  refine ⟨m, a', s', ?_, by omega, by omega, g3, g4⟩
  have inner : ∀ (i : Nat), i < n → ∀ (d j : Nat) (y : List (List Int)), j + d = n → Sq n y → (∀ a b : Nat, a < n → b < n → (a < i ∨ a = i ∧ b < j) → (y.getD a []).getD b 0 = ((min a b : Nat) : Int) + 1) →
      (∀ y', Sq n y' → (∀ a b : Nat, a < n → b < n → a < i + 1 → (y'.getD a []).getD b 0 = ((min a b : Nat) : Int) + 1) → Ans (fun k => spec_l1Cur_sure.l0 k n y' (n : Int) ((i + 1 : Nat) : Int) c a s) (m, a', s')) →
      Ans (fun k => spec_l1Cur_sure.l1 k n y (i : Int) (n : Int) (i : Int) (n : Int) (j : Int) c a s) (m, a', s') := by
    intro i hi d
    induction d with
    | zero =>
      intro j y hj hy hv nx
      refine Ans.step ?_
      simp only [spec_l1Cur_sure.l1, wrap64_up (show (0 : Int) ≤ i by omega) (by omega)]
      have := nx y hy (fun a b ha hb hlt => hv a b ha hb (by omega))
      rw [show ((i + 1 : Nat) : Int) = (i : Int) + 1 by omega] at this
      exact Ans.not (by omega) this
    | succ d ih =>
      intro j y hj hy hv nx
      obtain ⟨q1, q2⟩ := put_sq hy i j hi (by omega) (((min i j : Nat) : Int) + 1)
      have e := ih (j + 1) _ (by omega) q1 (fun a b ha hb hlt => by
        rw [q2 a b ha hb]
        by_cases c : a = i ∧ b = j
        · rw [if_pos c, c.1, c.2]
        · rw [if_neg c]; exact hv a b ha hb (by omega)) nx
      have hr : (rd_L3 y (i : Int)).length = n := by unfold rd_L3; rw [Int.toNat_natCast]; exact hy.row hi
      have hl : spec_l1Least.f (i : Int) (j : Int) = some ((min i j : Nat) : Int) := by
        simp only [spec_l1Least.f]
        by_cases c : (i : Int) < j
        · rw [if_pos c, Nat.min_eq_left (by omega)]
        · rw [if_neg c, Nat.min_eq_right (by omega)]
      have w1 : wrap64 (((min i j : Nat) : Int) + 1) = ((min i j : Nat) : Int) + 1 := wrap64_in _ ⟨by omega, by omega⟩
      refine Ans.step ?_
      simp only [spec_l1Cur_sure.l1, hl, Option.bind_some, w1, wrap64_up (show (0 : Int) ≤ j by omega) (by omega), Int.toNat_natCast]
      rw [show ((j + 1 : Nat) : Int) = (j : Int) + 1 by omega] at e
      exact Ans.yes (by omega) (Ans.yes (by omega) (Ans.yes (by have := hy.1; omega) (Ans.yes (by omega) (Ans.yes (by omega) e))))
  have key : ∀ (d i : Nat) (y : List (List Int)), i + d = n → Sq n y → (∀ a b : Nat, a < n → b < n → a < i → (y.getD a []).getD b 0 = ((min a b : Nat) : Int) + 1) → Ans (fun k => spec_l1Cur_sure.l0 k n y (n : Int) (i : Int) c a s) (m, a', s') := by
    intro d
    induction d with
    | zero =>
      intro i y h1 hy hv
      have : y = corn n := (tab_is hy _ (fun a b ha hb => (hv a b ha hb (by omega)).symm)).symm
      rw [this]
      refine Ans.step ?_
      simp only [spec_l1Cur_sure.l0, w3, e1, Option.bind_some]
      exact Ans.not (by omega) e2
    | succ d ih =>
      intro i y h1 hy hv
      have hl := hy.1
      refine Ans.step ?_
      simp only [spec_l1Cur_sure.l0, hl]
      exact Ans.yes (by omega) (inner i (by omega) n 0 y (by omega) hy (fun a b ha hb hlt => hv a b ha hb (by omega)) (fun y' hy' hv' => ih (i + 1) y' (by omega) hy' hv'))
  simp only [spec_l1Cur_sure.f]
  refine (sgZero n (by omega)).bind ?_
  simp only [List.length_replicate]
  exact key n 0 _ (by omega) (rep_sq n 0) (fun a b ha hb hlt => by omega)
/-- What signs draws: a table of few rows of few numbers. -/
theorem draw_signs (c : List Int) (hc : ∀ x ∈ c, (Lit.int .u8 x).wf = true) (a s : Int) (most : Nat) (hm : 1 ≤ most) (hm2 : most ≤ 6) (h0 : 0 ≤ a) (h1 : a ≤ 100000000000) :
    ∃ m a' s', Ans (fun k => spec_l1Cur_signs.f k c a s most) (m, a', s') ∧ a ≤ a' ∧ a' ≤ a + 3000 ∧ m.length ≤ 7 ∧ ∀ r ∈ m, r.length ≤ 7 := by
  obtain ⟨t, a1, s1, e1, p1, q1, t0, t1⟩ := draw_pick c hc a s most h0 (by omega)
  have wt : wrap64 (1 + t) = ((t.toNat + 1 : Nat) : Int) := by rw [wrap64_in _ ⟨by omega, by omega⟩]; omega
  obtain ⟨n, hn⟩ : ∃ n, n = t.toNat + 1 := ⟨_, rfl⟩
  rw [← hn] at wt
  obtain ⟨m, a2, s2, e2, p2, q2, hs, _⟩ := draw_sure c hc a1 s1 n (by omega) (by omega) (by omega) (by omega)
  obtain ⟨z, a3, s3, e3, p3, q3, z0, z1⟩ := draw_pick c hc a2 s2 20 (by omega) (by omega)
  have hl := hs.1
  by_cases c0 : z = 0
  · obtain ⟨i, a4, s4, e4, p4, q4, i0, i1⟩ := draw_pick c hc a3 s3 n (by omega) (by omega)
    obtain ⟨j, a5, s5, e5, p5, q5, j0, j1⟩ := draw_pick c hc a4 s4 n (by omega) (by omega)
    obtain ⟨v, a6, s6, e6, p6, q6, _⟩ := draw_among c hc a5 s5 [(-2), (-1), 0, 1, 2, 4611686018427387904] (by simp) (by omega) (by omega)
    have hr : (rd_L3 m i).length = n := hs.row (by omega)
    refine ⟨m.set i.toNat ((rd_L3 m i).set j.toNat v), a6, s6, ?_, by omega, by omega, by rw [List.length_set]; omega, fun r hr' => ?_⟩
    · simp only [spec_l1Cur_signs.f, e1, Option.bind_some, wt]
      refine e2.bind ?_
      simp only [e3, Option.bind_some]
      refine Ans.yes c0 ?_
      simp only [e4, Option.bind_some]
      refine Ans.yes i0 (Ans.yes (by omega) ?_)
      simp only [e5, e6, Option.bind_some]
      exact Ans.yes j0 (Ans.yes (by omega) (Ans.pure _))
    · rcases List.mem_or_eq_of_mem_set hr' with h | h
      · rw [hs.2 r h]; omega
      · rw [h, List.length_set, hr]; omega
  by_cases c1 : z = 1
  · refine ⟨m ++ [List.replicate n 0], a3, s3, ?_, by omega, by omega, by simp; omega, fun r hr' => ?_⟩
    · simp only [spec_l1Cur_signs.f, e1, Option.bind_some, wt]
      refine e2.bind ?_
      simp only [e3, Option.bind_some, Int.toNat_natCast]
      exact Ans.not c0 (Ans.yes c1 (Ans.yes (by omega) (Ans.yes (by omega) (Ans.yes (by omega) (Ans.pure _)))))
    · rcases List.mem_append.1 hr' with h | h
      · rw [hs.2 r h]; omega
      · simp only [List.mem_singleton] at h; rw [h, List.length_replicate]; omega
  by_cases c2 : z = 2
  · have hr : (rd_L3 m 0).length = n := hs.row (by omega)
    refine ⟨m.set (0 : Int).toNat (rd_L3 m 0 ++ [0]), a3, s3, ?_, by omega, by omega, by rw [List.length_set]; omega, fun r hr' => ?_⟩
    · simp only [spec_l1Cur_signs.f, e1, Option.bind_some, wt]
      refine e2.bind ?_
      simp only [e3, Option.bind_some]
      exact Ans.not c0 (Ans.not c1 (Ans.yes c2 (Ans.yes (by omega) (Ans.yes (by omega) (Ans.pure _)))))
    · rcases List.mem_or_eq_of_mem_set hr' with h | h
      · rw [hs.2 r h]; omega
      · rw [h, List.length_append, hr]; simp; omega
  by_cases c3 : z = 3
  · obtain ⟨m2, a4, s4, e4, p4, q4, hs2, _⟩ := draw_sure c hc a3 s3 6 (by omega) (by omega) (by omega) (by omega)
    obtain ⟨u, a5, s5, e5, p5, q5⟩ := draw_one c hc a4 s4 2 (by omega) (by omega)
    cases u with
    | true =>
      refine ⟨[], a5, s5, ?_, by omega, by omega, by simp, by simp⟩
      simp only [spec_l1Cur_signs.f, e1, Option.bind_some, wt]
      refine e2.bind ?_
      simp only [e3, Option.bind_some]
      refine Ans.not c0 (Ans.not c1 (Ans.not c2 (Ans.yes c3 (e4.bind ?_))))
      simp only [e5, Option.bind_some]
      exact Ans.yes trivial (Ans.pure _)
    | false =>
      refine ⟨m2, a5, s5, ?_, by omega, by omega, by rw [hs2.1]; omega, fun r hr => by rw [hs2.2 r hr]; omega⟩
      simp only [spec_l1Cur_signs.f, e1, Option.bind_some, wt]
      refine e2.bind ?_
      simp only [e3, Option.bind_some]
      refine Ans.not c0 (Ans.not c1 (Ans.not c2 (Ans.yes c3 (e4.bind ?_))))
      simp only [e5, Option.bind_some]
      exact Ans.not (by simp) (Ans.pure _)
  · refine ⟨m, a3, s3, ?_, by omega, by omega, by omega, fun r hr => by rw [hs.2 r hr]; omega⟩
    simp only [spec_l1Cur_signs.f, e1, Option.bind_some, wt]
    refine e2.bind ?_
    simp only [e3, Option.bind_some]
    exact Ans.not c0 (Ans.not c1 (Ans.not c2 (Ans.not c3 (Ans.pure _))))
theorem hSame (x y : List Int) (hx : x.length ≤ 17592186044416) : Ans (fun k => laws_hSame.f k x y) (decide (x = y)) := by
  simp only [laws_hSame.f]
  by_cases hl : (x.length : Int) = (y.length : Int)
  · refine Ans.yes hl ?_
    have key : ∀ (d : Nat) (i : Int), 0 ≤ i → i + d = x.length → Ans (fun k => laws_hSame.l0 k x y (x.length : Int) i) (decide (x.drop i.toNat = y.drop i.toNat)) := by
      intro d
      induction d with
      | zero =>
        intro i h0 h1
        refine Ans.step ?_
        simp only [laws_hSame.l0]
        rw [drop_all x (by omega), drop_all y (by omega)]
        exact Ans.not (by omega) (Ans.pure _)
      | succ d ih =>
        intro i h0 h1
        refine Ans.step ?_
        simp only [laws_hSame.l0]
        refine Ans.yes (by omega) (Ans.yes h0 (Ans.yes (by omega) (Ans.yes (by omega) ?_)))
        rw [drop_at x 0 (show i.toNat < x.length by omega), drop_at y 0 (show i.toNat < y.length by omega)]
        by_cases c : rd x i = rd y i
        · have e := ih (i + 1) (by omega) (by omega)
          rw [wrap64_in (i + 1) ⟨by omega, by omega⟩]
          rw [show (i + 1).toNat = i.toNat + 1 by omega] at e
          refine Ans.yes c ?_
          rw [show x.getD i.toNat 0 = y.getD i.toNat 0 from c]
          simpa using e
        · refine Ans.not c ?_
          rw [show decide (x.getD i.toNat 0 :: x.drop (i.toNat + 1) = y.getD i.toNat 0 :: y.drop (i.toNat + 1)) = false from decide_eq_false (fun h => c (by injection h))]
          exact Ans.pure _
    exact key x.length 0 (by omega) (by omega)
  · refine Ans.not hl ?_
    rw [decide_eq_false (fun h => hl (by rw [h]))]
    exact Ans.pure _
theorem hRows (x : List (List Int)) (hx : x.length ≤ 1000000) (hr : ∀ r ∈ x, r.length ≤ 1000000) : Ans (fun k => laws_hRows.f k x x) true := by
  simp only [laws_hRows.f]
  refine Ans.yes trivial ?_
  have key : ∀ (d : Nat) (i : Int), 0 ≤ i → i + d = x.length → Ans (fun k => laws_hRows.l0 k x x (x.length : Int) i) true := by
    intro d
    induction d with
    | zero => intro i h0 h1; exact Ans.step (by simp only [laws_hRows.l0]; exact Ans.not (by omega) (Ans.pure _))
    | succ d ih =>
      intro i h0 h1
      have e := hSame (rd_L3 x i) (rd_L3 x i) (by have := hr _ (rd_L1_mem h0 (show i < x.length by omega)); omega)
      rw [decide_eq_true rfl] at e
      refine Ans.step ?_
      simp only [laws_hRows.l0, wrap64_in (i + 1) ⟨by omega, by omega⟩]
      exact Ans.yes (by omega) (Ans.yes h0 (Ans.yes (by omega) (Ans.yes (by omega) (e.bind (Ans.yes rfl (ih _ (by omega) (by omega)))))))
  exact key x.length 0 (by omega) (by omega)
theorem big_ans (c m : List Int) : ∃ b, laws_big.f c m = some b := by
  simp only [laws_big.f]
  split
  · exact ⟨_, rfl⟩
  · exact ⟨_, rfl⟩
theorem transposed {n : Nat} {x : List (List Int)} (h : Sq n x) (hn : n ≤ 1048576) : Ans (fun k => impl_transposed.f k x) (tr x) := by
  simp only [impl_transposed.f, h.1]
  have hg : ∀ i j : Nat, i < n → j < n → impl_transposed_1.f i j x = some (en x j i) := by
    intro i j hi hj
    have hr : (rd_L3 x (j : Int)).length = n := h.2 _ (rd_L1_mem (by omega) (by rw [h.1]; omega))
    have hl := h.1
    simp only [impl_transposed_1.f]
    rw [if_pos (by omega), if_pos (by omega), if_pos (by omega), if_pos (by omega)]
    simp only [rd, rd_L3, Int.toNat_natCast, en]
  have e := table n n hn hn (fun x0_ x1_ => impl_transposed_1.f x0_ x1_ x) _ hg
  rw [tab_is (tr_sq h) _ (fun i j hi hj => (tr_en h hi hj).symm)] at e
  exact e.bind (Ans.pure _)
/-- What a change of a sign matrix answers. -/
def chg (f : List (List Int) → List (List Int)) (x : List (List Int)) : List (List Int) × Bool := if sign x = true then (f x, true) else ([], false)
theorem chg_of {x : List (List Int)} (s : sign x = true) (f : List (List Int) → List (List Int)) : chg f x = (f x, true) := if_pos s
theorem changed {x : List (List Int)} (hx : x.length ≤ 1048576) (p : Nat → List (List Int) → Option (List (List Int))) (f : List (List Int) → List (List Int)) (h : sign x = true → Ans (fun k => p k x) (f x)) : Ans (fun k => impl_changed.f k x (p k)) (chg f x) := by
  simp only [impl_changed.f, chg]
  refine (isSign x hx).bind ?_
  by_cases s : sign x = true
  · rw [if_pos s]; exact Ans.yes s ((h s).bind (Ans.pure _))
  · rw [if_neg s]; exact Ans.not s (Ans.pure _)
theorem turnMatrix {x : List (List Int)} (hx : x.length ≤ 1048576) : Ans (fun k => impl_TurnMatrix.f k x) (chg cw x) := changed hx (fun k x => impl_turned.f k x) cw fun s => turned _ x (sign_sq s).1 (by omega)
theorem mirrorMatrix {x : List (List Int)} (hx : x.length ≤ 1048576) : Ans (fun k => impl_MirrorMatrix.f k x) (chg mir x) := changed hx (fun k x => impl_mirrored.f k x) mir fun s => mirrored _ x (sign_sq s).1 (by omega)
theorem transposeMatrix {x : List (List Int)} (hx : x.length ≤ 1048576) : Ans (fun k => impl_TransposeMatrix.f k x) (chg tr x) := changed hx (fun k x => impl_transposed.f k x) tr fun s => transposed (sign_sq s).1 (by omega)
theorem specTurn {x : List (List Int)} (hx : x.length ≤ 1048576) : Ans (fun k => spec_TurnMatrix.f k x) (chg cw x) := by
  simp only [spec_TurnMatrix.f, chg]
  refine (sgGood x hx).bind ?_
  by_cases s : sign x = true
  · rw [if_pos s]; exact Ans.yes s ((sgClockwise _ x (sign_sq s).1 hx).bind (Ans.pure _))
  · rw [if_neg s]; exact Ans.not s (Ans.pure _)
theorem specMirror {x : List (List Int)} (hx : x.length ≤ 1048576) : Ans (fun k => spec_MirrorMatrix.f k x) (chg mir x) := by
  simp only [spec_MirrorMatrix.f, chg]
  refine (sgGood x hx).bind ?_
  by_cases s : sign x = true
  · rw [if_pos s]; exact Ans.yes s ((sgMirror x hx (fun r hr => by rw [(sign_sq s).1.2 r hr]; exact hx)).bind (Ans.pure _))
  · rw [if_neg s]; exact Ans.not s (Ans.pure _)
theorem specTranspose {x : List (List Int)} (hx : x.length ≤ 1048576) : Ans (fun k => spec_TransposeMatrix.f k x) (chg tr x) := by
  simp only [spec_TransposeMatrix.f, chg]
  refine (sgGood x hx).bind ?_
  by_cases s : sign x = true
  · rw [if_pos s]; exact Ans.yes s ((sgTurn x hx (fun r hr => (sign_sq s).1.2 r hr)).bind (Ans.pure _))
  · rw [if_neg s]; exact Ans.not s (Ans.pure _)
theorem lot_sq {n : Nat} {x : List (List Int)} (h : Sq n x) : Sq n (lot x) := images_sq h _ (lot_in x).1
theorem implLeast {x : List (List Int)} (hx : x.length ≤ 1048576) : Ans (fun k => impl_LeastOfTurns.f k x) (chg lot x) := by
  simp only [impl_LeastOfTurns.f, chg]
  refine (isSign x hx).bind ?_
  by_cases s : sign x = true
  · obtain ⟨q, h6⟩ := sign_sq s
    have lq := lot_sq q
    rw [if_pos s]
    exact Ans.yes s ((eight _ x q hx).bind ((minFunc x.length h6 (images x) (images_sq q) (by simp [images]) x _ rfl).bind ((copyTable (lot x) (by rw [lq.1]; exact hx) (fun r hr => by rw [lq.2 r hr]; exact hx)).bind (Ans.pure _))))
  · rw [if_neg s]; exact Ans.not s (Ans.pure _)
theorem less (n : Nat) (x y : List (List Int)) (hx : Sq n x) (hy : Sq n y) (hn : n ≤ 100) : Ans (fun k => spec_sgLess.f k x y) (decide (cmpLL x y < 0)) ∧ Ans (fun k => laws_hLess.f k x y) (decide (cmpLL x y < 0)) := by
  have row : ∀ (i : Nat), i < n → ∀ (d j : Nat), j + d = n → cmpL ((x.getD i []).drop j) ((y.getD i []).drop j) = 0 ∨ True := fun _ _ _ _ _ => Or.inr trivial
  have step : ∀ (i j : Nat), i < n → j < n → cmpL ((x.getD i []).drop j) ((y.getD i []).drop j) = if en x i j = en y i j then cmpL ((x.getD i []).drop (j + 1)) ((y.getD i []).drop (j + 1)) else cmpI (en x i j) (en y i j) := fun i j hi hj => by
    rw [drop_at (x.getD i []) 0 (by rw [hx.row hi]; exact hj), drop_at (y.getD i []) 0 (by rw [hy.row hi]; exact hj)]
    show (if cmpI _ _ = 0 then _ else _) = _
    by_cases c : en x i j = en y i j
    · rw [if_pos c]; exact if_pos (cmpI_zero.mpr c)
    · rw [if_neg c]; exact if_neg (fun h => c (cmpI_zero.mp h))
  have last : ∀ i, i < n → cmpL ((x.getD i []).drop n) ((y.getD i []).drop n) = 0 := fun i hi => by
    rw [drop_all _ (by rw [hx.row hi]; omega), drop_all _ (by rw [hy.row hi]; omega)]; rfl
  have rowstep : ∀ i, i < n → cmpLL (x.drop i) (y.drop i) = if cmpL (x.getD i []) (y.getD i []) = 0 then cmpLL (x.drop (i + 1)) (y.drop (i + 1)) else cmpL (x.getD i []) (y.getD i []) := fun i hi => by
    rw [drop_at x [] (by rw [hx.1]; exact hi), drop_at y [] (by rw [hy.1]; exact hi)]; rfl
  have lastrow : cmpLL (x.drop n) (y.drop n) = 0 := by rw [drop_all _ (by rw [hx.1]; omega), drop_all _ (by rw [hy.1]; omega)]; rfl
  have one : ∀ a b : Int, a ≠ b → decide (a < b) = decide (cmpI a b < 0) := fun a b h => by
    unfold cmpI
    by_cases c : a < b
    · rw [if_pos c, decide_eq_true c]; rfl
    · rw [if_neg c, if_pos (by omega), decide_eq_false c]; rfl
  have hlx := hx.1
  have hly := hy.1
  constructor
  · have inner : ∀ (i : Nat), i < n → Ans (fun k => spec_sgLess.l0 k y x (n : Int) ((i + 1 : Nat) : Int)) (decide (cmpLL (x.drop (i + 1)) (y.drop (i + 1)) < 0)) → ∀ (d j : Nat), j + d = n →
        Ans (fun k => spec_sgLess.l1 k y (i : Int) x (n : Int) (i : Int) (x.getD i []) (n : Int) (j : Int)) (decide ((if cmpL ((x.getD i []).drop j) ((y.getD i []).drop j) = 0 then cmpLL (x.drop (i + 1)) (y.drop (i + 1)) else cmpL ((x.getD i []).drop j) ((y.getD i []).drop j)) < 0)) := by
      intro i hi nx d
      induction d with
      | zero =>
        intro j h
        obtain rfl : j = n := by omega
        rw [last i hi, if_pos rfl]
        refine Ans.step ?_
        simp only [spec_sgLess.l1, wrap64_up (show (0 : Int) ≤ i by omega) (by omega)]
        exact Ans.not (by omega) nx
      | succ d ih =>
        intro j h
        have e := ih (j + 1) (by omega)
        rw [show ((j + 1 : Nat) : Int) = (j : Int) + 1 by omega] at e
        have rx := hx.row hi
        have ry : (rd_L3 y (i : Int)).length = n := by unfold rd_L3; rw [Int.toNat_natCast]; exact hy.row hi
        rw [step i j hi (by omega)]
        refine Ans.step ?_
        simp only [spec_sgLess.l1, wrap64_up (show (0 : Int) ≤ j by omega) (by omega)]
        refine Ans.yes (by omega) (Ans.yes (by omega) (Ans.yes (by omega) (Ans.yes (by omega) (Ans.yes (by omega) (Ans.yes (by omega) ?_)))))
        have e1 : rd (x.getD i []) (j : Int) = en x i j := by simp only [rd, Int.toNat_natCast, en]
        have e2 : rd (rd_L3 y (i : Int)) (j : Int) = en y i j := by simp only [rd, rd_L3, Int.toNat_natCast, en]
        rw [e1, e2]
        by_cases c : en x i j = en y i j
        · rw [if_pos c]; exact Ans.yes c e
        · rw [if_neg c, if_neg (fun h => c (cmpI_zero.mp h)), ← one _ _ c]; exact Ans.not c (Ans.pure _)
    have outer : ∀ (d i : Nat), i + d = n → Ans (fun k => spec_sgLess.l0 k y x (n : Int) (i : Int)) (decide (cmpLL (x.drop i) (y.drop i) < 0)) := by
      intro d
      induction d with
      | zero =>
        intro i h
        obtain rfl : i = n := by omega
        rw [lastrow]
        refine Ans.step ?_
        simp only [spec_sgLess.l0]
        exact Ans.not (by omega) (Ans.pure _)
      | succ d ih =>
        intro i h
        have e := inner i (by omega) (ih (i + 1) (by omega)) n 0 (by omega)
        rw [rowstep i (by omega)]
        refine Ans.step ?_
        have rx := hx.row (show i < n by omega)
        have er : rd_L3 x (i : Int) = x.getD i [] := by simp only [rd_L3, Int.toNat_natCast]
        simp only [spec_sgLess.l0, er, rx]
        exact Ans.yes (by omega) (Ans.yes (by omega) (Ans.yes (by omega) e))
    simp only [spec_sgLess.f, hlx]
    exact outer n 0 (by omega)
  · have inner : ∀ (i : Nat), i < n → Ans (fun k => laws_hLess.l0 k x y (n : Int) ((i + 1 : Nat) : Int)) (decide (cmpLL (x.drop (i + 1)) (y.drop (i + 1)) < 0)) → ∀ (d j : Nat), j + d = n →
        Ans (fun k => laws_hLess.l1 k x y (i : Int) (n : Int) (i : Int) (n : Int) (j : Int)) (decide ((if cmpL ((x.getD i []).drop j) ((y.getD i []).drop j) = 0 then cmpLL (x.drop (i + 1)) (y.drop (i + 1)) else cmpL ((x.getD i []).drop j) ((y.getD i []).drop j)) < 0)) := by
      intro i hi nx d
      induction d with
      | zero =>
        intro j h
        obtain rfl : j = n := by omega
        rw [last i hi, if_pos rfl]
        refine Ans.step ?_
        simp only [laws_hLess.l1, wrap64_up (show (0 : Int) ≤ i by omega) (by omega)]
        exact Ans.not (by omega) nx
      | succ d ih =>
        intro j h
        have e := ih (j + 1) (by omega)
        rw [show ((j + 1 : Nat) : Int) = (j : Int) + 1 by omega] at e
        have rx : (rd_L3 x (i : Int)).length = n := by unfold rd_L3; rw [Int.toNat_natCast]; exact hx.row hi
        have ry : (rd_L3 y (i : Int)).length = n := by unfold rd_L3; rw [Int.toNat_natCast]; exact hy.row hi
        rw [step i j hi (by omega)]
        refine Ans.step ?_
        simp only [laws_hLess.l1, wrap64_up (show (0 : Int) ≤ j by omega) (by omega)]
        refine Ans.yes (by omega) (Ans.yes (by omega) (Ans.yes (by omega) (Ans.yes (by omega) (Ans.yes (by omega) (Ans.yes (by omega) (Ans.yes (by omega) ?_))))))
        have e1 : rd (rd_L3 x (i : Int)) (j : Int) = en x i j := by simp only [rd, rd_L3, Int.toNat_natCast, en]
        have e2 : rd (rd_L3 y (i : Int)) (j : Int) = en y i j := by simp only [rd, rd_L3, Int.toNat_natCast, en]
        rw [e1, e2]
        by_cases c : en x i j = en y i j
        · rw [if_pos c]; exact Ans.yes c e
        · rw [if_neg c, if_neg (fun h => c (cmpI_zero.mp h)), ← one _ _ c]; exact Ans.not c (Ans.pure _)
    have outer : ∀ (d i : Nat), i + d = n → Ans (fun k => laws_hLess.l0 k x y (n : Int) (i : Int)) (decide (cmpLL (x.drop i) (y.drop i) < 0)) := by
      intro d
      induction d with
      | zero =>
        intro i h
        obtain rfl : i = n := by omega
        rw [lastrow]
        refine Ans.step ?_
        simp only [laws_hLess.l0]
        exact Ans.not (by omega) (Ans.pure _)
      | succ d ih =>
        intro i h
        have e := inner i (by omega) (ih (i + 1) (by omega)) n 0 (by omega)
        rw [rowstep i (by omega)]
        refine Ans.step ?_
        have rx : (rd_L3 x (i : Int)).length = n := by unfold rd_L3; rw [Int.toNat_natCast]; exact hx.row (by omega)
        simp only [laws_hLess.l0, rx]
        exact Ans.yes (by omega) (Ans.yes (by omega) (Ans.yes (by omega) e))
    simp only [laws_hLess.f, hlx]
    exact outer n 0 (by omega)
/-- The lesser one of two. -/
def upd (b y : List (List Int)) : List (List Int) := if cmpLL y b < 0 then y else b
theorem leastOf_upd (m : List (List Int)) (xs : List (List (List Int))) : leastOf m xs = xs.foldl upd m := by
  induction xs generalizing m with
  | nil => rfl
  | cons x xs ih => rw [leastOf, List.foldl_cons, upd]; split <;> exact ih _
theorem specLeast {x : List (List Int)} (hx : x.length ≤ 1048576) : Ans (fun k => spec_LeastOfTurns.f k x) (chg lot x) := by
  simp only [spec_LeastOfTurns.f, chg]
  refine (sgGood x hx).bind ?_
  by_cases s : sign x = true
  case neg => rw [if_neg s]; exact Ans.not s (Ans.pure _)
  rw [if_pos s]
  obtain ⟨q, h6⟩ := sign_sq s
  have tq := tr_sq q
  have T1 := sgTurn x hx (fun r hr => q.2 r hr)
  have T2 := sgTurn (tr x) (by rw [tq.1]; exact hx) (fun r hr => by rw [tq.2 r hr, tq.1])
  have e2 := tr2 q
  unfold tr at e2 T2
  rw [e2] at T2
  refine Ans.yes s (T1.bind (T2.bind ?_))
  -- a round
  have round : ∀ (b now : List (List Int)) (i : Int) (R : List (List Int) × Bool), 0 ≤ i → i < 4 → Sq x.length b → Sq x.length now → Ans (fun k => spec_LeastOfTurns.l0 k (upd (upd b (cw now)) (mir (cw now))) (cw now) (i + 1)) R → Ans (fun k => spec_LeastOfTurns.l0 k b now i) R := by
    intro b now i R i0 i4 hb hn nx
    have cq := cw_sq hn
    have part : ∀ b', Sq x.length b' → Ans (fun k => spec_LeastOfTurns.l0 k (upd b' (mir (cw now))) (cw now) (i + 1)) R → Ans (fun k => spec_LeastOfTurns.j1 k b' (cw now) i) R := fun b' hb' nx' => by
      refine Ans.step ?_
      simp only [spec_LeastOfTurns.j1, wrap64_up i0 (by omega)]
      refine (sgMirror (cw now) (by rw [cq.1]; exact hx) (fun r hr => by rw [cq.2 r hr]; exact hx)).bind ((less x.length _ b' (mir_sq cq) hb' (by omega)).1.bind ?_)
      unfold upd at nx'
      by_cases c : cmpLL (mir (cw now)) b' < 0
      · rw [if_pos c] at nx'; exact Ans.yes (decide_eq_true c) nx'
      · rw [if_neg c] at nx'; exact Ans.not (by simpa using c) nx'
    refine Ans.step ?_
    simp only [spec_LeastOfTurns.l0]
    refine Ans.yes i4 ((sgClockwise _ now hn hx).bind ((less x.length _ b cq hb (by omega)).1.bind ?_))
    by_cases c : cmpLL (cw now) b < 0
    · rw [show upd b (cw now) = cw now from if_pos c] at nx; exact Ans.yes (decide_eq_true c) (part _ cq nx)
    · rw [show upd b (cw now) = b from if_neg c] at nx; exact Ans.not (by simpa using c) (part _ hb nx)
  have uq : ∀ b y, Sq x.length b → Sq x.length y → Sq x.length (upd b y) := fun b y hb hy => by unfold upd; split <;> assumption
  have s1 := cw_sq q; have s2 := cw_sq s1; have s3 := cw_sq s2; have s4 := cw_sq s3
  have u1 := uq _ _ (uq _ _ q s1) (mir_sq s1)
  have u2 := uq _ _ (uq _ _ u1 s2) (mir_sq s2)
  have u3 := uq _ _ (uq _ _ u2 s3) (mir_sq s3)
  refine round x x 0 _ (by omega) (by omega) q q ?_
  refine round _ _ _ _ (by omega) (by omega) u1 s1 ?_
  refine round _ _ _ _ (by omega) (by omega) u2 s2 ?_
  refine round _ _ _ _ (by omega) (by omega) u3 s3 ?_
  have e := leastOf_upd x [cw x, mir (cw x), cw (cw x), mir (cw (cw x)), cw (cw (cw x)), mir (cw (cw (cw x))), cw (cw (cw (cw x))), mir (cw (cw (cw (cw x))))]
  simp only [List.foldl_cons, List.foldl_nil] at e
  rw [← e]
  have c4 := cw4 q
  have L : leastOf x [cw x, mir (cw x), cw (cw x), mir (cw (cw x)), cw (cw (cw x)), mir (cw (cw (cw x))), cw (cw (cw (cw x))), mir (cw (cw (cw (cw x))))] = lot x := by
    refine least_one (least_in _ x) (lot_in x) (fun z hz => ?_) (fun z hz => ?_)
    · simp only [images, List.mem_cons, List.mem_nil_iff, or_false, c4] at hz ⊢
      rcases hz with hz | hz | hz | hz | hz | hz | hz | hz | hz <;> simp [hz]
    · simp only [images, List.mem_cons, List.mem_nil_iff, or_false, c4] at hz ⊢
      rcases hz with hz | hz | hz | hz | hz | hz | hz | hz <;> simp [hz]
  rw [L]
  refine Ans.step ?_
  simp only [spec_LeastOfTurns.l0]
  exact Ans.not (by omega) (Ans.pure _)
theorem sameH {x : List (List Int)} (h : x.length ≤ 7 ∧ ∀ r ∈ x, r.length ≤ 7) : Ans (fun k => laws_hRows.f k x x) true := hRows x (by have := h.1; omega) (fun r hr => by have := h.2 r hr; omega)
theorem sq_small {n : Nat} {x : List (List Int)} (h : Sq n x) (hn : n ≤ 6) : x.length ≤ 7 ∧ ∀ r ∈ x, r.length ≤ 7 := ⟨by rw [h.1]; omega, fun r hr => by rw [h.2 r hr]; omega⟩
theorem chg_small {x : List (List Int)} (f : List (List Int) → List (List Int)) (hf : ∀ n, Sq n x → Sq n (f x)) : (chg f x).1.length ≤ 7 ∧ ∀ r ∈ (chg f x).1, r.length ≤ 7 := by
  unfold chg
  by_cases s : sign x = true
  · rw [if_pos s]; obtain ⟨q, h6⟩ := sign_sq s; exact sq_small (hf _ q) h6
  · rw [if_neg s]; simp
theorem law_j2 (c : List Int) (hc : ∀ x ∈ c, (Lit.int .u8 x).wf = true) : Ans (fun k => laws_FnTurnsAndMirrors.j2 k c) true := by
  obtain ⟨m, a, s, f, _, _, h1, h2⟩ := draw_signs c hc 0 0 5 (by omega) (by omega) (by omega) (by omega)
  have D : Ans (fun k => spec_DrawInversionsOf.f k c) m := by
    simp only [spec_DrawInversionsOf.f, spec_DrawIsSignMatrix.f]
    exact (f.bind (h := fun _ bt => some bt.1) (Ans.pure _)).bind (Ans.pure _)
  have I := invOf m (by omega)
  have F := firstOf m (by omega)
  refine Ans.step ?_
  simp only [laws_FnTurnsAndMirrors.j2]
  refine D.bind (I.1.bind (I.2.bind (F.1.bind (F.2.bind (Ans.not (by simp) (Ans.yes rfl (Ans.not (by simp) (Ans.yes rfl ?_))))))))
  by_cases sg : sign m = true
  · have G := firstRes_at sg
    have hl : (rd_L3 m 0).length = m.length := (sign_sq sg).1.row (sign_parts sg rfl).2.1
    have h1' := (sign_parts sg rfl).2.1
    refine Ans.yes G.1 (Ans.yes G.2.1 (Ans.yes G.2.2.1.1 (Ans.yes (by have := G.2.2.1.2; omega) ?_)))
    have e : (rd (rd_L3 m 0) (firstRes m).1 == 1) = true := by rw [show rd (rd_L3 m 0) (firstRes m).1 = 1 from G.2.2.2]; rfl
    rw [e]; exact Ans.pure _
  · rw [show (firstRes m) = (0, false) from if_neg sg]; exact Ans.not (by simp) (Ans.pure _)
theorem law_l0 (c : List Int) (hc : ∀ x ∈ c, (Lit.int .u8 x).wf = true) {m : List (List Int)} (s : sign m = true) : Ans (fun k => laws_FnTurnsAndMirrors.l0 k c m (cw m) (mir m) (tr m) (lot m) m 0) true := by
  obtain ⟨q, h6⟩ := sign_sq s
  have lq := lot_sq q
  have round : ∀ (y : List (List Int)) (i : Int), 0 ≤ i → i < 4 → Sq m.length y → sign y = true → lot y = lot m → Ans (fun k => laws_FnTurnsAndMirrors.l0 k c m (cw m) (mir m) (tr m) (lot m) (cw y) (i + 1)) true → Ans (fun k => laws_FnTurnsAndMirrors.l0 k c m (cw m) (mir m) (tr m) (lot m) y i) true := by
    intro y i i0 i4 hy sy ly nx
    have cy := cw_sq hy
    have sc := sign_cw sy
    have T := turnMatrix (x := y) (by rw [hy.1]; omega)
    rw [chg_of sy] at T
    have L := implLeast (x := cw y) (by rw [cy.1]; omega)
    rw [chg_of sc, lot_cw hy, ly] at L
    refine Ans.step ?_
    simp only [laws_FnTurnsAndMirrors.l0, wrap64_up i0 (by omega)]
    refine Ans.yes i4 (T.bind (L.bind (Ans.yes rfl (Ans.yes rfl ((sameH (sq_small lq h6)).bind (Ans.yes rfl ((less m.length (cw y) (lot m) cy lq (by omega)).2.bind (Ans.not ?_ nx))))))))
    have li := lot_in (cw y)
    rw [lot_cw hy, ly] at li
    have := li.2 (cw y) (by simp [images])
    have ng := ordLL.neg (lot m) (cw y)
    simp only [decide_eq_true_eq]; omega
  have s1 := sign_cw s; have s2 := sign_cw s1; have s3 := sign_cw s2
  have q1 := cw_sq q; have q2 := cw_sq q1; have q3 := cw_sq q2
  refine round m 0 (by omega) (by omega) q s rfl ?_
  refine round _ _ (by omega) (by omega) q1 s1 (lot_cw q) ?_
  refine round _ _ (by omega) (by omega) q2 s2 (by rw [lot_cw q1, lot_cw q]) ?_
  refine round _ _ (by omega) (by omega) q3 s3 (by rw [lot_cw q2, lot_cw q1, lot_cw q]) ?_
  rw [cw4 q]
  have sm := sign_mir s; have st := sign_tr s
  have M1 := mirrorMatrix (x := mir m) (by rw [(mir_sq q).1]; omega)
  rw [chg_of sm, mir2 q] at M1
  have M2 := mirrorMatrix (x := tr m) (by rw [(tr_sq q).1]; omega)
  rw [chg_of st] at M2
  have N1 := minusOf m s
  have N2 := minusOf (cw m) s1
  rw [show minus (cw m) = minus m by rw [show cw m = mir (tr m) from rfl, minus_mir (tr_sq q), minus_tr q]] at N2
  have I1 := (invOf m (by omega)).1
  have I2 := (invOf (mir m) (by rw [(mir_sq q).1]; omega)).1
  have I3 := (invOf (tr m) (by rw [(tr_sq q).1]; omega)).1
  rw [invRes_of s] at I1
  rw [invRes_of sm] at I2
  rw [invRes_of st, inv_tr q] at I3
  have K := inv_mir rfl s
  have B1 := inv_bound s
  have B2 := inv_bound sm
  have B3 := minus_bound s
  refine Ans.step ?_
  simp only [laws_FnTurnsAndMirrors.l0]
  refine Ans.not (by omega) (M1.bind (M2.bind (N1.bind (N2.bind (I1.bind (I2.bind (I3.bind ((sameH (sq_small q h6)).bind (Ans.yes rfl (Ans.yes rfl ((sameH (sq_small q h6)).bind (Ans.yes rfl (Ans.yes rfl ((sameH (sq_small q1 h6)).bind (Ans.yes rfl (Ans.yes rfl (Ans.yes rfl (Ans.yes rfl (Ans.yes rfl (Ans.yes rfl (Ans.yes rfl (Ans.yes rfl (Ans.yes ?_ (law_j2 c hc))))))))))))))))))))))))
  have h1 := (sign_parts s rfl).2.1
  rw [wrap64_in (inv m + inv (mir m)) ⟨by omega, by omega⟩, wrap64_in _ ⟨by omega, by omega⟩]
  rcases (show m.length = 1 ∨ m.length = 2 ∨ m.length = 3 ∨ m.length = 4 ∨ m.length = 5 ∨ m.length = 6 by omega) with e | e | e | e | e | e
  all_goals rw [e] at K ⊢
  · rw [show wrap64 (Int.tdiv (wrap64 (((1 : Nat) : Int) * (wrap64 (((1 : Nat) : Int) - 1)))) 2) = 0 by unfold wrap64; decide]; omega
  · rw [show wrap64 (Int.tdiv (wrap64 (((2 : Nat) : Int) * (wrap64 (((2 : Nat) : Int) - 1)))) 2) = 1 by unfold wrap64; decide]; omega
  · rw [show wrap64 (Int.tdiv (wrap64 (((3 : Nat) : Int) * (wrap64 (((3 : Nat) : Int) - 1)))) 2) = 3 by unfold wrap64; decide]; omega
  · rw [show wrap64 (Int.tdiv (wrap64 (((4 : Nat) : Int) * (wrap64 (((4 : Nat) : Int) - 1)))) 2) = 6 by unfold wrap64; decide]; omega
  · rw [show wrap64 (Int.tdiv (wrap64 (((5 : Nat) : Int) * (wrap64 (((5 : Nat) : Int) - 1)))) 2) = 10 by unfold wrap64; decide]; omega
  · rw [show wrap64 (Int.tdiv (wrap64 (((6 : Nat) : Int) * (wrap64 (((6 : Nat) : Int) - 1)))) 2) = 15 by unfold wrap64; decide]; omega
theorem FnTurnsAndMirrors : laws_FnTurnsAndMirrors.Pure := by
  intro c m _ _ hc _ _ hm
  refine Ans.at (g := fun k => laws_FnTurnsAndMirrors.f k c m) ?_
  simp only [laws_FnTurnsAndMirrors.f]
  obtain ⟨b, hb⟩ := big_ans c m
  simp only [hb, Option.bind_some]
  cases b with
  | true => exact Ans.yes rfl (Ans.pure _)
  | false =>
    refine Ans.not (by simp) ?_
    obtain ⟨x, a, s, f, _, _, h1, h2⟩ := draw_signs c hc 0 0 5 (by omega) (by omega) (by omega) (by omega)
    have D : Ans (fun k => spec_DrawTurnMatrix.f k c) x := by
      simp only [spec_DrawTurnMatrix.f, spec_DrawIsSignMatrix.f]
      exact (f.bind (h := fun _ bt => some bt.1) (Ans.pure _)).bind (Ans.pure _)
    have hx : x.length ≤ 1048576 := by omega
    have k1 := chg_small (x := x) cw (fun _ h => cw_sq h)
    have k2 := chg_small (x := x) mir (fun _ h => mir_sq h)
    have k3 := chg_small (x := x) tr (fun _ h => tr_sq h)
    have k4 := chg_small (x := x) lot (fun _ h => lot_sq h)
    have e : ∀ f g : List (List Int) → List (List Int), (chg f x).2 = (chg g x).2 := fun f g => by unfold chg; split <;> rfl
    refine D.bind ((turnMatrix hx).bind ((specTurn hx).bind ((mirrorMatrix hx).bind ((specMirror hx).bind ((transposeMatrix hx).bind ((specTranspose hx).bind ((implLeast hx).bind ((specLeast hx).bind (Ans.not (by simp) ((sameH k1).bind (Ans.yes rfl (Ans.not (by simp) ((sameH k2).bind (Ans.yes rfl (Ans.not (by simp) ((sameH k3).bind (Ans.yes rfl (Ans.not (by simp) ((sameH k4).bind (Ans.yes rfl (Ans.not (by rw [e mir cw]; simp) (Ans.not (by rw [e tr cw]; simp) ?_))))))))))))))))))))))
    rw [show ((chg lot x).2 != (chg cw x).2) = false by rw [e lot cw]; simp]
    refine Ans.step ?_
    simp only [laws_FnTurnsAndMirrors.j0]
    refine Ans.not (by simp) ?_
    by_cases sg : sign x = true
    · simp only [chg_of sg]
      exact Ans.yes (by simp) (law_l0 m hm sg)
    · rw [show chg cw x = ([], false) from if_neg sg]
      exact Ans.not (by simp) (law_j2 m hm)

end Go.Proofs.Ytiajdpjfofbpnaa.Pure
