/- For all numbers of links the program's SumOperator returns what the reference's returns, with its memory its own: no condition. -/
import Derived.Test.YtchnfacedjjakaaCFnExactSumOperatorx2
import Derived.Test.YtchnfacedjjakaaQTwo
namespace Go.Proofs.Ytchnfacedjjakaa.Pure
open Go.RowKit Go.Proofs.Ytchnfacedjjakaa.X Go.Proofs.YtchnfacedjjakaaW.PrintWords Go.Proofs.YtchnfacedjjakaaW.PrintLast Go.Proofs.Ytchnfacedjjakaa.Q
set_option linter.unusedVariables false
set_option linter.unusedSimpArgs false
theorem rd_L1_mem {x : List (List Int)} {i : Int} (h0 : 0 ≤ i) (h1 : i < x.length) : rd_L1 x i ∈ x := by unfold rd_L1; exact getD_mem _ (by omega)
theorem len_le {x : List Int} (h : x.length ≤ 17592186044416) : (x.length : Int) ≤ 17592186044416 := by omega
theorem eqIntS_l0 (x : List Int) (hx : x.length ≤ 17592186044416) : ∀ (d : Nat) (i : Int), 0 ≤ i → i + d = x.length → ∀ k, d < k → laws_eqIntS.l0 k x x i = some true := by
  intro d
  induction d with
  | zero => intro i h0 h1 k hk; obtain ⟨j, rfl⟩ : ∃ j, k = j + 1 := ⟨k - 1, by omega⟩; unfold laws_eqIntS.l0; rw [if_neg (by omega)]
  | succ d ih =>
    intro i h0 h1 k hk; obtain ⟨j, rfl⟩ : ∃ j, k = j + 1 := ⟨k - 1, by omega⟩; unfold laws_eqIntS.l0
    rw [if_pos (by omega), if_pos h0, if_pos (by omega), if_pos rfl, wrap64_up h0 (by omega)]
    exact ih _ (by omega) (by omega) _ (by omega)
theorem eqIntS (x : List Int) (hx : x.length ≤ 17592186044416) : Ans (fun k => laws_eqIntS.f k x x) true :=
  Ans.from (x.length + 1) fun k hk => by unfold laws_eqIntS.f; rw [if_pos rfl]; exact eqIntS_l0 x hx x.length 0 (by omega) (by omega) _ (by omega)
/-- The row after marking from `n`: `n, n+1, ..`. -/
def upFrom (n : Int) (m : Nat) : List Int := (List.range m).map fun (i : Nat) => n + (i : Int)
theorem markIntS_l0 (x : List Int) (n : Int) (hn : 0 ≤ n) (hx : n + x.length ≤ 17592186044416) : ∀ (d : Nat) (y : List Int) (i : Int), y.length = x.length → (∀ j : Nat, j < i → y.getD j 0 = n + j) → 0 ≤ i → i + d = x.length → ∀ k, d < k →
    laws_markIntS.l0 k y (n + i) i = some (n + x.length, upFrom n x.length) := by
  intro d
  induction d with
  | zero =>
    intro y i hl hy h0 h1 k hk; obtain ⟨j, rfl⟩ : ∃ j, k = j + 1 := ⟨k - 1, by omega⟩; unfold laws_markIntS.l0; rw [if_neg (by omega)]
    have : y = upFrom n x.length := by
      refine List.ext_getElem (by simp [upFrom, hl]) fun m h2 h3 => ?_
      have := hy m (by omega)
      rw [getD_at _ _ h2] at this
      rw [this]; simp [upFrom]
    rw [this, show n + i = n + x.length by omega]
  | succ d ih =>
    intro y i hl hy h0 h1 k hk; obtain ⟨j, rfl⟩ : ∃ j, k = j + 1 := ⟨k - 1, by omega⟩; unfold laws_markIntS.l0
    rw [if_pos (by omega), if_pos h0, wrap64_up h0 (by omega), wrap64_up (by omega) (by omega), show n + i + 1 = n + (i + 1) by omega]
    refine ih _ _ (by simp [hl]) ?_ (by omega) (by omega) _ (by omega)
    intro m hm
    obtain ⟨a, rfl⟩ : ∃ a : Nat, i = a := ⟨i.toNat, by omega⟩
    by_cases e : m = a
    · subst e
      have h2 : m < (y.set ((m : Int)).toNat (n + (m : Int))).length := by simp only [List.length_set]; omega
      rw [getD_at _ _ h2]
      simp
    · have h2 : m < y.length := by omega
      have h3 : m < (y.set ((a : Int)).toNat (n + (a : Int))).length := by simp only [List.length_set]; omega
      rw [← hy m (by omega), getD_at _ _ h3, getD_at _ _ h2, List.getElem_set_ne (by omega)]
theorem markIntS (x : List Int) (n : Int) (hn : 0 ≤ n) (hx : n + x.length ≤ 17592186044416) : Ans (fun k => laws_markIntS.f k x n) (n + x.length, upFrom n x.length) :=
  Ans.from (x.length + 1) fun k hk => by
    unfold laws_markIntS.f
    have := markIntS_l0 x n hn hx x.length x 0 rfl (by intro j hj; omega) (by omega) (by omega) k (by omega)
    rwa [show n + 0 = n by omega] at this
theorem heldIntS_l0 (m : Nat) (n : Int) (hn : 0 ≤ n) (hx : n + m ≤ 17592186044416) : ∀ (d : Nat) (i : Int), 0 ≤ i → i + d = m → ∀ k, d < k →
    laws_heldIntS.l0 k (upFrom n m) (n + i) i = some (n + m) := by
  intro d
  have hl : (upFrom n m).length = m := by simp [upFrom]
  induction d with
  | zero =>
    intro i h0 h1 k hk; obtain ⟨j, rfl⟩ : ∃ j, k = j + 1 := ⟨k - 1, by omega⟩; unfold laws_heldIntS.l0; rw [if_neg (by omega), show n + i = n + m by omega]
  | succ d ih =>
    intro i h0 h1 k hk; obtain ⟨j, rfl⟩ : ∃ j, k = j + 1 := ⟨k - 1, by omega⟩; unfold laws_heldIntS.l0
    have : rd (upFrom n m) i = n + i := by
      unfold rd; rw [getD_at _ _ (by omega)]; simp only [upFrom, List.getElem_map, List.getElem_range]; omega
    rw [if_pos (by omega), if_pos h0, if_pos this, wrap64_up h0 (by omega), wrap64_up (by omega) (by omega), show n + i + 1 = n + (i + 1) by omega]
    exact ih _ (by omega) (by omega) _ (by omega)
theorem heldIntS (m : Nat) (n : Int) (hn : 0 ≤ n) (hx : n + m ≤ 17592186044416) : Ans (fun k => laws_heldIntS.f k (upFrom n m) n) (n + m) :=
  Ans.from (m + 1) fun k hk => by
    unfold laws_heldIntS.f
    have := heldIntS_l0 m n hn hx m 0 (by omega) (by omega) k (by omega)
    rwa [show n + 0 = n by omega] at this
theorem eqIntSS_l0 (x : List (List Int)) (hx : x.length ≤ 17592186044416) (hr : ∀ r ∈ x, r.length ≤ 17592186044416) : ∀ (d : Nat) (i : Int), 0 ≤ i → i + d = x.length → Ans (fun k => laws_eqIntSS.l0 k x x i) true := by
  intro d
  induction d with
  | zero => intro i h0 h1; refine Ans.step ?_; simp only [laws_eqIntSS.l0]; exact Ans.not (by omega) (Ans.pure _)
  | succ d ih =>
    intro i h0 h1; refine Ans.step ?_; simp only [laws_eqIntSS.l0, wrap64_up h0 (by omega : i ≤ 4611686018427387904)]
    exact Ans.yes (by omega) (Ans.yes h0 (Ans.yes (by omega) ((eqIntS _ (hr _ (rd_L1_mem h0 (by omega)))).bind (Ans.yes rfl (ih _ (by omega) (by omega))))))
theorem eqIntSS (x : List (List Int)) (hx : x.length ≤ 17592186044416) (hr : ∀ r ∈ x, r.length ≤ 17592186044416) : Ans (fun k => laws_eqIntSS.f k x x) true := by
  simp only [laws_eqIntSS.f]
  exact Ans.yes (by simp) (eqIntSS_l0 x hx hr x.length 0 (by omega) (by omega))
/-- The rows after marking from `n`. -/
def upRows : Int → List (List Int) → List (List Int)
  | _, [] => []
  | n, a :: x => upFrom n a.length :: upRows (n + a.length) x
theorem upRows_len : ∀ (x : List (List Int)) (n : Int), (upRows n x).length = x.length
  | [], _ => rfl
  | _ :: x, _ => by simp [upRows, upRows_len x]
theorem markIntSS_l0 : ∀ (x : List (List Int)) (y : List (List Int)) (n i : Int), 0 ≤ n → n + total x ≤ 17592186044416 → 0 ≤ i → y.length ≤ 17592186044416 → i + x.length = y.length → y.drop i.toNat = x →
    Ans (fun k => laws_markIntSS.l0 k y n i) (n + total x, y.take i.toNat ++ upRows n x) := by
  intro x
  induction x with
  | nil =>
    intro y n i h0 h1 h2 h3 h4 h5; refine Ans.step ?_; simp only [laws_markIntSS.l0]
    simp only [List.length_nil] at h4
    refine Ans.not (by omega) ?_
    rw [total_nil, upRows, List.append_nil, List.take_of_length_le (by omega), show n + ((0 : Nat) : Int) = n by omega]; exact Ans.pure _
  | cons a x ih =>
    intro y n i h0 h1 h2 h3 h4 h5; refine Ans.step ?_; simp only [laws_markIntSS.l0, wrap64_up h2 (by omega : i ≤ 4611686018427387904)]
    rw [total_cons] at h1
    simp only [List.length_cons] at h4
    have hlt : i.toNat < y.length := by omega
    have hd := drop_at y [] hlt
    rw [h5] at hd
    obtain ⟨ha, hx⟩ := List.cons.inj hd
    rw [← ha]
    refine Ans.yes (by omega) (Ans.yes h2 ((markIntS a n h0 (by omega)).bind ?_))
    obtain ⟨e1, e2⟩ := take_set_drop y i.toNat (upFrom n a.length) hlt
    have := ih (y.set i.toNat (upFrom n a.length)) (n + a.length) (i + 1) (by omega) (by omega) (by omega) (by simp; omega) (by simp only [List.length_set]; omega) (by rw [show (i + 1).toNat = i.toNat + 1 by omega, e2, ← hx])
    rw [show (i + 1).toNat = i.toNat + 1 by omega, e1, show n + (a.length : Int) + (total x : Int) = n + (total (a :: x) : Int) by rw [total_cons]; omega] at this
    rw [upRows]
    simpa using this
theorem markIntSS (x : List (List Int)) (n : Int) (hn : 0 ≤ n) (hx : n + total x ≤ 17592186044416) (hl : x.length ≤ 17592186044416) : Ans (fun k => laws_markIntSS.f k x n) (n + total x, upRows n x) := by
  have := markIntSS_l0 x x n 0 hn hx (by omega) hl (by omega) rfl
  simpa [laws_markIntSS.f] using this
theorem heldIntSS_l0 : ∀ (x : List (List Int)) (y : List (List Int)) (n i : Int), 0 ≤ n → n + total x ≤ 17592186044416 → 0 ≤ i → y.length ≤ 17592186044416 → i + x.length = y.length → y.drop i.toNat = upRows n x →
    Ans (fun k => laws_heldIntSS.l0 k y n i) (n + total x) := by
  intro x
  induction x with
  | nil =>
    intro y n i h0 h1 h2 h3 h4 h5; refine Ans.step ?_; simp only [laws_heldIntSS.l0]
    simp only [List.length_nil] at h4
    refine Ans.not (by omega) ?_
    rw [total_nil, show n + ((0 : Nat) : Int) = n by omega]; exact Ans.pure _
  | cons a x ih =>
    intro y n i h0 h1 h2 h3 h4 h5; refine Ans.step ?_; simp only [laws_heldIntSS.l0, wrap64_up h2 (by omega : i ≤ 4611686018427387904)]
    rw [total_cons] at h1
    simp only [List.length_cons] at h4
    have hlt : i.toNat < y.length := by omega
    have hd := drop_at y [] hlt
    rw [h5, upRows] at hd
    obtain ⟨ha, hx⟩ := List.cons.inj hd
    have hrd : rd_L1 y i = upFrom n a.length := by rw [rd_L1, ← ha]
    rw [hrd]
    refine Ans.yes (by omega) (Ans.yes h2 ((heldIntS a.length n h0 (by omega)).bind (Ans.not (by omega) ?_)))
    have := ih y (n + a.length) (i + 1) (by omega) (by omega) (by omega) h3 (by omega) (by rw [show (i + 1).toNat = i.toNat + 1 by omega, ← hx])
    rwa [show n + (a.length : Int) + (total x : Int) = n + (total (a :: x) : Int) by rw [total_cons]; omega] at this
theorem heldIntSS (x : List (List Int)) (n : Int) (hn : 0 ≤ n) (hx : n + total x ≤ 17592186044416) (hl : x.length ≤ 17592186044416) : Ans (fun k => laws_heldIntSS.f k (upRows n x) n) (n + total x) :=
  heldIntSS_l0 x (upRows n x) n 0 hn hx (by omega) (by rw [upRows_len]; exact hl) (by rw [upRows_len]; omega) rfl
theorem l1In (a b c : Int) : spec_l1In.f a b c = some (decide (b ≤ a ∧ a ≤ c)) := by
  unfold spec_l1In.f
  by_cases h : a ≥ b
  · rw [if_pos h]; refine congrArg some (decide_eq_decide.mpr ⟨fun q => ⟨h, q⟩, fun q => q.2⟩)
  · rw [if_neg h, decide_eq_false (by omega)]
theorem within (a b c : Int) : impl_within.f a b c = some (decide (b ≤ a ∧ a ≤ c)) := by
  unfold impl_within.f
  by_cases h : b ≤ a
  · rw [if_pos h]; refine congrArg some (decide_eq_decide.mpr ⟨fun q => ⟨h, q⟩, fun q => q.2⟩)
  · rw [if_neg h, decide_eq_false (by omega)]
theorem LeO.far {α : Type} {g : Nat → Option α} {r : α} (h : ∀ k, LeO (g k) (g (k + 1))) (m : Nat) (e : g m = some r) : Ans g r :=
  ⟨m, fun k hk => by
    obtain ⟨j, rfl⟩ : ∃ j, k = m + j := ⟨k - m, by omega⟩
    clear hk
    induction j with
    | zero => exact e
    | succ j ih => exact h _ r ih⟩
/-- The sums of the operators of few links, as the reference makes them. -/
def sumOf (n : Nat) : List (List Int) := (spec_sySum.f 400 n).getD []
theorem sums_all : ∀ n : Nat, 1 ≤ n → n ≤ 4 → spec_sySum.f 400 n = some (sumOf n) ∧ impl_SumOperator.f 400 n = some (sumOf n, true) ∧ (sumOf n).length ≤ 14 ∧ ∀ r ∈ sumOf n, r.length ≤ 14 := by
  intro n h1 h2
  rcases (show n = 1 ∨ n = 2 ∨ n = 3 ∨ n = 4 by omega) with rfl | rfl | rfl | rfl
  · decide +kernel
  · decide +kernel
  · decide +kernel
  · decide +kernel
theorem sySum_at (n : Nat) (h1 : 1 ≤ n) (h2 : n ≤ 4) : Ans (fun k => spec_sySum.f k n) (sumOf n) := LeO.far (fun k => spec_sySum.mono _ k) 400 (sums_all n h1 h2).1
theorem sumOperator_at (n : Nat) (h1 : 1 ≤ n) (h2 : n ≤ 4) : Ans (fun k => impl_SumOperator.f k n) (sumOf n, true) := LeO.far (fun k => impl_SumOperator.mono _ k) 400 (sums_all n h1 h2).2.1
theorem sumOperator_no (n : Int) (h : ¬ (1 ≤ n ∧ n ≤ 4)) : Ans (fun k => impl_SumOperator.f k n) ([], false) := by
  simp only [impl_SumOperator.f, impl_arePairs.f, within, Option.bind_some]
  rw [decide_eq_false h]
  exact Ans.not (by simp) (Ans.pure _)
theorem FnExactSumOperator : laws_FnExactSumOperator.Pure := by
  intro n _
  obtain ⟨z, b, hz, hz2, e1, e3⟩ : ∃ (z : List (List Int)) (b : Bool), z.length ≤ 14 ∧ (∀ r ∈ z, r.length ≤ 14) ∧ Ans (fun k => spec_SumOperator.f k n) (z, b) ∧ Ans (fun k => impl_SumOperator.f k n) (z, b) := by
    simp only [spec_SumOperator.f, spec_syPairs.f, l1In, Option.bind_some]
    by_cases c : 1 ≤ n ∧ n ≤ 4
    · obtain ⟨m, rfl⟩ : ∃ m : Nat, n = m := ⟨n.toNat, by omega⟩
      have h1 := sums_all m (by omega) (by omega)
      rw [decide_eq_true c]
      exact ⟨sumOf m, true, h1.2.2.1, h1.2.2.2, Ans.yes rfl ((sySum_at m (by omega) (by omega)).bind (Ans.pure _)), sumOperator_at m (by omega) (by omega)⟩
    · rw [decide_eq_false c]
      exact ⟨[], false, by simp, by simp, Ans.not (by simp) (Ans.pure _), sumOperator_no n c⟩
  have hzt := total_le hz2
  have F := (Evn.of e1).and ((Evn.of e3).and ((Evn.of (eqIntSS z (by omega) (fun r h => by have := hz2 r h; omega))).and ((Evn.of (markIntSS z 1 (by omega) (by omega) (by omega))).and (Evn.of (heldIntSS z 1 (by omega) (by omega) (by omega))))))
  obtain ⟨k, f1, f2, f3, f4, f5⟩ := F.at
  exact ⟨k, z, b, _, _, f1, f2, f3, f4, by omega, f5⟩

end Go.Proofs.Ytchnfacedjjakaa.Pure
