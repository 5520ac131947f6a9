/- For all rows and every vector the program's ApplyOperator returns what the reference's returns, with its memory its own: no condition. -/
import Derived.Test.YtobkldkekopgoaaCFnExactApplyOperatorx1
import Derived.Test.YtobkldkekopgoaaQTwo
namespace Go.Proofs.Ytobkldkekopgoaa.Pure
open Go.RowKit Go.Proofs.Ytobkldkekopgoaa.X Go.Proofs.YtobkldkekopgoaaW.PrintWords Go.Proofs.YtobkldkekopgoaaW.PrintLast Go.Proofs.Ytobkldkekopgoaa.Q
theorem len_le {x : List Int} (h : x.length ≤ 17592186044416) : (x.length : Int) ≤ 17592186044416 := by omega
theorem eqIntS_l0 (x : List Int) (hx : x.length ≤ 17592186044416) : ∀ (d : Nat) (i : Int), 0 ≤ i → i + d = x.length → ∀ k, d < k → laws_eqIntS.l0 k x x i = some true := by
  intro d
  induction d with
  | zero => intro i h0 h1 k hk; obtain ⟨j, rfl⟩ : ∃ j, k = j + 1 := ⟨k - 1, by omega⟩; unfold laws_eqIntS.l0; rw [if_neg (by omega)]
  | succ d ih =>
    intro i h0 h1 k hk; obtain ⟨j, rfl⟩ : ∃ j, k = j + 1 := ⟨k - 1, by omega⟩; unfold laws_eqIntS.l0
    rw [if_pos (by omega), if_pos h0, if_pos (by omega), if_pos rfl, wrap64_up h0 (by omega)]
    exact ih _ (by omega) (by omega) _ (by omega)
theorem eqIntS (x : List Int) (hx : x.length ≤ 17592186044416) : Ans (fun k => laws_eqIntS.f k x x) true :=
  Ans.from (x.length + 1) fun k hk => by unfold laws_eqIntS.f; rw [if_pos rfl]; exact eqIntS_l0 x hx x.length 0 (by omega) (by omega) _ (by omega)
theorem toIntS_l0 (x : List Int) (hx : x.length ≤ 17592186044416) : ∀ (d : Nat) (y : List Int) (i : Int), y.length = x.length → (∀ j : Nat, j < i → y.getD j 0 = x.getD j 0) → 0 ≤ i → i + d = x.length → ∀ k, d < k → laws_toIntS.l0 k x y i = some x := by
  intro d
  induction d with
  | zero =>
    intro y i hl hy h0 h1 k hk; obtain ⟨j, rfl⟩ : ∃ j, k = j + 1 := ⟨k - 1, by omega⟩; unfold laws_toIntS.l0; rw [if_neg (by omega)]
    refine congrArg some (List.ext_getElem hl fun n h2 h3 => ?_)
    have := hy n (by omega)
    rw [getD_at _ _ h2, getD_at _ _ h3] at this
    exact this
  | succ d ih =>
    intro y i hl hy h0 h1 k hk; obtain ⟨j, rfl⟩ : ∃ j, k = j + 1 := ⟨k - 1, by omega⟩; unfold laws_toIntS.l0
    rw [if_pos (by omega), if_pos h0, if_pos (by omega), wrap64_up h0 (by omega)]
    refine ih _ _ (by simp [hl]) ?_ (by omega) (by omega) _ (by omega)
    intro n hn
    obtain ⟨a, rfl⟩ : ∃ a : Nat, i = a := ⟨i.toNat, by omega⟩
    by_cases e : n = a
    · subst e
      have h2 : n < (y.set ((n : Int)).toNat (rd x n)).length := by simp only [List.length_set]; omega
      rw [getD_at _ _ h2]
      simp [rd]
    · have h2 : n < y.length := by omega
      have h3 : n < (y.set ((a : Int)).toNat (rd x a)).length := by simp only [List.length_set]; omega
      rw [← hy n (by omega), getD_at _ _ h3, getD_at _ _ h2, List.getElem_set_ne (by omega)]
theorem toIntS (x : List Int) (hx : x.length ≤ 17592186044416) : Ans (fun k => laws_toIntS.f k x) x :=
  Ans.from (x.length + 1) fun k hk => by
    unfold laws_toIntS.f; rw [if_pos (by omega), if_pos (by omega)]
    exact toIntS_l0 x hx x.length _ 0 (by simp) (by intro j hj; omega) (by omega) (by omega) _ (by omega)
/-- The row after marking from `n`: `n, n+1, ..`. -/
def upFrom (n : Int) (m : Nat) : List Int := (List.range m).map fun (i : Nat) => n + (i : Int)
theorem markIntS_l0 (x : List Int) (n : Int) (hn : 0 ≤ n) (hx : n + x.length ≤ 17592186044416) : ∀ (d : Nat) (y : List Int) (i : Int), y.length = x.length → (∀ j : Nat, j < i → y.getD j 0 = n + j) → 0 ≤ i → i + d = x.length → ∀ k, d < k →
    laws_markIntS.l0 k y (n + i) i = some (n + x.length, upFrom n x.length) := by
  intro d
  induction d with
  | zero =>
    intro y i hl hy h0 h1 k hk; obtain ⟨j, rfl⟩ : ∃ j, k = j + 1 := ⟨k - 1, by omega⟩; unfold laws_markIntS.l0; rw [if_neg (by omega)]
    have : y = upFrom n x.length := by
      refine List.ext_getElem (by simp [upFrom, hl]) fun m h2 h3 => ?_
      have := hy m (by omega)
      rw [getD_at _ _ h2] at this
      rw [this]; simp [upFrom]
    rw [this, show n + i = n + x.length by omega]
  | succ d ih =>
    intro y i hl hy h0 h1 k hk; obtain ⟨j, rfl⟩ : ∃ j, k = j + 1 := ⟨k - 1, by omega⟩; unfold laws_markIntS.l0
    rw [if_pos (by omega), if_pos h0, wrap64_up h0 (by omega), wrap64_up (by omega) (by omega), show n + i + 1 = n + (i + 1) by omega]
    refine ih _ _ (by simp [hl]) ?_ (by omega) (by omega) _ (by omega)
    intro m hm
    obtain ⟨a, rfl⟩ : ∃ a : Nat, i = a := ⟨i.toNat, by omega⟩
    by_cases e : m = a
    · subst e
      have h2 : m < (y.set ((m : Int)).toNat (n + (m : Int))).length := by simp only [List.length_set]; omega
      rw [getD_at _ _ h2]
      simp
    · have h2 : m < y.length := by omega
      have h3 : m < (y.set ((a : Int)).toNat (n + (a : Int))).length := by simp only [List.length_set]; omega
      rw [← hy m (by omega), getD_at _ _ h3, getD_at _ _ h2, List.getElem_set_ne (by omega)]
theorem markIntS (x : List Int) (n : Int) (hn : 0 ≤ n) (hx : n + x.length ≤ 17592186044416) : Ans (fun k => laws_markIntS.f k x n) (n + x.length, upFrom n x.length) :=
  Ans.from (x.length + 1) fun k hk => by
    unfold laws_markIntS.f
    have := markIntS_l0 x n hn hx x.length x 0 rfl (by intro j hj; omega) (by omega) (by omega) k (by omega)
    rwa [show n + 0 = n by omega] at this
theorem heldIntS_l0 (m : Nat) (n : Int) (hn : 0 ≤ n) (hx : n + m ≤ 17592186044416) : ∀ (d : Nat) (i : Int), 0 ≤ i → i + d = m → ∀ k, d < k →
    laws_heldIntS.l0 k (upFrom n m) (n + i) i = some (n + m) := by
  intro d
  have hl : (upFrom n m).length = m := by simp [upFrom]
  induction d with
  | zero =>
    intro i h0 h1 k hk; obtain ⟨j, rfl⟩ : ∃ j, k = j + 1 := ⟨k - 1, by omega⟩; unfold laws_heldIntS.l0; rw [if_neg (by omega), show n + i = n + m by omega]
  | succ d ih =>
    intro i h0 h1 k hk; obtain ⟨j, rfl⟩ : ∃ j, k = j + 1 := ⟨k - 1, by omega⟩; unfold laws_heldIntS.l0
    have : rd (upFrom n m) i = n + i := by
      unfold rd; rw [getD_at _ _ (by omega)]; simp only [upFrom, List.getElem_map, List.getElem_range]; omega
    rw [if_pos (by omega), if_pos h0, if_pos this, wrap64_up h0 (by omega), wrap64_up (by omega) (by omega), show n + i + 1 = n + (i + 1) by omega]
    exact ih _ (by omega) (by omega) _ (by omega)
theorem heldIntS (m : Nat) (n : Int) (hn : 0 ≤ n) (hx : n + m ≤ 17592186044416) : Ans (fun k => laws_heldIntS.f k (upFrom n m) n) (n + m) :=
  Ans.from (m + 1) fun k hk => by
    unfold laws_heldIntS.f
    have := heldIntS_l0 m n hn hx m 0 (by omega) (by omega) k (by omega)
    rwa [show n + 0 = n by omega] at this
theorem rd_L1_mem {x : List (List Int)} {i : Int} (h0 : 0 ≤ i) (h1 : i < x.length) : rd_L1 x i ∈ x := by unfold rd_L1; exact getD_mem _ (by omega)
theorem eqIntSS_l0 (x : List (List Int)) (hx : x.length ≤ 17592186044416) (hr : ∀ r ∈ x, r.length ≤ 17592186044416) : ∀ (d : Nat) (i : Int), 0 ≤ i → i + d = x.length → Ans (fun k => laws_eqIntSS.l0 k x x i) true := by
  intro d
  induction d with
  | zero => intro i h0 h1; refine Ans.step ?_; simp only [laws_eqIntSS.l0]; exact Ans.not (by omega) (Ans.pure _)
  | succ d ih =>
    intro i h0 h1; refine Ans.step ?_; simp only [laws_eqIntSS.l0, wrap64_up h0 (by omega : i ≤ 4611686018427387904)]
    exact Ans.yes (by omega) (Ans.yes h0 (Ans.yes (by omega) ((eqIntS _ (hr _ (rd_L1_mem h0 (by omega)))).bind (Ans.yes rfl (ih _ (by omega) (by omega))))))
theorem eqIntSS (x : List (List Int)) (hx : x.length ≤ 17592186044416) (hr : ∀ r ∈ x, r.length ≤ 17592186044416) : Ans (fun k => laws_eqIntSS.f k x x) true := by
  simp only [laws_eqIntSS.f]
  exact Ans.yes (by simp) (eqIntSS_l0 x hx hr x.length 0 (by omega) (by omega))
theorem toIntSS_l0 (x : List (List Int)) (hx : x.length ≤ 11728124029610) (hr : ∀ r ∈ x, r.length ≤ 17592186044416) : ∀ (d : Nat) (y : List (List Int)) (i : Int), y.length = x.length → (∀ j : Nat, j < i → y.getD j [] = x.getD j []) → 0 ≤ i → i + d = x.length → Ans (fun k => laws_toIntSS.l0 k x y i) x := by
  intro d
  induction d with
  | zero =>
    intro y i hl hy h0 h1; refine Ans.step ?_; simp only [laws_toIntSS.l0]
    refine Ans.not (by omega) ?_
    have : y = x := List.ext_getElem hl fun n h2 h3 => by
      have := hy n (by omega)
      rwa [getD_at _ _ h2, getD_at _ _ h3] at this
    rw [this]; exact Ans.pure _
  | succ d ih =>
    intro y i hl hy h0 h1; refine Ans.step ?_; simp only [laws_toIntSS.l0, wrap64_up h0 (by omega : i ≤ 4611686018427387904)]
    refine Ans.yes (by omega) (Ans.yes h0 ((toIntS _ (hr _ (rd_L1_mem h0 (by omega)))).bind (Ans.yes (by omega) (ih _ _ (by simp [hl]) ?_ (by omega) (by omega)))))
    intro n hn
    obtain ⟨a, rfl⟩ : ∃ a : Nat, i = a := ⟨i.toNat, by omega⟩
    by_cases e : n = a
    · subst e
      have h2 : n < (y.set ((n : Int)).toNat (rd_L1 x n)).length := by simp only [List.length_set]; omega
      rw [getD_at _ _ h2]
      simp [rd_L1]
    · have h2 : n < y.length := by omega
      have h3 : n < (y.set ((a : Int)).toNat (rd_L1 x a)).length := by simp only [List.length_set]; omega
      rw [← hy n (by omega), getD_at _ _ h3, getD_at _ _ h2, List.getElem_set_ne (by omega)]
theorem toIntSS (x : List (List Int)) (hx : x.length ≤ 11728124029610) (hr : ∀ r ∈ x, r.length ≤ 17592186044416) : Ans (fun k => laws_toIntSS.f k x) x := by
  simp only [laws_toIntSS.f]
  exact Ans.yes (by omega) (Ans.yes (by omega) (toIntSS_l0 x hx hr x.length _ 0 (by simp) (by intro j hj; omega) (by omega) (by omega)))
/-- The rows after marking from `n`. -/
def upRows : Int → List (List Int) → List (List Int)
  | _, [] => []
  | n, a :: x => upFrom n a.length :: upRows (n + a.length) x
theorem upRows_len : ∀ (x : List (List Int)) (n : Int), (upRows n x).length = x.length
  | [], _ => rfl
  | _ :: x, _ => by simp [upRows, upRows_len x]
theorem take_set_drop {α : Type} (y : List α) (n : Nat) (v : α) (h : n < y.length) : (y.set n v).take (n + 1) = y.take n ++ [v] ∧ (y.set n v).drop (n + 1) = y.drop (n + 1) := by
  refine ⟨?_, ?_⟩
  · refine List.ext_getElem (by simp; omega) fun m h1 h2 => ?_
    simp only [List.length_take, List.length_set] at h1
    rw [List.getElem_take, List.getElem_append]
    by_cases e : m = n
    · subst e; rw [List.getElem_set_self, dif_neg (by simp only [List.length_take]; omega)]; simp
    · rw [List.getElem_set_ne (by omega), dif_pos (by simp; omega), List.getElem_take]
  · refine List.ext_getElem (by simp) fun m h1 h2 => ?_
    rw [List.getElem_drop, List.getElem_drop, List.getElem_set_ne (by omega)]
theorem markIntSS_l0 : ∀ (x : List (List Int)) (y : List (List Int)) (n i : Int), 0 ≤ n → n + total x ≤ 17592186044416 → 0 ≤ i → y.length ≤ 17592186044416 → i + x.length = y.length → y.drop i.toNat = x →
    Ans (fun k => laws_markIntSS.l0 k y n i) (n + total x, y.take i.toNat ++ upRows n x) := by
  intro x
  induction x with
  | nil =>
    intro y n i h0 h1 h2 h3 h4 h5; refine Ans.step ?_; simp only [laws_markIntSS.l0]
    simp only [List.length_nil] at h4
    refine Ans.not (by omega) ?_
    rw [total_nil, upRows, List.append_nil, List.take_of_length_le (by omega), show n + ((0 : Nat) : Int) = n by omega]; exact Ans.pure _
  | cons a x ih =>
    intro y n i h0 h1 h2 h3 h4 h5; refine Ans.step ?_; simp only [laws_markIntSS.l0, wrap64_up h2 (by omega : i ≤ 4611686018427387904)]
    rw [total_cons] at h1
    simp only [List.length_cons] at h4
    have hlt : i.toNat < y.length := by omega
    have hd := drop_at y [] hlt
    rw [h5] at hd
    obtain ⟨ha, hx⟩ := List.cons.inj hd
    rw [← ha]
    refine Ans.yes (by omega) (Ans.yes h2 ((markIntS a n h0 (by omega)).bind ?_))
    obtain ⟨e1, e2⟩ := take_set_drop y i.toNat (upFrom n a.length) hlt
    have := ih (y.set i.toNat (upFrom n a.length)) (n + a.length) (i + 1) (by omega) (by omega) (by omega) (by simp; omega) (by simp only [List.length_set]; omega) (by rw [show (i + 1).toNat = i.toNat + 1 by omega, e2, ← hx])
    rw [show (i + 1).toNat = i.toNat + 1 by omega, e1, show n + (a.length : Int) + (total x : Int) = n + (total (a :: x) : Int) by rw [total_cons]; omega] at this
    rw [upRows]
    simpa using this
theorem markIntSS (x : List (List Int)) (n : Int) (hn : 0 ≤ n) (hx : n + total x ≤ 17592186044416) (hl : x.length ≤ 17592186044416) : Ans (fun k => laws_markIntSS.f k x n) (n + total x, upRows n x) := by
  have := markIntSS_l0 x x n 0 hn hx (by omega) hl (by omega) rfl
  simpa [laws_markIntSS.f] using this
theorem szIntS (x : List Int) (l : Int) (hx : x.length ≤ 9223372036854775807) (h0 : 0 ≤ l) (h1 : l ≤ 1048576) : laws_szIntS.f x l = some (if l - x.length < 0 then -1 else l - x.length) := by
  simp only [laws_szIntS.f, wrap64_in (l - (x.length : Int)) ⟨by omega, by omega⟩]
  by_cases h : l - (x.length : Int) < 0
  · rw [if_pos h, if_pos h]
  · rw [if_neg h, if_neg h]
theorem szIntSS_l0 : ∀ (x y : List (List Int)) (l i : Int), (∀ r ∈ y, r.length ≤ 9223372036854775807) → 0 ≤ l → l ≤ 1048576 → 0 ≤ i → i + x.length = y.length → y.length ≤ 1048576 → y.drop i.toNat = x →
    ∃ s, Ans (fun k => laws_szIntSS.l0 k y l i) s ∧ (0 ≤ s → s + total x = l) := by
  intro x
  induction x with
  | nil =>
    intro y l i hr h0 h1 h2 h4 h3 h5
    refine ⟨l, Ans.step ?_, fun _ => by rw [total_nil]; omega⟩
    simp only [laws_szIntSS.l0]; simp only [List.length_nil] at h4
    exact Ans.not (by omega) (Ans.pure _)
  | cons a x ih =>
    intro y l i hr h0 h1 h2 h4 h3 h5
    simp only [List.length_cons] at h4
    have hlt : i.toNat < y.length := by omega
    have hd := drop_at y [] hlt
    rw [h5] at hd
    obtain ⟨ha, hx⟩ := List.cons.inj hd
    have hrd : rd_L1 y i = a := by rw [rd_L1, ← ha]
    have har : a.length ≤ 9223372036854775807 := hr a (hrd ▸ rd_L1_mem h2 (by omega))
    by_cases hl : l - (a.length : Int) < 0
    · refine ⟨-1, Ans.step ?_, fun h => absurd h (by omega)⟩
      simp only [laws_szIntSS.l0, hrd, szIntS a l har h0 h1, if_pos hl, Option.bind_some]
      exact Ans.yes (by omega) (Ans.yes h2 (Ans.yes (by omega) (Ans.pure _)))
    · obtain ⟨s, e, hs⟩ := ih y (l - a.length) (i + 1) hr (by omega) (by omega) (by omega) (by omega) h3 (by rw [show (i + 1).toNat = i.toNat + 1 by omega, ← hx])
      refine ⟨s, Ans.step ?_, fun h => by have := hs h; rw [total_cons]; omega⟩
      simp only [laws_szIntSS.l0, hrd, szIntS a l har h0 h1, if_neg hl, Option.bind_some, wrap64_up h2 (by omega : i ≤ 4611686018427387904)]
      exact Ans.yes (by omega) (Ans.yes h2 e)
theorem szIntSS (x : List (List Int)) (l : Int) (h0 : 0 ≤ l) (h1 : l ≤ 1048576) (hx : x.length ≤ 9223372036854775807) (hr : ∀ r ∈ x, r.length ≤ 9223372036854775807) :
    ∃ s, Ans (fun k => laws_szIntSS.f k x l) s ∧ (0 ≤ s → s + total x + x.length = l) := by
  simp only [laws_szIntSS.f, wrap64_in (l - (x.length : Int)) ⟨by omega, by omega⟩]
  by_cases h : l - (x.length : Int) < 0
  · exact ⟨-1, Ans.yes h (Ans.pure _), fun q => absurd q (by omega)⟩
  · obtain ⟨s, e, hs⟩ := szIntSS_l0 x x (l - x.length) 0 hr (by omega) (by omega) (by omega) (by omega) (by omega) rfl
    exact ⟨s, Ans.not h e, fun q => by have := hs q; omega⟩
/-- Where every element's test answers, 'ContainsFunc' tells whether one passes. -/
theorem containsI (x : List Int) (hx : x.length ≤ 17592186044416) (g : Int → Option Bool) (p : Int → Bool) (hg : ∀ a, g a = some (p a)) : Ans (fun k => slices_ContainsFunc_int_int_67.f k x g) (x.any p) := by
  have key : ∀ (d : Nat) (i : Int), 0 ≤ i → i + d = x.length → ∃ z : Int, Ans (fun k => slices_IndexFunc_int_int_81.l0 k x g (x.length : Int) i) z ∧ decide (z ≥ 0) = (x.drop i.toNat).any p := by
    intro d
    induction d with
    | zero =>
      intro i h0 h1
      refine ⟨-1, Ans.step ?_, by rw [List.drop_eq_nil_of_le (by omega)]; rfl⟩
      simp only [slices_IndexFunc_int_int_81.l0]; exact Ans.not (by omega) (Ans.pure _)
    | succ d ih =>
      intro i h0 h1
      have hd := drop_at x 0 (show i.toNat < x.length by omega)
      by_cases c : p (rd x i) = true
      · refine ⟨i, Ans.step ?_, by rw [hd, List.any_cons, show p (x.getD i.toNat 0) = true from c]; simp [h0]⟩
        simp only [slices_IndexFunc_int_int_81.l0, hg, Option.bind_some]
        exact Ans.yes (by omega) (Ans.yes h0 (Ans.yes (by omega) (Ans.yes c (Ans.pure _))))
      · obtain ⟨z, e, hz⟩ := ih (i + 1) (by omega) (by omega)
        refine ⟨z, Ans.step ?_, by rw [hz, hd, List.any_cons, show p (x.getD i.toNat 0) = false from Bool.eq_false_iff.mpr c, show (i + 1).toNat = i.toNat + 1 by omega]; simp⟩
        simp only [slices_IndexFunc_int_int_81.l0, hg, Option.bind_some, wrap64_up h0 (by omega : i ≤ 4611686018427387904)]
        exact Ans.yes (by omega) (Ans.yes h0 (Ans.yes (by omega) (Ans.not c e)))
  obtain ⟨z, e, hz⟩ := key x.length 0 (by omega) (by omega)
  simp only [slices_ContainsFunc_int_int_67.f, slices_IndexFunc_int_int_81.f]
  have := e.bind (h := fun _ t => some (decide (t ≥ 0))) (Ans.pure (decide (z ≥ 0)))
  rwa [hz] at this
theorem containsL (x : List (List Int)) (hx : x.length ≤ 17592186044416) (g : List Int → Option Bool) (p : List Int → Bool) (hg : ∀ a, g a = some (p a)) : Ans (fun k => slices_ContainsFunc_int_int_59.f k x g) (x.any p) := by
  have key : ∀ (d : Nat) (i : Int), 0 ≤ i → i + d = x.length → ∃ z : Int, Ans (fun k => slices_IndexFunc_int_int_78.l0 k x g (x.length : Int) i) z ∧ decide (z ≥ 0) = (x.drop i.toNat).any p := by
    intro d
    induction d with
    | zero =>
      intro i h0 h1
      refine ⟨-1, Ans.step ?_, by rw [List.drop_eq_nil_of_le (by omega)]; rfl⟩
      simp only [slices_IndexFunc_int_int_78.l0]; exact Ans.not (by omega) (Ans.pure _)
    | succ d ih =>
      intro i h0 h1
      have hd := drop_at x [] (show i.toNat < x.length by omega)
      by_cases c : p (rd_L1 x i) = true
      · refine ⟨i, Ans.step ?_, by rw [hd, List.any_cons, show p (x.getD i.toNat []) = true from c]; simp [h0]⟩
        simp only [slices_IndexFunc_int_int_78.l0, hg, Option.bind_some]
        exact Ans.yes (by omega) (Ans.yes h0 (Ans.yes (by omega) (Ans.yes c (Ans.pure _))))
      · obtain ⟨z, e, hz⟩ := ih (i + 1) (by omega) (by omega)
        refine ⟨z, Ans.step ?_, by rw [hz, hd, List.any_cons, show p (x.getD i.toNat []) = false from Bool.eq_false_iff.mpr c, show (i + 1).toNat = i.toNat + 1 by omega]; simp⟩
        simp only [slices_IndexFunc_int_int_78.l0, hg, Option.bind_some, wrap64_up h0 (by omega : i ≤ 4611686018427387904)]
        exact Ans.yes (by omega) (Ans.yes h0 (Ans.yes (by omega) (Ans.not c e)))
  obtain ⟨z, e, hz⟩ := key x.length 0 (by omega) (by omega)
  simp only [slices_ContainsFunc_int_int_59.f, slices_IndexFunc_int_int_78.f]
  have := e.bind (h := fun _ t => some (decide (t ≥ 0))) (Ans.pure (decide (z ≥ 0)))
  rwa [hz] at this
theorem l1In (a b c : Int) : spec_l1In.f a b c = some (decide (b ≤ a ∧ a ≤ c)) := by
  unfold spec_l1In.f
  by_cases h : a ≥ b
  · rw [if_pos h]; refine congrArg some (decide_eq_decide.mpr ⟨fun q => ⟨h, q⟩, fun q => q.2⟩)
  · rw [if_neg h, decide_eq_false (by omega)]
theorem within (a b c : Int) : impl_within.f a b c = some (decide (b ≤ a ∧ a ≤ c)) := by
  unfold impl_within.f
  by_cases h : b ≤ a
  · rw [if_pos h]; refine congrArg some (decide_eq_decide.mpr ⟨fun q => ⟨h, q⟩, fun q => q.2⟩)
  · rw [if_neg h, decide_eq_false (by omega)]
def allIn (x : List Int) (lo hi : Int) : Bool := x.all fun a => decide (lo ≤ a ∧ a ≤ hi)
theorem l1All (x : List Int) (hx : x.length ≤ 17592186044416) (lo hi : Int) : Ans (fun k => spec_l1All.f k x lo hi) (allIn x lo hi) := by
  have key : ∀ (d : Nat) (i : Int), 0 ≤ i → i + d = x.length → Ans (fun k => spec_l1All.l0 k lo hi x (x.length : Int) i) (allIn (x.drop i.toNat) lo hi) := by
    intro d
    induction d with
    | zero =>
      intro i h0 h1
      rw [List.drop_eq_nil_of_le (by omega)]; refine Ans.step ?_
      simp only [spec_l1All.l0]; exact Ans.not (by omega) (Ans.pure _)
    | succ d ih =>
      intro i h0 h1
      have hd := drop_at x 0 (show i.toNat < x.length by omega)
      have e := ih (i + 1) (by omega) (by omega)
      rw [hd, allIn, List.all_cons, show decide (lo ≤ x.getD i.toNat 0 ∧ x.getD i.toNat 0 ≤ hi) = decide (lo ≤ rd x i ∧ rd x i ≤ hi) from rfl]
      refine Ans.step ?_
      simp only [spec_l1All.l0, l1In, Option.bind_some, wrap64_up h0 (by omega : i ≤ 4611686018427387904)]
      refine Ans.yes (by omega) (Ans.yes h0 (Ans.yes (by omega) ?_))
      by_cases c : decide (lo ≤ rd x i ∧ rd x i ≤ hi) = true
      · rw [c, Bool.true_and]; rw [show (i + 1).toNat = i.toNat + 1 by omega] at e; exact Ans.yes rfl e
      · rw [Bool.eq_false_iff.mpr c, Bool.false_and]; exact Ans.not (by simp) (Ans.pure _)
  exact key x.length 0 (by omega) (by omega)
theorem areWithin (x : List Int) (hx : x.length ≤ 17592186044416) (lo hi : Int) : Ans (fun k => impl_areWithin.f k x lo hi) (allIn x lo hi) := by
  have e := containsI x hx (fun x0_ => impl_areWithin_1.f x0_ lo hi) (fun a => !decide (lo ≤ a ∧ a ≤ hi)) (fun a => by simp only [impl_areWithin_1.f, within, Option.bind_some])
  have := e.bind (h := fun _ t => some (!t)) (Ans.pure _)
  rw [List.not_any_eq_all_not] at this
  simp only [Bool.not_not] at this
  exact this
theorem isSquare (x : List (List Int)) (hx : x.length ≤ 17592186044416) : Ans (fun k => impl_isSquare.f k x) (x.all fun r => decide (r.length = x.length)) := by
  have e := containsL x hx (fun x0_ => impl_isSquare_1.f x0_ x) (fun r => (r.length : Int) != (x.length : Int)) (fun a => rfl)
  have := e.bind (h := fun _ t => some (!t)) (Ans.pure _)
  rw [List.not_any_eq_all_not] at this
  rwa [show (fun r : List Int => !((r.length : Int) != (x.length : Int))) = fun r => decide (r.length = x.length) from funext fun r => by by_cases h : r.length = x.length <;> simp [bne, h]; omega] at this
/-- The sum of the products, added up as the program adds. -/
def dotW : Int → List Int → List Int → Int
  | s, a :: x, b :: y => dotW (wrap64 (s + wrap64 (a * b))) x y
  | s, _, _ => s
theorem dot_step (s : Int) (row v : List Int) (i : Int) (h0 : 0 ≤ i) (h1 : i < row.length) (h2 : i < v.length) : dotW s (row.drop i.toNat) (v.drop i.toNat) = dotW (wrap64 (s + wrap64 (rd row i * rd v i))) (row.drop (i + 1).toNat) (v.drop (i + 1).toNat) := by
  rw [drop_at row 0 (show i.toNat < row.length by omega), drop_at v 0 (show i.toNat < v.length by omega), show (i + 1).toNat = i.toNat + 1 by omega]; rfl
theorem dot_end (s : Int) (row v : List Int) (i : Int) (h1 : i = row.length) : dotW s (row.drop i.toNat) (v.drop i.toNat) = s := by
  rw [List.drop_eq_nil_of_le (by omega)]; rfl
theorem spec_sum {R : List Int} (v acc row : List Int) (rows : List (List Int)) (n m : Int) (hl : row.length = v.length) (hv : v.length ≤ 14) (ha : acc.length < 17592186044416) (hm : 0 ≤ m) (hm' : m ≤ 100) : ∀ (d : Nat) (i s : Int), 0 ≤ i → i + d = row.length →
    Ans (fun k => spec_syApply.l0 k v (acc ++ [dotW s (row.drop i.toNat) (v.drop i.toNat)]) rows n (m + 1)) R → Ans (fun k => spec_syApply.l1 k v acc s rows n m row (row.length : Int) i) R := by
  intro d
  induction d with
  | zero =>
    intro i s h0 h1 h; refine Ans.step ?_
    rw [dot_end s row v i (by omega)] at h
    simp only [spec_syApply.l1, wrap64_up hm (by omega : m ≤ 4611686018427387904)]
    exact Ans.not (by omega) (Ans.yes ha h)
  | succ d ih =>
    intro i s h0 h1 h; refine Ans.step ?_
    rw [dot_step s row v i h0 (by omega) (by omega)] at h
    simp only [spec_syApply.l1, wrap64_up h0 (by omega : i ≤ 4611686018427387904)]
    exact Ans.yes (by omega) (Ans.yes h0 (Ans.yes (by omega) (Ans.yes (by omega) (ih _ _ (by omega) (by omega) h))))
theorem impl_sum {R : List Int × Bool} (v acc row : List Int) (rows : List (List Int)) (n m : Int) (hl : row.length = v.length) (hv : v.length ≤ 14) (ha : acc.length < 17592186044416) (hm : 0 ≤ m) (hm' : m ≤ 100) : ∀ (d : Nat) (i s : Int), 0 ≤ i → i + d = row.length →
    Ans (fun k => impl_ApplyOperator.l0 k v (acc ++ [dotW s (row.drop i.toNat) (v.drop i.toNat)]) rows n (m + 1)) R → Ans (fun k => impl_ApplyOperator.l1 k v acc s rows n m row (row.length : Int) i) R := by
  intro d
  induction d with
  | zero =>
    intro i s h0 h1 h; refine Ans.step ?_
    rw [dot_end s row v i (by omega)] at h
    simp only [impl_ApplyOperator.l1, wrap64_up hm (by omega : m ≤ 4611686018427387904)]
    exact Ans.not (by omega) (Ans.yes ha h)
  | succ d ih =>
    intro i s h0 h1 h; refine Ans.step ?_
    rw [dot_step s row v i h0 (by omega) (by omega)] at h
    simp only [impl_ApplyOperator.l1, wrap64_up h0 (by omega : i ≤ 4611686018427387904)]
    exact Ans.yes (by omega) (Ans.yes h0 (Ans.yes (by omega) (Ans.yes (by omega) (ih _ _ (by omega) (by omega) h))))
theorem syApply (v : List Int) (rows : List (List Int)) (hv : v.length ≤ 14) (hr : ∀ r ∈ rows, r.length = v.length) (hn : rows.length ≤ 14) : ∀ (d : Nat) (i : Int) (acc : List Int), 0 ≤ i → i + d = rows.length → acc.length ≤ 14 - d →
    Ans (fun k => spec_syApply.l0 k v acc rows (rows.length : Int) i) (acc ++ (rows.drop i.toNat).map fun r => dotW 0 r v) := by
  intro d
  induction d with
  | zero =>
    intro i acc h0 h1 h2; refine Ans.step ?_
    rw [List.drop_eq_nil_of_le (by omega), List.map_nil, List.append_nil]
    simp only [spec_syApply.l0]; exact Ans.not (by omega) (Ans.pure _)
  | succ d ih =>
    intro i acc h0 h1 h2; refine Ans.step ?_
    have hd := drop_at rows [] (show i.toNat < rows.length by omega)
    have e := ih (i + 1) (acc ++ [dotW 0 (rd_L1 rows i) v]) (by omega) (by omega) (by simp only [List.length_append, List.length_singleton]; omega)
    rw [hd, List.map_cons, show rows.getD i.toNat [] = rd_L1 rows i from rfl]
    rw [show (i + 1).toNat = i.toNat + 1 by omega, List.append_assoc, List.singleton_append] at e
    simp only [spec_syApply.l0]
    exact Ans.yes (by omega) (Ans.yes h0 (Ans.yes (by omega) (spec_sum v acc _ rows _ i (hr _ (rd_L1_mem h0 (by omega))) hv (by omega) h0 (by omega) _ 0 0 (by omega) (show (0 : Int) + ((rd_L1 rows i).length : Nat) = _ by omega) e)))
theorem implRows (v : List Int) (rows : List (List Int)) (hv : v.length ≤ 14) (hr : ∀ r ∈ rows, r.length = v.length) (hn : rows.length ≤ 14) : ∀ (d : Nat) (i : Int) (acc : List Int), 0 ≤ i → i + d = rows.length → acc.length ≤ 14 - d →
    Ans (fun k => impl_ApplyOperator.l0 k v acc rows (rows.length : Int) i) (if (rows.drop i.toNat).all (fun r => allIn r 0 100) then (acc ++ (rows.drop i.toNat).map fun r => dotW 0 r v, true) else ([], false)) := by
  intro d
  induction d with
  | zero =>
    intro i acc h0 h1 h2; refine Ans.step ?_
    rw [List.drop_eq_nil_of_le (by omega), List.map_nil, List.append_nil]
    simp only [impl_ApplyOperator.l0]; exact Ans.not (by omega) (Ans.pure _)
  | succ d ih =>
    intro i acc h0 h1 h2; refine Ans.step ?_
    have hd := drop_at rows [] (show i.toNat < rows.length by omega)
    have hm := rd_L1_mem h0 (show i < rows.length by omega)
    have e := ih (i + 1) (acc ++ [dotW 0 (rd_L1 rows i) v]) (by omega) (by omega) (by simp only [List.length_append, List.length_singleton]; omega)
    rw [hd, List.map_cons, List.all_cons, show rows.getD i.toNat [] = rd_L1 rows i from rfl]
    rw [show (i + 1).toNat = i.toNat + 1 by omega, List.append_assoc, List.singleton_append] at e
    simp only [impl_ApplyOperator.l0]
    refine Ans.yes (by omega) (Ans.yes h0 (Ans.yes (by omega) ((areWithin _ (by have := hr _ hm; omega) 0 100).bind ?_)))
    by_cases c : allIn (rd_L1 rows i) 0 100 = true
    · rw [c, Bool.true_and]
      exact Ans.yes rfl (impl_sum v acc _ rows _ i (hr _ hm) hv (by omega) h0 (by omega) _ 0 0 (by omega) (show (0 : Int) + ((rd_L1 rows i).length : Nat) = _ by omega) e)
    · rw [Bool.eq_false_iff.mpr c, Bool.false_and]
      exact Ans.not (by simp) (Ans.pure _)
theorem specRows (v : List Int) (rows : List (List Int)) (hv : v.length ≤ 14) (hl : v.length = rows.length) (hn : rows.length ≤ 14) (hx : ∀ r ∈ rows, r.length ≤ 17592186044416) : ∀ (d : Nat) (i : Int), 0 ≤ i → i + d = rows.length → (∀ j : Int, 0 ≤ j → j < i → (rd_L1 rows j).length = rows.length) →
    Ans (fun k => spec_ApplyOperator.l0 k rows v rows (rows.length : Int) i) (if (rows.drop i.toNat).all (fun r => decide (r.length = rows.length) && allIn r 0 100) then (rows.map fun r => dotW 0 r v, true) else ([], false)) := by
  intro d
  induction d with
  | zero =>
    intro i h0 h1 hj; refine Ans.step ?_
    rw [List.drop_eq_nil_of_le (by omega)]
    have hr : ∀ r ∈ rows, r.length = v.length := fun r hr => by
      obtain ⟨n, hn, rfl⟩ := List.getElem_of_mem hr
      have := hj n (by omega) (by omega)
      rw [rd_L1, getD_at _ _ (by omega)] at this
      rw [hl]; exact this
    have e := syApply v rows hv hr hn rows.length 0 [] (by omega) (by omega) (by simp)
    simp only [spec_ApplyOperator.l0]
    refine Ans.not (by omega) (Ans.bind (h := fun _ t => some (t, true)) (g := fun k => spec_syApply.f k rows v) e (Ans.pure _))
  | succ d ih =>
    intro i h0 h1 hj; refine Ans.step ?_
    have hd := drop_at rows [] (show i.toNat < rows.length by omega)
    have hm := rd_L1_mem h0 (show i < rows.length by omega)
    rw [hd, List.all_cons, show rows.getD i.toNat [] = rd_L1 rows i from rfl]
    simp only [spec_ApplyOperator.l0, wrap64_up h0 (by omega : i ≤ 4611686018427387904)]
    refine Ans.yes (by omega) (Ans.yes h0 (Ans.yes (by omega) ?_))
    by_cases q : (rd_L1 rows i).length = rows.length
    · rw [decide_eq_true q, Bool.true_and]
      refine Ans.yes (by omega) ((l1All _ (hx _ hm) 0 100).bind ?_)
      by_cases c : allIn (rd_L1 rows i) 0 100 = true
      · rw [c, Bool.true_and]
        have e := ih (i + 1) (by omega) (by omega) (fun j a b => if h : j = i then h ▸ q else hj j a (by omega))
        rw [show (i + 1).toNat = i.toNat + 1 by omega] at e
        exact Ans.yes rfl e
      · rw [Bool.eq_false_iff.mpr c, Bool.false_and]
        exact Ans.not (by simp) (Ans.pure _)
    · rw [decide_eq_false q, Bool.false_and]
      exact Ans.not (by omega) (Ans.pure _)
theorem apply (rows : List (List Int)) (v : List Int) (hn : rows.length ≤ 1048576) (_hv : v.length ≤ 1048576) (hx : ∀ r ∈ rows, r.length ≤ 1048576) :
    ∃ r : List Int × Bool, r.1.length ≤ 14 ∧ Ans (fun k => spec_ApplyOperator.f k rows v) r ∧ Ans (fun k => impl_ApplyOperator.f k rows v) r := by
  have specNo : Ans (fun k => spec_ApplyOperator.j0 k rows v true) ([], false) := by
    refine Ans.step ?_; simp only [spec_ApplyOperator.j0]; exact Ans.yes (by simp) (Ans.pure _)
  have implNo : Ans (fun k => impl_ApplyOperator.j0 k rows v true) ([], false) := by
    refine Ans.step ?_; simp only [impl_ApplyOperator.j0]; exact Ans.yes (by simp) (Ans.pure _)
  simp only [spec_ApplyOperator.f, impl_ApplyOperator.f, l1In, within, Option.bind_some]
  by_cases c1 : decide ((1 : Int) ≤ (rows.length : Int) ∧ (rows.length : Int) ≤ 14) = true
  case neg => exact ⟨([], false), by simp, Ans.not c1 specNo, Ans.not c1 implNo⟩
  have b := of_decide_eq_true c1
  have sq := isSquare rows (by omega)
  by_cases c2 : (v.length : Int) = (rows.length : Int)
  case neg =>
    refine ⟨([], false), by simp, Ans.yes c1 (Ans.not c2 specNo), Ans.yes c1 (sq.bind ?_)⟩
    by_cases s : (rows.all fun r => decide (r.length = rows.length)) = true
    · exact Ans.yes s (Ans.not c2 implNo)
    · exact Ans.not s implNo
  by_cases c3 : allIn v 0 1000000 = true
  case neg =>
    have c3' := Bool.eq_false_iff.mpr c3
    refine ⟨([], false), by simp, Ans.yes c1 (Ans.yes c2 ((l1All v (by omega) 0 1000000).bind (by rw [c3']; exact specNo))), Ans.yes c1 (sq.bind ?_)⟩
    by_cases s : (rows.all fun r => decide (r.length = rows.length)) = true
    · exact Ans.yes s (Ans.yes c2 ((areWithin v (by omega) 0 1000000).bind (by rw [c3']; exact implNo)))
    · exact Ans.not s implNo
  have eS := specRows v rows (by omega) (by omega) (by omega) (fun r hr => by have := hx r hr; omega) rows.length 0 (by omega) (by omega) (fun j a b => by omega)
  rw [show (0 : Int).toNat = 0 from rfl, List.drop_zero] at eS
  have eS' : Ans (fun k => spec_ApplyOperator.j0 k rows v (!true)) _ := Ans.step (by simp only [spec_ApplyOperator.j0]; exact Ans.not (by simp) eS)
  have fin : ∀ r, Ans (fun k => spec_ApplyOperator.j0 k rows v (!true)) r → Ans (fun k => if decide ((1 : Int) ≤ (rows.length : Int) ∧ (rows.length : Int) ≤ 14) = true then (if (v.length : Int) = (rows.length : Int) then ((spec_l1All.f k v 0 1000000).bind fun t102 => (spec_ApplyOperator.j0 k rows v (!t102))) else (spec_ApplyOperator.j0 k rows v true)) else (spec_ApplyOperator.j0 k rows v true)) r :=
    fun r h => Ans.yes c1 (Ans.yes c2 ((l1All v (by omega) 0 1000000).bind (by rw [c3]; exact h)))
  by_cases s : (rows.all fun r => decide (r.length = rows.length)) = true
  · have hr : ∀ r ∈ rows, r.length = v.length := fun r h => by have := of_decide_eq_true (List.all_eq_true.mp s r h); omega
    have eI := implRows v rows (by omega) hr (by omega) rows.length 0 [] (by omega) (by omega) (by simp)
    rw [show (0 : Int).toNat = 0 from rfl, List.drop_zero, List.nil_append] at eI
    have same : (rows.all fun r => decide (r.length = rows.length) && allIn r 0 100) = rows.all fun r => allIn r 0 100 := by
      rw [Bool.eq_iff_iff, List.all_eq_true, List.all_eq_true]
      refine ⟨fun h r hr => ?_, fun h r hr => ?_⟩
      · have := h r hr; rw [Bool.and_eq_true] at this; exact this.2
      · rw [Bool.and_eq_true]; exact ⟨List.all_eq_true.mp s r hr, h r hr⟩
    rw [same] at eS'
    refine ⟨_, ?_, fin _ eS', Ans.yes c1 (sq.bind (Ans.yes s (Ans.yes c2 ((areWithin v (by omega) 0 1000000).bind ?_))))⟩
    · split
      · simp only [List.length_map]; omega
      · simp
    · rw [c3]; exact Ans.step (by simp only [impl_ApplyOperator.j0]; exact Ans.not (by simp) eI)
  · have no : (rows.all fun r => decide (r.length = rows.length) && allIn r 0 100) = false := by
      rw [Bool.eq_false_iff]; intro h; refine s (List.all_eq_true.mpr fun r hr => ?_)
      have := List.all_eq_true.mp h r hr; rw [Bool.and_eq_true] at this; exact this.1
    rw [no] at eS'
    exact ⟨([], false), by simp, fin _ eS', Ans.yes c1 (sq.bind (Ans.not s implNo))⟩
theorem FnExactApplyOperator : laws_FnExactApplyOperator.Pure := by
  intro x v m0 w0 m1 _ _hv
  unfold maxLen at m0 m1 w0
  obtain ⟨s, es, hs⟩ := szIntSS x 1048576 (by omega) (by omega) (by omega) (fun r hr => (w0 r hr).1)
  obtain ⟨k2, e2⟩ := es.at
  refine ⟨k2, s, e2, fun h0 => ?_⟩
  have ht := hs h0
  have hx : x.length ≤ 1048576 := by omega
  have hr : ∀ r ∈ x, r.length ≤ 1048576 := fun r h => by have := len_total h; omega
  obtain ⟨⟨z, b⟩, hz, e1, e3⟩ := apply x v hx (by omega) hr
  have hz : z.length ≤ 14 := hz
  have F := (Evn.of (toIntSS x (by omega) (fun r h => by have := hr r h; omega))).and ((Evn.of (toIntS v (by omega))).and ((Evn.of e1).and ((Evn.of e3).and ((Evn.of (eqIntS z (by omega))).and ((Evn.of (eqIntSS x (by omega) (fun r h => by have := hr r h; omega))).and ((Evn.of (eqIntS v (by omega))).and ((Evn.of (markIntSS x 1 (by omega) (by omega) (by omega))).and ((Evn.of (markIntS v (1 + total x) (by omega) (by omega))).and ((Evn.of (markIntS z 1 (by omega) (by omega))).and (Evn.of (heldIntS z.length 1 (by omega) (by omega))))))))))))
  obtain ⟨k, f0, f1, f2, f3, f4, f5, f6, f7, f8, f9, f10⟩ := F.at
  exact ⟨k, z, b, _, _, _, _, _, _, f0, f1, f2, f3, f4, f5, f6, f7, by omega, f8, by omega, f9, by omega, f10⟩

end Go.Proofs.Ytobkldkekopgoaa.Pure
