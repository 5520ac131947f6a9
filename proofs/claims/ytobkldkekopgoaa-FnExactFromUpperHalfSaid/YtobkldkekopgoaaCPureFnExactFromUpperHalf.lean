/- For all rows the program's FromUpperHalf returns what the reference's returns, with its memory its own: no condition. -/
import Derived.Test.YtobkldkekopgoaaCFnExactFromUpperHalfx2
import Derived.Test.YtobkldkekopgoaaQTwo
namespace Go.Proofs.Ytobkldkekopgoaa.Pure
open Go.RowKit Go.Proofs.Ytobkldkekopgoaa.X Go.Proofs.YtobkldkekopgoaaW.PrintWords Go.Proofs.YtobkldkekopgoaaW.PrintLast Go.Proofs.Ytobkldkekopgoaa.Q
theorem len_le {x : List Int} (h : x.length ≤ 17592186044416) : (x.length : Int) ≤ 17592186044416 := by omega
theorem eqIntS_l0 (x : List Int) (hx : x.length ≤ 17592186044416) : ∀ (d : Nat) (i : Int), 0 ≤ i → i + d = x.length → ∀ k, d < k → laws_eqIntS.l0 k x x i = some true := by
  intro d
  induction d with
  | zero => intro i h0 h1 k hk; obtain ⟨j, rfl⟩ : ∃ j, k = j + 1 := ⟨k - 1, by omega⟩; unfold laws_eqIntS.l0; rw [if_neg (by omega)]
  | succ d ih =>
    intro i h0 h1 k hk; obtain ⟨j, rfl⟩ : ∃ j, k = j + 1 := ⟨k - 1, by omega⟩; unfold laws_eqIntS.l0
    rw [if_pos (by omega), if_pos h0, if_pos (by omega), if_pos rfl, wrap64_up h0 (by omega)]
    exact ih _ (by omega) (by omega) _ (by omega)
theorem eqIntS (x : List Int) (hx : x.length ≤ 17592186044416) : Ans (fun k => laws_eqIntS.f k x x) true :=
  Ans.from (x.length + 1) fun k hk => by unfold laws_eqIntS.f; rw [if_pos rfl]; exact eqIntS_l0 x hx x.length 0 (by omega) (by omega) _ (by omega)
/-- The row after marking from `n`: `n, n+1, ..`. -/
def upFrom (n : Int) (m : Nat) : List Int := (List.range m).map fun (i : Nat) => n + (i : Int)
theorem markIntS_l0 (x : List Int) (n : Int) (hn : 0 ≤ n) (hx : n + x.length ≤ 17592186044416) : ∀ (d : Nat) (y : List Int) (i : Int), y.length = x.length → (∀ j : Nat, j < i → y.getD j 0 = n + j) → 0 ≤ i → i + d = x.length → ∀ k, d < k →
    laws_markIntS.l0 k y (n + i) i = some (n + x.length, upFrom n x.length) := by
  intro d
  induction d with
  | zero =>
    intro y i hl hy h0 h1 k hk; obtain ⟨j, rfl⟩ : ∃ j, k = j + 1 := ⟨k - 1, by omega⟩; unfold laws_markIntS.l0; rw [if_neg (by omega)]
    have : y = upFrom n x.length := by
      refine List.ext_getElem (by simp [upFrom, hl]) fun m h2 h3 => ?_
      have := hy m (by omega)
      rw [getD_at _ _ h2] at this
      rw [this]; simp [upFrom]
    rw [this, show n + i = n + x.length by omega]
  | succ d ih =>
    intro y i hl hy h0 h1 k hk; obtain ⟨j, rfl⟩ : ∃ j, k = j + 1 := ⟨k - 1, by omega⟩; unfold laws_markIntS.l0
    rw [if_pos (by omega), if_pos h0, wrap64_up h0 (by omega), wrap64_up (by omega) (by omega), show n + i + 1 = n + (i + 1) by omega]
    refine ih _ _ (by simp [hl]) ?_ (by omega) (by omega) _ (by omega)
    intro m hm
    obtain ⟨a, rfl⟩ : ∃ a : Nat, i = a := ⟨i.toNat, by omega⟩
    by_cases e : m = a
    · subst e
      have h2 : m < (y.set ((m : Int)).toNat (n + (m : Int))).length := by simp only [List.length_set]; omega
      rw [getD_at _ _ h2]
      simp
    · have h2 : m < y.length := by omega
      have h3 : m < (y.set ((a : Int)).toNat (n + (a : Int))).length := by simp only [List.length_set]; omega
      rw [← hy m (by omega), getD_at _ _ h3, getD_at _ _ h2, List.getElem_set_ne (by omega)]
theorem markIntS (x : List Int) (n : Int) (hn : 0 ≤ n) (hx : n + x.length ≤ 17592186044416) : Ans (fun k => laws_markIntS.f k x n) (n + x.length, upFrom n x.length) :=
  Ans.from (x.length + 1) fun k hk => by
    unfold laws_markIntS.f
    have := markIntS_l0 x n hn hx x.length x 0 rfl (by intro j hj; omega) (by omega) (by omega) k (by omega)
    rwa [show n + 0 = n by omega] at this
theorem heldIntS_l0 (m : Nat) (n : Int) (hn : 0 ≤ n) (hx : n + m ≤ 17592186044416) : ∀ (d : Nat) (i : Int), 0 ≤ i → i + d = m → ∀ k, d < k →
    laws_heldIntS.l0 k (upFrom n m) (n + i) i = some (n + m) := by
  intro d
  have hl : (upFrom n m).length = m := by simp [upFrom]
  induction d with
  | zero =>
    intro i h0 h1 k hk; obtain ⟨j, rfl⟩ : ∃ j, k = j + 1 := ⟨k - 1, by omega⟩; unfold laws_heldIntS.l0; rw [if_neg (by omega), show n + i = n + m by omega]
  | succ d ih =>
    intro i h0 h1 k hk; obtain ⟨j, rfl⟩ : ∃ j, k = j + 1 := ⟨k - 1, by omega⟩; unfold laws_heldIntS.l0
    have : rd (upFrom n m) i = n + i := by
      unfold rd; rw [getD_at _ _ (by omega)]; simp only [upFrom, List.getElem_map, List.getElem_range]; omega
    rw [if_pos (by omega), if_pos h0, if_pos this, wrap64_up h0 (by omega), wrap64_up (by omega) (by omega), show n + i + 1 = n + (i + 1) by omega]
    exact ih _ (by omega) (by omega) _ (by omega)
theorem heldIntS (m : Nat) (n : Int) (hn : 0 ≤ n) (hx : n + m ≤ 17592186044416) : Ans (fun k => laws_heldIntS.f k (upFrom n m) n) (n + m) :=
  Ans.from (m + 1) fun k hk => by
    unfold laws_heldIntS.f
    have := heldIntS_l0 m n hn hx m 0 (by omega) (by omega) k (by omega)
    rwa [show n + 0 = n by omega] at this
theorem toIntS_l0 (x : List Int) (hx : x.length ≤ 17592186044416) : ∀ (d : Nat) (y : List Int) (i : Int), y.length = x.length → (∀ j : Nat, j < i → y.getD j 0 = x.getD j 0) → 0 ≤ i → i + d = x.length → ∀ k, d < k → laws_toIntS.l0 k x y i = some x := by
  intro d
  induction d with
  | zero =>
    intro y i hl hy h0 h1 k hk; obtain ⟨j, rfl⟩ : ∃ j, k = j + 1 := ⟨k - 1, by omega⟩; unfold laws_toIntS.l0; rw [if_neg (by omega)]
    refine congrArg some (List.ext_getElem hl fun n h2 h3 => ?_)
    have := hy n (by omega)
    rw [getD_at _ _ h2, getD_at _ _ h3] at this
    exact this
  | succ d ih =>
    intro y i hl hy h0 h1 k hk; obtain ⟨j, rfl⟩ : ∃ j, k = j + 1 := ⟨k - 1, by omega⟩; unfold laws_toIntS.l0
    rw [if_pos (by omega), if_pos h0, if_pos (by omega), wrap64_up h0 (by omega)]
    refine ih _ _ (by simp [hl]) ?_ (by omega) (by omega) _ (by omega)
    intro n hn
    obtain ⟨a, rfl⟩ : ∃ a : Nat, i = a := ⟨i.toNat, by omega⟩
    by_cases e : n = a
    · subst e
      have h2 : n < (y.set ((n : Int)).toNat (rd x n)).length := by simp only [List.length_set]; omega
      rw [getD_at _ _ h2]
      simp [rd]
    · have h2 : n < y.length := by omega
      have h3 : n < (y.set ((a : Int)).toNat (rd x a)).length := by simp only [List.length_set]; omega
      rw [← hy n (by omega), getD_at _ _ h3, getD_at _ _ h2, List.getElem_set_ne (by omega)]
theorem toIntS (x : List Int) (hx : x.length ≤ 17592186044416) : Ans (fun k => laws_toIntS.f k x) x :=
  Ans.from (x.length + 1) fun k hk => by
    unfold laws_toIntS.f; rw [if_pos (by omega), if_pos (by omega)]
    exact toIntS_l0 x hx x.length _ 0 (by simp) (by intro j hj; omega) (by omega) (by omega) _ (by omega)
theorem rd_L1_mem {x : List (List Int)} {i : Int} (h0 : 0 ≤ i) (h1 : i < x.length) : rd_L1 x i ∈ x := by unfold rd_L1; exact getD_mem _ (by omega)
theorem eqIntSS_l0 (x : List (List Int)) (hx : x.length ≤ 17592186044416) (hr : ∀ r ∈ x, r.length ≤ 17592186044416) : ∀ (d : Nat) (i : Int), 0 ≤ i → i + d = x.length → Ans (fun k => laws_eqIntSS.l0 k x x i) true := by
  intro d
  induction d with
  | zero => intro i h0 h1; refine Ans.step ?_; simp only [laws_eqIntSS.l0]; exact Ans.not (by omega) (Ans.pure _)
  | succ d ih =>
    intro i h0 h1; refine Ans.step ?_; simp only [laws_eqIntSS.l0, wrap64_up h0 (by omega : i ≤ 4611686018427387904)]
    exact Ans.yes (by omega) (Ans.yes h0 (Ans.yes (by omega) ((eqIntS _ (hr _ (rd_L1_mem h0 (by omega)))).bind (Ans.yes rfl (ih _ (by omega) (by omega))))))
theorem eqIntSS (x : List (List Int)) (hx : x.length ≤ 17592186044416) (hr : ∀ r ∈ x, r.length ≤ 17592186044416) : Ans (fun k => laws_eqIntSS.f k x x) true := by
  simp only [laws_eqIntSS.f]
  exact Ans.yes (by simp) (eqIntSS_l0 x hx hr x.length 0 (by omega) (by omega))
/-- The rows after marking from `n`. -/
def upRows : Int → List (List Int) → List (List Int)
  | _, [] => []
  | n, a :: x => upFrom n a.length :: upRows (n + a.length) x
theorem upRows_len : ∀ (x : List (List Int)) (n : Int), (upRows n x).length = x.length
  | [], _ => rfl
  | _ :: x, _ => by simp [upRows, upRows_len x]
theorem take_set_drop {α : Type} (y : List α) (n : Nat) (v : α) (h : n < y.length) : (y.set n v).take (n + 1) = y.take n ++ [v] ∧ (y.set n v).drop (n + 1) = y.drop (n + 1) := by
  refine ⟨?_, ?_⟩
  · refine List.ext_getElem (by simp; omega) fun m h1 h2 => ?_
    simp only [List.length_take, List.length_set] at h1
    rw [List.getElem_take, List.getElem_append]
    by_cases e : m = n
    · subst e; rw [List.getElem_set_self, dif_neg (by simp only [List.length_take]; omega)]; simp
    · rw [List.getElem_set_ne (by omega), dif_pos (by simp; omega), List.getElem_take]
  · refine List.ext_getElem (by simp) fun m h1 h2 => ?_
    rw [List.getElem_drop, List.getElem_drop, List.getElem_set_ne (by omega)]
theorem markIntSS_l0 : ∀ (x : List (List Int)) (y : List (List Int)) (n i : Int), 0 ≤ n → n + total x ≤ 17592186044416 → 0 ≤ i → y.length ≤ 17592186044416 → i + x.length = y.length → y.drop i.toNat = x →
    Ans (fun k => laws_markIntSS.l0 k y n i) (n + total x, y.take i.toNat ++ upRows n x) := by
  intro x
  induction x with
  | nil =>
    intro y n i h0 h1 h2 h3 h4 h5; refine Ans.step ?_; simp only [laws_markIntSS.l0]
    simp only [List.length_nil] at h4
    refine Ans.not (by omega) ?_
    rw [total_nil, upRows, List.append_nil, List.take_of_length_le (by omega), show n + ((0 : Nat) : Int) = n by omega]; exact Ans.pure _
  | cons a x ih =>
    intro y n i h0 h1 h2 h3 h4 h5; refine Ans.step ?_; simp only [laws_markIntSS.l0, wrap64_up h2 (by omega : i ≤ 4611686018427387904)]
    rw [total_cons] at h1
    simp only [List.length_cons] at h4
    have hlt : i.toNat < y.length := by omega
    have hd := drop_at y [] hlt
    rw [h5] at hd
    obtain ⟨ha, hx⟩ := List.cons.inj hd
    rw [← ha]
    refine Ans.yes (by omega) (Ans.yes h2 ((markIntS a n h0 (by omega)).bind ?_))
    obtain ⟨e1, e2⟩ := take_set_drop y i.toNat (upFrom n a.length) hlt
    have := ih (y.set i.toNat (upFrom n a.length)) (n + a.length) (i + 1) (by omega) (by omega) (by omega) (by simp; omega) (by simp only [List.length_set]; omega) (by rw [show (i + 1).toNat = i.toNat + 1 by omega, e2, ← hx])
    rw [show (i + 1).toNat = i.toNat + 1 by omega, e1, show n + (a.length : Int) + (total x : Int) = n + (total (a :: x) : Int) by rw [total_cons]; omega] at this
    rw [upRows]
    simpa using this
theorem markIntSS (x : List (List Int)) (n : Int) (hn : 0 ≤ n) (hx : n + total x ≤ 17592186044416) (hl : x.length ≤ 17592186044416) : Ans (fun k => laws_markIntSS.f k x n) (n + total x, upRows n x) := by
  have := markIntSS_l0 x x n 0 hn hx (by omega) hl (by omega) rfl
  simpa [laws_markIntSS.f] using this
theorem toIntSS_l0 (x : List (List Int)) (hx : x.length ≤ 11728124029610) (hr : ∀ r ∈ x, r.length ≤ 17592186044416) : ∀ (d : Nat) (y : List (List Int)) (i : Int), y.length = x.length → (∀ j : Nat, j < i → y.getD j [] = x.getD j []) → 0 ≤ i → i + d = x.length → Ans (fun k => laws_toIntSS.l0 k x y i) x := by
  intro d
  induction d with
  | zero =>
    intro y i hl hy h0 h1; refine Ans.step ?_; simp only [laws_toIntSS.l0]
    refine Ans.not (by omega) ?_
    have : y = x := List.ext_getElem hl fun n h2 h3 => by
      have := hy n (by omega)
      rwa [getD_at _ _ h2, getD_at _ _ h3] at this
    rw [this]; exact Ans.pure _
  | succ d ih =>
    intro y i hl hy h0 h1; refine Ans.step ?_; simp only [laws_toIntSS.l0, wrap64_up h0 (by omega : i ≤ 4611686018427387904)]
    refine Ans.yes (by omega) (Ans.yes h0 ((toIntS _ (hr _ (rd_L1_mem h0 (by omega)))).bind (Ans.yes (by omega) (ih _ _ (by simp [hl]) ?_ (by omega) (by omega)))))
    intro n hn
    obtain ⟨a, rfl⟩ : ∃ a : Nat, i = a := ⟨i.toNat, by omega⟩
    by_cases e : n = a
    · subst e
      have h2 : n < (y.set ((n : Int)).toNat (rd_L1 x n)).length := by simp only [List.length_set]; omega
      rw [getD_at _ _ h2]
      simp [rd_L1]
    · have h2 : n < y.length := by omega
      have h3 : n < (y.set ((a : Int)).toNat (rd_L1 x a)).length := by simp only [List.length_set]; omega
      rw [← hy n (by omega), getD_at _ _ h3, getD_at _ _ h2, List.getElem_set_ne (by omega)]
theorem toIntSS (x : List (List Int)) (hx : x.length ≤ 11728124029610) (hr : ∀ r ∈ x, r.length ≤ 17592186044416) : Ans (fun k => laws_toIntSS.f k x) x := by
  simp only [laws_toIntSS.f]
  exact Ans.yes (by omega) (Ans.yes (by omega) (toIntSS_l0 x hx hr x.length _ 0 (by simp) (by intro j hj; omega) (by omega) (by omega)))
theorem heldIntSS_l0 : ∀ (x : List (List Int)) (y : List (List Int)) (n i : Int), 0 ≤ n → n + total x ≤ 17592186044416 → 0 ≤ i → y.length ≤ 17592186044416 → i + x.length = y.length → y.drop i.toNat = upRows n x →
    Ans (fun k => laws_heldIntSS.l0 k y n i) (n + total x) := by
  intro x
  induction x with
  | nil =>
    intro y n i h0 h1 h2 h3 h4 h5; refine Ans.step ?_; simp only [laws_heldIntSS.l0]
    simp only [List.length_nil] at h4
    refine Ans.not (by omega) ?_
    rw [total_nil, show n + ((0 : Nat) : Int) = n by omega]; exact Ans.pure _
  | cons a x ih =>
    intro y n i h0 h1 h2 h3 h4 h5; refine Ans.step ?_; simp only [laws_heldIntSS.l0, wrap64_up h2 (by omega : i ≤ 4611686018427387904)]
    rw [total_cons] at h1
    simp only [List.length_cons] at h4
    have hlt : i.toNat < y.length := by omega
    have hd := drop_at y [] hlt
    rw [h5, upRows] at hd
    obtain ⟨ha, hx⟩ := List.cons.inj hd
    have hrd : rd_L1 y i = upFrom n a.length := by rw [rd_L1, ← ha]
    rw [hrd]
    refine Ans.yes (by omega) (Ans.yes h2 ((heldIntS a.length n h0 (by omega)).bind (Ans.not (by omega) ?_)))
    have := ih y (n + a.length) (i + 1) (by omega) (by omega) (by omega) h3 (by omega) (by rw [show (i + 1).toNat = i.toNat + 1 by omega, ← hx])
    rwa [show n + (a.length : Int) + (total x : Int) = n + (total (a :: x) : Int) by rw [total_cons]; omega] at this
theorem heldIntSS (x : List (List Int)) (n : Int) (hn : 0 ≤ n) (hx : n + total x ≤ 17592186044416) (hl : x.length ≤ 17592186044416) : Ans (fun k => laws_heldIntSS.f k (upRows n x) n) (n + total x) :=
  heldIntSS_l0 x (upRows n x) n 0 hn hx (by omega) (by rw [upRows_len]; exact hl) (by rw [upRows_len]; omega) rfl
theorem szIntS (x : List Int) (l : Int) (hx : x.length ≤ 9223372036854775807) (h0 : 0 ≤ l) (h1 : l ≤ 1048576) : laws_szIntS.f x l = some (if l - x.length < 0 then -1 else l - x.length) := by
  simp only [laws_szIntS.f, wrap64_in (l - (x.length : Int)) ⟨by omega, by omega⟩]
  by_cases h : l - (x.length : Int) < 0
  · rw [if_pos h, if_pos h]
  · rw [if_neg h, if_neg h]
theorem szIntSS_l0 : ∀ (x y : List (List Int)) (l i : Int), (∀ r ∈ y, r.length ≤ 9223372036854775807) → 0 ≤ l → l ≤ 1048576 → 0 ≤ i → i + x.length = y.length → y.length ≤ 1048576 → y.drop i.toNat = x →
    ∃ s, Ans (fun k => laws_szIntSS.l0 k y l i) s ∧ (0 ≤ s → s + total x = l) := by
  intro x
  induction x with
  | nil =>
    intro y l i hr h0 h1 h2 h4 h3 h5
    refine ⟨l, Ans.step ?_, fun _ => by rw [total_nil]; omega⟩
    simp only [laws_szIntSS.l0]; simp only [List.length_nil] at h4
    exact Ans.not (by omega) (Ans.pure _)
  | cons a x ih =>
    intro y l i hr h0 h1 h2 h4 h3 h5
    simp only [List.length_cons] at h4
    have hlt : i.toNat < y.length := by omega
    have hd := drop_at y [] hlt
    rw [h5] at hd
    obtain ⟨ha, hx⟩ := List.cons.inj hd
    have hrd : rd_L1 y i = a := by rw [rd_L1, ← ha]
    have har : a.length ≤ 9223372036854775807 := hr a (hrd ▸ rd_L1_mem h2 (by omega))
    by_cases hl : l - (a.length : Int) < 0
    · refine ⟨-1, Ans.step ?_, fun h => absurd h (by omega)⟩
      simp only [laws_szIntSS.l0, hrd, szIntS a l har h0 h1, if_pos hl, Option.bind_some]
      exact Ans.yes (by omega) (Ans.yes h2 (Ans.yes (by omega) (Ans.pure _)))
    · obtain ⟨s, e, hs⟩ := ih y (l - a.length) (i + 1) hr (by omega) (by omega) (by omega) (by omega) h3 (by rw [show (i + 1).toNat = i.toNat + 1 by omega, ← hx])
      refine ⟨s, Ans.step ?_, fun h => by have := hs h; rw [total_cons]; omega⟩
      simp only [laws_szIntSS.l0, hrd, szIntS a l har h0 h1, if_neg hl, Option.bind_some, wrap64_up h2 (by omega : i ≤ 4611686018427387904)]
      exact Ans.yes (by omega) (Ans.yes h2 e)
theorem szIntSS (x : List (List Int)) (l : Int) (h0 : 0 ≤ l) (h1 : l ≤ 1048576) (hx : x.length ≤ 9223372036854775807) (hr : ∀ r ∈ x, r.length ≤ 9223372036854775807) :
    ∃ s, Ans (fun k => laws_szIntSS.f k x l) s ∧ (0 ≤ s → s + total x + x.length = l) := by
  simp only [laws_szIntSS.f, wrap64_in (l - (x.length : Int)) ⟨by omega, by omega⟩]
  by_cases h : l - (x.length : Int) < 0
  · exact ⟨-1, Ans.yes h (Ans.pure _), fun q => absurd q (by omega)⟩
  · obtain ⟨s, e, hs⟩ := szIntSS_l0 x x (l - x.length) 0 hr (by omega) (by omega) (by omega) (by omega) (by omega) rfl
    exact ⟨s, Ans.not h e, fun q => by have := hs q; omega⟩
theorem containsL (x : List (List Int)) (hx : x.length ≤ 17592186044416) (g : List Int → Option Bool) (p : List Int → Bool) (hg : ∀ a, g a = some (p a)) : Ans (fun k => slices_ContainsFunc_int_int.f k x g) (x.any p) := by
  have key : ∀ (d : Nat) (i : Int), 0 ≤ i → i + d = x.length → ∃ z : Int, Ans (fun k => slices_IndexFunc_int_int.l0 k x g (x.length : Int) i) z ∧ decide (z ≥ 0) = (x.drop i.toNat).any p := by
    intro d
    induction d with
    | zero =>
      intro i h0 h1
      refine ⟨-1, Ans.step ?_, by rw [List.drop_eq_nil_of_le (by omega)]; rfl⟩
      simp only [slices_IndexFunc_int_int.l0]; exact Ans.not (by omega) (Ans.pure _)
    | succ d ih =>
      intro i h0 h1
      have hd := drop_at x [] (show i.toNat < x.length by omega)
      by_cases c : p (rd_L1 x i) = true
      · refine ⟨i, Ans.step ?_, by rw [hd, List.any_cons, show p (x.getD i.toNat []) = true from c]; simp [h0]⟩
        simp only [slices_IndexFunc_int_int.l0, hg, Option.bind_some]
        exact Ans.yes (by omega) (Ans.yes h0 (Ans.yes (by omega) (Ans.yes c (Ans.pure _))))
      · obtain ⟨z, e, hz⟩ := ih (i + 1) (by omega) (by omega)
        refine ⟨z, Ans.step ?_, by rw [hz, hd, List.any_cons, show p (x.getD i.toNat []) = false from Bool.eq_false_iff.mpr c, show (i + 1).toNat = i.toNat + 1 by omega]; simp⟩
        simp only [slices_IndexFunc_int_int.l0, hg, Option.bind_some, wrap64_up h0 (by omega : i ≤ 4611686018427387904)]
        exact Ans.yes (by omega) (Ans.yes h0 (Ans.yes (by omega) (Ans.not c e)))
  obtain ⟨z, e, hz⟩ := key x.length 0 (by omega) (by omega)
  simp only [slices_ContainsFunc_int_int.f, slices_IndexFunc_int_int.f]
  have := e.bind (h := fun _ t => some (decide (t ≥ 0))) (Ans.pure (decide (z ≥ 0)))
  rwa [hz] at this
theorem l1In (a b c : Int) : spec_l1In.f a b c = some (decide (b ≤ a ∧ a ≤ c)) := by
  unfold spec_l1In.f
  by_cases h : a ≥ b
  · rw [if_pos h]; refine congrArg some (decide_eq_decide.mpr ⟨fun q => ⟨h, q⟩, fun q => q.2⟩)
  · rw [if_neg h, decide_eq_false (by omega)]
theorem within (a b c : Int) : impl_within.f a b c = some (decide (b ≤ a ∧ a ≤ c)) := by
  unfold impl_within.f
  by_cases h : b ≤ a
  · rw [if_pos h]; refine congrArg some (decide_eq_decide.mpr ⟨fun q => ⟨h, q⟩, fun q => q.2⟩)
  · rw [if_neg h, decide_eq_false (by omega)]
theorem isSquare (x : List (List Int)) (hx : x.length ≤ 17592186044416) : Ans (fun k => impl_isSquare.f k x) (x.all fun r => decide (r.length = x.length)) := by
  have e := containsL x hx (fun x0_ => impl_isSquare_1.f x0_ x) (fun r => (r.length : Int) != (x.length : Int)) (fun a => rfl)
  have := e.bind (h := fun _ t => some (!t)) (Ans.pure _)
  rw [List.not_any_eq_all_not] at this
  rwa [show (fun r : List Int => !((r.length : Int) != (x.length : Int))) = fun r => decide (r.length = x.length) from funext fun r => by by_cases h : r.length = x.length <;> simp [bne, h]; omega] at this
/-- The numbers are -1, 0, 1, and their sums from s on are 0 or 1, the last one 1. -/
def walkOk : Int → List Int → Bool
  | s, [] => s == 1
  | s, a :: x => decide (-1 ≤ a ∧ a ≤ 1) && (decide (0 ≤ s + a ∧ s + a ≤ 1) && walkOk (s + a) x)
theorem alternate (x : List Int) (hx : x.length ≤ 17592186044416) : Ans (fun k => impl_alternate.f k x) (walkOk 0 x) := by
  have key : ∀ (d : Nat) (i s : Int), 0 ≤ i → i + d = x.length → 0 ≤ s → s ≤ 1 → Ans (fun k => impl_alternate.l0 k s x (x.length : Int) i) (walkOk s (x.drop i.toNat)) := by
    intro d
    induction d with
    | zero =>
      intro i s h0 h1 s0 s1
      rw [List.drop_eq_nil_of_le (by omega)]; refine Ans.step ?_
      simp only [impl_alternate.l0]; exact Ans.not (by omega) (Ans.pure _)
    | succ d ih =>
      intro i s h0 h1 s0 s1
      rw [drop_at x 0 (show i.toNat < x.length by omega), show x.getD i.toNat 0 = rd x i from rfl, walkOk]
      refine Ans.step ?_
      simp only [impl_alternate.l0, within, Option.bind_some, wrap64_up h0 (by omega : i ≤ 4611686018427387904)]
      refine Ans.yes (by omega) (Ans.yes h0 (Ans.yes (by omega) ?_))
      by_cases c1 : decide (-1 ≤ rd x i ∧ rd x i ≤ 1) = true
      · have b1 := of_decide_eq_true c1
        have hw : wrap64 (s + rd x i) = s + rd x i := wrap64_in _ ⟨by omega, by omega⟩
        simp only [hw]
        rw [c1, Bool.true_and]
        refine Ans.yes rfl ?_
        by_cases c2 : decide (0 ≤ s + rd x i ∧ s + rd x i ≤ 1) = true
        · have b2 := of_decide_eq_true c2
          have e := ih (i + 1) (s + rd x i) (by omega) (by omega) b2.1 b2.2
          rw [show (i + 1).toNat = i.toNat + 1 by omega] at e
          rw [c2, Bool.true_and]; exact Ans.yes rfl e
        · rw [Bool.eq_false_iff.mpr c2, Bool.false_and]; exact Ans.not (by simp) (Ans.pure _)
      · rw [Bool.eq_false_iff.mpr c1, Bool.false_and]; exact Ans.not (by simp) (Ans.pure _)
  exact key x.length 0 0 (by omega) (by omega) (by omega) (by omega)
theorem sgRows (x : List (List Int)) (hx : x.length ≤ 17592186044416) (hr : ∀ r ∈ x, r.length ≤ 17592186044416) : Ans (fun k => spec_sgRows.f k x) (x.all (walkOk 0)) := by
  have inner : ∀ (row : List Int) (m : Int) (R : Bool), row.length ≤ 17592186044416 → 0 ≤ m → m ≤ 17592186044416 → Ans (fun k => spec_sgRows.l0 k x (x.length : Int) (m + 1)) R →
      ∀ (d : Nat) (i s : Int), 0 ≤ i → i + d = row.length → 0 ≤ s → s ≤ 1 → Ans (fun k => spec_sgRows.l1 k s x (x.length : Int) m row (row.length : Int) i) (walkOk s (row.drop i.toNat) && R) := by
    intro row m R hrow hm hm' e d
    induction d with
    | zero =>
      intro i s h0 h1 s0 s1
      rw [List.drop_eq_nil_of_le (by omega), walkOk]; refine Ans.step ?_
      simp only [spec_sgRows.l1, wrap64_up hm (by omega : m ≤ 4611686018427387904)]
      refine Ans.not (by omega) ?_
      by_cases c : s = 1
      · rw [show (s == 1) = true by simp [c], Bool.true_and]; exact Ans.yes c e
      · rw [show (s == 1) = false by simp [c], Bool.false_and]; exact Ans.not c (Ans.pure _)
    | succ d ih =>
      intro i s h0 h1 s0 s1
      rw [drop_at row 0 (show i.toNat < row.length by omega), show row.getD i.toNat 0 = rd row i from rfl, walkOk]
      refine Ans.step ?_
      simp only [spec_sgRows.l1, l1In, Option.bind_some, wrap64_up h0 (by omega : i ≤ 4611686018427387904)]
      refine Ans.yes (by omega) (Ans.yes h0 (Ans.yes (by omega) ?_))
      by_cases c1 : decide (-1 ≤ rd row i ∧ rd row i ≤ 1) = true
      · have b1 := of_decide_eq_true c1
        have hw : wrap64 (s + rd row i) = s + rd row i := wrap64_in _ ⟨by omega, by omega⟩
        simp only [hw]
        rw [c1, Bool.true_and]
        refine Ans.yes rfl ?_
        by_cases c2 : decide (0 ≤ s + rd row i ∧ s + rd row i ≤ 1) = true
        · have b2 := of_decide_eq_true c2
          have e := ih (i + 1) (s + rd row i) (by omega) (by omega) b2.1 b2.2
          rw [show (i + 1).toNat = i.toNat + 1 by omega] at e
          rw [c2, Bool.true_and]; exact Ans.yes rfl e
        · rw [Bool.eq_false_iff.mpr c2, Bool.false_and, Bool.false_and]; exact Ans.not (by simp) (Ans.pure _)
      · rw [Bool.eq_false_iff.mpr c1, Bool.false_and, Bool.false_and]; exact Ans.not (by simp) (Ans.pure _)
  have key : ∀ (d : Nat) (i : Int), 0 ≤ i → i + d = x.length → Ans (fun k => spec_sgRows.l0 k x (x.length : Int) i) ((x.drop i.toNat).all (walkOk 0)) := by
    intro d
    induction d with
    | zero =>
      intro i h0 h1
      rw [List.drop_eq_nil_of_le (by omega)]; refine Ans.step ?_
      simp only [spec_sgRows.l0]; exact Ans.not (by omega) (Ans.pure _)
    | succ d ih =>
      intro i h0 h1
      have hm := rd_L1_mem h0 (show i < x.length by omega)
      rw [drop_at x [] (show i.toNat < x.length by omega), show x.getD i.toNat [] = rd_L1 x i from rfl, List.all_cons]
      have e := ih (i + 1) (by omega) (by omega)
      rw [show (i + 1).toNat = i.toNat + 1 by omega] at e
      refine Ans.step ?_
      simp only [spec_sgRows.l0]
      exact Ans.yes (by omega) (Ans.yes h0 (Ans.yes (by omega) (inner _ i _ (hr _ hm) h0 (by omega) e _ 0 0 (by omega) (show (0 : Int) + ((rd_L1 x i).length : Nat) = _ by omega) (by omega) (by omega))))
  exact key x.length 0 (by omega) (by omega)
def colOf (x : List (List Int)) (j : Int) : List Int := x.map fun r => rd r j
theorem column (x : List (List Int)) (j : Int) (h : x.length ≤ 1048576) (hj : 0 ≤ j) (hr : ∀ r ∈ x, j < r.length) : Ans (fun k => impl_column.f k x j) (colOf x j) := by
  have key : ∀ (d : Nat) (i : Int) (acc : List Int), 0 ≤ i → i + d = x.length → acc.length + d ≤ 1048576 → Ans (fun k => impl_column.l0 k j acc x (x.length : Int) i) (acc ++ colOf (x.drop i.toNat) j) := by
    intro d
    induction d with
    | zero =>
      intro i acc h0 h1 h2
      rw [List.drop_eq_nil_of_le (by omega), colOf, List.map_nil, List.append_nil]; refine Ans.step ?_
      simp only [impl_column.l0]; exact Ans.not (by omega) (Ans.pure _)
    | succ d ih =>
      intro i acc h0 h1 h2
      have hm := rd_L1_mem h0 (show i < x.length by omega)
      have e := ih (i + 1) (acc ++ [rd (rd_L1 x i) j]) (by omega) (by omega) (by simp only [List.length_append, List.length_singleton]; omega)
      rw [show (i + 1).toNat = i.toNat + 1 by omega, List.append_assoc, List.singleton_append] at e
      rw [drop_at x [] (show i.toNat < x.length by omega), show x.getD i.toNat [] = rd_L1 x i from rfl]
      refine Ans.step ?_
      simp only [impl_column.l0, wrap64_up h0 (by omega : i ≤ 4611686018427387904)]
      exact Ans.yes (by omega) (Ans.yes h0 (Ans.yes (by omega) (Ans.yes hj (Ans.yes (hr _ hm) (Ans.yes (by omega) e)))))
  exact key x.length 0 [] (by omega) (by omega) (by simp only [List.length_nil]; omega)
theorem range_drop {n i : Nat} (h : i < n) : (List.range n).drop i = i :: (List.range n).drop (i + 1) := by
  rw [drop_at (List.range n) 0 (by simpa using h), getD_at _ _ (by simpa using h), List.getElem_range]
theorem sgTurn (x : List (List Int)) (h : x.length ≤ 1048576) (hr : ∀ r ∈ x, r.length = x.length) : Ans (fun k => spec_sgTurn.f k x) ((List.range x.length).map fun (j : Nat) => colOf x j) := by
  have inner : ∀ (out : List (List Int)) (j : Int) (R : List (List Int)), 0 ≤ j → j < x.length → out.length ≤ 1048576 → ∀ (d : Nat) (i : Int) (acc : List Int), 0 ≤ i → i + d = x.length → acc.length + d ≤ 1048576 →
      Ans (fun k => spec_sgTurn.l0 k x (out ++ [acc ++ colOf (x.drop i.toNat) j]) (x.length : Int) (j + 1)) R → Ans (fun k => spec_sgTurn.l1 k x out j acc (x.length : Int) j x (x.length : Int) i) R := by
    intro out j R hj hj' ho d
    induction d with
    | zero =>
      intro i acc h0 h1 h2 e
      rw [List.drop_eq_nil_of_le (by omega), colOf, List.map_nil, List.append_nil] at e; refine Ans.step ?_
      simp only [spec_sgTurn.l1, wrap64_up hj (by omega : j ≤ 4611686018427387904)]; exact Ans.not (by omega) (Ans.yes (by omega) e)
    | succ d ih =>
      intro i acc h0 h1 h2 e
      have hm := rd_L1_mem h0 (show i < x.length by omega)
      rw [drop_at x [] (show i.toNat < x.length by omega), show x.getD i.toNat [] = rd_L1 x i from rfl] at e
      refine Ans.step ?_
      simp only [spec_sgTurn.l1, wrap64_up h0 (by omega : i ≤ 4611686018427387904)]
      refine Ans.yes (by omega) (Ans.yes h0 (Ans.yes (by omega) (Ans.yes hj (Ans.yes (by have := hr _ hm; omega) (Ans.yes (by omega) (ih (i + 1) _ (by omega) (by omega) (by simp only [List.length_append, List.length_singleton]; omega) ?_))))))
      rw [show (i + 1).toNat = i.toNat + 1 by omega, List.append_assoc, List.singleton_append]
      exact e
  have key : ∀ (d : Nat) (j : Int) (out : List (List Int)), 0 ≤ j → j + d = x.length → out.length + d ≤ 1048576 → Ans (fun k => spec_sgTurn.l0 k x out (x.length : Int) j) (out ++ ((List.range x.length).drop j.toNat).map fun (j : Nat) => colOf x j) := by
    intro d
    induction d with
    | zero =>
      intro j out h0 h1 h2
      rw [List.drop_eq_nil_of_le (by simp only [List.length_range]; omega), List.map_nil, List.append_nil]; refine Ans.step ?_
      simp only [spec_sgTurn.l0]; exact Ans.not (by omega) (Ans.pure _)
    | succ d ih =>
      intro j out h0 h1 h2
      have e := ih (j + 1) (out ++ [colOf x j]) (by omega) (by omega) (by simp only [List.length_append, List.length_singleton]; omega)
      rw [show (j + 1).toNat = j.toNat + 1 by omega, List.append_assoc, List.singleton_append] at e
      rw [range_drop (show j.toNat < x.length by omega), List.map_cons, show ((j.toNat : Nat) : Int) = j by omega]
      refine Ans.step ?_
      simp only [spec_sgTurn.l0]
      exact Ans.yes (by omega) (inner out j _ h0 (by omega) (by omega) x.length 0 [] (by omega) (by omega) (by simp only [List.length_nil]; omega) e)
  exact key x.length 0 [] (by omega) (by omega) (by simp only [List.length_nil]; omega)
theorem sgSquare (x : List (List Int)) (h : x.length ≤ 1048576) : Ans (fun k => spec_sgSquare.f k x) (decide (1 ≤ x.length ∧ x.length ≤ 6) && x.all fun r => decide (r.length = x.length)) := by
  have key : ∀ (d : Nat) (i : Int), 0 ≤ i → i + d = x.length → Ans (fun k => spec_sgSquare.l0 k x x (x.length : Int) i) ((x.drop i.toNat).all fun r => decide (r.length = x.length)) := by
    intro d
    induction d with
    | zero =>
      intro i h0 h1
      rw [List.drop_eq_nil_of_le (by omega)]; refine Ans.step ?_
      simp only [spec_sgSquare.l0]; exact Ans.not (by omega) (Ans.pure _)
    | succ d ih =>
      intro i h0 h1
      rw [drop_at x [] (show i.toNat < x.length by omega), show x.getD i.toNat [] = rd_L1 x i from rfl, List.all_cons]
      have e := ih (i + 1) (by omega) (by omega)
      rw [show (i + 1).toNat = i.toNat + 1 by omega] at e
      refine Ans.step ?_
      simp only [spec_sgSquare.l0, wrap64_up h0 (by omega : i ≤ 4611686018427387904)]
      refine Ans.yes (by omega) (Ans.yes h0 (Ans.yes (by omega) ?_))
      by_cases c : (rd_L1 x i).length = x.length
      · rw [decide_eq_true c, Bool.true_and]; exact Ans.yes (by omega) e
      · rw [decide_eq_false c, Bool.false_and]; exact Ans.not (by omega) (Ans.pure _)
  simp only [spec_sgSquare.f, l1In, Option.bind_some]
  by_cases c : decide ((1 : Int) ≤ (x.length : Int) ∧ (x.length : Int) ≤ 6) = true
  · have b := of_decide_eq_true c
    rw [show decide (1 ≤ x.length ∧ x.length ≤ 6) = true from decide_eq_true ⟨by omega, by omega⟩, Bool.true_and]
    exact Ans.yes c (key x.length 0 (by omega) (by omega))
  · have b : ¬ ((1 : Int) ≤ (x.length : Int) ∧ (x.length : Int) ≤ 6) := fun h => c (decide_eq_true h)
    rw [show decide (1 ≤ x.length ∧ x.length ≤ 6) = false from decide_eq_false (by omega), Bool.false_and]
    exact Ans.not c (Ans.pure _)
/-- What a sign matrix is, in plain words: square, up to six rows, rows and columns that alternate. -/
def sign (x : List (List Int)) : Bool :=
  (decide (1 ≤ x.length ∧ x.length ≤ 6) && x.all fun r => decide (r.length = x.length)) && (x.all (walkOk 0) && (List.range x.length).all fun (j : Nat) => walkOk 0 (colOf x j))
theorem square_of {x : List (List Int)} (h : (decide (1 ≤ x.length ∧ x.length ≤ 6) && x.all fun r => decide (r.length = x.length)) = true) : 1 ≤ x.length ∧ x.length ≤ 6 ∧ ∀ r ∈ x, r.length = x.length := by
  rw [Bool.and_eq_true] at h
  have b := of_decide_eq_true h.1
  exact ⟨b.1, b.2, fun r hr => of_decide_eq_true (List.all_eq_true.mp h.2 r hr)⟩
theorem sgGood (x : List (List Int)) (h : x.length ≤ 1048576) : Ans (fun k => spec_sgGood.f k x) (sign x) := by
  simp only [spec_sgGood.f]
  refine (sgSquare x h).bind ?_
  unfold sign
  by_cases c : (decide (1 ≤ x.length ∧ x.length ≤ 6) && x.all fun r => decide (r.length = x.length)) = true
  · obtain ⟨b1, b2, b3⟩ := square_of c
    rw [c, Bool.true_and]
    refine Ans.yes rfl ((sgRows x (by omega) (fun r hr => by have := b3 r hr; omega)).bind ?_)
    by_cases c2 : x.all (walkOk 0) = true
    · rw [c2, Bool.true_and]
      have e := sgRows ((List.range x.length).map fun (j : Nat) => colOf x j) (by simp only [List.length_map, List.length_range]; omega) (fun r hr => by
        obtain ⟨j, _, rfl⟩ := List.mem_map.1 hr
        simp only [colOf, List.length_map]; omega)
      rw [List.all_map] at e
      exact Ans.yes rfl ((sgTurn x h b3).bind (e.bind (Ans.pure _)))
    · rw [Bool.eq_false_iff.mpr c2, Bool.false_and]; exact Ans.not (by simp) (Ans.pure _)
  · rw [Bool.eq_false_iff.mpr c, Bool.false_and]; exact Ans.not (by simp) (Ans.pure _)
theorem isSign (x : List (List Int)) (h : x.length ≤ 1048576) : Ans (fun k => impl_IsSignMatrix.f k x) (sign x) := by
  have no : Ans (fun k => impl_IsSignMatrix.j0 k x true) false := by
    refine Ans.step ?_; simp only [impl_IsSignMatrix.j0]; exact Ans.yes (by simp) (Ans.pure _)
  simp only [impl_IsSignMatrix.f, impl_isSide.f, within, Option.bind_some]
  by_cases c : decide ((1 : Int) ≤ (x.length : Int) ∧ (x.length : Int) ≤ 6) = true
  · have b := of_decide_eq_true c
    refine Ans.yes c ((isSquare x (by omega)).bind ?_)
    unfold sign
    rw [show decide (1 ≤ x.length ∧ x.length ≤ 6) = true from decide_eq_true ⟨by omega, by omega⟩, Bool.true_and]
    by_cases c2 : (x.all fun r => decide (r.length = x.length)) = true
    · rw [c2, Bool.true_and]
      have b3 : ∀ r ∈ x, r.length = x.length := fun r hr => of_decide_eq_true (List.all_eq_true.mp c2 r hr)
      have key : ∀ (d : Nat) (i : Int), 0 ≤ i → i + d = x.length → Ans (fun k => impl_IsSignMatrix.l0 k x (x.length : Int) i) ((x.drop i.toNat).all (walkOk 0) && ((List.range x.length).drop i.toNat).all fun (j : Nat) => walkOk 0 (colOf x j)) := by
        intro d
        induction d with
        | zero =>
          intro i h0 h1
          rw [List.drop_eq_nil_of_le (by omega), List.drop_eq_nil_of_le (by simp only [List.length_range]; omega)]; refine Ans.step ?_
          simp only [impl_IsSignMatrix.l0]; exact Ans.not (by omega) (Ans.pure _)
        | succ d ih =>
          intro i h0 h1
          have hm := rd_L1_mem h0 (show i < x.length by omega)
          have e := ih (i + 1) (by omega) (by omega)
          rw [show (i + 1).toNat = i.toNat + 1 by omega] at e
          rw [drop_at x [] (show i.toNat < x.length by omega), show x.getD i.toNat [] = rd_L1 x i from rfl, range_drop (show i.toNat < x.length by omega), List.all_cons, List.all_cons, show ((i.toNat : Nat) : Int) = i by omega]
          refine Ans.step ?_
          simp only [impl_IsSignMatrix.l0, wrap64_up h0 (by omega : i ≤ 4611686018427387904)]
          refine Ans.yes (by omega) (Ans.yes h0 (Ans.yes (by omega) ((alternate _ (by have := b3 _ hm; omega)).bind ?_)))
          by_cases q1 : walkOk 0 (rd_L1 x i) = true
          · rw [q1, Bool.true_and]
            refine Ans.yes rfl ((column x i h h0 (fun r hr => by have := b3 r hr; omega)).bind ((alternate _ (by simp only [colOf, List.length_map]; omega)).bind ?_))
            by_cases q2 : walkOk 0 (colOf x i) = true
            · rw [q2, Bool.true_and]; exact Ans.yes rfl e
            · rw [Bool.eq_false_iff.mpr q2, Bool.false_and, Bool.and_false]; exact Ans.not (by simp) (Ans.pure _)
          · rw [Bool.eq_false_iff.mpr q1, Bool.false_and, Bool.false_and]; exact Ans.not (by simp) (Ans.pure _)
      refine Ans.step ?_
      simp only [impl_IsSignMatrix.j0]
      exact Ans.not (by simp) (key x.length 0 (by omega) (by omega))
    · rw [Bool.eq_false_iff.mpr c2, Bool.false_and]; exact no
  · have b : ¬ ((1 : Int) ≤ (x.length : Int) ∧ (x.length : Int) ≤ 6) := fun h => c (decide_eq_true h)
    unfold sign
    rw [show decide (1 ≤ x.length ∧ x.length ≤ 6) = false from decide_eq_false (by omega), Bool.false_and, Bool.false_and]
    exact Ans.not c no
def tab (r c : Nat) (v : Nat → Nat → Int) : List (List Int) := (List.range r).map fun i => (List.range c).map fun j => v i j
theorem table_row (c : Nat) (hc : c ≤ 1048576) (g : Int → Int → Option Int) (v : Nat → Int) (n : Int) (i : Nat) (hi : i ≤ 1048576) (hg : ∀ j : Nat, j < c → g i j = some (v j)) {R : List (List Int)} :
    ∀ (d j : Nat) (y : List (List Int)), j + d = c → i < y.length → (y.getD i []).length = c → Ans (fun k => impl_table.l0 k c g (y.set i ((y.getD i []).take j ++ ((List.range c).drop j).map v)) n ((i + 1 : Nat) : Int)) R →
      Ans (fun k => impl_table.l1 k c g y i n i (c : Int) j) R := by
  intro d
  induction d with
  | zero =>
    intro j y h1 h2 h3 e
    rw [List.drop_eq_nil_of_le (by simp only [List.length_range]; omega), List.map_nil, List.append_nil, List.take_of_length_le (by omega), set_same y [] i h2] at e
    refine Ans.step ?_
    simp only [impl_table.l1, wrap64_up (show (0 : Int) ≤ (i : Int) by omega) (by omega : (i : Int) ≤ 4611686018427387904)]
    refine Ans.not (by omega) ?_
    rw [show ((i + 1 : Nat) : Int) = (i : Int) + 1 by omega] at e
    exact e
  | succ d ih =>
    intro j y h1 h2 h3 e
    have hrow : rd_L1 y (i : Int) = y.getD i [] := by unfold rd_L1; rw [Int.toNat_natCast]
    refine Ans.step ?_
    simp only [impl_table.l1, hg j (by omega), Option.bind_some, wrap64_up (show (0 : Int) ≤ (j : Int) by omega) (by omega : (j : Int) ≤ 4611686018427387904), hrow, Int.toNat_natCast]
    refine Ans.yes (by omega) (Ans.yes (by omega) (Ans.yes (by omega) (Ans.yes (by omega) (Ans.yes (by omega) ?_))))
    have hj : j < (y.getD i []).length := by omega
    obtain ⟨t1, _⟩ := take_set_drop (y.getD i []) j (v j) hj
    have hget : (y.set i ((y.getD i []).set j (v j))).getD i [] = (y.getD i []).set j (v j) := by
      rw [getD_at _ _ (by simpa using h2)]; simp
    have := ih (j + 1) (y.set i ((y.getD i []).set j (v j))) (by omega) (by simpa using h2) (by rw [hget]; simpa using h3) (by
      rw [hget, List.set_set, t1, List.append_assoc]
      rw [range_drop (show j < c by omega), List.map_cons] at e
      exact e)
    rwa [show ((j + 1 : Nat) : Int) = (j : Int) + 1 by omega] at this
theorem table (r c : Nat) (hr : r ≤ 1048576) (hc : c ≤ 1048576) (g : Int → Int → Option Int) (v : Nat → Nat → Int) (hg : ∀ i j : Nat, i < r → j < c → g i j = some (v i j)) : Ans (fun k => impl_table.f k r c g) (tab r c v) := by
  have key : ∀ (d i : Nat) (y : List (List Int)), i + d = r → y.length = r → Ans (fun k => impl_table.l0 k c g y (r : Int) i) (y.take i ++ ((List.range r).drop i).map fun i => (List.range c).map fun j => v i j) := by
    intro d
    induction d with
    | zero =>
      intro i y h1 h2
      rw [List.drop_eq_nil_of_le (by simp only [List.length_range]; omega), List.map_nil, List.append_nil, List.take_of_length_le (by omega)]; refine Ans.step ?_
      simp only [impl_table.l0]; exact Ans.not (by omega) (Ans.pure _)
    | succ d ih =>
      intro i y h1 h2
      have hi : i < y.length := by omega
      have hget : (y.set i (List.replicate c 0)).getD i [] = List.replicate c 0 := by rw [getD_at _ _ (by simpa using hi)]; simp
      obtain ⟨t1, _⟩ := take_set_drop y i ((List.range c).map fun j => v i j) hi
      have e := ih (i + 1) (y.set i ((List.range c).map fun j => v i j)) (by omega) (by simpa using h2)
      rw [t1, List.append_assoc, List.singleton_append] at e
      rw [range_drop (show i < r by omega), List.map_cons]
      have hrow : rd_L1 (y.set i (List.replicate c 0)) (i : Int) = List.replicate c 0 := by unfold rd_L1; rw [Int.toNat_natCast]; exact hget
      refine Ans.step ?_
      simp only [impl_table.l0, Option.bind_some, Int.toNat_natCast, hrow, List.length_replicate]
      refine Ans.yes (by omega) (Ans.yes (by omega) (Ans.yes (by omega) (Ans.yes (by omega) (Ans.yes (by omega) ?_))))
      have := table_row c hc g (v i) (r : Int) i (by omega) (fun j hj => hg i j (by omega) hj) c 0 (y.set i (List.replicate c 0)) (by omega) (by simpa using hi) (by rw [hget]; simp) (by
        rw [List.set_set, List.take_zero, List.drop_zero, List.nil_append]; exact e)
      exact this
  simp only [impl_table.f, Option.bind_some, Int.toNat_natCast, List.length_replicate]
  refine Ans.yes (by omega) (Ans.yes (by omega) ?_)
  have := key r 0 (List.replicate r []) (by omega) (by simp)
  simpa [tab] using this
theorem smCopy (x : List (List Int)) (h : x.length ≤ 1048576) (hr : ∀ r ∈ x, r.length ≤ 1048576) : Ans (fun k => spec_smCopy.f k x) x := by
  have key : ∀ (d : Nat) (i : Int) (acc : List (List Int)), 0 ≤ i → i + d = x.length → acc.length + d ≤ 1048576 → Ans (fun k => spec_smCopy.l0 k acc x (x.length : Int) i) (acc ++ x.drop i.toNat) := by
    intro d
    induction d with
    | zero =>
      intro i acc h0 h1 h2
      rw [List.drop_eq_nil_of_le (by omega), List.append_nil]; refine Ans.step ?_
      simp only [spec_smCopy.l0]; exact Ans.not (by omega) (Ans.pure _)
    | succ d ih =>
      intro i acc h0 h1 h2
      have hm := hr _ (rd_L1_mem h0 (show i < x.length by omega))
      have e := ih (i + 1) (acc ++ [rd_L1 x i]) (by omega) (by omega) (by simp only [List.length_append, List.length_singleton]; omega)
      rw [show (i + 1).toNat = i.toNat + 1 by omega, List.append_assoc, List.singleton_append] at e
      rw [drop_at x [] (show i.toNat < x.length by omega), show x.getD i.toNat [] = rd_L1 x i from rfl]
      refine Ans.step ?_
      simp only [spec_smCopy.l0, spec_l1Own.f, Option.bind_some, List.nil_append, List.length_nil, if_pos (by omega : 0 + (rd_L1 x i).length < 17592186044416), wrap64_up h0 (by omega : i ≤ 4611686018427387904)]
      exact Ans.yes (by omega) (Ans.yes h0 (Ans.yes (by omega) (Ans.yes (by omega) e)))
  exact key x.length 0 [] (by omega) (by omega) (by simp only [List.length_nil]; omega)
/-- The row, turned round. -/
theorem back (x out : List (List Int)) (i : Int) (h0 : 0 ≤ i) (h1 : i < x.length) (hx : x.length ≤ 1048576) (ho : out.length ≤ 1048576) (hr : ∀ r ∈ x, r.length ≤ 1048576) {R : List (List Int) × Bool} : ∀ (d : Nat) (acc : List Int), d ≤ (rd_L1 x i).length → acc.length + d ≤ 1048576 →
    Ans (fun k => spec_FromUpperHalf.l0 k x (out ++ [acc ++ ((rd_L1 x i).take d).reverse]) (i - 1)) R → Ans (fun k => spec_FromUpperHalf.l1 k x out i acc ((d : Int) - 1)) R := by
  intro d
  induction d with
  | zero =>
    intro acc h2 h3 e
    rw [List.take_zero, List.reverse_nil, List.append_nil] at e
    refine Ans.step ?_
    simp only [spec_FromUpperHalf.l1, wrap64_down h0 (by omega : i ≤ 4611686018427387904)]
    exact Ans.not (by omega) (Ans.yes (by omega) e)
  | succ d ih =>
    intro acc h2 h3 e
    have hl := hr _ (rd_L1_mem h0 h1)
    rw [take_up (rd_L1 x i) 0 (show d < (rd_L1 x i).length by omega), List.reverse_append, List.reverse_singleton, List.singleton_append] at e
    have hj : ((d + 1 : Nat) : Int) - 1 = (d : Int) := by omega
    have := ih (acc ++ [rd (rd_L1 x i) d]) (by omega) (by simp only [List.length_append, List.length_singleton]; omega) (by
      rw [List.append_assoc, List.singleton_append]; rw [show rd (rd_L1 x i) (d : Int) = (rd_L1 x i).getD d 0 by unfold rd; rw [Int.toNat_natCast]]; exact e)
    refine Ans.step ?_
    simp only [spec_FromUpperHalf.l1, hj, wrap64_down (show (0 : Int) ≤ (d : Int) by omega) (by omega : (d : Int) ≤ 4611686018427387904)]
    exact Ans.yes (by omega) (Ans.yes h0 (Ans.yes h1 (Ans.yes (by omega) (Ans.yes (by omega) (Ans.yes (by omega) this)))))
def whole (x : List (List Int)) : List (List Int) := x ++ x.reverse.map List.reverse
theorem specFrom (x : List (List Int)) (h : x.length ≤ 1048576) (hr : ∀ r ∈ x, r.length ≤ 1048576) : ∀ (d : Nat) (out : List (List Int)), d ≤ x.length → d ≤ 3 → out.length + d ≤ 6 →
    Ans (fun k => spec_FromUpperHalf.l0 k x out ((d : Int) - 1)) (if sign (out ++ (x.take d).reverse.map List.reverse) = true then (out ++ (x.take d).reverse.map List.reverse, true) else ([], false)) := by
  intro d
  induction d with
  | zero =>
    intro out h1 h2 h3
    rw [List.take_zero, List.reverse_nil, List.map_nil, List.append_nil]
    refine Ans.step ?_
    simp only [spec_FromUpperHalf.l0]
    refine Ans.not (by omega) ((sgGood out (by omega)).bind ?_)
    by_cases c : sign out = true
    · simp only [if_pos c]; exact Ans.pure _
    · simp only [if_neg c]; exact Ans.pure _
  | succ d ih =>
    intro out h1 h2 h3
    have hd : d < x.length := by omega
    have hm := rd_L1_mem (show (0 : Int) ≤ (d : Int) by omega) (show (d : Int) < x.length by omega)
    have hl := hr _ hm
    have e := ih (out ++ [(rd_L1 x (d : Int)).reverse]) (by omega) (by omega) (by simp only [List.length_append, List.length_singleton]; omega)
    rw [List.append_assoc, List.singleton_append] at e
    rw [take_up x [] hd, List.reverse_append, List.reverse_singleton, List.singleton_append, List.map_cons, show x.getD d [] = rd_L1 x (d : Int) by unfold rd_L1; rw [Int.toNat_natCast]]
    have hj : ((d + 1 : Nat) : Int) - 1 = (d : Int) := by omega
    have hw : wrap64 (((rd_L1 x (d : Int)).length : Int) - 1) = ((rd_L1 x (d : Int)).length : Int) - 1 := wrap64_in _ ⟨by omega, by omega⟩
    refine Ans.step ?_
    simp only [spec_FromUpperHalf.l0, hj, hw]
    refine Ans.yes (by omega) (Ans.yes (by omega) (Ans.yes (by omega) (back x out d (by omega) (by omega) h (by omega) hr _ [] (Nat.le_refl _) (by simp only [List.length_nil]; omega) ?_)))
    rw [List.nil_append, List.take_length]
    exact e
theorem getD_append {α : Type} (x y : List α) (d : α) (n : Nat) : (x ++ y).getD n d = if n < x.length then x.getD n d else y.getD (n - x.length) d := by
  simp only [List.getD_eq_getElem?_getD, List.getElem?_append]; split <;> rfl
theorem tab_whole (x : List (List Int)) (hr : ∀ r ∈ x, r.length = 2 * x.length) (v : Nat → Nat → Int) (hv : ∀ i j : Nat, i < 2 * x.length → j < 2 * x.length → v i j = if i < x.length then (x.getD i []).getD j 0 else (x.getD (2 * x.length - 1 - i) []).getD (2 * x.length - 1 - j) 0) :
    tab (2 * x.length) (2 * x.length) v = whole x := by
  refine List.ext_getElem (by simp [tab, whole]; omega) fun i h1 h2 => ?_
  have hi : i < 2 * x.length := by simpa [tab] using h1
  have e1 : (tab (2 * x.length) (2 * x.length) v)[i] = (List.range (2 * x.length)).map fun j => v i j := by simp [tab]
  rw [e1]
  have hrow : (whole x)[i] = if i < x.length then x.getD i [] else (x.getD (2 * x.length - 1 - i) []).reverse := by
    rw [← getD_at (whole x) [] h2, whole, getD_append]
    by_cases c : i < x.length
    · rw [if_pos c, if_pos c]
    · rw [if_neg c, if_neg c, getD_at _ _ (by simp; omega), List.getElem_map, List.getElem_reverse, getD_at _ _ (by omega)]
      congr 2; omega
  rw [hrow]
  have hlen : ∀ n, n < x.length → (x.getD n []).length = 2 * x.length := fun n hn => hr _ (getD_mem [] hn)
  by_cases c : i < x.length
  · rw [if_pos c]
    refine List.ext_getElem (by simp only [List.length_map, List.length_range]; exact (hlen i c).symm) fun j g1 g2 => ?_
    have hj : j < 2 * x.length := by simpa using g1
    rw [List.getElem_map, List.getElem_range, hv i j hi hj, if_pos c, getD_at _ _ g2]
  · rw [if_neg c]
    have hl := hlen (2 * x.length - 1 - i) (by omega)
    refine List.ext_getElem (by simp only [List.length_map, List.length_range, List.length_reverse]; exact hl.symm) fun j g1 g2 => ?_
    have hj : j < 2 * x.length := by simpa using g1
    rw [List.getElem_map, List.getElem_range, hv i j hi hj, if_neg c, List.getElem_reverse, getD_at _ _ (by omega)]
    congr 1; omega
theorem fromUpper (x : List (List Int)) (h : x.length ≤ 1048576) (hr : ∀ r ∈ x, r.length ≤ 1048576) :
    ∃ z : List (List Int) × Bool, (z.1.length ≤ 6 ∧ ∀ r ∈ z.1, r.length ≤ 6) ∧ Ans (fun k => spec_FromUpperHalf.f k x) z ∧ Ans (fun k => impl_FromUpperHalf.f k x) z := by
  have h2 : wrap64 (2 * (x.length : Int)) = ((2 * x.length : Nat) : Int) := by rw [wrap64_in _ ⟨by omega, by omega⟩]; omega
  simp only [spec_FromUpperHalf.f, impl_FromUpperHalf.f, impl_isSide.f, l1In, within, Option.bind_some, h2]
  have no : Ans (fun k => impl_FromUpperHalf.j0 k true x ((2 * x.length : Nat) : Int)) ([], false) := by
    refine Ans.step ?_; simp only [impl_FromUpperHalf.j0]; exact Ans.yes (by simp) (Ans.pure _)
  by_cases c : 1 ≤ x.length ∧ x.length ≤ 3
  case neg => exact ⟨([], false), by simp, Ans.not (by simp; omega) (Ans.pure _), Ans.not (by simp; omega) no⟩
  have hw : wrap64 ((x.length : Int) - 1) = (x.length : Int) - 1 := wrap64_in _ ⟨by omega, by omega⟩
  simp only [hw]
  have eS := specFrom x h hr x.length x (Nat.le_refl _) c.2 (by omega)
  rw [List.take_length, show x ++ x.reverse.map List.reverse = whole x from rfl] at eS
  have eC := containsL x (by omega) (fun x0_ => impl_FromUpperHalf_1.f x0_ ((2 * x.length : Nat) : Int)) (fun r => (r.length : Int) != ((2 * x.length : Nat) : Int)) (fun a => rfl)
  have wl : (whole x).length = 2 * x.length := by simp [whole]; omega
  refine ⟨_, ?_, Ans.yes (by simp; omega) ((smCopy x h hr).bind eS), Ans.yes (by simp; omega) (eC.bind ?_)⟩
  · by_cases s : sign (whole x) = true
    · rw [if_pos s]
      unfold sign at s
      rw [Bool.and_eq_true] at s
      obtain ⟨b1, b2, b3⟩ := square_of s.1
      exact ⟨b2, fun r hr => by rw [b3 r hr]; exact b2⟩
    · rw [if_neg s]; simp
  · by_cases q : ∀ r ∈ x, r.length = 2 * x.length
    · have hq : (x.any fun r => (r.length : Int) != ((2 * x.length : Nat) : Int)) = false := by
        rw [Bool.eq_false_iff]; intro hc
        obtain ⟨r, hm, hne⟩ := List.any_eq_true.mp hc
        have := q r hm
        simp [this] at hne
      rw [hq]
      have hg : ∀ i j : Nat, i < 2 * x.length → j < 2 * x.length → impl_FromUpperHalf_2.f i j ((2 * x.length : Nat) : Int) x = some (if i < x.length then rd (rd_L1 x (i : Int)) (j : Int) else rd (rd_L1 x ((2 * x.length - 1 - i : Nat) : Int)) ((2 * x.length - 1 - j : Nat) : Int)) := by
        intro i j hi hj
        have w1 : wrap64 (Int.tdiv ((2 * x.length : Nat) : Int) 2) = (x.length : Int) := by
          rw [show Int.tdiv ((2 * x.length : Nat) : Int) 2 = (x.length : Int) by rw [Int.tdiv_eq_ediv_of_nonneg (by omega)]; omega]; exact wrap64_in _ ⟨by omega, by omega⟩
        have w2 : wrap64 (((2 * x.length : Nat) : Int) - 1) = ((2 * x.length : Nat) : Int) - 1 := wrap64_in _ ⟨by omega, by omega⟩
        have w3 : wrap64 (((2 * x.length : Nat) : Int) - 1 - (i : Int)) = ((2 * x.length - 1 - i : Nat) : Int) := by rw [wrap64_in _ ⟨by omega, by omega⟩]; omega
        have w4 : wrap64 (((2 * x.length : Nat) : Int) - 1 - (j : Int)) = ((2 * x.length - 1 - j : Nat) : Int) := by rw [wrap64_in _ ⟨by omega, by omega⟩]; omega
        have hget : ∀ n : Nat, n < x.length → (rd_L1 x (n : Int)).length = 2 * x.length := fun n hn => q _ (rd_L1_mem (by omega) (by omega))
        simp only [impl_FromUpperHalf_2.f, w1, w2, w3, w4]
        by_cases ci : i < x.length
        · have := hget i ci
          rw [if_pos ci, if_pos (by omega), if_pos (by omega), if_pos (by omega), if_pos (by omega), if_pos (by omega)]
        · have := hget (2 * x.length - 1 - i) (by omega)
          rw [if_neg ci, if_neg (by omega), if_pos (by omega), if_pos (by omega), if_pos (by omega), if_pos (by omega)]
      have eT := table (2 * x.length) (2 * x.length) (by omega) (by omega) (fun x0_ x1_ => impl_FromUpperHalf_2.f x0_ x1_ ((2 * x.length : Nat) : Int) x) _ hg
      rw [tab_whole x q _ (fun i j _ _ => by simp only [rd, rd_L1, Int.toNat_natCast])] at eT
      refine Ans.step ?_
      simp only [impl_FromUpperHalf.j0]
      refine Ans.not (by simp) (eT.bind ((isSign (whole x) (by omega)).bind ?_))
      by_cases s : sign (whole x) = true
      · simp only [if_pos s]; exact Ans.pure _
      · simp only [if_neg s]; exact Ans.pure _
    · have hq : (x.any fun r => (r.length : Int) != ((2 * x.length : Nat) : Int)) = true := by
        obtain ⟨r, hm⟩ := Classical.not_forall.mp q
        obtain ⟨hm, hne⟩ := Classical.not_imp.mp hm
        refine List.any_eq_true.mpr ⟨r, hm, ?_⟩
        simp only [bne_iff_ne, ne_eq]; omega
      have hs : ¬ sign (whole x) = true := fun s => q fun r hm => by
        unfold sign at s
        rw [Bool.and_eq_true] at s
        obtain ⟨b1, b2, b3⟩ := square_of s.1
        rw [← wl]; exact b3 r (by simp [whole, hm])
      rw [hq, if_neg hs]; exact no
theorem FnExactFromUpperHalf : laws_FnExactFromUpperHalf.Pure := by
  intro x m0 w0
  unfold maxLen at m0 w0
  obtain ⟨s, es, hs⟩ := szIntSS x 1048576 (by omega) (by omega) (by omega) (fun r hr => (w0 r hr).1)
  obtain ⟨k2, e2⟩ := es.at
  refine ⟨k2, s, e2, fun h0 => ?_⟩
  have ht := hs h0
  have hx : x.length ≤ 1048576 := by omega
  have hr : ∀ r ∈ x, r.length ≤ 1048576 := fun r h => by have := len_total h; omega
  obtain ⟨⟨z, b⟩, ⟨hz, hz2⟩, e1, e3⟩ := fromUpper x hx hr
  have hz : z.length ≤ 6 := hz
  have hz2 : ∀ r ∈ z, r.length ≤ 6 := hz2
  have hzt := total_le hz2
  have F := (Evn.of (toIntSS x (by omega) (fun r h => by have := hr r h; omega))).and ((Evn.of e1).and ((Evn.of e3).and ((Evn.of (eqIntSS z (by omega) (fun r h => by have := hz2 r h; omega))).and ((Evn.of (eqIntSS x (by omega) (fun r h => by have := hr r h; omega))).and ((Evn.of (markIntSS x 1 (by omega) (by omega) (by omega))).and ((Evn.of (markIntSS z 1 (by omega) (by omega) (by omega))).and (Evn.of (heldIntSS z 1 (by omega) (by omega) (by omega)))))))))
  obtain ⟨k, f0, f1, f2, f3, f4, f5, f6, f7⟩ := F.at
  exact ⟨k, z, b, _, _, _, _, f0, f1, f2, f3, f4, f5, by omega, f6, by omega, f7⟩

end Go.Proofs.Ytobkldkekopgoaa.Pure
