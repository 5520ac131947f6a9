/- For all rows the program's LeftHalf returns what the reference's returns, with its memory its own: no condition. -/
import Derived.Test.YthpnfjdpomadaaaCFnExactLeftHalfx3
import Derived.Test.YthpnfjdpomadaaaQTwo
namespace Go.Proofs.Ythpnfjdpomadaaa.Pure
open Go.RowKit Go.Proofs.Ythpnfjdpomadaaa.X Go.Proofs.YthpnfjdpomadaaaW.PrintWords Go.Proofs.YthpnfjdpomadaaaW.PrintLast Go.Proofs.Ythpnfjdpomadaaa.Q
set_option linter.unusedVariables false
set_option linter.unusedSimpArgs false
theorem len_le {x : List Int} (h : x.length ≤ 17592186044416) : (x.length : Int) ≤ 17592186044416 := by omega
theorem eqIntS_l0 (x : List Int) (hx : x.length ≤ 17592186044416) : ∀ (d : Nat) (i : Int), 0 ≤ i → i + d = x.length → ∀ k, d < k → laws_eqIntS.l0 k x x i = some true := by
  intro d
  induction d with
  | zero => intro i h0 h1 k hk; obtain ⟨j, rfl⟩ : ∃ j, k = j + 1 := ⟨k - 1, by omega⟩; unfold laws_eqIntS.l0; rw [if_neg (by omega)]
  | succ d ih =>
    intro i h0 h1 k hk; obtain ⟨j, rfl⟩ : ∃ j, k = j + 1 := ⟨k - 1, by omega⟩; unfold laws_eqIntS.l0
    rw [if_pos (by omega), if_pos h0, if_pos (by omega), if_pos rfl, wrap64_up h0 (by omega)]
    exact ih _ (by omega) (by omega) _ (by omega)
theorem eqIntS (x : List Int) (hx : x.length ≤ 17592186044416) : Ans (fun k => laws_eqIntS.f k x x) true :=
  Ans.from (x.length + 1) fun k hk => by unfold laws_eqIntS.f; rw [if_pos rfl]; exact eqIntS_l0 x hx x.length 0 (by omega) (by omega) _ (by omega)
theorem toIntS_l0 (x : List Int) (hx : x.length ≤ 17592186044416) : ∀ (d : Nat) (y : List Int) (i : Int), y.length = x.length → (∀ j : Nat, j < i → y.getD j 0 = x.getD j 0) → 0 ≤ i → i + d = x.length → ∀ k, d < k → laws_toIntS.l0 k x y i = some x := by
  intro d
  induction d with
  | zero =>
    intro y i hl hy h0 h1 k hk; obtain ⟨j, rfl⟩ : ∃ j, k = j + 1 := ⟨k - 1, by omega⟩; unfold laws_toIntS.l0; rw [if_neg (by omega)]
    refine congrArg some (List.ext_getElem hl fun n h2 h3 => ?_)
    have := hy n (by omega)
    rw [getD_at _ _ h2, getD_at _ _ h3] at this
    exact this
  | succ d ih =>
    intro y i hl hy h0 h1 k hk; obtain ⟨j, rfl⟩ : ∃ j, k = j + 1 := ⟨k - 1, by omega⟩; unfold laws_toIntS.l0
    rw [if_pos (by omega), if_pos h0, if_pos (by omega), wrap64_up h0 (by omega)]
    refine ih _ _ (by simp [hl]) ?_ (by omega) (by omega) _ (by omega)
    intro n hn
    obtain ⟨a, rfl⟩ : ∃ a : Nat, i = a := ⟨i.toNat, by omega⟩
    by_cases e : n = a
    · subst e
      have h2 : n < (y.set ((n : Int)).toNat (rd x n)).length := by simp only [List.length_set]; omega
      rw [getD_at _ _ h2]
      simp [rd]
    · have h2 : n < y.length := by omega
      have h3 : n < (y.set ((a : Int)).toNat (rd x a)).length := by simp only [List.length_set]; omega
      rw [← hy n (by omega), getD_at _ _ h3, getD_at _ _ h2, List.getElem_set_ne (by omega)]
theorem toIntS (x : List Int) (hx : x.length ≤ 17592186044416) : Ans (fun k => laws_toIntS.f k x) x :=
  Ans.from (x.length + 1) fun k hk => by
    unfold laws_toIntS.f; rw [if_pos (by omega), if_pos (by omega)]
    exact toIntS_l0 x hx x.length _ 0 (by simp) (by intro j hj; omega) (by omega) (by omega) _ (by omega)
/-- The row after marking from `n`: `n, n+1, ..`. -/
def upFrom (n : Int) (m : Nat) : List Int := (List.range m).map fun (i : Nat) => n + (i : Int)
theorem markIntS_l0 (x : List Int) (n : Int) (hn : 0 ≤ n) (hx : n + x.length ≤ 17592186044416) : ∀ (d : Nat) (y : List Int) (i : Int), y.length = x.length → (∀ j : Nat, j < i → y.getD j 0 = n + j) → 0 ≤ i → i + d = x.length → ∀ k, d < k →
    laws_markIntS.l0 k y (n + i) i = some (n + x.length, upFrom n x.length) := by
  intro d
  induction d with
  | zero =>
    intro y i hl hy h0 h1 k hk; obtain ⟨j, rfl⟩ : ∃ j, k = j + 1 := ⟨k - 1, by omega⟩; unfold laws_markIntS.l0; rw [if_neg (by omega)]
    have : y = upFrom n x.length := by
      refine List.ext_getElem (by simp [upFrom, hl]) fun m h2 h3 => ?_
      have := hy m (by omega)
      rw [getD_at _ _ h2] at this
      rw [this]; simp [upFrom]
    rw [this, show n + i = n + x.length by omega]
  | succ d ih =>
    intro y i hl hy h0 h1 k hk; obtain ⟨j, rfl⟩ : ∃ j, k = j + 1 := ⟨k - 1, by omega⟩; unfold laws_markIntS.l0
    rw [if_pos (by omega), if_pos h0, wrap64_up h0 (by omega), wrap64_up (by omega) (by omega), show n + i + 1 = n + (i + 1) by omega]
    refine ih _ _ (by simp [hl]) ?_ (by omega) (by omega) _ (by omega)
    intro m hm
    obtain ⟨a, rfl⟩ : ∃ a : Nat, i = a := ⟨i.toNat, by omega⟩
    by_cases e : m = a
    · subst e
      have h2 : m < (y.set ((m : Int)).toNat (n + (m : Int))).length := by simp only [List.length_set]; omega
      rw [getD_at _ _ h2]
      simp
    · have h2 : m < y.length := by omega
      have h3 : m < (y.set ((a : Int)).toNat (n + (a : Int))).length := by simp only [List.length_set]; omega
      rw [← hy m (by omega), getD_at _ _ h3, getD_at _ _ h2, List.getElem_set_ne (by omega)]
theorem markIntS (x : List Int) (n : Int) (hn : 0 ≤ n) (hx : n + x.length ≤ 17592186044416) : Ans (fun k => laws_markIntS.f k x n) (n + x.length, upFrom n x.length) :=
  Ans.from (x.length + 1) fun k hk => by
    unfold laws_markIntS.f
    have := markIntS_l0 x n hn hx x.length x 0 rfl (by intro j hj; omega) (by omega) (by omega) k (by omega)
    rwa [show n + 0 = n by omega] at this
theorem heldIntS_l0 (m : Nat) (n : Int) (hn : 0 ≤ n) (hx : n + m ≤ 17592186044416) : ∀ (d : Nat) (i : Int), 0 ≤ i → i + d = m → ∀ k, d < k →
    laws_heldIntS.l0 k (upFrom n m) (n + i) i = some (n + m) := by
  intro d
  have hl : (upFrom n m).length = m := by simp [upFrom]
  induction d with
  | zero =>
    intro i h0 h1 k hk; obtain ⟨j, rfl⟩ : ∃ j, k = j + 1 := ⟨k - 1, by omega⟩; unfold laws_heldIntS.l0; rw [if_neg (by omega), show n + i = n + m by omega]
  | succ d ih =>
    intro i h0 h1 k hk; obtain ⟨j, rfl⟩ : ∃ j, k = j + 1 := ⟨k - 1, by omega⟩; unfold laws_heldIntS.l0
    have : rd (upFrom n m) i = n + i := by
      unfold rd; rw [getD_at _ _ (by omega)]; simp only [upFrom, List.getElem_map, List.getElem_range]; omega
    rw [if_pos (by omega), if_pos h0, if_pos this, wrap64_up h0 (by omega), wrap64_up (by omega) (by omega), show n + i + 1 = n + (i + 1) by omega]
    exact ih _ (by omega) (by omega) _ (by omega)
theorem heldIntS (m : Nat) (n : Int) (hn : 0 ≤ n) (hx : n + m ≤ 17592186044416) : Ans (fun k => laws_heldIntS.f k (upFrom n m) n) (n + m) :=
  Ans.from (m + 1) fun k hk => by
    unfold laws_heldIntS.f
    have := heldIntS_l0 m n hn hx m 0 (by omega) (by omega) k (by omega)
    rwa [show n + 0 = n by omega] at this
theorem rd_L1_mem {x : List (List Int)} {i : Int} (h0 : 0 ≤ i) (h1 : i < x.length) : rd_L1 x i ∈ x := by unfold rd_L1; exact getD_mem _ (by omega)
theorem eqIntSS_l0 (x : List (List Int)) (hx : x.length ≤ 17592186044416) (hr : ∀ r ∈ x, r.length ≤ 17592186044416) : ∀ (d : Nat) (i : Int), 0 ≤ i → i + d = x.length → Ans (fun k => laws_eqIntSS.l0 k x x i) true := by
  intro d
  induction d with
  | zero => intro i h0 h1; refine Ans.step ?_; simp only [laws_eqIntSS.l0]; exact Ans.not (by omega) (Ans.pure _)
  | succ d ih =>
    intro i h0 h1; refine Ans.step ?_; simp only [laws_eqIntSS.l0, wrap64_up h0 (by omega : i ≤ 4611686018427387904)]
    exact Ans.yes (by omega) (Ans.yes h0 (Ans.yes (by omega) ((eqIntS _ (hr _ (rd_L1_mem h0 (by omega)))).bind (Ans.yes rfl (ih _ (by omega) (by omega))))))
theorem eqIntSS (x : List (List Int)) (hx : x.length ≤ 17592186044416) (hr : ∀ r ∈ x, r.length ≤ 17592186044416) : Ans (fun k => laws_eqIntSS.f k x x) true := by
  simp only [laws_eqIntSS.f]
  exact Ans.yes (by simp) (eqIntSS_l0 x hx hr x.length 0 (by omega) (by omega))
/-- The rows after marking from `n`. -/
def upRows : Int → List (List Int) → List (List Int)
  | _, [] => []
  | n, a :: x => upFrom n a.length :: upRows (n + a.length) x
theorem upRows_len : ∀ (x : List (List Int)) (n : Int), (upRows n x).length = x.length
  | [], _ => rfl
  | _ :: x, _ => by simp [upRows, upRows_len x]
theorem markIntSS_l0 : ∀ (x : List (List Int)) (y : List (List Int)) (n i : Int), 0 ≤ n → n + total x ≤ 17592186044416 → 0 ≤ i → y.length ≤ 17592186044416 → i + x.length = y.length → y.drop i.toNat = x →
    Ans (fun k => laws_markIntSS.l0 k y n i) (n + total x, y.take i.toNat ++ upRows n x) := by
  intro x
  induction x with
  | nil =>
    intro y n i h0 h1 h2 h3 h4 h5; refine Ans.step ?_; simp only [laws_markIntSS.l0]
    simp only [List.length_nil] at h4
    refine Ans.not (by omega) ?_
    rw [total_nil, upRows, List.append_nil, List.take_of_length_le (by omega), show n + ((0 : Nat) : Int) = n by omega]; exact Ans.pure _
  | cons a x ih =>
    intro y n i h0 h1 h2 h3 h4 h5; refine Ans.step ?_; simp only [laws_markIntSS.l0, wrap64_up h2 (by omega : i ≤ 4611686018427387904)]
    rw [total_cons] at h1
    simp only [List.length_cons] at h4
    have hlt : i.toNat < y.length := by omega
    have hd := drop_at y [] hlt
    rw [h5] at hd
    obtain ⟨ha, hx⟩ := List.cons.inj hd
    rw [← ha]
    refine Ans.yes (by omega) (Ans.yes h2 ((markIntS a n h0 (by omega)).bind ?_))
    obtain ⟨e1, e2⟩ := take_set_drop y i.toNat (upFrom n a.length) hlt
    have := ih (y.set i.toNat (upFrom n a.length)) (n + a.length) (i + 1) (by omega) (by omega) (by omega) (by simp; omega) (by simp only [List.length_set]; omega) (by rw [show (i + 1).toNat = i.toNat + 1 by omega, e2, ← hx])
    rw [show (i + 1).toNat = i.toNat + 1 by omega, e1, show n + (a.length : Int) + (total x : Int) = n + (total (a :: x) : Int) by rw [total_cons]; omega] at this
    rw [upRows]
    simpa using this
theorem markIntSS (x : List (List Int)) (n : Int) (hn : 0 ≤ n) (hx : n + total x ≤ 17592186044416) (hl : x.length ≤ 17592186044416) : Ans (fun k => laws_markIntSS.f k x n) (n + total x, upRows n x) := by
  have := markIntSS_l0 x x n 0 hn hx (by omega) hl (by omega) rfl
  simpa [laws_markIntSS.f] using this
theorem toIntSS_l0 (x : List (List Int)) (hx : x.length ≤ 11728124029610) (hr : ∀ r ∈ x, r.length ≤ 17592186044416) : ∀ (d : Nat) (y : List (List Int)) (i : Int), y.length = x.length → (∀ j : Nat, j < i → y.getD j [] = x.getD j []) → 0 ≤ i → i + d = x.length → Ans (fun k => laws_toIntSS.l0 k x y i) x := by
  intro d
  induction d with
  | zero =>
    intro y i hl hy h0 h1; refine Ans.step ?_; simp only [laws_toIntSS.l0]
    refine Ans.not (by omega) ?_
    have : y = x := List.ext_getElem hl fun n h2 h3 => by
      have := hy n (by omega)
      rwa [getD_at _ _ h2, getD_at _ _ h3] at this
    rw [this]; exact Ans.pure _
  | succ d ih =>
    intro y i hl hy h0 h1; refine Ans.step ?_; simp only [laws_toIntSS.l0, wrap64_up h0 (by omega : i ≤ 4611686018427387904)]
    refine Ans.yes (by omega) (Ans.yes h0 ((toIntS _ (hr _ (rd_L1_mem h0 (by omega)))).bind (Ans.yes (by omega) (ih _ _ (by simp [hl]) ?_ (by omega) (by omega)))))
    intro n hn
    obtain ⟨a, rfl⟩ : ∃ a : Nat, i = a := ⟨i.toNat, by omega⟩
    by_cases e : n = a
    · subst e
      have h2 : n < (y.set ((n : Int)).toNat (rd_L1 x n)).length := by simp only [List.length_set]; omega
      rw [getD_at _ _ h2]
      simp [rd_L1]
    · have h2 : n < y.length := by omega
      have h3 : n < (y.set ((a : Int)).toNat (rd_L1 x a)).length := by simp only [List.length_set]; omega
      rw [← hy n (by omega), getD_at _ _ h3, getD_at _ _ h2, List.getElem_set_ne (by omega)]
theorem toIntSS (x : List (List Int)) (hx : x.length ≤ 11728124029610) (hr : ∀ r ∈ x, r.length ≤ 17592186044416) : Ans (fun k => laws_toIntSS.f k x) x := by
  simp only [laws_toIntSS.f]
  exact Ans.yes (by omega) (Ans.yes (by omega) (toIntSS_l0 x hx hr x.length _ 0 (by simp) (by intro j hj; omega) (by omega) (by omega)))
theorem heldIntSS_l0 : ∀ (x : List (List Int)) (y : List (List Int)) (n i : Int), 0 ≤ n → n + total x ≤ 17592186044416 → 0 ≤ i → y.length ≤ 17592186044416 → i + x.length = y.length → y.drop i.toNat = upRows n x →
    Ans (fun k => laws_heldIntSS.l0 k y n i) (n + total x) := by
  intro x
  induction x with
  | nil =>
    intro y n i h0 h1 h2 h3 h4 h5; refine Ans.step ?_; simp only [laws_heldIntSS.l0]
    simp only [List.length_nil] at h4
    refine Ans.not (by omega) ?_
    rw [total_nil, show n + ((0 : Nat) : Int) = n by omega]; exact Ans.pure _
  | cons a x ih =>
    intro y n i h0 h1 h2 h3 h4 h5; refine Ans.step ?_; simp only [laws_heldIntSS.l0, wrap64_up h2 (by omega : i ≤ 4611686018427387904)]
    rw [total_cons] at h1
    simp only [List.length_cons] at h4
    have hlt : i.toNat < y.length := by omega
    have hd := drop_at y [] hlt
    rw [h5, upRows] at hd
    obtain ⟨ha, hx⟩ := List.cons.inj hd
    have hrd : rd_L1 y i = upFrom n a.length := by rw [rd_L1, ← ha]
    rw [hrd]
    refine Ans.yes (by omega) (Ans.yes h2 ((heldIntS a.length n h0 (by omega)).bind (Ans.not (by omega) ?_)))
    have := ih y (n + a.length) (i + 1) (by omega) (by omega) (by omega) h3 (by omega) (by rw [show (i + 1).toNat = i.toNat + 1 by omega, ← hx])
    rwa [show n + (a.length : Int) + (total x : Int) = n + (total (a :: x) : Int) by rw [total_cons]; omega] at this
theorem heldIntSS (x : List (List Int)) (n : Int) (hn : 0 ≤ n) (hx : n + total x ≤ 17592186044416) (hl : x.length ≤ 17592186044416) : Ans (fun k => laws_heldIntSS.f k (upRows n x) n) (n + total x) :=
  heldIntSS_l0 x (upRows n x) n 0 hn hx (by omega) (by rw [upRows_len]; exact hl) (by rw [upRows_len]; omega) rfl
theorem szIntS (x : List Int) (l : Int) (hx : x.length ≤ 9223372036854775807) (h0 : 0 ≤ l) (h1 : l ≤ 1048576) : laws_szIntS.f x l = some (if l - x.length < 0 then -1 else l - x.length) := by
  simp only [laws_szIntS.f, wrap64_in (l - (x.length : Int)) ⟨by omega, by omega⟩]
  by_cases h : l - (x.length : Int) < 0
  · rw [if_pos h, if_pos h]
  · rw [if_neg h, if_neg h]
theorem szIntSS_l0 : ∀ (x y : List (List Int)) (l i : Int), (∀ r ∈ y, r.length ≤ 9223372036854775807) → 0 ≤ l → l ≤ 1048576 → 0 ≤ i → i + x.length = y.length → y.length ≤ 1048576 → y.drop i.toNat = x →
    ∃ s, Ans (fun k => laws_szIntSS.l0 k y l i) s ∧ (0 ≤ s → s + total x = l) := by
  intro x
  induction x with
  | nil =>
    intro y l i hr h0 h1 h2 h4 h3 h5
    refine ⟨l, Ans.step ?_, fun _ => by rw [total_nil]; omega⟩
    simp only [laws_szIntSS.l0]; simp only [List.length_nil] at h4
    exact Ans.not (by omega) (Ans.pure _)
  | cons a x ih =>
    intro y l i hr h0 h1 h2 h4 h3 h5
    simp only [List.length_cons] at h4
    have hlt : i.toNat < y.length := by omega
    have hd := drop_at y [] hlt
    rw [h5] at hd
    obtain ⟨ha, hx⟩ := List.cons.inj hd
    have hrd : rd_L1 y i = a := by rw [rd_L1, ← ha]
    have har : a.length ≤ 9223372036854775807 := hr a (hrd ▸ rd_L1_mem h2 (by omega))
    by_cases hl : l - (a.length : Int) < 0
    · refine ⟨-1, Ans.step ?_, fun h => absurd h (by omega)⟩
      simp only [laws_szIntSS.l0, hrd, szIntS a l har h0 h1, if_pos hl, Option.bind_some]
      exact Ans.yes (by omega) (Ans.yes h2 (Ans.yes (by omega) (Ans.pure _)))
    · obtain ⟨s, e, hs⟩ := ih y (l - a.length) (i + 1) hr (by omega) (by omega) (by omega) (by omega) h3 (by rw [show (i + 1).toNat = i.toNat + 1 by omega, ← hx])
      refine ⟨s, Ans.step ?_, fun h => by have := hs h; rw [total_cons]; omega⟩
      simp only [laws_szIntSS.l0, hrd, szIntS a l har h0 h1, if_neg hl, Option.bind_some, wrap64_up h2 (by omega : i ≤ 4611686018427387904)]
      exact Ans.yes (by omega) (Ans.yes h2 e)
theorem szIntSS (x : List (List Int)) (l : Int) (h0 : 0 ≤ l) (h1 : l ≤ 1048576) (hx : x.length ≤ 9223372036854775807) (hr : ∀ r ∈ x, r.length ≤ 9223372036854775807) :
    ∃ s, Ans (fun k => laws_szIntSS.f k x l) s ∧ (0 ≤ s → s + total x + x.length = l) := by
  simp only [laws_szIntSS.f, wrap64_in (l - (x.length : Int)) ⟨by omega, by omega⟩]
  by_cases h : l - (x.length : Int) < 0
  · exact ⟨-1, Ans.yes h (Ans.pure _), fun q => absurd q (by omega)⟩
  · obtain ⟨s, e, hs⟩ := szIntSS_l0 x x (l - x.length) 0 hr (by omega) (by omega) (by omega) (by omega) (by omega) rfl
    exact ⟨s, Ans.not h e, fun q => by have := hs q; omega⟩
theorem containsL (x : List (List Int)) (hx : x.length ≤ 17592186044416) (g : List Int → Option Bool) (p : List Int → Bool) (hg : ∀ a, g a = some (p a)) : Ans (fun k => slices_ContainsFunc_int_int.f k x g) (x.any p) := by
  have key : ∀ (d : Nat) (i : Int), 0 ≤ i → i + d = x.length → ∃ z : Int, Ans (fun k => slices_IndexFunc_int_int.l0 k x g (x.length : Int) i) z ∧ decide (z ≥ 0) = (x.drop i.toNat).any p := by
    intro d
    induction d with
    | zero =>
      intro i h0 h1
      refine ⟨-1, Ans.step ?_, by rw [List.drop_eq_nil_of_le (by omega)]; rfl⟩
      simp only [slices_IndexFunc_int_int.l0]; exact Ans.not (by omega) (Ans.pure _)
    | succ d ih =>
      intro i h0 h1
      have hd := drop_at x [] (show i.toNat < x.length by omega)
      by_cases c : p (rd_L1 x i) = true
      · refine ⟨i, Ans.step ?_, by rw [hd, List.any_cons, show p (x.getD i.toNat []) = true from c]; simp [h0]⟩
        simp only [slices_IndexFunc_int_int.l0, hg, Option.bind_some]
        exact Ans.yes (by omega) (Ans.yes h0 (Ans.yes (by omega) (Ans.yes c (Ans.pure _))))
      · obtain ⟨z, e, hz⟩ := ih (i + 1) (by omega) (by omega)
        refine ⟨z, Ans.step ?_, by rw [hz, hd, List.any_cons, show p (x.getD i.toNat []) = false from Bool.eq_false_iff.mpr c, show (i + 1).toNat = i.toNat + 1 by omega]; simp⟩
        simp only [slices_IndexFunc_int_int.l0, hg, Option.bind_some, wrap64_up h0 (by omega : i ≤ 4611686018427387904)]
        exact Ans.yes (by omega) (Ans.yes h0 (Ans.yes (by omega) (Ans.not c e)))
  obtain ⟨z, e, hz⟩ := key x.length 0 (by omega) (by omega)
  simp only [slices_ContainsFunc_int_int.f, slices_IndexFunc_int_int.f]
  have := e.bind (h := fun _ t => some (decide (t ≥ 0))) (Ans.pure (decide (z ≥ 0)))
  rwa [hz] at this
theorem l1In (a b c : Int) : spec_l1In.f a b c = some (decide (b ≤ a ∧ a ≤ c)) := by
  unfold spec_l1In.f
  by_cases h : a ≥ b
  · rw [if_pos h]; refine congrArg some (decide_eq_decide.mpr ⟨fun q => ⟨h, q⟩, fun q => q.2⟩)
  · rw [if_neg h, decide_eq_false (by omega)]
theorem within (a b c : Int) : impl_within.f a b c = some (decide (b ≤ a ∧ a ≤ c)) := by
  unfold impl_within.f
  by_cases h : b ≤ a
  · rw [if_pos h]; refine congrArg some (decide_eq_decide.mpr ⟨fun q => ⟨h, q⟩, fun q => q.2⟩)
  · rw [if_neg h, decide_eq_false (by omega)]
theorem isSquare (x : List (List Int)) (hx : x.length ≤ 17592186044416) : Ans (fun k => impl_isSquare.f k x) (x.all fun r => decide (r.length = x.length)) := by
  have e := containsL x hx (fun x0_ => impl_isSquare_1.f x0_ x) (fun r => (r.length : Int) != (x.length : Int)) (fun a => rfl)
  have := e.bind (h := fun _ t => some (!t)) (Ans.pure _)
  rw [List.not_any_eq_all_not] at this
  rwa [show (fun r : List Int => !((r.length : Int) != (x.length : Int))) = fun r => decide (r.length = x.length) from funext fun r => by by_cases h : r.length = x.length <;> simp [bne, h]; omega] at this
/-- The numbers are -1, 0, 1, and their sums from s on are 0 or 1, the last one 1. -/
def walkOk : Int → List Int → Bool
  | s, [] => s == 1
  | s, a :: x => decide (-1 ≤ a ∧ a ≤ 1) && (decide (0 ≤ s + a ∧ s + a ≤ 1) && walkOk (s + a) x)
theorem alternate (x : List Int) (hx : x.length ≤ 17592186044416) : Ans (fun k => impl_alternate.f k x) (walkOk 0 x) := by
  have key : ∀ (d : Nat) (i s : Int), 0 ≤ i → i + d = x.length → 0 ≤ s → s ≤ 1 → Ans (fun k => impl_alternate.l0 k s x (x.length : Int) i) (walkOk s (x.drop i.toNat)) := by
    intro d
    induction d with
    | zero =>
      intro i s h0 h1 s0 s1
      rw [List.drop_eq_nil_of_le (by omega)]; refine Ans.step ?_
      simp only [impl_alternate.l0]; exact Ans.not (by omega) (Ans.pure _)
    | succ d ih =>
      intro i s h0 h1 s0 s1
      rw [drop_at x 0 (show i.toNat < x.length by omega), show x.getD i.toNat 0 = rd x i from rfl, walkOk]
      refine Ans.step ?_
      simp only [impl_alternate.l0, within, Option.bind_some, wrap64_up h0 (by omega : i ≤ 4611686018427387904)]
      refine Ans.yes (by omega) (Ans.yes h0 (Ans.yes (by omega) ?_))
      by_cases c1 : decide (-1 ≤ rd x i ∧ rd x i ≤ 1) = true
      · have b1 := of_decide_eq_true c1
        have hw : wrap64 (s + rd x i) = s + rd x i := wrap64_in _ ⟨by omega, by omega⟩
        simp only [hw]
        rw [c1, Bool.true_and]
        refine Ans.yes rfl ?_
        by_cases c2 : decide (0 ≤ s + rd x i ∧ s + rd x i ≤ 1) = true
        · have b2 := of_decide_eq_true c2
          have e := ih (i + 1) (s + rd x i) (by omega) (by omega) b2.1 b2.2
          rw [show (i + 1).toNat = i.toNat + 1 by omega] at e
          rw [c2, Bool.true_and]; exact Ans.yes rfl e
        · rw [Bool.eq_false_iff.mpr c2, Bool.false_and]; exact Ans.not (by simp) (Ans.pure _)
      · rw [Bool.eq_false_iff.mpr c1, Bool.false_and]; exact Ans.not (by simp) (Ans.pure _)
  exact key x.length 0 0 (by omega) (by omega) (by omega) (by omega)
theorem sgRows (x : List (List Int)) (hx : x.length ≤ 17592186044416) (hr : ∀ r ∈ x, r.length ≤ 17592186044416) : Ans (fun k => spec_sgRows.f k x) (x.all (walkOk 0)) := by
  have inner : ∀ (row : List Int) (m : Int) (R : Bool), row.length ≤ 17592186044416 → 0 ≤ m → m ≤ 17592186044416 → Ans (fun k => spec_sgRows.l0 k x (x.length : Int) (m + 1)) R →
      ∀ (d : Nat) (i s : Int), 0 ≤ i → i + d = row.length → 0 ≤ s → s ≤ 1 → Ans (fun k => spec_sgRows.l1 k s x (x.length : Int) m row (row.length : Int) i) (walkOk s (row.drop i.toNat) && R) := by
    intro row m R hrow hm hm' e d
    induction d with
    | zero =>
      intro i s h0 h1 s0 s1
      rw [List.drop_eq_nil_of_le (by omega), walkOk]; refine Ans.step ?_
      simp only [spec_sgRows.l1, wrap64_up hm (by omega : m ≤ 4611686018427387904)]
      refine Ans.not (by omega) ?_
      by_cases c : s = 1
      · rw [show (s == 1) = true by simp [c], Bool.true_and]; exact Ans.yes c e
      · rw [show (s == 1) = false by simp [c], Bool.false_and]; exact Ans.not c (Ans.pure _)
    | succ d ih =>
      intro i s h0 h1 s0 s1
      rw [drop_at row 0 (show i.toNat < row.length by omega), show row.getD i.toNat 0 = rd row i from rfl, walkOk]
      refine Ans.step ?_
      simp only [spec_sgRows.l1, l1In, Option.bind_some, wrap64_up h0 (by omega : i ≤ 4611686018427387904)]
      refine Ans.yes (by omega) (Ans.yes h0 (Ans.yes (by omega) ?_))
      by_cases c1 : decide (-1 ≤ rd row i ∧ rd row i ≤ 1) = true
      · have b1 := of_decide_eq_true c1
        have hw : wrap64 (s + rd row i) = s + rd row i := wrap64_in _ ⟨by omega, by omega⟩
        simp only [hw]
        rw [c1, Bool.true_and]
        refine Ans.yes rfl ?_
        by_cases c2 : decide (0 ≤ s + rd row i ∧ s + rd row i ≤ 1) = true
        · have b2 := of_decide_eq_true c2
          have e := ih (i + 1) (s + rd row i) (by omega) (by omega) b2.1 b2.2
          rw [show (i + 1).toNat = i.toNat + 1 by omega] at e
          rw [c2, Bool.true_and]; exact Ans.yes rfl e
        · rw [Bool.eq_false_iff.mpr c2, Bool.false_and, Bool.false_and]; exact Ans.not (by simp) (Ans.pure _)
      · rw [Bool.eq_false_iff.mpr c1, Bool.false_and, Bool.false_and]; exact Ans.not (by simp) (Ans.pure _)
  have key : ∀ (d : Nat) (i : Int), 0 ≤ i → i + d = x.length → Ans (fun k => spec_sgRows.l0 k x (x.length : Int) i) ((x.drop i.toNat).all (walkOk 0)) := by
    intro d
    induction d with
    | zero =>
      intro i h0 h1
      rw [List.drop_eq_nil_of_le (by omega)]; refine Ans.step ?_
      simp only [spec_sgRows.l0]; exact Ans.not (by omega) (Ans.pure _)
    | succ d ih =>
      intro i h0 h1
      have hm := rd_L1_mem h0 (show i < x.length by omega)
      rw [drop_at x [] (show i.toNat < x.length by omega), show x.getD i.toNat [] = rd_L1 x i from rfl, List.all_cons]
      have e := ih (i + 1) (by omega) (by omega)
      rw [show (i + 1).toNat = i.toNat + 1 by omega] at e
      refine Ans.step ?_
      simp only [spec_sgRows.l0]
      exact Ans.yes (by omega) (Ans.yes h0 (Ans.yes (by omega) (inner _ i _ (hr _ hm) h0 (by omega) e _ 0 0 (by omega) (show (0 : Int) + ((rd_L1 x i).length : Nat) = _ by omega) (by omega) (by omega))))
  exact key x.length 0 (by omega) (by omega)
def colOf (x : List (List Int)) (j : Int) : List Int := x.map fun r => rd r j
theorem column (x : List (List Int)) (j : Int) (h : x.length ≤ 1048576) (hj : 0 ≤ j) (hr : ∀ r ∈ x, j < r.length) : Ans (fun k => impl_column.f k x j) (colOf x j) := by
  have key : ∀ (d : Nat) (i : Int) (acc : List Int), 0 ≤ i → i + d = x.length → acc.length + d ≤ 1048576 → Ans (fun k => impl_column.l0 k j acc x (x.length : Int) i) (acc ++ colOf (x.drop i.toNat) j) := by
    intro d
    induction d with
    | zero =>
      intro i acc h0 h1 h2
      rw [List.drop_eq_nil_of_le (by omega), colOf, List.map_nil, List.append_nil]; refine Ans.step ?_
      simp only [impl_column.l0]; exact Ans.not (by omega) (Ans.pure _)
    | succ d ih =>
      intro i acc h0 h1 h2
      have hm := rd_L1_mem h0 (show i < x.length by omega)
      have e := ih (i + 1) (acc ++ [rd (rd_L1 x i) j]) (by omega) (by omega) (by simp only [List.length_append, List.length_singleton]; omega)
      rw [show (i + 1).toNat = i.toNat + 1 by omega, List.append_assoc, List.singleton_append] at e
      rw [drop_at x [] (show i.toNat < x.length by omega), show x.getD i.toNat [] = rd_L1 x i from rfl]
      refine Ans.step ?_
      simp only [impl_column.l0, wrap64_up h0 (by omega : i ≤ 4611686018427387904)]
      exact Ans.yes (by omega) (Ans.yes h0 (Ans.yes (by omega) (Ans.yes hj (Ans.yes (hr _ hm) (Ans.yes (by omega) e)))))
  exact key x.length 0 [] (by omega) (by omega) (by simp only [List.length_nil]; omega)
theorem range_drop {n i : Nat} (h : i < n) : (List.range n).drop i = i :: (List.range n).drop (i + 1) := by
  rw [drop_at (List.range n) 0 (by simpa using h), getD_at _ _ (by simpa using h), List.getElem_range]
theorem sgTurn (x : List (List Int)) (h : x.length ≤ 1048576) (hr : ∀ r ∈ x, r.length = x.length) : Ans (fun k => spec_sgTurn.f k x) ((List.range x.length).map fun (j : Nat) => colOf x j) := by
  have inner : ∀ (out : List (List Int)) (j : Int) (R : List (List Int)), 0 ≤ j → j < x.length → out.length ≤ 1048576 → ∀ (d : Nat) (i : Int) (acc : List Int), 0 ≤ i → i + d = x.length → acc.length + d ≤ 1048576 →
      Ans (fun k => spec_sgTurn.l0 k x (out ++ [acc ++ colOf (x.drop i.toNat) j]) (x.length : Int) (j + 1)) R → Ans (fun k => spec_sgTurn.l1 k x out j acc (x.length : Int) j x (x.length : Int) i) R := by
    intro out j R hj hj' ho d
    induction d with
    | zero =>
      intro i acc h0 h1 h2 e
      rw [List.drop_eq_nil_of_le (by omega), colOf, List.map_nil, List.append_nil] at e; refine Ans.step ?_
      simp only [spec_sgTurn.l1, wrap64_up hj (by omega : j ≤ 4611686018427387904)]; exact Ans.not (by omega) (Ans.yes (by omega) e)
    | succ d ih =>
      intro i acc h0 h1 h2 e
      have hm := rd_L1_mem h0 (show i < x.length by omega)
      rw [drop_at x [] (show i.toNat < x.length by omega), show x.getD i.toNat [] = rd_L1 x i from rfl] at e
      refine Ans.step ?_
      simp only [spec_sgTurn.l1, wrap64_up h0 (by omega : i ≤ 4611686018427387904)]
      refine Ans.yes (by omega) (Ans.yes h0 (Ans.yes (by omega) (Ans.yes hj (Ans.yes (by have := hr _ hm; omega) (Ans.yes (by omega) (ih (i + 1) _ (by omega) (by omega) (by simp only [List.length_append, List.length_singleton]; omega) ?_))))))
      rw [show (i + 1).toNat = i.toNat + 1 by omega, List.append_assoc, List.singleton_append]
      exact e
  have key : ∀ (d : Nat) (j : Int) (out : List (List Int)), 0 ≤ j → j + d = x.length → out.length + d ≤ 1048576 → Ans (fun k => spec_sgTurn.l0 k x out (x.length : Int) j) (out ++ ((List.range x.length).drop j.toNat).map fun (j : Nat) => colOf x j) := by
    intro d
    induction d with
    | zero =>
      intro j out h0 h1 h2
      rw [List.drop_eq_nil_of_le (by simp only [List.length_range]; omega), List.map_nil, List.append_nil]; refine Ans.step ?_
      simp only [spec_sgTurn.l0]; exact Ans.not (by omega) (Ans.pure _)
    | succ d ih =>
      intro j out h0 h1 h2
      have e := ih (j + 1) (out ++ [colOf x j]) (by omega) (by omega) (by simp only [List.length_append, List.length_singleton]; omega)
      rw [show (j + 1).toNat = j.toNat + 1 by omega, List.append_assoc, List.singleton_append] at e
      rw [range_drop (show j.toNat < x.length by omega), List.map_cons, show ((j.toNat : Nat) : Int) = j by omega]
      refine Ans.step ?_
      simp only [spec_sgTurn.l0]
      exact Ans.yes (by omega) (inner out j _ h0 (by omega) (by omega) x.length 0 [] (by omega) (by omega) (by simp only [List.length_nil]; omega) e)
  exact key x.length 0 [] (by omega) (by omega) (by simp only [List.length_nil]; omega)
theorem sgSquare (x : List (List Int)) (h : x.length ≤ 1048576) : Ans (fun k => spec_sgSquare.f k x) (decide (1 ≤ x.length ∧ x.length ≤ 6) && x.all fun r => decide (r.length = x.length)) := by
  have key : ∀ (d : Nat) (i : Int), 0 ≤ i → i + d = x.length → Ans (fun k => spec_sgSquare.l0 k x x (x.length : Int) i) ((x.drop i.toNat).all fun r => decide (r.length = x.length)) := by
    intro d
    induction d with
    | zero =>
      intro i h0 h1
      rw [List.drop_eq_nil_of_le (by omega)]; refine Ans.step ?_
      simp only [spec_sgSquare.l0]; exact Ans.not (by omega) (Ans.pure _)
    | succ d ih =>
      intro i h0 h1
      rw [drop_at x [] (show i.toNat < x.length by omega), show x.getD i.toNat [] = rd_L1 x i from rfl, List.all_cons]
      have e := ih (i + 1) (by omega) (by omega)
      rw [show (i + 1).toNat = i.toNat + 1 by omega] at e
      refine Ans.step ?_
      simp only [spec_sgSquare.l0, wrap64_up h0 (by omega : i ≤ 4611686018427387904)]
      refine Ans.yes (by omega) (Ans.yes h0 (Ans.yes (by omega) ?_))
      by_cases c : (rd_L1 x i).length = x.length
      · rw [decide_eq_true c, Bool.true_and]; exact Ans.yes (by omega) e
      · rw [decide_eq_false c, Bool.false_and]; exact Ans.not (by omega) (Ans.pure _)
  simp only [spec_sgSquare.f, l1In, Option.bind_some]
  by_cases c : decide ((1 : Int) ≤ (x.length : Int) ∧ (x.length : Int) ≤ 6) = true
  · have b := of_decide_eq_true c
    rw [show decide (1 ≤ x.length ∧ x.length ≤ 6) = true from decide_eq_true ⟨by omega, by omega⟩, Bool.true_and]
    exact Ans.yes c (key x.length 0 (by omega) (by omega))
  · have b : ¬ ((1 : Int) ≤ (x.length : Int) ∧ (x.length : Int) ≤ 6) := fun h => c (decide_eq_true h)
    rw [show decide (1 ≤ x.length ∧ x.length ≤ 6) = false from decide_eq_false (by omega), Bool.false_and]
    exact Ans.not c (Ans.pure _)
/-- What a sign matrix is, in plain words: square, up to six rows, rows and columns that alternate. -/
def sign (x : List (List Int)) : Bool :=
  (decide (1 ≤ x.length ∧ x.length ≤ 6) && x.all fun r => decide (r.length = x.length)) && (x.all (walkOk 0) && (List.range x.length).all fun (j : Nat) => walkOk 0 (colOf x j))
theorem square_of {x : List (List Int)} (h : (decide (1 ≤ x.length ∧ x.length ≤ 6) && x.all fun r => decide (r.length = x.length)) = true) : 1 ≤ x.length ∧ x.length ≤ 6 ∧ ∀ r ∈ x, r.length = x.length := by
  rw [Bool.and_eq_true] at h
  have b := of_decide_eq_true h.1
  exact ⟨b.1, b.2, fun r hr => of_decide_eq_true (List.all_eq_true.mp h.2 r hr)⟩
theorem sgGood (x : List (List Int)) (h : x.length ≤ 1048576) : Ans (fun k => spec_sgGood.f k x) (sign x) := by
  simp only [spec_sgGood.f]
  refine (sgSquare x h).bind ?_
  unfold sign
  by_cases c : (decide (1 ≤ x.length ∧ x.length ≤ 6) && x.all fun r => decide (r.length = x.length)) = true
  · obtain ⟨b1, b2, b3⟩ := square_of c
    rw [c, Bool.true_and]
    refine Ans.yes rfl ((sgRows x (by omega) (fun r hr => by have := b3 r hr; omega)).bind ?_)
    by_cases c2 : x.all (walkOk 0) = true
    · rw [c2, Bool.true_and]
      have e := sgRows ((List.range x.length).map fun (j : Nat) => colOf x j) (by simp only [List.length_map, List.length_range]; omega) (fun r hr => by
        obtain ⟨j, _, rfl⟩ := List.mem_map.1 hr
        simp only [colOf, List.length_map]; omega)
      rw [List.all_map] at e
      exact Ans.yes rfl ((sgTurn x h b3).bind (e.bind (Ans.pure _)))
    · rw [Bool.eq_false_iff.mpr c2, Bool.false_and]; exact Ans.not (by simp) (Ans.pure _)
  · rw [Bool.eq_false_iff.mpr c, Bool.false_and]; exact Ans.not (by simp) (Ans.pure _)
theorem isSign (x : List (List Int)) (h : x.length ≤ 1048576) : Ans (fun k => impl_IsSignMatrix.f k x) (sign x) := by
  have no : Ans (fun k => impl_IsSignMatrix.j0 k x true) false := by
    refine Ans.step ?_; simp only [impl_IsSignMatrix.j0]; exact Ans.yes (by simp) (Ans.pure _)
  simp only [impl_IsSignMatrix.f, impl_isSide.f, within, Option.bind_some]
  by_cases c : decide ((1 : Int) ≤ (x.length : Int) ∧ (x.length : Int) ≤ 6) = true
  · have b := of_decide_eq_true c
    refine Ans.yes c ((isSquare x (by omega)).bind ?_)
    unfold sign
    rw [show decide (1 ≤ x.length ∧ x.length ≤ 6) = true from decide_eq_true ⟨by omega, by omega⟩, Bool.true_and]
    by_cases c2 : (x.all fun r => decide (r.length = x.length)) = true
    · rw [c2, Bool.true_and]
      have b3 : ∀ r ∈ x, r.length = x.length := fun r hr => of_decide_eq_true (List.all_eq_true.mp c2 r hr)
      have key : ∀ (d : Nat) (i : Int), 0 ≤ i → i + d = x.length → Ans (fun k => impl_IsSignMatrix.l0 k x (x.length : Int) i) ((x.drop i.toNat).all (walkOk 0) && ((List.range x.length).drop i.toNat).all fun (j : Nat) => walkOk 0 (colOf x j)) := by
        intro d
        induction d with
        | zero =>
          intro i h0 h1
          rw [List.drop_eq_nil_of_le (by omega), List.drop_eq_nil_of_le (by simp only [List.length_range]; omega)]; refine Ans.step ?_
          simp only [impl_IsSignMatrix.l0]; exact Ans.not (by omega) (Ans.pure _)
        | succ d ih =>
          intro i h0 h1
          have hm := rd_L1_mem h0 (show i < x.length by omega)
          have e := ih (i + 1) (by omega) (by omega)
          rw [show (i + 1).toNat = i.toNat + 1 by omega] at e
          rw [drop_at x [] (show i.toNat < x.length by omega), show x.getD i.toNat [] = rd_L1 x i from rfl, range_drop (show i.toNat < x.length by omega), List.all_cons, List.all_cons, show ((i.toNat : Nat) : Int) = i by omega]
          refine Ans.step ?_
          simp only [impl_IsSignMatrix.l0, wrap64_up h0 (by omega : i ≤ 4611686018427387904)]
          refine Ans.yes (by omega) (Ans.yes h0 (Ans.yes (by omega) ((alternate _ (by have := b3 _ hm; omega)).bind ?_)))
          by_cases q1 : walkOk 0 (rd_L1 x i) = true
          · rw [q1, Bool.true_and]
            refine Ans.yes rfl ((column x i h h0 (fun r hr => by have := b3 r hr; omega)).bind ((alternate _ (by simp only [colOf, List.length_map]; omega)).bind ?_))
            by_cases q2 : walkOk 0 (colOf x i) = true
            · rw [q2, Bool.true_and]; exact Ans.yes rfl e
            · rw [Bool.eq_false_iff.mpr q2, Bool.false_and, Bool.and_false]; exact Ans.not (by simp) (Ans.pure _)
          · rw [Bool.eq_false_iff.mpr q1, Bool.false_and, Bool.false_and]; exact Ans.not (by simp) (Ans.pure _)
      refine Ans.step ?_
      simp only [impl_IsSignMatrix.j0]
      exact Ans.not (by simp) (key x.length 0 (by omega) (by omega))
    · rw [Bool.eq_false_iff.mpr c2, Bool.false_and]; exact no
  · have b : ¬ ((1 : Int) ≤ (x.length : Int) ∧ (x.length : Int) ≤ 6) := fun h => c (decide_eq_true h)
    unfold sign
    rw [show decide (1 ≤ x.length ∧ x.length ≤ 6) = false from decide_eq_false (by omega), Bool.false_and, Bool.false_and]
    exact Ans.not c no
def tab (r c : Nat) (v : Nat → Nat → Int) : List (List Int) := (List.range r).map fun i => (List.range c).map fun j => v i j
theorem table_row (c : Nat) (hc : c ≤ 1048576) (g : Int → Int → Option Int) (v : Nat → Int) (n : Int) (i : Nat) (hi : i ≤ 1048576) (hg : ∀ j : Nat, j < c → g i j = some (v j)) {R : List (List Int)} :
    ∀ (d j : Nat) (y : List (List Int)), j + d = c → i < y.length → (y.getD i []).length = c → Ans (fun k => impl_table.l0 k c g (y.set i ((y.getD i []).take j ++ ((List.range c).drop j).map v)) n ((i + 1 : Nat) : Int)) R →
      Ans (fun k => impl_table.l1 k c g y i n i (c : Int) j) R := by
  intro d
  induction d with
  | zero =>
    intro j y h1 h2 h3 e
    rw [List.drop_eq_nil_of_le (by simp only [List.length_range]; omega), List.map_nil, List.append_nil, List.take_of_length_le (by omega), set_same y [] i h2] at e
    refine Ans.step ?_
    simp only [impl_table.l1, wrap64_up (show (0 : Int) ≤ (i : Int) by omega) (by omega : (i : Int) ≤ 4611686018427387904)]
    refine Ans.not (by omega) ?_
    rw [show ((i + 1 : Nat) : Int) = (i : Int) + 1 by omega] at e
    exact e
  | succ d ih =>
    intro j y h1 h2 h3 e
    have hrow : rd_L1 y (i : Int) = y.getD i [] := by unfold rd_L1; rw [Int.toNat_natCast]
    refine Ans.step ?_
    simp only [impl_table.l1, hg j (by omega), Option.bind_some, wrap64_up (show (0 : Int) ≤ (j : Int) by omega) (by omega : (j : Int) ≤ 4611686018427387904), hrow, Int.toNat_natCast]
    refine Ans.yes (by omega) (Ans.yes (by omega) (Ans.yes (by omega) (Ans.yes (by omega) (Ans.yes (by omega) ?_))))
    have hj : j < (y.getD i []).length := by omega
    obtain ⟨t1, _⟩ := take_set_drop (y.getD i []) j (v j) hj
    have hget : (y.set i ((y.getD i []).set j (v j))).getD i [] = (y.getD i []).set j (v j) := by
      rw [getD_at _ _ (by simpa using h2)]; simp
    have := ih (j + 1) (y.set i ((y.getD i []).set j (v j))) (by omega) (by simpa using h2) (by rw [hget]; simpa using h3) (by
      rw [hget, List.set_set, t1, List.append_assoc]
      rw [range_drop (show j < c by omega), List.map_cons] at e
      exact e)
    rwa [show ((j + 1 : Nat) : Int) = (j : Int) + 1 by omega] at this
theorem table (r c : Nat) (hr : r ≤ 1048576) (hc : c ≤ 1048576) (g : Int → Int → Option Int) (v : Nat → Nat → Int) (hg : ∀ i j : Nat, i < r → j < c → g i j = some (v i j)) : Ans (fun k => impl_table.f k r c g) (tab r c v) := by
  have key : ∀ (d i : Nat) (y : List (List Int)), i + d = r → y.length = r → Ans (fun k => impl_table.l0 k c g y (r : Int) i) (y.take i ++ ((List.range r).drop i).map fun i => (List.range c).map fun j => v i j) := by
    intro d
    induction d with
    | zero =>
      intro i y h1 h2
      rw [List.drop_eq_nil_of_le (by simp only [List.length_range]; omega), List.map_nil, List.append_nil, List.take_of_length_le (by omega)]; refine Ans.step ?_
      simp only [impl_table.l0]; exact Ans.not (by omega) (Ans.pure _)
    | succ d ih =>
      intro i y h1 h2
      have hi : i < y.length := by omega
      have hget : (y.set i (List.replicate c 0)).getD i [] = List.replicate c 0 := by rw [getD_at _ _ (by simpa using hi)]; simp
      obtain ⟨t1, _⟩ := take_set_drop y i ((List.range c).map fun j => v i j) hi
      have e := ih (i + 1) (y.set i ((List.range c).map fun j => v i j)) (by omega) (by simpa using h2)
      rw [t1, List.append_assoc, List.singleton_append] at e
      rw [range_drop (show i < r by omega), List.map_cons]
      have hrow : rd_L1 (y.set i (List.replicate c 0)) (i : Int) = List.replicate c 0 := by unfold rd_L1; rw [Int.toNat_natCast]; exact hget
      refine Ans.step ?_
      simp only [impl_table.l0, Option.bind_some, Int.toNat_natCast, hrow, List.length_replicate]
      refine Ans.yes (by omega) (Ans.yes (by omega) (Ans.yes (by omega) (Ans.yes (by omega) (Ans.yes (by omega) ?_))))
      have := table_row c hc g (v i) (r : Int) i (by omega) (fun j hj => hg i j (by omega) hj) c 0 (y.set i (List.replicate c 0)) (by omega) (by simpa using hi) (by rw [hget]; simp) (by
        rw [List.set_set, List.take_zero, List.drop_zero, List.nil_append]; exact e)
      exact this
  simp only [impl_table.f, Option.bind_some, Int.toNat_natCast, List.length_replicate]
  refine Ans.yes (by omega) (Ans.yes (by omega) ?_)
  have := key r 0 (List.replicate r []) (by omega) (by simp)
  simpa [tab] using this
def cmpI (a b : Int) : Int := if a < b then -1 else if a > b then 1 else 0
theorem cmpI_zero {a b : Int} : cmpI a b = 0 ↔ a = b := by
  unfold cmpI; split
  · constructor <;> intro h <;> omega
  · split
    · constructor <;> intro h <;> omega
    · constructor <;> intro h <;> omega
def lexBy {α : Type} (c : α → α → Int) : List α → List α → Int
  | [], [] => 0
  | [], _ :: _ => -1
  | _ :: _, [] => 1
  | a :: x, b :: y => if c a b = 0 then lexBy c x y else c a b
theorem lexBy_zero {α : Type} {c : α → α → Int} (hc : ∀ a b, c a b = 0 ↔ a = b) : ∀ (x y : List α), lexBy c x y = 0 ↔ x = y
  | [], [] => by simp [lexBy]
  | [], _ :: _ => by simp [lexBy]
  | _ :: _, [] => by simp [lexBy]
  | a :: x, b :: y => by
    rw [lexBy]
    by_cases h : c a b = 0
    · rw [if_pos h, lexBy_zero hc x y, (hc a b).mp h]; simp
    · rw [if_neg h]; constructor
      · intro e; exact absurd e h
      · intro e; exact absurd ((hc a b).mpr (List.cons.inj e).1) h
def cmpL : List Int → List Int → Int := lexBy cmpI
def cmpLL : List (List Int) → List (List Int) → Int := lexBy cmpL
theorem cmpL_zero (x y : List Int) : cmpL x y = 0 ↔ x = y := lexBy_zero (fun _ _ => cmpI_zero) x y
theorem cmpLL_zero (x y : List (List Int)) : cmpLL x y = 0 ↔ x = y := lexBy_zero cmpL_zero x y
theorem cmpInt (a b : Int) : cmp_Compare_int.f a b = some (cmpI a b) := by
  simp only [cmp_Compare_int.f, cmp_isNaN_int.f, Option.bind_some, cmpI]
  simp
  repeat' split
  all_goals rfl
theorem compare (x y : List Int) (hx : x.length ≤ 17592186044416) (hy : y.length ≤ 17592186044416) (k : Nat) (hk : x.length < k) : slices_Compare_int_int.f k x y = some (cmpL x y) := by
  have key : ∀ (d : Nat) (i : Int), 0 ≤ i → i + d = x.length → i ≤ y.length → ∀ k, d < k → slices_Compare_int_int.l0 k x y x (x.length : Int) i = some (cmpL (x.drop i.toNat) (y.drop i.toNat)) := by
    intro d
    induction d with
    | zero =>
      intro i h0 h1 h2 k hk; obtain ⟨j, rfl⟩ : ∃ j, k = j + 1 := ⟨k - 1, by omega⟩
      unfold slices_Compare_int_int.l0
      rw [if_neg (by omega), drop_all x (by omega)]
      by_cases c : (x.length : Int) < (y.length : Int)
      · rw [if_pos c, drop_at y 0 (show i.toNat < y.length by omega)]; rfl
      · rw [if_neg c, drop_all y (by omega)]; rfl
    | succ d ih =>
      intro i h0 h1 h2 k hk; obtain ⟨j, rfl⟩ : ∃ j, k = j + 1 := ⟨k - 1, by omega⟩
      unfold slices_Compare_int_int.l0
      rw [if_pos (by omega), if_pos h0, if_pos (by omega), drop_at x 0 (show i.toNat < x.length by omega)]
      by_cases c : i ≥ (y.length : Int)
      · rw [if_pos c, drop_all y (by omega)]; rfl
      · rw [if_neg c, if_pos (by omega), cmpInt, Option.bind_some, drop_at y 0 (show i.toNat < y.length by omega), wrap64_up h0 (by omega)]
        show (if cmpI (rd x i) (rd y i) = 0 then _ else _) = some (if cmpI (rd x i) (rd y i) = 0 then lexBy cmpI (x.drop (i.toNat + 1)) (y.drop (i.toNat + 1)) else cmpI (rd x i) (rd y i))
        by_cases q : cmpI (rd x i) (rd y i) = 0
        · rw [if_pos q, if_pos q, ih (i + 1) (by omega) (by omega) (by omega) j (by omega), show (i + 1).toNat = i.toNat + 1 by omega]; rfl
        · rw [if_neg q, if_neg q]
  exact key x.length 0 (by omega) (by omega) (by omega) k (by omega)
theorem compareTables (x y : List (List Int)) (hx : x.length ≤ 1048576) (hy : y.length ≤ 1048576) (hrx : ∀ r ∈ x, r.length ≤ 1048576) (hry : ∀ r ∈ y, r.length ≤ 1048576) : Ans (fun k => impl_compareTables.f k x y) (cmpLL x y) := by
  refine Ans.from 1048577 fun k0 hk0 => ?_
  unfold impl_compareTables.f slices_CompareFunc_int_int_int_int.f
  have key : ∀ (d : Nat) (i : Int), 0 ≤ i → i + d = x.length → i ≤ y.length → ∀ k, d < k → slices_CompareFunc_int_int_int_int.l0 k x y (fun x0_ x1_ => impl_compareTables_1.f k0 x0_ x1_) x (x.length : Int) i = some (cmpLL (x.drop i.toNat) (y.drop i.toNat)) := by
    intro d
    induction d with
    | zero =>
      intro i h0 h1 h2 k hk; obtain ⟨j, rfl⟩ : ∃ j, k = j + 1 := ⟨k - 1, by omega⟩
      unfold slices_CompareFunc_int_int_int_int.l0
      rw [if_neg (by omega), drop_all x (by omega)]
      by_cases c : (x.length : Int) < (y.length : Int)
      · rw [if_pos c, drop_at y [] (show i.toNat < y.length by omega)]; rfl
      · rw [if_neg c, drop_all y (by omega)]; rfl
    | succ d ih =>
      intro i h0 h1 h2 k hk; obtain ⟨j, rfl⟩ : ∃ j, k = j + 1 := ⟨k - 1, by omega⟩
      unfold slices_CompareFunc_int_int_int_int.l0
      rw [if_pos (by omega), if_pos h0, if_pos (by omega), drop_at x [] (show i.toNat < x.length by omega)]
      by_cases c : i ≥ (y.length : Int)
      · rw [if_pos c, drop_all y (by omega)]; rfl
      · have m1 := hrx _ (rd_L1_mem h0 (show i < x.length by omega))
        have m2 := hry _ (rd_L1_mem h0 (show i < y.length by omega))
        rw [if_neg c, if_pos (by omega)]
        simp only [impl_compareTables_1.f]
        rw [compare _ _ (by omega) (by omega) k0 (by omega), Option.bind_some, Option.bind_some, drop_at y [] (show i.toNat < y.length by omega), wrap64_up h0 (by omega)]
        show (if cmpL (rd_L1 x i) (rd_L1 y i) = 0 then _ else _) = some (if cmpL (rd_L1 x i) (rd_L1 y i) = 0 then lexBy cmpL (x.drop (i.toNat + 1)) (y.drop (i.toNat + 1)) else cmpL (rd_L1 x i) (rd_L1 y i))
        by_cases q : cmpL (rd_L1 x i) (rd_L1 y i) = 0
        · rw [if_pos q, if_pos q]
          have := ih (i + 1) (by omega) (by omega) (by omega) j (by omega)
          simp only [impl_compareTables_1.f] at this
          rw [this, show (i + 1).toNat = i.toNat + 1 by omega]; rfl
        · rw [if_neg q, if_neg q]
  have := key x.length 0 (by omega) (by omega) (by omega) k0 (by omega)
  rw [this]; rfl
theorem l1Same (x y : List Int) (hx : x.length ≤ 17592186044416) : Ans (fun k => spec_l1Same.f k x y) (decide (x = y)) := by
  simp only [spec_l1Same.f]
  by_cases hl : (x.length : Int) = (y.length : Int)
  case neg => rw [decide_eq_false (fun h => hl (by rw [h]))]; exact Ans.not hl (Ans.pure _)
  have key : ∀ (d : Nat) (i : Int), 0 ≤ i → i + d = x.length → Ans (fun k => spec_l1Same.l0 k x y (x.length : Int) i) (decide (x.drop i.toNat = y.drop i.toNat)) := by
    intro d
    induction d with
    | zero =>
      intro i h0 h1
      rw [List.drop_eq_nil_of_le (by omega), List.drop_eq_nil_of_le (by omega)]; refine Ans.step ?_
      simp only [spec_l1Same.l0]; exact Ans.not (by omega) (Ans.pure _)
    | succ d ih =>
      intro i h0 h1
      have e := ih (i + 1) (by omega) (by omega)
      rw [show (i + 1).toNat = i.toNat + 1 by omega] at e
      rw [drop_at x 0 (show i.toNat < x.length by omega), drop_at y 0 (show i.toNat < y.length by omega), show x.getD i.toNat 0 = rd x i from rfl, show y.getD i.toNat 0 = rd y i from rfl]
      refine Ans.step ?_
      simp only [spec_l1Same.l0, wrap64_up h0 (by omega : i ≤ 4611686018427387904)]
      refine Ans.yes (by omega) (Ans.yes h0 (Ans.yes (by omega) (Ans.yes (by omega) ?_)))
      by_cases c : rd x i = rd y i
      · rw [show decide (rd x i :: x.drop (i.toNat + 1) = rd y i :: y.drop (i.toNat + 1)) = decide (x.drop (i.toNat + 1) = y.drop (i.toNat + 1)) from decide_eq_decide.mpr ⟨fun h => (List.cons.inj h).2, fun h => by rw [c, h]⟩]; exact Ans.yes c e
      · rw [decide_eq_false (fun h => c (List.cons.inj h).1)]; exact Ans.not c (Ans.pure _)
  exact Ans.yes hl (key x.length 0 (by omega) (by omega))
theorem weSame (x y : List (List Int)) (hx : x.length ≤ 17592186044416) (hr : ∀ r ∈ x, r.length ≤ 17592186044416) : Ans (fun k => spec_weSame.f k x y) (decide (x = y)) := by
  simp only [spec_weSame.f]
  by_cases hl : (x.length : Int) = (y.length : Int)
  case neg => rw [decide_eq_false (fun h => hl (by rw [h]))]; exact Ans.not hl (Ans.pure _)
  have key : ∀ (d : Nat) (i : Int), 0 ≤ i → i + d = x.length → Ans (fun k => spec_weSame.l0 k y x (x.length : Int) i) (decide (x.drop i.toNat = y.drop i.toNat)) := by
    intro d
    induction d with
    | zero =>
      intro i h0 h1
      rw [List.drop_eq_nil_of_le (by omega), List.drop_eq_nil_of_le (by omega)]; refine Ans.step ?_
      simp only [spec_weSame.l0]; exact Ans.not (by omega) (Ans.pure _)
    | succ d ih =>
      intro i h0 h1
      have e := ih (i + 1) (by omega) (by omega)
      rw [show (i + 1).toNat = i.toNat + 1 by omega] at e
      have hm := hr _ (rd_L1_mem h0 (show i < x.length by omega))
      rw [drop_at x [] (show i.toNat < x.length by omega), drop_at y [] (show i.toNat < y.length by omega), show x.getD i.toNat [] = rd_L1 x i from rfl, show y.getD i.toNat [] = rd_L1 y i from rfl]
      refine Ans.step ?_
      simp only [spec_weSame.l0, wrap64_up h0 (by omega : i ≤ 4611686018427387904)]
      refine Ans.yes (by omega) (Ans.yes h0 (Ans.yes (by omega) (Ans.yes (by omega) ((l1Same _ _ hm).bind ?_))))
      by_cases c : rd_L1 x i = rd_L1 y i
      · rw [decide_eq_true c, show decide (rd_L1 x i :: x.drop (i.toNat + 1) = rd_L1 y i :: y.drop (i.toNat + 1)) = decide (x.drop (i.toNat + 1) = y.drop (i.toNat + 1)) from decide_eq_decide.mpr ⟨fun h => (List.cons.inj h).2, fun h => by rw [c, h]⟩]; exact Ans.yes rfl e
      · rw [decide_eq_false c, decide_eq_false (fun h => c (List.cons.inj h).1)]; exact Ans.not (by simp) (Ans.pure _)
  exact Ans.yes hl (key x.length 0 (by omega) (by omega))
/-- Square, with n rows. -/
def Sq (n : Nat) (x : List (List Int)) : Prop := x.length = n ∧ ∀ r ∈ x, r.length = n
theorem Sq.row {n : Nat} {x : List (List Int)} (h : Sq n x) {i : Nat} (hi : i < n) : (x.getD i []).length = n := h.2 _ (getD_mem [] (by rw [h.1]; exact hi))
theorem tab_is {n : Nat} {y : List (List Int)} (h : Sq n y) (v : Nat → Nat → Int) (hv : ∀ i j : Nat, i < n → j < n → v i j = (y.getD i []).getD j 0) : tab n n v = y := by
  refine List.ext_getElem (by simp [tab, h.1]) fun i h1 h2 => ?_
  have hi : i < n := by rw [← h.1]; exact h2
  have hr := h.row hi
  rw [show (tab n n v)[i] = (List.range n).map (fun j => v i j) by simp [tab], ← getD_at y [] h2]
  refine List.ext_getElem (by simp only [List.length_map, List.length_range]; exact hr.symm) fun j g1 g2 => ?_
  rw [List.getElem_map, List.getElem_range, hv i j hi (by rw [← hr]; exact g2), getD_at _ _ g2]
theorem ext_sq {n : Nat} {x y : List (List Int)} (hx : Sq n x) (hy : Sq n y) (h : ∀ i j : Nat, i < n → j < n → (x.getD i []).getD j 0 = (y.getD i []).getD j 0) : x = y := by
  rw [← tab_is hx (fun i j => (x.getD i []).getD j 0) (fun _ _ _ _ => rfl), tab_is hy _ h]
def mir (x : List (List Int)) : List (List Int) := x.map List.reverse
def tr (x : List (List Int)) : List (List Int) := (List.range x.length).map fun (j : Nat) => colOf x j
def cw (x : List (List Int)) : List (List Int) := mir (tr x)
theorem mir_sq {n : Nat} {x : List (List Int)} (h : Sq n x) : Sq n (mir x) := ⟨by simp [mir, h.1], fun r hr => by obtain ⟨a, ha, rfl⟩ := List.mem_map.1 hr; rw [List.length_reverse]; exact h.2 a ha⟩
theorem tr_sq {n : Nat} {x : List (List Int)} (h : Sq n x) : Sq n (tr x) := ⟨by simp [tr, h.1], fun r hr => by obtain ⟨a, ha, rfl⟩ := List.mem_map.1 hr; simp [colOf, h.1]⟩
theorem cw_sq {n : Nat} {x : List (List Int)} (h : Sq n x) : Sq n (cw x) := mir_sq (tr_sq h)
theorem rev_at (x : List Int) {n j : Nat} (hl : x.length = n) (h : j < n) : x.reverse.getD j 0 = x.getD (n - 1 - j) 0 := by
  rw [getD_at _ _ (by simp; omega), getD_at _ _ (by omega), List.getElem_reverse]; congr 1; omega
theorem mir_at {n : Nat} {x : List (List Int)} (h : Sq n x) {i j : Nat} (hi : i < n) (hj : j < n) : ((mir x).getD i []).getD j 0 = (x.getD i []).getD (n - 1 - j) 0 := by
  rw [show (mir x).getD i [] = (x.getD i []).reverse by rw [getD_at _ _ (by simp [mir, h.1]; exact hi), getD_at _ _ (by rw [h.1]; exact hi)]; simp [mir], rev_at _ (h.row hi) hj]
theorem tr_at {n : Nat} {x : List (List Int)} (h : Sq n x) {i j : Nat} (hi : i < n) (hj : j < n) : ((tr x).getD i []).getD j 0 = (x.getD j []).getD i 0 := by
  have e : (tr x).getD i [] = colOf x (i : Int) := by rw [getD_at _ _ (by simp [tr, h.1]; exact hi)]; simp [tr]
  rw [e, getD_at _ _ (by simp [colOf, h.1]; exact hj), getD_at x [] (by rw [h.1]; exact hj)]
  simp [colOf, rd]
theorem turned (n : Nat) (x : List (List Int)) (h : Sq n x) (hn : n ≤ 1048576) : Ans (fun k => impl_turned.f k x) (cw x) := by
  simp only [impl_turned.f, h.1]
  have hg : ∀ i j : Nat, i < n → j < n → impl_turned_1.f i j x (n : Int) = some ((x.getD (n - 1 - j) []).getD i 0) := by
    intro i j hi hj
    have w1 : wrap64 ((n : Int) - 1) = (n : Int) - 1 := wrap64_in _ ⟨by omega, by omega⟩
    have w2 : wrap64 ((n : Int) - 1 - (j : Int)) = ((n - 1 - j : Nat) : Int) := by rw [wrap64_in _ ⟨by omega, by omega⟩]; omega
    have hr : (rd_L1 x ((n - 1 - j : Nat) : Int)).length = n := h.2 _ (rd_L1_mem (by omega) (by rw [h.1]; omega))
    have hl := h.1
    simp only [impl_turned_1.f, w1, w2]
    rw [if_pos (by omega), if_pos (by omega), if_pos (by omega), if_pos (by omega)]
    simp only [rd, rd_L1, Int.toNat_natCast]
  have e := table n n hn hn (fun x0_ x1_ => impl_turned_1.f x0_ x1_ x (n : Int)) _ hg
  rw [tab_is (cw_sq h) _ (fun i j hi hj => by rw [cw, mir_at (tr_sq h) hi hj, tr_at h hi (by omega)])] at e
  exact e.bind (Ans.pure _)
theorem mirrored (n : Nat) (x : List (List Int)) (h : Sq n x) (hn : n ≤ 1048576) : Ans (fun k => impl_mirrored.f k x) (mir x) := by
  simp only [impl_mirrored.f, h.1]
  have hg : ∀ i j : Nat, i < n → j < n → impl_mirrored_1.f i j x (n : Int) = some ((x.getD i []).getD (n - 1 - j) 0) := by
    intro i j hi hj
    have w1 : wrap64 ((n : Int) - 1) = (n : Int) - 1 := wrap64_in _ ⟨by omega, by omega⟩
    have w2 : wrap64 ((n : Int) - 1 - (j : Int)) = ((n - 1 - j : Nat) : Int) := by rw [wrap64_in _ ⟨by omega, by omega⟩]; omega
    have hr : (rd_L1 x (i : Int)).length = n := h.2 _ (rd_L1_mem (by omega) (by rw [h.1]; omega))
    have hl := h.1
    simp only [impl_mirrored_1.f, w1, w2]
    rw [if_pos (by omega), if_pos (by omega), if_pos (by omega), if_pos (by omega)]
    simp only [rd, rd_L1, Int.toNat_natCast]
  have e := table n n hn hn (fun x0_ x1_ => impl_mirrored_1.f x0_ x1_ x (n : Int)) _ hg
  rw [tab_is (mir_sq h) _ (fun i j hi hj => by rw [mir_at h hi hj])] at e
  exact e.bind (Ans.pure _)
theorem sgMirror (x : List (List Int)) (h : x.length ≤ 1048576) (hr : ∀ r ∈ x, r.length ≤ 1048576) : Ans (fun k => spec_sgMirror.f k x) (mir x) := by
  have inner : ∀ (out : List (List Int)) (row : List Int) (m : Int) (R : List (List Int)), row.length ≤ 1048576 → 0 ≤ m → m ≤ 1048576 → out.length ≤ 1048576 → ∀ (d : Nat) (acc : List Int), d ≤ row.length → acc.length + d ≤ 1048576 →
      Ans (fun k => spec_sgMirror.l0 k (out ++ [acc ++ (row.take d).reverse]) x (x.length : Int) (m + 1)) R → Ans (fun k => spec_sgMirror.l1 k out row acc ((d : Int) - 1) x (x.length : Int) m) R := by
    intro out row m R hrow hm hm' ho d
    induction d with
    | zero =>
      intro acc h2 h3 e
      rw [List.take_zero, List.reverse_nil, List.append_nil] at e
      refine Ans.step ?_
      simp only [spec_sgMirror.l1, wrap64_up hm (by omega : m ≤ 4611686018427387904)]
      exact Ans.not (by omega) (Ans.yes (by omega) e)
    | succ d ih =>
      intro acc h2 h3 e
      rw [take_up row 0 (show d < row.length by omega), List.reverse_append, List.reverse_singleton, List.singleton_append] at e
      have hj : ((d + 1 : Nat) : Int) - 1 = (d : Int) := by omega
      have := ih (acc ++ [rd row d]) (by omega) (by simp only [List.length_append, List.length_singleton]; omega) (by
        rw [List.append_assoc, List.singleton_append, show rd row (d : Int) = row.getD d 0 by unfold rd; rw [Int.toNat_natCast]]; exact e)
      refine Ans.step ?_
      simp only [spec_sgMirror.l1, hj, wrap64_down (show (0 : Int) ≤ (d : Int) by omega) (by omega : (d : Int) ≤ 4611686018427387904)]
      exact Ans.yes (by omega) (Ans.yes (by omega) (Ans.yes (by omega) (Ans.yes (by omega) this)))
  have key : ∀ (d : Nat) (i : Int) (out : List (List Int)), 0 ≤ i → i + d = x.length → out.length + d ≤ 1048576 → Ans (fun k => spec_sgMirror.l0 k out x (x.length : Int) i) (out ++ mir (x.drop i.toNat)) := by
    intro d
    induction d with
    | zero =>
      intro i out h0 h1 h2
      rw [List.drop_eq_nil_of_le (by omega), mir, List.map_nil, List.append_nil]; refine Ans.step ?_
      simp only [spec_sgMirror.l0]; exact Ans.not (by omega) (Ans.pure _)
    | succ d ih =>
      intro i out h0 h1 h2
      have hm := hr _ (rd_L1_mem h0 (show i < x.length by omega))
      have e := ih (i + 1) (out ++ [(rd_L1 x i).reverse]) (by omega) (by omega) (by simp only [List.length_append, List.length_singleton]; omega)
      rw [show (i + 1).toNat = i.toNat + 1 by omega, List.append_assoc, List.singleton_append] at e
      rw [drop_at x [] (show i.toNat < x.length by omega), show x.getD i.toNat [] = rd_L1 x i from rfl]
      have hw : wrap64 (((rd_L1 x i).length : Int) - 1) = ((rd_L1 x i).length : Int) - 1 := wrap64_in _ ⟨by omega, by omega⟩
      refine Ans.step ?_
      simp only [spec_sgMirror.l0, hw]
      refine Ans.yes (by omega) (Ans.yes h0 (Ans.yes (by omega) (inner out _ i _ hm h0 (by omega) (by omega) _ [] (Nat.le_refl _) (by simp only [List.length_nil]; omega) ?_)))
      rw [List.nil_append, List.take_length]; exact e
  exact key x.length 0 [] (by omega) (by omega) (by simp only [List.length_nil]; omega)
theorem sgClockwise (n : Nat) (x : List (List Int)) (h : Sq n x) (hn : n ≤ 1048576) : Ans (fun k => spec_sgClockwise.f k x) (cw x) := by
  have hl := h.1
  simp only [spec_sgClockwise.f]
  have s := tr_sq h
  exact (sgTurn x (by omega) (fun r hr => by rw [h.2 r hr, hl])).bind ((sgMirror (tr x) (by rw [s.1]; omega) (fun r hr => by rw [s.2 r hr]; omega)).bind (Ans.pure _))
/-- All images. -/
def images (x : List (List Int)) : List (List (List Int)) := [x, cw x, cw (cw x), cw (cw (cw x)), mir x, mir (cw x), mir (cw (cw x)), mir (cw (cw (cw x)))]
theorem smSymmetries (n : Nat) (x : List (List Int)) (h : Sq n x) (hn : n ≤ 1048576) : Ans (fun k => spec_smSymmetries.f k x) (images x) := by
  have s1 := cw_sq h; have s2 := cw_sq s1; have s3 := cw_sq s2
  have M : ∀ y, Sq n y → Ans (fun k => spec_sgMirror.f k y) (mir y) := fun y hy => sgMirror y (by rw [hy.1]; exact hn) (fun r hr => by rw [hy.2 r hr]; exact hn)
  simp only [spec_smSymmetries.f]
  refine Ans.step ?_; simp only [spec_smSymmetries.l0, w01, w12, w23, w34]
  refine Ans.yes (by decide) ((sgClockwise n x h hn).bind (Ans.yes (by simp) (Ans.step ?_))); simp only [spec_smSymmetries.l0, w01, w12, w23, w34]
  refine Ans.yes (by decide) ((sgClockwise n _ s1 hn).bind (Ans.yes (by simp) (Ans.step ?_))); simp only [spec_smSymmetries.l0, w01, w12, w23, w34]
  refine Ans.yes (by decide) ((sgClockwise n _ s2 hn).bind (Ans.yes (by simp) (Ans.step ?_))); simp only [spec_smSymmetries.l0, w01, w12, w23, w34]
  refine Ans.not (by decide) (Ans.step ?_); simp only [spec_smSymmetries.l1, w01, w12, w23, w34]
  refine Ans.yes (by decide) (Ans.yes (by decide) (Ans.yes (by simp) (Ans.bind (a := mir x) (M x h) (Ans.yes (by simp) (Ans.step ?_))))); simp only [spec_smSymmetries.l1, w01, w12, w23, w34]
  refine Ans.yes (by decide) (Ans.yes (by decide) (Ans.yes (by first | (simp; done) | (simp; decide)) (Ans.bind (a := mir (cw x)) (M _ s1) (Ans.yes (by simp) (Ans.step ?_))))); simp only [spec_smSymmetries.l1, w01, w12, w23, w34]
  refine Ans.yes (by decide) (Ans.yes (by decide) (Ans.yes (by first | (simp; done) | (simp; decide)) (Ans.bind (a := mir (cw (cw x))) (M _ s2) (Ans.yes (by simp) (Ans.step ?_))))); simp only [spec_smSymmetries.l1, w01, w12, w23, w34]
  refine Ans.yes (by decide) (Ans.yes (by decide) (Ans.yes (by first | (simp; done) | (simp; decide)) (Ans.bind (a := mir (cw (cw (cw x)))) (M _ s3) (Ans.yes (by simp) (Ans.step ?_))))); simp only [spec_smSymmetries.l1, w01, w12, w23, w34]
  exact Ans.not (by decide) (Ans.pure _)
theorem eight (n : Nat) (x : List (List Int)) (h : Sq n x) (hn : n ≤ 1048576) : Ans (fun k => impl_eight.f k x) (images x) := by
  have s1 := cw_sq h; have s2 := cw_sq s1; have s3 := cw_sq s2
  simp only [impl_eight.f]
  refine Ans.step ?_; simp only [impl_eight.l0, w01, w12, w23, w34]
  refine Ans.yes (by decide) (Ans.yes (by simp) ((turned n x h hn).bind (Ans.step ?_))); simp only [impl_eight.l0, w01, w12, w23, w34]
  refine Ans.yes (by decide) (Ans.yes (by simp) ((turned n _ s1 hn).bind (Ans.step ?_))); simp only [impl_eight.l0, w01, w12, w23, w34]
  refine Ans.yes (by decide) (Ans.yes (by simp) ((turned n _ s2 hn).bind (Ans.step ?_))); simp only [impl_eight.l0, w01, w12, w23, w34]
  refine Ans.yes (by decide) (Ans.yes (by simp) ((turned n _ s3 hn).bind (Ans.step ?_))); simp only [impl_eight.l0, w01, w12, w23, w34]
  refine Ans.not (by decide) (Ans.step ?_); simp only [impl_eight.l1, w01, w12, w23, w34]
  refine Ans.yes (by decide) (Ans.yes (by decide) (Ans.yes (by simp) (Ans.bind (a := mir x) (mirrored n x h hn) (Ans.yes (by simp) (Ans.step ?_))))); simp only [impl_eight.l1, w01, w12, w23, w34]
  refine Ans.yes (by decide) (Ans.yes (by decide) (Ans.yes (by first | (simp; done) | (simp; decide)) (Ans.bind (a := mir (cw x)) (mirrored n _ s1 hn) (Ans.yes (by simp) (Ans.step ?_))))); simp only [impl_eight.l1, w01, w12, w23, w34]
  refine Ans.yes (by decide) (Ans.yes (by decide) (Ans.yes (by first | (simp; done) | (simp; decide)) (Ans.bind (a := mir (cw (cw x))) (mirrored n _ s2 hn) (Ans.yes (by simp) (Ans.step ?_))))); simp only [impl_eight.l1, w01, w12, w23, w34]
  refine Ans.yes (by decide) (Ans.yes (by decide) (Ans.yes (by first | (simp; done) | (simp; decide)) (Ans.bind (a := mir (cw (cw (cw x)))) (mirrored n _ s3 hn) (Ans.yes (by simp) (Ans.step ?_))))); simp only [impl_eight.l1, w01, w12, w23, w34]
  exact Ans.not (by decide) (Ans.pure _)
theorem sign_sq {x : List (List Int)} (s : sign x = true) : Sq x.length x ∧ x.length ≤ 6 := by
  unfold sign at s
  rw [Bool.and_eq_true] at s
  obtain ⟨b1, b2, b3⟩ := square_of s.1
  exact ⟨⟨rfl, b3⟩, b2⟩
theorem cmpSame (x y : List (List Int)) : (cmpLL x y == 0) = decide (x = y) := by
  rw [Bool.eq_iff_iff, beq_iff_eq, decide_eq_true_iff, cmpLL_zero]
theorem tablesSame (n : Nat) (x y : List (List Int)) (hx : Sq n x) (hy : Sq n y) (hn : n ≤ 1048576) : Ans (fun k => impl_compareTables.f k x y) (cmpLL x y) :=
  compareTables x y (by rw [hx.1]; exact hn) (by rw [hy.1]; exact hn) (fun r hr => by rw [hx.2 r hr]; exact hn) (fun r hr => by rw [hy.2 r hr]; exact hn)
theorem sameW (n : Nat) (x y : List (List Int)) (hx : Sq n x) (hn : n ≤ 1048576) : Ans (fun k => spec_weSame.f k x y) (decide (x = y)) :=
  weSame x y (by rw [hx.1]; omega) (fun r hr => by rw [hx.2 r hr]; omega)
/-- Whether a matrix has the symmetries of a kind. -/
def hasK (x : List (List Int)) (k : Int) : Bool :=
  if k = 0 then decide (cw (cw x) = x) else if k = 1 then decide (cw x = x) else if k = 2 then decide (mir x = x) else if k = 3 then decide (tr x = x) else decide (mir x = x) && decide (mir (cw (cw x)) = x)
theorem smHas (n : Nat) (x : List (List Int)) (h : Sq n x) (hn : n ≤ 1048576) (a : Int) : Ans (fun k => spec_smHas.f k x a) (hasK x a) := by
  have s1 := cw_sq h; have s2 := cw_sq s1
  have hl := h.1
  simp only [spec_smHas.f]
  refine (smSymmetries n x h hn).bind ?_
  unfold hasK
  by_cases c0 : a = 0
  · simp only [if_pos c0]; exact Ans.yes (by simp [images]) ((sameW n _ x s2 hn).bind (Ans.pure _))
  simp only [if_neg c0]
  by_cases c1 : a = 1
  · simp only [if_pos c1]; exact Ans.yes (by simp [images]) ((sameW n _ x s1 hn).bind (Ans.pure _))
  simp only [if_neg c1]
  by_cases c2 : a = 2
  · simp only [if_pos c2]; exact Ans.yes (by simp [images]) ((sameW n _ x (mir_sq h) hn).bind (Ans.pure _))
  simp only [if_neg c2]
  by_cases c3 : a = 3
  · simp only [if_pos c3]; exact (sgTurn x (by omega) (fun r hr => by rw [h.2 r hr, hl])).bind ((sameW n _ x (tr_sq h) hn).bind (Ans.pure _))
  simp only [if_neg c3]
  refine Ans.yes (by simp [images]) ((sameW n _ x (mir_sq h) hn).bind ?_)
  by_cases q : mir x = x
  · rw [decide_eq_true q, Bool.true_and]
    exact Ans.yes rfl (Ans.yes (by simp [images]) ((sameW n _ x (mir_sq s2) hn).bind (Ans.pure _)))
  · rw [decide_eq_false q, Bool.false_and]; exact Ans.not (by simp) (Ans.pure _)
theorem hasKind (n : Nat) (x : List (List Int)) (h : Sq n x) (hn : n ≤ 1048576) (a : Int) : Ans (fun k => impl_hasKind.f k x a) (hasK x a) := by
  have s1 := cw_sq h; have s2 := cw_sq s1
  have same : ∀ y, Sq n y → Ans (fun k => impl_hasKind_1.f k y x) (decide (y = x)) := fun y hy => by
    simp only [impl_hasKind_1.f]
    have := (tablesSame n y x hy h hn).bind (h := fun _ t => some (t == 0)) (Ans.pure _)
    rwa [cmpSame] at this
  have trans : Ans (fun k => impl_transposed.f k x) (tr x) := by
    simp only [impl_transposed.f, h.1]
    have hg : ∀ i j : Nat, i < n → j < n → impl_transposed_1.f i j x = some ((x.getD j []).getD i 0) := by
      intro i j hi hj
      have hr : (rd_L1 x (j : Int)).length = n := h.2 _ (rd_L1_mem (by omega) (by rw [h.1]; omega))
      have hl := h.1
      simp only [impl_transposed_1.f]
      rw [if_pos (by omega), if_pos (by omega), if_pos (by omega), if_pos (by omega)]
      simp only [rd, rd_L1, Int.toNat_natCast]
    have e := table n n hn hn (fun x0_ x1_ => impl_transposed_1.f x0_ x1_ x) _ hg
    rw [tab_is (tr_sq h) _ (fun i j hi hj => by rw [tr_at h hi hj])] at e
    exact e.bind (Ans.pure _)
  simp only [impl_hasKind.f]
  refine (eight n x h hn).bind ?_
  unfold hasK
  by_cases c0 : a = 0
  · simp only [if_pos c0]; exact Ans.yes (by simp [images]) ((same _ s2).bind (Ans.pure _))
  simp only [if_neg c0]
  by_cases c1 : a = 1
  · simp only [if_pos c1]; exact Ans.yes (by simp [images]) ((same _ s1).bind (Ans.pure _))
  simp only [if_neg c1]
  by_cases c2 : a = 2
  · simp only [if_pos c2]; exact Ans.yes (by simp [images]) ((same _ (mir_sq h)).bind (Ans.pure _))
  simp only [if_neg c2]
  by_cases c3 : a = 3
  · simp only [if_pos c3]; exact trans.bind ((same _ (tr_sq h)).bind (Ans.pure _))
  simp only [if_neg c3]
  refine Ans.yes (by simp [images]) ((same _ (mir_sq h)).bind ?_)
  by_cases q : mir x = x
  · rw [decide_eq_true q, Bool.true_and]
    exact Ans.yes rfl (Ans.yes (by simp [images]) ((same _ (mir_sq s2)).bind (Ans.pure _)))
  · rw [decide_eq_false q, Bool.false_and]; exact Ans.not (by simp) (Ans.pure _)
theorem hasSymmetry (x : List (List Int)) (hx : x.length ≤ 1048576) (a : Int) (res : Bool × Bool) (hres : res = if sign x = true then (if (0 ≤ a ∧ a ≤ 4) then (hasK x a, true) else (false, false)) else (false, false)) :
    Ans (fun k => impl_HasSymmetry.f k x a) res := by
  simp only [impl_HasSymmetry.f, impl_isKind.f, within, Option.bind_some]
  refine (isSign x hx).bind ?_
  by_cases s : sign x = true
  · obtain ⟨q, hq⟩ := sign_sq s
    rw [if_pos s] at hres
    refine Ans.yes s ?_
    by_cases c : 0 ≤ a ∧ a ≤ 4
    · rw [if_pos c] at hres; subst hres; exact Ans.yes (decide_eq_true c) ((hasKind _ x q (by omega) a).bind (Ans.pure _))
    · rw [if_neg c] at hres; subst hres; exact Ans.not (by simp only [decide_eq_true_iff]; exact c) (Ans.pure _)
  · rw [if_neg s] at hres; subst hres; exact Ans.not s (Ans.pure _)
theorem tab_rect {r c : Nat} {y : List (List Int)} (h1 : y.length = r) (h2 : ∀ a ∈ y, a.length = c) (v : Nat → Nat → Int) (hv : ∀ i j : Nat, i < r → j < c → v i j = (y.getD i []).getD j 0) : tab r c v = y := by
  refine List.ext_getElem (by simp [tab, h1]) fun i g1 g2 => ?_
  have hi : i < r := by rw [← h1]; exact g2
  have hr : (y.getD i []).length = c := h2 _ (getD_mem [] g2)
  rw [show (tab r c v)[i] = (List.range c).map (fun j => v i j) by simp [tab], ← getD_at y [] g2]
  refine List.ext_getElem (by simp only [List.length_map, List.length_range]; exact hr.symm) fun j p1 p2 => ?_
  rw [List.getElem_map, List.getElem_range, hv i j hi (by rw [← hr]; exact p2), getD_at _ _ p2]
theorem leftRows (x : List (List Int)) (n m : Nat) (h : Sq n x) (hn : n ≤ 100) (hm : m ≤ n) (hw : wrap64 ((x.length : Int) / 2) = (m : Int)) : ∀ (d : Nat) (i : Int) (acc : List (List Int)), 0 ≤ i → i + d = x.length → acc.length + d ≤ 100 →
    Ans (fun k => spec_LeftHalf.l0 k x acc x (x.length : Int) i) (acc ++ (x.drop i.toNat).map (List.take m), true) := by
  have hl := h.1
  intro d
  induction d with
  | zero =>
    intro i acc h0 h1 h2
    rw [drop_all x (by omega), List.map_nil, List.append_nil]; refine Ans.step ?_
    simp only [spec_LeftHalf.l0]; exact Ans.not (by omega) (Ans.pure _)
  | succ d ih =>
    intro i acc h0 h1 h2
    have hr := h.2 _ (rd_L1_mem h0 (show i < x.length by omega))
    have ht : ((rd_L1 x i).take m).length = m := by rw [List.length_take]; omega
    have e := ih (i + 1) (acc ++ [(rd_L1 x i).take m]) (by omega) (by omega) (by simp only [List.length_append, List.length_singleton]; omega)
    rw [show (i + 1).toNat = i.toNat + 1 by omega, List.append_assoc, List.singleton_append] at e
    rw [drop_at x [] (show i.toNat < x.length by omega), show x.getD i.toNat [] = rd_L1 x i from rfl]
    refine Ans.step ?_
    simp only [spec_LeftHalf.l0, hw, Int.toNat_natCast, spec_l1Own.f, Option.bind_some, List.nil_append, List.length_nil, if_pos (by omega : 0 + ((rd_L1 x i).take m).length < 17592186044416), wrap64_up h0 (by omega : i ≤ 4611686018427387904)]
    exact Ans.yes (by omega) (Ans.yes h0 (Ans.yes (by omega) (Ans.yes (by omega) (Ans.yes (by omega) (Ans.yes (by omega) e)))))
theorem FnExactLeftHalf : laws_FnExactLeftHalf.Pure := by
  intro x m0 w0
  unfold maxLen at m0 w0
  obtain ⟨s, es, hs⟩ := szIntSS x 1048576 (by omega) (by omega) (by omega) (fun r hr => (w0 r hr).1)
  obtain ⟨k2, e2⟩ := es.at
  refine ⟨k2, s, e2, fun h0 => ?_⟩
  have ht := hs h0
  have hx : x.length ≤ 1048576 := by omega
  have hr : ∀ r ∈ x, r.length ≤ 1048576 := fun r h => by have := len_total h; omega
  obtain ⟨z, b, ⟨hz, hz2⟩, e1, e3⟩ : ∃ (z : List (List Int)) (b : Bool), (z.length ≤ 6 ∧ ∀ r ∈ z, r.length ≤ 6) ∧ Ans (fun k => spec_LeftHalf.f k x) (z, b) ∧ Ans (fun k => impl_LeftHalf.f k x) (z, b) := by
    have no : Ans (fun k => spec_LeftHalf.j0 k x true) ([], false) := by
      refine Ans.step ?_; simp only [spec_LeftHalf.j0]; exact Ans.yes (by simp) (Ans.pure _)
    have hw : wrap64 ((x.length : Int) / 2) = ((x.length / 2 : Nat) : Int) := by rw [wrap64_in _ ⟨by omega, by omega⟩]; omega
    have hS := hasSymmetry x hx 2 _ rfl
    simp only [spec_LeftHalf.f, impl_LeftHalf.f, hw]
    by_cases s : sign x = true
    · obtain ⟨q, hq⟩ := sign_sq s
      rw [if_pos s, if_pos (by omega)] at hS
      by_cases c : hasK x 2 = true
      · rw [c] at hS
        have tl : ∀ r ∈ x.map (List.take (x.length / 2)), r.length = x.length / 2 := fun r hr => by
          obtain ⟨a, ha, rfl⟩ := List.mem_map.1 hr
          have := q.2 a ha
          rw [List.length_take]; omega
        have hg : ∀ i j : Nat, i < x.length → j < x.length / 2 → impl_LeftHalf_1.f i j x = some ((x.getD i []).getD j 0) := by
          intro i j hi hj
          have hr : (rd_L1 x (i : Int)).length = x.length := q.2 _ (rd_L1_mem (by omega) (by omega))
          simp only [impl_LeftHalf_1.f]
          rw [if_pos (by omega), if_pos (by omega), if_pos (by omega), if_pos (by omega)]
          simp only [rd, rd_L1, Int.toNat_natCast]
        have eT := table x.length (x.length / 2) hx (by omega) (fun x0_ x1_ => impl_LeftHalf_1.f x0_ x1_ x) _ hg
        rw [tab_rect (y := x.map (List.take (x.length / 2))) (by simp) tl _ (fun i j hi hj => by
          have hri : (x.getD i []).length = x.length := q.row hi
          have e1 : (x.map (List.take (x.length / 2))).getD i [] = (x.getD i []).take (x.length / 2) := by rw [getD_at _ _ (by simpa using hi), getD_at x [] hi]; simp
          have e2 : ((x.getD i []).take (x.length / 2)).getD j 0 = (x.getD i []).getD j 0 := by
            generalize x.getD i [] = row at hri
            rw [getD_at (row.take (x.length / 2)) 0 (by rw [List.length_take]; omega), getD_at row 0 (by omega), List.getElem_take]
          rw [e1, e2])] at eT
        refine ⟨x.map (List.take (x.length / 2)), true, ⟨by simpa using hq, fun r hr => by rw [tl r hr]; omega⟩, (sgGood x hx).bind (Ans.yes s ((smHas _ x q hx 2).bind ?_)), hS.bind (Ans.yes rfl (eT.bind (Ans.pure _)))⟩
        rw [c]; refine Ans.step ?_; simp only [spec_LeftHalf.j0]
        exact Ans.not (by simp) (leftRows x x.length (x.length / 2) q (by omega) (by omega) hw x.length 0 [] (by omega) (by omega) (by simp only [List.length_nil]; omega))
      · rw [Bool.eq_false_iff.mpr c] at hS
        refine ⟨[], false, by simp, (sgGood x hx).bind (Ans.yes s ((smHas _ x q hx 2).bind ?_)), hS.bind (Ans.not (by simp) (Ans.pure _))⟩
        rw [Bool.eq_false_iff.mpr c]; exact no
    · rw [if_neg s] at hS
      exact ⟨[], false, by simp, (sgGood x hx).bind (Ans.not s no), hS.bind (Ans.not (by simp) (Ans.pure _))⟩
  have hzt := total_le hz2
  have F := (Evn.of (toIntSS x (by omega) (fun r h => by have := hr r h; omega))).and ((Evn.of e1).and ((Evn.of e3).and ((Evn.of (eqIntSS z (by omega) (fun r h => by have := hz2 r h; omega))).and ((Evn.of (eqIntSS x (by omega) (fun r h => by have := hr r h; omega))).and ((Evn.of (markIntSS x 1 (by omega) (by omega) (by omega))).and ((Evn.of (markIntSS z 1 (by omega) (by omega) (by omega))).and (Evn.of (heldIntSS z 1 (by omega) (by omega) (by omega)))))))))
  obtain ⟨k, f0, f1, f2, f3, f4, f5, f6, f7⟩ := F.at
  exact ⟨k, z, b, _, _, _, _, f0, f1, f2, f3, f4, f5, by omega, f6, by omega, f7⟩

end Go.Proofs.Ythpnfjdpomadaaa.Pure
