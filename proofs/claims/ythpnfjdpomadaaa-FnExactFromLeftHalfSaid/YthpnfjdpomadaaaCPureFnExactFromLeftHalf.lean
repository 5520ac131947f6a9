/- For all rows the program's FromLeftHalf returns what the reference's returns, with its memory its own: no condition. -/
import Derived.Test.YthpnfjdpomadaaaCFnExactFromLeftHalfx2
import Derived.Test.YthpnfjdpomadaaaQTwo
namespace Go.Proofs.Ythpnfjdpomadaaa.Pure
open Go.RowKit Go.Proofs.Ythpnfjdpomadaaa.X Go.Proofs.YthpnfjdpomadaaaW.PrintWords Go.Proofs.YthpnfjdpomadaaaW.PrintLast Go.Proofs.Ythpnfjdpomadaaa.Q
set_option linter.unusedVariables false
set_option linter.unusedSimpArgs false
theorem len_le {x : List Int} (h : x.length ≤ 17592186044416) : (x.length : Int) ≤ 17592186044416 := by omega
theorem eqIntS_l0 (x : List Int) (hx : x.length ≤ 17592186044416) : ∀ (d : Nat) (i : Int), 0 ≤ i → i + d = x.length → ∀ k, d < k → laws_eqIntS.l0 k x x i = some true := by
  intro d
  induction d with
  | zero => intro i h0 h1 k hk; obtain ⟨j, rfl⟩ : ∃ j, k = j + 1 := ⟨k - 1, by omega⟩; unfold laws_eqIntS.l0; rw [if_neg (by omega)]
  | succ d ih =>
    intro i h0 h1 k hk; obtain ⟨j, rfl⟩ : ∃ j, k = j + 1 := ⟨k - 1, by omega⟩; unfold laws_eqIntS.l0
    rw [if_pos (by omega), if_pos h0, if_pos (by omega), if_pos rfl, wrap64_up h0 (by omega)]
    exact ih _ (by omega) (by omega) _ (by omega)
theorem eqIntS (x : List Int) (hx : x.length ≤ 17592186044416) : Ans (fun k => laws_eqIntS.f k x x) true :=
  Ans.from (x.length + 1) fun k hk => by unfold laws_eqIntS.f; rw [if_pos rfl]; exact eqIntS_l0 x hx x.length 0 (by omega) (by omega) _ (by omega)
/-- The row after marking from `n`: `n, n+1, ..`. -/
def upFrom (n : Int) (m : Nat) : List Int := (List.range m).map fun (i : Nat) => n + (i : Int)
theorem markIntS_l0 (x : List Int) (n : Int) (hn : 0 ≤ n) (hx : n + x.length ≤ 17592186044416) : ∀ (d : Nat) (y : List Int) (i : Int), y.length = x.length → (∀ j : Nat, j < i → y.getD j 0 = n + j) → 0 ≤ i → i + d = x.length → ∀ k, d < k →
    laws_markIntS.l0 k y (n + i) i = some (n + x.length, upFrom n x.length) := by
  intro d
  induction d with
  | zero =>
    intro y i hl hy h0 h1 k hk; obtain ⟨j, rfl⟩ : ∃ j, k = j + 1 := ⟨k - 1, by omega⟩; unfold laws_markIntS.l0; rw [if_neg (by omega)]
    have : y = upFrom n x.length := by
      refine List.ext_getElem (by simp [upFrom, hl]) fun m h2 h3 => ?_
      have := hy m (by omega)
      rw [getD_at _ _ h2] at this
      rw [this]; simp [upFrom]
    rw [this, show n + i = n + x.length by omega]
  | succ d ih =>
    intro y i hl hy h0 h1 k hk; obtain ⟨j, rfl⟩ : ∃ j, k = j + 1 := ⟨k - 1, by omega⟩; unfold laws_markIntS.l0
    rw [if_pos (by omega), if_pos h0, wrap64_up h0 (by omega), wrap64_up (by omega) (by omega), show n + i + 1 = n + (i + 1) by omega]
    refine ih _ _ (by simp [hl]) ?_ (by omega) (by omega) _ (by omega)
    intro m hm
    obtain ⟨a, rfl⟩ : ∃ a : Nat, i = a := ⟨i.toNat, by omega⟩
    by_cases e : m = a
    · subst e
      have h2 : m < (y.set ((m : Int)).toNat (n + (m : Int))).length := by simp only [List.length_set]; omega
      rw [getD_at _ _ h2]
      simp
    · have h2 : m < y.length := by omega
      have h3 : m < (y.set ((a : Int)).toNat (n + (a : Int))).length := by simp only [List.length_set]; omega
      rw [← hy m (by omega), getD_at _ _ h3, getD_at _ _ h2, List.getElem_set_ne (by omega)]
theorem markIntS (x : List Int) (n : Int) (hn : 0 ≤ n) (hx : n + x.length ≤ 17592186044416) : Ans (fun k => laws_markIntS.f k x n) (n + x.length, upFrom n x.length) :=
  Ans.from (x.length + 1) fun k hk => by
    unfold laws_markIntS.f
    have := markIntS_l0 x n hn hx x.length x 0 rfl (by intro j hj; omega) (by omega) (by omega) k (by omega)
    rwa [show n + 0 = n by omega] at this
theorem heldIntS_l0 (m : Nat) (n : Int) (hn : 0 ≤ n) (hx : n + m ≤ 17592186044416) : ∀ (d : Nat) (i : Int), 0 ≤ i → i + d = m → ∀ k, d < k →
    laws_heldIntS.l0 k (upFrom n m) (n + i) i = some (n + m) := by
  intro d
  have hl : (upFrom n m).length = m := by simp [upFrom]
  induction d with
  | zero =>
    intro i h0 h1 k hk; obtain ⟨j, rfl⟩ : ∃ j, k = j + 1 := ⟨k - 1, by omega⟩; unfold laws_heldIntS.l0; rw [if_neg (by omega), show n + i = n + m by omega]
  | succ d ih =>
    intro i h0 h1 k hk; obtain ⟨j, rfl⟩ : ∃ j, k = j + 1 := ⟨k - 1, by omega⟩; unfold laws_heldIntS.l0
    have : rd (upFrom n m) i = n + i := by
      unfold rd; rw [getD_at _ _ (by omega)]; simp only [upFrom, List.getElem_map, List.getElem_range]; omega
    rw [if_pos (by omega), if_pos h0, if_pos this, wrap64_up h0 (by omega), wrap64_up (by omega) (by omega), show n + i + 1 = n + (i + 1) by omega]
    exact ih _ (by omega) (by omega) _ (by omega)
theorem heldIntS (m : Nat) (n : Int) (hn : 0 ≤ n) (hx : n + m ≤ 17592186044416) : Ans (fun k => laws_heldIntS.f k (upFrom n m) n) (n + m) :=
  Ans.from (m + 1) fun k hk => by
    unfold laws_heldIntS.f
    have := heldIntS_l0 m n hn hx m 0 (by omega) (by omega) k (by omega)
    rwa [show n + 0 = n by omega] at this
theorem toIntS_l0 (x : List Int) (hx : x.length ≤ 17592186044416) : ∀ (d : Nat) (y : List Int) (i : Int), y.length = x.length → (∀ j : Nat, j < i → y.getD j 0 = x.getD j 0) → 0 ≤ i → i + d = x.length → ∀ k, d < k → laws_toIntS.l0 k x y i = some x := by
  intro d
  induction d with
  | zero =>
    intro y i hl hy h0 h1 k hk; obtain ⟨j, rfl⟩ : ∃ j, k = j + 1 := ⟨k - 1, by omega⟩; unfold laws_toIntS.l0; rw [if_neg (by omega)]
    refine congrArg some (List.ext_getElem hl fun n h2 h3 => ?_)
    have := hy n (by omega)
    rw [getD_at _ _ h2, getD_at _ _ h3] at this
    exact this
  | succ d ih =>
    intro y i hl hy h0 h1 k hk; obtain ⟨j, rfl⟩ : ∃ j, k = j + 1 := ⟨k - 1, by omega⟩; unfold laws_toIntS.l0
    rw [if_pos (by omega), if_pos h0, if_pos (by omega), wrap64_up h0 (by omega)]
    refine ih _ _ (by simp [hl]) ?_ (by omega) (by omega) _ (by omega)
    intro n hn
    obtain ⟨a, rfl⟩ : ∃ a : Nat, i = a := ⟨i.toNat, by omega⟩
    by_cases e : n = a
    · subst e
      have h2 : n < (y.set ((n : Int)).toNat (rd x n)).length := by simp only [List.length_set]; omega
      rw [getD_at _ _ h2]
      simp [rd]
    · have h2 : n < y.length := by omega
      have h3 : n < (y.set ((a : Int)).toNat (rd x a)).length := by simp only [List.length_set]; omega
      rw [← hy n (by omega), getD_at _ _ h3, getD_at _ _ h2, List.getElem_set_ne (by omega)]
theorem toIntS (x : List Int) (hx : x.length ≤ 17592186044416) : Ans (fun k => laws_toIntS.f k x) x :=
  Ans.from (x.length + 1) fun k hk => by
    unfold laws_toIntS.f; rw [if_pos (by omega), if_pos (by omega)]
    exact toIntS_l0 x hx x.length _ 0 (by simp) (by intro j hj; omega) (by omega) (by omega) _ (by omega)
theorem rd_L1_mem {x : List (List Int)} {i : Int} (h0 : 0 ≤ i) (h1 : i < x.length) : rd_L1 x i ∈ x := by unfold rd_L1; exact getD_mem _ (by omega)
theorem eqIntSS_l0 (x : List (List Int)) (hx : x.length ≤ 17592186044416) (hr : ∀ r ∈ x, r.length ≤ 17592186044416) : ∀ (d : Nat) (i : Int), 0 ≤ i → i + d = x.length → Ans (fun k => laws_eqIntSS.l0 k x x i) true := by
  intro d
  induction d with
  | zero => intro i h0 h1; refine Ans.step ?_; simp only [laws_eqIntSS.l0]; exact Ans.not (by omega) (Ans.pure _)
  | succ d ih =>
    intro i h0 h1; refine Ans.step ?_; simp only [laws_eqIntSS.l0, wrap64_up h0 (by omega : i ≤ 4611686018427387904)]
    exact Ans.yes (by omega) (Ans.yes h0 (Ans.yes (by omega) ((eqIntS _ (hr _ (rd_L1_mem h0 (by omega)))).bind (Ans.yes rfl (ih _ (by omega) (by omega))))))
theorem eqIntSS (x : List (List Int)) (hx : x.length ≤ 17592186044416) (hr : ∀ r ∈ x, r.length ≤ 17592186044416) : Ans (fun k => laws_eqIntSS.f k x x) true := by
  simp only [laws_eqIntSS.f]
  exact Ans.yes (by simp) (eqIntSS_l0 x hx hr x.length 0 (by omega) (by omega))
/-- The rows after marking from `n`. -/
def upRows : Int → List (List Int) → List (List Int)
  | _, [] => []
  | n, a :: x => upFrom n a.length :: upRows (n + a.length) x
theorem upRows_len : ∀ (x : List (List Int)) (n : Int), (upRows n x).length = x.length
  | [], _ => rfl
  | _ :: x, _ => by simp [upRows, upRows_len x]
theorem markIntSS_l0 : ∀ (x : List (List Int)) (y : List (List Int)) (n i : Int), 0 ≤ n → n + total x ≤ 17592186044416 → 0 ≤ i → y.length ≤ 17592186044416 → i + x.length = y.length → y.drop i.toNat = x →
    Ans (fun k => laws_markIntSS.l0 k y n i) (n + total x, y.take i.toNat ++ upRows n x) := by
  intro x
  induction x with
  | nil =>
    intro y n i h0 h1 h2 h3 h4 h5; refine Ans.step ?_; simp only [laws_markIntSS.l0]
    simp only [List.length_nil] at h4
    refine Ans.not (by omega) ?_
    rw [total_nil, upRows, List.append_nil, List.take_of_length_le (by omega), show n + ((0 : Nat) : Int) = n by omega]; exact Ans.pure _
  | cons a x ih =>
    intro y n i h0 h1 h2 h3 h4 h5; refine Ans.step ?_; simp only [laws_markIntSS.l0, wrap64_up h2 (by omega : i ≤ 4611686018427387904)]
    rw [total_cons] at h1
    simp only [List.length_cons] at h4
    have hlt : i.toNat < y.length := by omega
    have hd := drop_at y [] hlt
    rw [h5] at hd
    obtain ⟨ha, hx⟩ := List.cons.inj hd
    rw [← ha]
    refine Ans.yes (by omega) (Ans.yes h2 ((markIntS a n h0 (by omega)).bind ?_))
    obtain ⟨e1, e2⟩ := take_set_drop y i.toNat (upFrom n a.length) hlt
    have := ih (y.set i.toNat (upFrom n a.length)) (n + a.length) (i + 1) (by omega) (by omega) (by omega) (by simp; omega) (by simp only [List.length_set]; omega) (by rw [show (i + 1).toNat = i.toNat + 1 by omega, e2, ← hx])
    rw [show (i + 1).toNat = i.toNat + 1 by omega, e1, show n + (a.length : Int) + (total x : Int) = n + (total (a :: x) : Int) by rw [total_cons]; omega] at this
    rw [upRows]
    simpa using this
theorem markIntSS (x : List (List Int)) (n : Int) (hn : 0 ≤ n) (hx : n + total x ≤ 17592186044416) (hl : x.length ≤ 17592186044416) : Ans (fun k => laws_markIntSS.f k x n) (n + total x, upRows n x) := by
  have := markIntSS_l0 x x n 0 hn hx (by omega) hl (by omega) rfl
  simpa [laws_markIntSS.f] using this
theorem toIntSS_l0 (x : List (List Int)) (hx : x.length ≤ 11728124029610) (hr : ∀ r ∈ x, r.length ≤ 17592186044416) : ∀ (d : Nat) (y : List (List Int)) (i : Int), y.length = x.length → (∀ j : Nat, j < i → y.getD j [] = x.getD j []) → 0 ≤ i → i + d = x.length → Ans (fun k => laws_toIntSS.l0 k x y i) x := by
  intro d
  induction d with
  | zero =>
    intro y i hl hy h0 h1; refine Ans.step ?_; simp only [laws_toIntSS.l0]
    refine Ans.not (by omega) ?_
    have : y = x := List.ext_getElem hl fun n h2 h3 => by
      have := hy n (by omega)
      rwa [getD_at _ _ h2, getD_at _ _ h3] at this
    rw [this]; exact Ans.pure _
  | succ d ih =>
    intro y i hl hy h0 h1; refine Ans.step ?_; simp only [laws_toIntSS.l0, wrap64_up h0 (by omega : i ≤ 4611686018427387904)]
    refine Ans.yes (by omega) (Ans.yes h0 ((toIntS _ (hr _ (rd_L1_mem h0 (by omega)))).bind (Ans.yes (by omega) (ih _ _ (by simp [hl]) ?_ (by omega) (by omega)))))
    intro n hn
    obtain ⟨a, rfl⟩ : ∃ a : Nat, i = a := ⟨i.toNat, by omega⟩
    by_cases e : n = a
    · subst e
      have h2 : n < (y.set ((n : Int)).toNat (rd_L1 x n)).length := by simp only [List.length_set]; omega
      rw [getD_at _ _ h2]
      simp [rd_L1]
    · have h2 : n < y.length := by omega
      have h3 : n < (y.set ((a : Int)).toNat (rd_L1 x a)).length := by simp only [List.length_set]; omega
      rw [← hy n (by omega), getD_at _ _ h3, getD_at _ _ h2, List.getElem_set_ne (by omega)]
theorem toIntSS (x : List (List Int)) (hx : x.length ≤ 11728124029610) (hr : ∀ r ∈ x, r.length ≤ 17592186044416) : Ans (fun k => laws_toIntSS.f k x) x := by
  simp only [laws_toIntSS.f]
  exact Ans.yes (by omega) (Ans.yes (by omega) (toIntSS_l0 x hx hr x.length _ 0 (by simp) (by intro j hj; omega) (by omega) (by omega)))
theorem heldIntSS_l0 : ∀ (x : List (List Int)) (y : List (List Int)) (n i : Int), 0 ≤ n → n + total x ≤ 17592186044416 → 0 ≤ i → y.length ≤ 17592186044416 → i + x.length = y.length → y.drop i.toNat = upRows n x →
    Ans (fun k => laws_heldIntSS.l0 k y n i) (n + total x) := by
  intro x
  induction x with
  | nil =>
    intro y n i h0 h1 h2 h3 h4 h5; refine Ans.step ?_; simp only [laws_heldIntSS.l0]
    simp only [List.length_nil] at h4
    refine Ans.not (by omega) ?_
    rw [total_nil, show n + ((0 : Nat) : Int) = n by omega]; exact Ans.pure _
  | cons a x ih =>
    intro y n i h0 h1 h2 h3 h4 h5; refine Ans.step ?_; simp only [laws_heldIntSS.l0, wrap64_up h2 (by omega : i ≤ 4611686018427387904)]
    rw [total_cons] at h1
    simp only [List.length_cons] at h4
    have hlt : i.toNat < y.length := by omega
    have hd := drop_at y [] hlt
    rw [h5, upRows] at hd
    obtain ⟨ha, hx⟩ := List.cons.inj hd
    have hrd : rd_L1 y i = upFrom n a.length := by rw [rd_L1, ← ha]
    rw [hrd]
    refine Ans.yes (by omega) (Ans.yes h2 ((heldIntS a.length n h0 (by omega)).bind (Ans.not (by omega) ?_)))
    have := ih y (n + a.length) (i + 1) (by omega) (by omega) (by omega) h3 (by omega) (by rw [show (i + 1).toNat = i.toNat + 1 by omega, ← hx])
    rwa [show n + (a.length : Int) + (total x : Int) = n + (total (a :: x) : Int) by rw [total_cons]; omega] at this
theorem heldIntSS (x : List (List Int)) (n : Int) (hn : 0 ≤ n) (hx : n + total x ≤ 17592186044416) (hl : x.length ≤ 17592186044416) : Ans (fun k => laws_heldIntSS.f k (upRows n x) n) (n + total x) :=
  heldIntSS_l0 x (upRows n x) n 0 hn hx (by omega) (by rw [upRows_len]; exact hl) (by rw [upRows_len]; omega) rfl
theorem szIntS (x : List Int) (l : Int) (hx : x.length ≤ 9223372036854775807) (h0 : 0 ≤ l) (h1 : l ≤ 1048576) : laws_szIntS.f x l = some (if l - x.length < 0 then -1 else l - x.length) := by
  simp only [laws_szIntS.f, wrap64_in (l - (x.length : Int)) ⟨by omega, by omega⟩]
  by_cases h : l - (x.length : Int) < 0
  · rw [if_pos h, if_pos h]
  · rw [if_neg h, if_neg h]
theorem szIntSS_l0 : ∀ (x y : List (List Int)) (l i : Int), (∀ r ∈ y, r.length ≤ 9223372036854775807) → 0 ≤ l → l ≤ 1048576 → 0 ≤ i → i + x.length = y.length → y.length ≤ 1048576 → y.drop i.toNat = x →
    ∃ s, Ans (fun k => laws_szIntSS.l0 k y l i) s ∧ (0 ≤ s → s + total x = l) := by
  intro x
  induction x with
  | nil =>
    intro y l i hr h0 h1 h2 h4 h3 h5
    refine ⟨l, Ans.step ?_, fun _ => by rw [total_nil]; omega⟩
    simp only [laws_szIntSS.l0]; simp only [List.length_nil] at h4
    exact Ans.not (by omega) (Ans.pure _)
  | cons a x ih =>
    intro y l i hr h0 h1 h2 h4 h3 h5
    simp only [List.length_cons] at h4
    have hlt : i.toNat < y.length := by omega
    have hd := drop_at y [] hlt
    rw [h5] at hd
    obtain ⟨ha, hx⟩ := List.cons.inj hd
    have hrd : rd_L1 y i = a := by rw [rd_L1, ← ha]
    have har : a.length ≤ 9223372036854775807 := hr a (hrd ▸ rd_L1_mem h2 (by omega))
    by_cases hl : l - (a.length : Int) < 0
    · refine ⟨-1, Ans.step ?_, fun h => absurd h (by omega)⟩
      simp only [laws_szIntSS.l0, hrd, szIntS a l har h0 h1, if_pos hl, Option.bind_some]
      exact Ans.yes (by omega) (Ans.yes h2 (Ans.yes (by omega) (Ans.pure _)))
    · obtain ⟨s, e, hs⟩ := ih y (l - a.length) (i + 1) hr (by omega) (by omega) (by omega) (by omega) h3 (by rw [show (i + 1).toNat = i.toNat + 1 by omega, ← hx])
      refine ⟨s, Ans.step ?_, fun h => by have := hs h; rw [total_cons]; omega⟩
      simp only [laws_szIntSS.l0, hrd, szIntS a l har h0 h1, if_neg hl, Option.bind_some, wrap64_up h2 (by omega : i ≤ 4611686018427387904)]
      exact Ans.yes (by omega) (Ans.yes h2 e)
theorem szIntSS (x : List (List Int)) (l : Int) (h0 : 0 ≤ l) (h1 : l ≤ 1048576) (hx : x.length ≤ 9223372036854775807) (hr : ∀ r ∈ x, r.length ≤ 9223372036854775807) :
    ∃ s, Ans (fun k => laws_szIntSS.f k x l) s ∧ (0 ≤ s → s + total x + x.length = l) := by
  simp only [laws_szIntSS.f, wrap64_in (l - (x.length : Int)) ⟨by omega, by omega⟩]
  by_cases h : l - (x.length : Int) < 0
  · exact ⟨-1, Ans.yes h (Ans.pure _), fun q => absurd q (by omega)⟩
  · obtain ⟨s, e, hs⟩ := szIntSS_l0 x x (l - x.length) 0 hr (by omega) (by omega) (by omega) (by omega) (by omega) rfl
    exact ⟨s, Ans.not h e, fun q => by have := hs q; omega⟩
theorem containsL (x : List (List Int)) (hx : x.length ≤ 17592186044416) (g : List Int → Option Bool) (p : List Int → Bool) (hg : ∀ a, g a = some (p a)) : Ans (fun k => slices_ContainsFunc_int_int.f k x g) (x.any p) := by
  have key : ∀ (d : Nat) (i : Int), 0 ≤ i → i + d = x.length → ∃ z : Int, Ans (fun k => slices_IndexFunc_int_int.l0 k x g (x.length : Int) i) z ∧ decide (z ≥ 0) = (x.drop i.toNat).any p := by
    intro d
    induction d with
    | zero =>
      intro i h0 h1
      refine ⟨-1, Ans.step ?_, by rw [List.drop_eq_nil_of_le (by omega)]; rfl⟩
      simp only [slices_IndexFunc_int_int.l0]; exact Ans.not (by omega) (Ans.pure _)
    | succ d ih =>
      intro i h0 h1
      have hd := drop_at x [] (show i.toNat < x.length by omega)
      by_cases c : p (rd_L1 x i) = true
      · refine ⟨i, Ans.step ?_, by rw [hd, List.any_cons, show p (x.getD i.toNat []) = true from c]; simp [h0]⟩
        simp only [slices_IndexFunc_int_int.l0, hg, Option.bind_some]
        exact Ans.yes (by omega) (Ans.yes h0 (Ans.yes (by omega) (Ans.yes c (Ans.pure _))))
      · obtain ⟨z, e, hz⟩ := ih (i + 1) (by omega) (by omega)
        refine ⟨z, Ans.step ?_, by rw [hz, hd, List.any_cons, show p (x.getD i.toNat []) = false from Bool.eq_false_iff.mpr c, show (i + 1).toNat = i.toNat + 1 by omega]; simp⟩
        simp only [slices_IndexFunc_int_int.l0, hg, Option.bind_some, wrap64_up h0 (by omega : i ≤ 4611686018427387904)]
        exact Ans.yes (by omega) (Ans.yes h0 (Ans.yes (by omega) (Ans.not c e)))
  obtain ⟨z, e, hz⟩ := key x.length 0 (by omega) (by omega)
  simp only [slices_ContainsFunc_int_int.f, slices_IndexFunc_int_int.f]
  have := e.bind (h := fun _ t => some (decide (t ≥ 0))) (Ans.pure (decide (z ≥ 0)))
  rwa [hz] at this
theorem l1In (a b c : Int) : spec_l1In.f a b c = some (decide (b ≤ a ∧ a ≤ c)) := by
  unfold spec_l1In.f
  by_cases h : a ≥ b
  · rw [if_pos h]; refine congrArg some (decide_eq_decide.mpr ⟨fun q => ⟨h, q⟩, fun q => q.2⟩)
  · rw [if_neg h, decide_eq_false (by omega)]
theorem within (a b c : Int) : impl_within.f a b c = some (decide (b ≤ a ∧ a ≤ c)) := by
  unfold impl_within.f
  by_cases h : b ≤ a
  · rw [if_pos h]; refine congrArg some (decide_eq_decide.mpr ⟨fun q => ⟨h, q⟩, fun q => q.2⟩)
  · rw [if_neg h, decide_eq_false (by omega)]
theorem isSquare (x : List (List Int)) (hx : x.length ≤ 17592186044416) : Ans (fun k => impl_isSquare.f k x) (x.all fun r => decide (r.length = x.length)) := by
  have e := containsL x hx (fun x0_ => impl_isSquare_1.f x0_ x) (fun r => (r.length : Int) != (x.length : Int)) (fun a => rfl)
  have := e.bind (h := fun _ t => some (!t)) (Ans.pure _)
  rw [List.not_any_eq_all_not] at this
  rwa [show (fun r : List Int => !((r.length : Int) != (x.length : Int))) = fun r => decide (r.length = x.length) from funext fun r => by by_cases h : r.length = x.length <;> simp [bne, h]; omega] at this
/-- The numbers are -1, 0, 1, and their sums from s on are 0 or 1, the last one 1. -/
def walkOk : Int → List Int → Bool
  | s, [] => s == 1
  | s, a :: x => decide (-1 ≤ a ∧ a ≤ 1) && (decide (0 ≤ s + a ∧ s + a ≤ 1) && walkOk (s + a) x)
theorem alternate (x : List Int) (hx : x.length ≤ 17592186044416) : Ans (fun k => impl_alternate.f k x) (walkOk 0 x) := by
  have key : ∀ (d : Nat) (i s : Int), 0 ≤ i → i + d = x.length → 0 ≤ s → s ≤ 1 → Ans (fun k => impl_alternate.l0 k s x (x.length : Int) i) (walkOk s (x.drop i.toNat)) := by
    intro d
    induction d with
    | zero =>
      intro i s h0 h1 s0 s1
      rw [List.drop_eq_nil_of_le (by omega)]; refine Ans.step ?_
      simp only [impl_alternate.l0]; exact Ans.not (by omega) (Ans.pure _)
    | succ d ih =>
      intro i s h0 h1 s0 s1
      rw [drop_at x 0 (show i.toNat < x.length by omega), show x.getD i.toNat 0 = rd x i from rfl, walkOk]
      refine Ans.step ?_
      simp only [impl_alternate.l0, within, Option.bind_some, wrap64_up h0 (by omega : i ≤ 4611686018427387904)]
      refine Ans.yes (by omega) (Ans.yes h0 (Ans.yes (by omega) ?_))
      by_cases c1 : decide (-1 ≤ rd x i ∧ rd x i ≤ 1) = true
      · have b1 := of_decide_eq_true c1
        have hw : wrap64 (s + rd x i) = s + rd x i := wrap64_in _ ⟨by omega, by omega⟩
        simp only [hw]
        rw [c1, Bool.true_and]
        refine Ans.yes rfl ?_
        by_cases c2 : decide (0 ≤ s + rd x i ∧ s + rd x i ≤ 1) = true
        · have b2 := of_decide_eq_true c2
          have e := ih (i + 1) (s + rd x i) (by omega) (by omega) b2.1 b2.2
          rw [show (i + 1).toNat = i.toNat + 1 by omega] at e
          rw [c2, Bool.true_and]; exact Ans.yes rfl e
        · rw [Bool.eq_false_iff.mpr c2, Bool.false_and]; exact Ans.not (by simp) (Ans.pure _)
      · rw [Bool.eq_false_iff.mpr c1, Bool.false_and]; exact Ans.not (by simp) (Ans.pure _)
  exact key x.length 0 0 (by omega) (by omega) (by omega) (by omega)
theorem sgRows (x : List (List Int)) (hx : x.length ≤ 17592186044416) (hr : ∀ r ∈ x, r.length ≤ 17592186044416) : Ans (fun k => spec_sgRows.f k x) (x.all (walkOk 0)) := by
  have inner : ∀ (row : List Int) (m : Int) (R : Bool), row.length ≤ 17592186044416 → 0 ≤ m → m ≤ 17592186044416 → Ans (fun k => spec_sgRows.l0 k x (x.length : Int) (m + 1)) R →
      ∀ (d : Nat) (i s : Int), 0 ≤ i → i + d = row.length → 0 ≤ s → s ≤ 1 → Ans (fun k => spec_sgRows.l1 k s x (x.length : Int) m row (row.length : Int) i) (walkOk s (row.drop i.toNat) && R) := by
    intro row m R hrow hm hm' e d
    induction d with
    | zero =>
      intro i s h0 h1 s0 s1
      rw [List.drop_eq_nil_of_le (by omega), walkOk]; refine Ans.step ?_
      simp only [spec_sgRows.l1, wrap64_up hm (by omega : m ≤ 4611686018427387904)]
      refine Ans.not (by omega) ?_
      by_cases c : s = 1
      · rw [show (s == 1) = true by simp [c], Bool.true_and]; exact Ans.yes c e
      · rw [show (s == 1) = false by simp [c], Bool.false_and]; exact Ans.not c (Ans.pure _)
    | succ d ih =>
      intro i s h0 h1 s0 s1
      rw [drop_at row 0 (show i.toNat < row.length by omega), show row.getD i.toNat 0 = rd row i from rfl, walkOk]
      refine Ans.step ?_
      simp only [spec_sgRows.l1, l1In, Option.bind_some, wrap64_up h0 (by omega : i ≤ 4611686018427387904)]
      refine Ans.yes (by omega) (Ans.yes h0 (Ans.yes (by omega) ?_))
      by_cases c1 : decide (-1 ≤ rd row i ∧ rd row i ≤ 1) = true
      · have b1 := of_decide_eq_true c1
        have hw : wrap64 (s + rd row i) = s + rd row i := wrap64_in _ ⟨by omega, by omega⟩
        simp only [hw]
        rw [c1, Bool.true_and]
        refine Ans.yes rfl ?_
        by_cases c2 : decide (0 ≤ s + rd row i ∧ s + rd row i ≤ 1) = true
        · have b2 := of_decide_eq_true c2
          have e := ih (i + 1) (s + rd row i) (by omega) (by omega) b2.1 b2.2
          rw [show (i + 1).toNat = i.toNat + 1 by omega] at e
          rw [c2, Bool.true_and]; exact Ans.yes rfl e
        · rw [Bool.eq_false_iff.mpr c2, Bool.false_and, Bool.false_and]; exact Ans.not (by simp) (Ans.pure _)
      · rw [Bool.eq_false_iff.mpr c1, Bool.false_and, Bool.false_and]; exact Ans.not (by simp) (Ans.pure _)
  have key : ∀ (d : Nat) (i : Int), 0 ≤ i → i + d = x.length → Ans (fun k => spec_sgRows.l0 k x (x.length : Int) i) ((x.drop i.toNat).all (walkOk 0)) := by
    intro d
    induction d with
    | zero =>
      intro i h0 h1
      rw [List.drop_eq_nil_of_le (by omega)]; refine Ans.step ?_
      simp only [spec_sgRows.l0]; exact Ans.not (by omega) (Ans.pure _)
    | succ d ih =>
      intro i h0 h1
      have hm := rd_L1_mem h0 (show i < x.length by omega)
      rw [drop_at x [] (show i.toNat < x.length by omega), show x.getD i.toNat [] = rd_L1 x i from rfl, List.all_cons]
      have e := ih (i + 1) (by omega) (by omega)
      rw [show (i + 1).toNat = i.toNat + 1 by omega] at e
      refine Ans.step ?_
      simp only [spec_sgRows.l0]
      exact Ans.yes (by omega) (Ans.yes h0 (Ans.yes (by omega) (inner _ i _ (hr _ hm) h0 (by omega) e _ 0 0 (by omega) (show (0 : Int) + ((rd_L1 x i).length : Nat) = _ by omega) (by omega) (by omega))))
  exact key x.length 0 (by omega) (by omega)
def colOf (x : List (List Int)) (j : Int) : List Int := x.map fun r => rd r j
theorem column (x : List (List Int)) (j : Int) (h : x.length ≤ 1048576) (hj : 0 ≤ j) (hr : ∀ r ∈ x, j < r.length) : Ans (fun k => impl_column.f k x j) (colOf x j) := by
  have key : ∀ (d : Nat) (i : Int) (acc : List Int), 0 ≤ i → i + d = x.length → acc.length + d ≤ 1048576 → Ans (fun k => impl_column.l0 k j acc x (x.length : Int) i) (acc ++ colOf (x.drop i.toNat) j) := by
    intro d
    induction d with
    | zero =>
      intro i acc h0 h1 h2
      rw [List.drop_eq_nil_of_le (by omega), colOf, List.map_nil, List.append_nil]; refine Ans.step ?_
      simp only [impl_column.l0]; exact Ans.not (by omega) (Ans.pure _)
    | succ d ih =>
      intro i acc h0 h1 h2
      have hm := rd_L1_mem h0 (show i < x.length by omega)
      have e := ih (i + 1) (acc ++ [rd (rd_L1 x i) j]) (by omega) (by omega) (by simp only [List.length_append, List.length_singleton]; omega)
      rw [show (i + 1).toNat = i.toNat + 1 by omega, List.append_assoc, List.singleton_append] at e
      rw [drop_at x [] (show i.toNat < x.length by omega), show x.getD i.toNat [] = rd_L1 x i from rfl]
      refine Ans.step ?_
      simp only [impl_column.l0, wrap64_up h0 (by omega : i ≤ 4611686018427387904)]
      exact Ans.yes (by omega) (Ans.yes h0 (Ans.yes (by omega) (Ans.yes hj (Ans.yes (hr _ hm) (Ans.yes (by omega) e)))))
  exact key x.length 0 [] (by omega) (by omega) (by simp only [List.length_nil]; omega)
theorem range_drop {n i : Nat} (h : i < n) : (List.range n).drop i = i :: (List.range n).drop (i + 1) := by
  rw [drop_at (List.range n) 0 (by simpa using h), getD_at _ _ (by simpa using h), List.getElem_range]
theorem sgTurn (x : List (List Int)) (h : x.length ≤ 1048576) (hr : ∀ r ∈ x, r.length = x.length) : Ans (fun k => spec_sgTurn.f k x) ((List.range x.length).map fun (j : Nat) => colOf x j) := by
  have inner : ∀ (out : List (List Int)) (j : Int) (R : List (List Int)), 0 ≤ j → j < x.length → out.length ≤ 1048576 → ∀ (d : Nat) (i : Int) (acc : List Int), 0 ≤ i → i + d = x.length → acc.length + d ≤ 1048576 →
      Ans (fun k => spec_sgTurn.l0 k x (out ++ [acc ++ colOf (x.drop i.toNat) j]) (x.length : Int) (j + 1)) R → Ans (fun k => spec_sgTurn.l1 k x out j acc (x.length : Int) j x (x.length : Int) i) R := by
    intro out j R hj hj' ho d
    induction d with
    | zero =>
      intro i acc h0 h1 h2 e
      rw [List.drop_eq_nil_of_le (by omega), colOf, List.map_nil, List.append_nil] at e; refine Ans.step ?_
      simp only [spec_sgTurn.l1, wrap64_up hj (by omega : j ≤ 4611686018427387904)]; exact Ans.not (by omega) (Ans.yes (by omega) e)
    | succ d ih =>
      intro i acc h0 h1 h2 e
      have hm := rd_L1_mem h0 (show i < x.length by omega)
      rw [drop_at x [] (show i.toNat < x.length by omega), show x.getD i.toNat [] = rd_L1 x i from rfl] at e
      refine Ans.step ?_
      simp only [spec_sgTurn.l1, wrap64_up h0 (by omega : i ≤ 4611686018427387904)]
      refine Ans.yes (by omega) (Ans.yes h0 (Ans.yes (by omega) (Ans.yes hj (Ans.yes (by have := hr _ hm; omega) (Ans.yes (by omega) (ih (i + 1) _ (by omega) (by omega) (by simp only [List.length_append, List.length_singleton]; omega) ?_))))))
      rw [show (i + 1).toNat = i.toNat + 1 by omega, List.append_assoc, List.singleton_append]
      exact e
  have key : ∀ (d : Nat) (j : Int) (out : List (List Int)), 0 ≤ j → j + d = x.length → out.length + d ≤ 1048576 → Ans (fun k => spec_sgTurn.l0 k x out (x.length : Int) j) (out ++ ((List.range x.length).drop j.toNat).map fun (j : Nat) => colOf x j) := by
    intro d
    induction d with
    | zero =>
      intro j out h0 h1 h2
      rw [List.drop_eq_nil_of_le (by simp only [List.length_range]; omega), List.map_nil, List.append_nil]; refine Ans.step ?_
      simp only [spec_sgTurn.l0]; exact Ans.not (by omega) (Ans.pure _)
    | succ d ih =>
      intro j out h0 h1 h2
      have e := ih (j + 1) (out ++ [colOf x j]) (by omega) (by omega) (by simp only [List.length_append, List.length_singleton]; omega)
      rw [show (j + 1).toNat = j.toNat + 1 by omega, List.append_assoc, List.singleton_append] at e
      rw [range_drop (show j.toNat < x.length by omega), List.map_cons, show ((j.toNat : Nat) : Int) = j by omega]
      refine Ans.step ?_
      simp only [spec_sgTurn.l0]
      exact Ans.yes (by omega) (inner out j _ h0 (by omega) (by omega) x.length 0 [] (by omega) (by omega) (by simp only [List.length_nil]; omega) e)
  exact key x.length 0 [] (by omega) (by omega) (by simp only [List.length_nil]; omega)
theorem sgSquare (x : List (List Int)) (h : x.length ≤ 1048576) : Ans (fun k => spec_sgSquare.f k x) (decide (1 ≤ x.length ∧ x.length ≤ 6) && x.all fun r => decide (r.length = x.length)) := by
  have key : ∀ (d : Nat) (i : Int), 0 ≤ i → i + d = x.length → Ans (fun k => spec_sgSquare.l0 k x x (x.length : Int) i) ((x.drop i.toNat).all fun r => decide (r.length = x.length)) := by
    intro d
    induction d with
    | zero =>
      intro i h0 h1
      rw [List.drop_eq_nil_of_le (by omega)]; refine Ans.step ?_
      simp only [spec_sgSquare.l0]; exact Ans.not (by omega) (Ans.pure _)
    | succ d ih =>
      intro i h0 h1
      rw [drop_at x [] (show i.toNat < x.length by omega), show x.getD i.toNat [] = rd_L1 x i from rfl, List.all_cons]
      have e := ih (i + 1) (by omega) (by omega)
      rw [show (i + 1).toNat = i.toNat + 1 by omega] at e
      refine Ans.step ?_
      simp only [spec_sgSquare.l0, wrap64_up h0 (by omega : i ≤ 4611686018427387904)]
      refine Ans.yes (by omega) (Ans.yes h0 (Ans.yes (by omega) ?_))
      by_cases c : (rd_L1 x i).length = x.length
      · rw [decide_eq_true c, Bool.true_and]; exact Ans.yes (by omega) e
      · rw [decide_eq_false c, Bool.false_and]; exact Ans.not (by omega) (Ans.pure _)
  simp only [spec_sgSquare.f, l1In, Option.bind_some]
  by_cases c : decide ((1 : Int) ≤ (x.length : Int) ∧ (x.length : Int) ≤ 6) = true
  · have b := of_decide_eq_true c
    rw [show decide (1 ≤ x.length ∧ x.length ≤ 6) = true from decide_eq_true ⟨by omega, by omega⟩, Bool.true_and]
    exact Ans.yes c (key x.length 0 (by omega) (by omega))
  · have b : ¬ ((1 : Int) ≤ (x.length : Int) ∧ (x.length : Int) ≤ 6) := fun h => c (decide_eq_true h)
    rw [show decide (1 ≤ x.length ∧ x.length ≤ 6) = false from decide_eq_false (by omega), Bool.false_and]
    exact Ans.not c (Ans.pure _)
/-- What a sign matrix is, in plain words: square, up to six rows, rows and columns that alternate. -/
def sign (x : List (List Int)) : Bool :=
  (decide (1 ≤ x.length ∧ x.length ≤ 6) && x.all fun r => decide (r.length = x.length)) && (x.all (walkOk 0) && (List.range x.length).all fun (j : Nat) => walkOk 0 (colOf x j))
theorem square_of {x : List (List Int)} (h : (decide (1 ≤ x.length ∧ x.length ≤ 6) && x.all fun r => decide (r.length = x.length)) = true) : 1 ≤ x.length ∧ x.length ≤ 6 ∧ ∀ r ∈ x, r.length = x.length := by
  rw [Bool.and_eq_true] at h
  have b := of_decide_eq_true h.1
  exact ⟨b.1, b.2, fun r hr => of_decide_eq_true (List.all_eq_true.mp h.2 r hr)⟩
theorem sgGood (x : List (List Int)) (h : x.length ≤ 1048576) : Ans (fun k => spec_sgGood.f k x) (sign x) := by
  simp only [spec_sgGood.f]
  refine (sgSquare x h).bind ?_
  unfold sign
  by_cases c : (decide (1 ≤ x.length ∧ x.length ≤ 6) && x.all fun r => decide (r.length = x.length)) = true
  · obtain ⟨b1, b2, b3⟩ := square_of c
    rw [c, Bool.true_and]
    refine Ans.yes rfl ((sgRows x (by omega) (fun r hr => by have := b3 r hr; omega)).bind ?_)
    by_cases c2 : x.all (walkOk 0) = true
    · rw [c2, Bool.true_and]
      have e := sgRows ((List.range x.length).map fun (j : Nat) => colOf x j) (by simp only [List.length_map, List.length_range]; omega) (fun r hr => by
        obtain ⟨j, _, rfl⟩ := List.mem_map.1 hr
        simp only [colOf, List.length_map]; omega)
      rw [List.all_map] at e
      exact Ans.yes rfl ((sgTurn x h b3).bind (e.bind (Ans.pure _)))
    · rw [Bool.eq_false_iff.mpr c2, Bool.false_and]; exact Ans.not (by simp) (Ans.pure _)
  · rw [Bool.eq_false_iff.mpr c, Bool.false_and]; exact Ans.not (by simp) (Ans.pure _)
theorem isSign (x : List (List Int)) (h : x.length ≤ 1048576) : Ans (fun k => impl_IsSignMatrix.f k x) (sign x) := by
  have no : Ans (fun k => impl_IsSignMatrix.j0 k x true) false := by
    refine Ans.step ?_; simp only [impl_IsSignMatrix.j0]; exact Ans.yes (by simp) (Ans.pure _)
  simp only [impl_IsSignMatrix.f, impl_isSide.f, within, Option.bind_some]
  by_cases c : decide ((1 : Int) ≤ (x.length : Int) ∧ (x.length : Int) ≤ 6) = true
  · have b := of_decide_eq_true c
    refine Ans.yes c ((isSquare x (by omega)).bind ?_)
    unfold sign
    rw [show decide (1 ≤ x.length ∧ x.length ≤ 6) = true from decide_eq_true ⟨by omega, by omega⟩, Bool.true_and]
    by_cases c2 : (x.all fun r => decide (r.length = x.length)) = true
    · rw [c2, Bool.true_and]
      have b3 : ∀ r ∈ x, r.length = x.length := fun r hr => of_decide_eq_true (List.all_eq_true.mp c2 r hr)
      have key : ∀ (d : Nat) (i : Int), 0 ≤ i → i + d = x.length → Ans (fun k => impl_IsSignMatrix.l0 k x (x.length : Int) i) ((x.drop i.toNat).all (walkOk 0) && ((List.range x.length).drop i.toNat).all fun (j : Nat) => walkOk 0 (colOf x j)) := by
        intro d
        induction d with
        | zero =>
          intro i h0 h1
          rw [List.drop_eq_nil_of_le (by omega), List.drop_eq_nil_of_le (by simp only [List.length_range]; omega)]; refine Ans.step ?_
          simp only [impl_IsSignMatrix.l0]; exact Ans.not (by omega) (Ans.pure _)
        | succ d ih =>
          intro i h0 h1
          have hm := rd_L1_mem h0 (show i < x.length by omega)
          have e := ih (i + 1) (by omega) (by omega)
          rw [show (i + 1).toNat = i.toNat + 1 by omega] at e
          rw [drop_at x [] (show i.toNat < x.length by omega), show x.getD i.toNat [] = rd_L1 x i from rfl, range_drop (show i.toNat < x.length by omega), List.all_cons, List.all_cons, show ((i.toNat : Nat) : Int) = i by omega]
          refine Ans.step ?_
          simp only [impl_IsSignMatrix.l0, wrap64_up h0 (by omega : i ≤ 4611686018427387904)]
          refine Ans.yes (by omega) (Ans.yes h0 (Ans.yes (by omega) ((alternate _ (by have := b3 _ hm; omega)).bind ?_)))
          by_cases q1 : walkOk 0 (rd_L1 x i) = true
          · rw [q1, Bool.true_and]
            refine Ans.yes rfl ((column x i h h0 (fun r hr => by have := b3 r hr; omega)).bind ((alternate _ (by simp only [colOf, List.length_map]; omega)).bind ?_))
            by_cases q2 : walkOk 0 (colOf x i) = true
            · rw [q2, Bool.true_and]; exact Ans.yes rfl e
            · rw [Bool.eq_false_iff.mpr q2, Bool.false_and, Bool.and_false]; exact Ans.not (by simp) (Ans.pure _)
          · rw [Bool.eq_false_iff.mpr q1, Bool.false_and, Bool.false_and]; exact Ans.not (by simp) (Ans.pure _)
      refine Ans.step ?_
      simp only [impl_IsSignMatrix.j0]
      exact Ans.not (by simp) (key x.length 0 (by omega) (by omega))
    · rw [Bool.eq_false_iff.mpr c2, Bool.false_and]; exact no
  · have b : ¬ ((1 : Int) ≤ (x.length : Int) ∧ (x.length : Int) ≤ 6) := fun h => c (decide_eq_true h)
    unfold sign
    rw [show decide (1 ≤ x.length ∧ x.length ≤ 6) = false from decide_eq_false (by omega), Bool.false_and, Bool.false_and]
    exact Ans.not c no
def tab (r c : Nat) (v : Nat → Nat → Int) : List (List Int) := (List.range r).map fun i => (List.range c).map fun j => v i j
theorem table_row (c : Nat) (hc : c ≤ 1048576) (g : Int → Int → Option Int) (v : Nat → Int) (n : Int) (i : Nat) (hi : i ≤ 1048576) (hg : ∀ j : Nat, j < c → g i j = some (v j)) {R : List (List Int)} :
    ∀ (d j : Nat) (y : List (List Int)), j + d = c → i < y.length → (y.getD i []).length = c → Ans (fun k => impl_table.l0 k c g (y.set i ((y.getD i []).take j ++ ((List.range c).drop j).map v)) n ((i + 1 : Nat) : Int)) R →
      Ans (fun k => impl_table.l1 k c g y i n i (c : Int) j) R := by
  intro d
  induction d with
  | zero =>
    intro j y h1 h2 h3 e
    rw [List.drop_eq_nil_of_le (by simp only [List.length_range]; omega), List.map_nil, List.append_nil, List.take_of_length_le (by omega), set_same y [] i h2] at e
    refine Ans.step ?_
    simp only [impl_table.l1, wrap64_up (show (0 : Int) ≤ (i : Int) by omega) (by omega : (i : Int) ≤ 4611686018427387904)]
    refine Ans.not (by omega) ?_
    rw [show ((i + 1 : Nat) : Int) = (i : Int) + 1 by omega] at e
    exact e
  | succ d ih =>
    intro j y h1 h2 h3 e
    have hrow : rd_L1 y (i : Int) = y.getD i [] := by unfold rd_L1; rw [Int.toNat_natCast]
    refine Ans.step ?_
    simp only [impl_table.l1, hg j (by omega), Option.bind_some, wrap64_up (show (0 : Int) ≤ (j : Int) by omega) (by omega : (j : Int) ≤ 4611686018427387904), hrow, Int.toNat_natCast]
    refine Ans.yes (by omega) (Ans.yes (by omega) (Ans.yes (by omega) (Ans.yes (by omega) (Ans.yes (by omega) ?_))))
    have hj : j < (y.getD i []).length := by omega
    obtain ⟨t1, _⟩ := take_set_drop (y.getD i []) j (v j) hj
    have hget : (y.set i ((y.getD i []).set j (v j))).getD i [] = (y.getD i []).set j (v j) := by
      rw [getD_at _ _ (by simpa using h2)]; simp
    have := ih (j + 1) (y.set i ((y.getD i []).set j (v j))) (by omega) (by simpa using h2) (by rw [hget]; simpa using h3) (by
      rw [hget, List.set_set, t1, List.append_assoc]
      rw [range_drop (show j < c by omega), List.map_cons] at e
      exact e)
    rwa [show ((j + 1 : Nat) : Int) = (j : Int) + 1 by omega] at this
theorem table (r c : Nat) (hr : r ≤ 1048576) (hc : c ≤ 1048576) (g : Int → Int → Option Int) (v : Nat → Nat → Int) (hg : ∀ i j : Nat, i < r → j < c → g i j = some (v i j)) : Ans (fun k => impl_table.f k r c g) (tab r c v) := by
  have key : ∀ (d i : Nat) (y : List (List Int)), i + d = r → y.length = r → Ans (fun k => impl_table.l0 k c g y (r : Int) i) (y.take i ++ ((List.range r).drop i).map fun i => (List.range c).map fun j => v i j) := by
    intro d
    induction d with
    | zero =>
      intro i y h1 h2
      rw [List.drop_eq_nil_of_le (by simp only [List.length_range]; omega), List.map_nil, List.append_nil, List.take_of_length_le (by omega)]; refine Ans.step ?_
      simp only [impl_table.l0]; exact Ans.not (by omega) (Ans.pure _)
    | succ d ih =>
      intro i y h1 h2
      have hi : i < y.length := by omega
      have hget : (y.set i (List.replicate c 0)).getD i [] = List.replicate c 0 := by rw [getD_at _ _ (by simpa using hi)]; simp
      obtain ⟨t1, _⟩ := take_set_drop y i ((List.range c).map fun j => v i j) hi
      have e := ih (i + 1) (y.set i ((List.range c).map fun j => v i j)) (by omega) (by simpa using h2)
      rw [t1, List.append_assoc, List.singleton_append] at e
      rw [range_drop (show i < r by omega), List.map_cons]
      have hrow : rd_L1 (y.set i (List.replicate c 0)) (i : Int) = List.replicate c 0 := by unfold rd_L1; rw [Int.toNat_natCast]; exact hget
      refine Ans.step ?_
      simp only [impl_table.l0, Option.bind_some, Int.toNat_natCast, hrow, List.length_replicate]
      refine Ans.yes (by omega) (Ans.yes (by omega) (Ans.yes (by omega) (Ans.yes (by omega) (Ans.yes (by omega) ?_))))
      have := table_row c hc g (v i) (r : Int) i (by omega) (fun j hj => hg i j (by omega) hj) c 0 (y.set i (List.replicate c 0)) (by omega) (by simpa using hi) (by rw [hget]; simp) (by
        rw [List.set_set, List.take_zero, List.drop_zero, List.nil_append]; exact e)
      exact this
  simp only [impl_table.f, Option.bind_some, Int.toNat_natCast, List.length_replicate]
  refine Ans.yes (by omega) (Ans.yes (by omega) ?_)
  have := key r 0 (List.replicate r []) (by omega) (by simp)
  simpa [tab] using this
def allIn (x : List Int) (lo hi : Int) : Bool := x.all fun a => decide (lo ≤ a ∧ a ≤ hi)
theorem l1All (x : List Int) (hx : x.length ≤ 17592186044416) (lo hi : Int) : Ans (fun k => spec_l1All.f k x lo hi) (allIn x lo hi) := by
  have key : ∀ (d : Nat) (i : Int), 0 ≤ i → i + d = x.length → Ans (fun k => spec_l1All.l0 k lo hi x (x.length : Int) i) (allIn (x.drop i.toNat) lo hi) := by
    intro d
    induction d with
    | zero =>
      intro i h0 h1
      rw [List.drop_eq_nil_of_le (by omega)]; refine Ans.step ?_
      simp only [spec_l1All.l0]; exact Ans.not (by omega) (Ans.pure _)
    | succ d ih =>
      intro i h0 h1
      have hd := drop_at x 0 (show i.toNat < x.length by omega)
      have e := ih (i + 1) (by omega) (by omega)
      rw [hd, allIn, List.all_cons, show decide (lo ≤ x.getD i.toNat 0 ∧ x.getD i.toNat 0 ≤ hi) = decide (lo ≤ rd x i ∧ rd x i ≤ hi) from rfl]
      refine Ans.step ?_
      simp only [spec_l1All.l0, l1In, Option.bind_some, wrap64_up h0 (by omega : i ≤ 4611686018427387904)]
      refine Ans.yes (by omega) (Ans.yes h0 (Ans.yes (by omega) ?_))
      by_cases c : decide (lo ≤ rd x i ∧ rd x i ≤ hi) = true
      · rw [c, Bool.true_and]; rw [show (i + 1).toNat = i.toNat + 1 by omega] at e; exact Ans.yes rfl e
      · rw [Bool.eq_false_iff.mpr c, Bool.false_and]; exact Ans.not (by simp) (Ans.pure _)
  exact key x.length 0 (by omega) (by omega)
theorem walk_sum : ∀ (x : List Int) (s : Int), walkOk s x = true → s + x.sum = 1
  | [], s, h => by simpa [walkOk] using h
  | a :: x, s, h => by
    rw [walkOk, Bool.and_eq_true, Bool.and_eq_true] at h
    have := walk_sum x (s + a) h.2.2
    rw [List.sum_cons]; omega
theorem walkBetween : ∀ (x : List Int) (s : Int), walkOk s x = true → ∀ a ∈ x, -1 ≤ a ∧ a ≤ 1
  | [], _, _ => by simp
  | b :: x, s, h => by
    rw [walkOk, Bool.and_eq_true, Bool.and_eq_true] at h
    intro a ha
    rcases List.mem_cons.1 ha with rfl | ha
    · exact of_decide_eq_true h.1
    · exact walkBetween x (s + b) h.2.2 a ha
/-- Where all are odd, they are 1 and -1 in turn. -/
theorem walk_odd : ∀ (x : List Int) (s : Int), 0 ≤ s → s ≤ 1 → walkOk s x = true → (∀ a ∈ x, a % 2 = 1) → ∀ i : Nat, i < x.length → x.getD i 0 = 1 - 2 * (((i : Int) + s) % 2)
  | [], _, _, _, _, _ => by simp
  | a :: x, s, s0, s1, h, ho => by
    rw [walkOk, Bool.and_eq_true, Bool.and_eq_true] at h
    have h1 := of_decide_eq_true h.1
    have h2 := of_decide_eq_true h.2.1
    have ha := ho a (by simp)
    intro i hi
    cases i with
    | zero => simp only [List.getD_cons_zero]; omega
    | succ i =>
      have := walk_odd x (s + a) h2.1 h2.2 h.2.2 (fun b hb => ho b (by simp [hb])) i (by simpa using hi)
      rw [List.getD_cons_succ, this]; omega
def specRow (h : List Int) : List Int := h ++ [1 - 2 * h.sum] ++ h.reverse
def implRow (h : List Int) (i : Nat) : List Int := h ++ [1 - 2 * ((i : Int) % 2)] ++ h.reverse
def specOut (x : List (List Int)) : List (List Int) := x.map specRow
def implOut (x : List (List Int)) : List (List Int) := (List.range x.length).map fun (i : Nat) => implRow (x.getD i []) i
def final (o : List (List Int)) : List (List Int) × Bool := if sign o = true then (o, true) else ([], false)
theorem sum_bound : ∀ (x : List Int), (∀ a ∈ x, -1 ≤ a ∧ a ≤ 1) → -(x.length : Int) ≤ x.sum ∧ x.sum ≤ x.length
  | [], _ => by simp
  | a :: x, h => by
    have h1 := h a (by simp)
    have h2 := sum_bound x (fun b hb => h b (by simp [hb]))
    rw [List.sum_cons, List.length_cons]; omega
theorem backs (n m : Nat) (hn : n ≤ 6) (x out : List (List Int)) (half : List Int) (i : Int) (h0 : 0 ≤ i) (hi : i ≤ 100) (hh : half.length ≤ 6) (ho : out.length ≤ 100) {R : List (List Int) × Bool} : ∀ (d : Nat) (acc : List Int), d ≤ half.length → acc.length + d ≤ 100 →
    Ans (fun k => spec_FromLeftHalf.l0 k (n : Int) (out ++ [acc ++ (half.take d).reverse]) x (x.length : Int) (i + 1)) R → Ans (fun k => spec_FromLeftHalf.l2 k (n : Int) out half acc ((d : Int) - 1) x (x.length : Int) i) R := by
  intro d
  induction d with
  | zero =>
    intro acc h2 h3 e
    rw [List.take_zero, List.reverse_nil, List.append_nil] at e
    refine Ans.step ?_
    simp only [spec_FromLeftHalf.l2, wrap64_up h0 (by omega : i ≤ 4611686018427387904)]
    exact Ans.not (by omega) (Ans.yes (by omega) e)
  | succ d ih =>
    intro acc h2 h3 e
    rw [take_up half 0 (show d < half.length by omega), List.reverse_append, List.reverse_singleton, List.singleton_append] at e
    have hj : ((d + 1 : Nat) : Int) - 1 = (d : Int) := by omega
    have := ih (acc ++ [rd half d]) (by omega) (by simp only [List.length_append, List.length_singleton]; omega) (by
      rw [List.append_assoc, List.singleton_append, show rd half (d : Int) = half.getD d 0 by unfold rd; rw [Int.toNat_natCast]]; exact e)
    refine Ans.step ?_
    simp only [spec_FromLeftHalf.l2, hj, wrap64_down (show (0 : Int) ≤ (d : Int) by omega) (by omega : (d : Int) ≤ 4611686018427387904)]
    exact Ans.yes (by omega) (Ans.yes (by omega) (Ans.yes (by omega) (Ans.yes (by omega) this)))
theorem sums (n m : Nat) (hn : n ≤ 6) (hm : wrap64 ((n : Int) / 2) = (m : Int)) (x out : List (List Int)) (half : List Int) (i : Int) (h0 : 0 ≤ i) (hi : i ≤ 100) (hh : half.length = m) (hm6 : m ≤ 6) (hin : ∀ a ∈ half, -1 ≤ a ∧ a ≤ 1) (ho : out.length ≤ 100) {R : List (List Int) × Bool}
    (e : Ans (fun k => spec_FromLeftHalf.l0 k (n : Int) (out ++ [specRow half]) x (x.length : Int) (i + 1)) R) : ∀ (d : Nat) (j s : Int), 0 ≤ j → j + d = half.length → s + (half.drop j.toNat).sum = half.sum → -j ≤ s → s ≤ j →
    Ans (fun k => spec_FromLeftHalf.l1 k (n : Int) out half s half x (x.length : Int) i half (half.length : Int) j) R := by
  intro d
  induction d with
  | zero =>
    intro j s j0 j1 hs s0 s1
    rw [drop_all half (by omega), List.sum_nil] at hs
    have w1 : wrap64 (2 * s) = 2 * s := wrap64_in _ ⟨by omega, by omega⟩
    have w2 : wrap64 (1 - 2 * s) = 1 - 2 * s := wrap64_in _ ⟨by omega, by omega⟩
    have w3 : wrap64 ((m : Int) - 1) = (m : Int) - 1 := wrap64_in _ ⟨by omega, by omega⟩
    refine Ans.step ?_
    simp only [spec_FromLeftHalf.l1, hm, w1, w2, w3]
    refine Ans.not (by omega) (Ans.yes (by omega) ?_)
    have := backs n m hn x out half i h0 hi (by omega) ho (R := R) m (half ++ [1 - 2 * s]) (by omega) (by simp only [List.length_append, List.length_singleton]; omega)
    refine this ?_
    rw [List.take_of_length_le (by omega), show s = half.sum by omega]
    exact e
  | succ d ih =>
    intro j s j0 j1 hs s0 s1
    have hmem : rd half j ∈ half := by unfold rd; exact getD_mem 0 (by omega)
    have hb := hin _ hmem
    rw [drop_at half 0 (show j.toNat < half.length by omega), List.sum_cons, show half.getD j.toNat 0 = rd half j from rfl] at hs
    have w1 : wrap64 (s + rd half j) = s + rd half j := wrap64_in _ ⟨by omega, by omega⟩
    refine Ans.step ?_
    simp only [spec_FromLeftHalf.l1, w1, wrap64_up j0 (by omega : j ≤ 4611686018427387904)]
    exact Ans.yes (by omega) (Ans.yes j0 (Ans.yes (by omega) (ih (j + 1) _ (by omega) (by omega) (by rw [show (j + 1).toNat = j.toNat + 1 by omega]; omega) (by omega) (by omega))))
def okHalf (m : Nat) (h : List Int) : Bool := decide (h.length = m) && allIn h (-1) 1
theorem specLoop (n m : Nat) (hn : n ≤ 6) (hm : wrap64 ((n : Int) / 2) = (m : Int)) (hm6 : m ≤ 6) (x : List (List Int)) (hx : x.length ≤ 6) (hr : ∀ r ∈ x, r.length ≤ 1048576) : ∀ (d : Nat) (i : Int) (out : List (List Int)), 0 ≤ i → i + d = x.length → out.length + d ≤ 100 →
    Ans (fun k => spec_FromLeftHalf.l0 k (n : Int) out x (x.length : Int) i) (if (x.drop i.toNat).all (okHalf m) then final (out ++ specOut (x.drop i.toNat)) else ([], false)) := by
  intro d
  induction d with
  | zero =>
    intro i out h0 h1 h2
    rw [drop_all x (by omega), specOut, List.map_nil, List.append_nil, List.all_nil, if_pos rfl, final]; refine Ans.step ?_
    simp only [spec_FromLeftHalf.l0]
    refine Ans.not (by omega) ((sgGood out (by omega)).bind ?_)
    by_cases c : sign out = true
    · simp only [if_pos c]; exact Ans.pure _
    · simp only [if_neg c]; exact Ans.pure _
  | succ d ih =>
    intro i out h0 h1 h2
    have hl := hr _ (rd_L1_mem h0 (show i < x.length by omega))
    have e := ih (i + 1) (out ++ [specRow (rd_L1 x i)]) (by omega) (by omega) (by simp only [List.length_append, List.length_singleton]; omega)
    rw [show (i + 1).toNat = i.toNat + 1 by omega, List.append_assoc, List.singleton_append] at e
    have no : Ans (fun k => spec_FromLeftHalf.j2 k (n : Int) out (rd_L1 x i) x (x.length : Int) i true) ([], false) := by
      refine Ans.step ?_; simp only [spec_FromLeftHalf.j2]; exact Ans.yes (by simp) (Ans.pure _)
    rw [drop_at x [] (show i.toNat < x.length by omega), show x.getD i.toNat [] = rd_L1 x i from rfl, List.all_cons, okHalf]
    refine Ans.step ?_
    simp only [spec_FromLeftHalf.l0, hm]
    refine Ans.yes (by omega) (Ans.yes h0 (Ans.yes (by omega) ?_))
    by_cases c1 : (rd_L1 x i).length = m
    case neg => rw [decide_eq_false c1, Bool.false_and, Bool.false_and, if_neg (by simp)]; exact Ans.not (by omega) no
    rw [decide_eq_true c1, Bool.true_and]
    refine Ans.yes (by omega) ((l1All _ (by omega) (-1) 1).bind ?_)
    by_cases c2 : allIn (rd_L1 x i) (-1) 1 = true
    case neg => rw [Bool.eq_false_iff.mpr c2, Bool.false_and, if_neg (by simp)]; exact no
    rw [c2, Bool.true_and]
    have hin : ∀ a ∈ rd_L1 x i, -1 ≤ a ∧ a ≤ 1 := fun a ha => of_decide_eq_true (List.all_eq_true.mp c2 a ha)
    refine Ans.step ?_
    simp only [spec_FromLeftHalf.j2, spec_l1Own.f, Option.bind_some, List.nil_append, List.length_nil, if_pos (by omega : 0 + (rd_L1 x i).length < 17592186044416)]
    exact Ans.not (by simp) (sums n m hn hm x out _ i h0 (by omega) c1 hm6 hin (by omega) e _ 0 0 (by omega) (show (0 : Int) + ((rd_L1 x i).length : Nat) = _ by omega) (by simp) (by omega) (by omega))
theorem sign_row {x : List (List Int)} (s : sign x = true) : ∀ r ∈ x, walkOk 0 r = true := by
  unfold sign at s; rw [Bool.and_eq_true] at s
  have t := s.2; rw [Bool.and_eq_true] at t
  exact fun r hr => List.all_eq_true.mp t.1 r hr
theorem sign_col {x : List (List Int)} (s : sign x = true) (j : Nat) (hj : j < x.length) : walkOk 0 (colOf x j) = true := by
  unfold sign at s; rw [Bool.and_eq_true] at s
  have t := s.2; rw [Bool.and_eq_true] at t
  exact List.all_eq_true.mp t.2 j (List.mem_range.mpr hj)
theorem sum_rev (h : List Int) : h.reverse.sum = h.sum := by
  induction h with
  | nil => rfl
  | cons a h ih => simp only [List.reverse_cons, List.sum_append, List.sum_cons, List.sum_nil, ih]; omega
theorem implOut_at (x : List (List Int)) (i : Nat) (hi : i < x.length) : (implOut x).getD i [] = implRow (x.getD i []) i := by
  rw [getD_at _ _ (by simpa [implOut] using hi)]; simp [implOut]
theorem out_same (x : List (List Int)) (m : Nat) (hl : ∀ r ∈ x, r.length = m) (hm : m < x.length) (s : sign (specOut x) = true ∨ sign (implOut x) = true) : specOut x = implOut x := by
  refine List.ext_getElem (by simp [specOut, implOut]) fun i h1 h2 => ?_
  have hi : i < x.length := by simpa [specOut] using h1
  have e1 : (specOut x)[i] = specRow (x.getD i []) := by rw [getD_at x [] hi]; simp [specOut]
  have e2 : (implOut x)[i] = implRow (x.getD i []) i := by rw [← getD_at (implOut x) [] h2]; exact implOut_at x i hi
  rw [e1, e2]
  have key : 1 - 2 * (x.getD i []).sum = 1 - 2 * ((i : Int) % 2) := by
    rcases s with s | s
    · have hc := sign_col s m (by simpa [specOut] using hm)
      have ec : colOf (specOut x) (m : Int) = x.map fun h => 1 - 2 * h.sum := by
        simp only [colOf, specOut, List.map_map]
        refine List.map_congr_left fun h hh => ?_
        have := hl h hh
        simp only [Function.comp, rd, Int.toNat_natCast, specRow]
        rw [getD_at _ _ (by simp only [List.length_append, List.length_singleton]; omega), List.getElem_append_left (by simp only [List.length_append, List.length_singleton]; omega), List.getElem_append_right (by omega)]
        simp [this]
      rw [ec] at hc
      have := walk_odd _ 0 (by omega) (by omega) hc (fun a ha => by obtain ⟨h, _, rfl⟩ := List.mem_map.1 ha; omega) i (by simpa using hi)
      rw [getD_at _ _ (by simpa using hi), List.getElem_map, ← getD_at x [] hi] at this
      rw [this]; omega
    · have hw := sign_row s (implRow (x.getD i []) i) (by rw [← implOut_at x i hi]; exact getD_mem [] (by simpa [implOut] using hi))
      have := walk_sum _ 0 hw
      simp only [implRow, List.sum_append, List.sum_cons, List.sum_nil, sum_rev] at this
      omega
  rw [specRow, implRow, key]
theorem final_same (x : List (List Int)) (m : Nat) (hl : ∀ r ∈ x, r.length = m) (hm : m < x.length) : final (specOut x) = final (implOut x) := by
  by_cases s : sign (specOut x) = true ∨ sign (implOut x) = true
  · rw [out_same x m hl hm s]
  · have h := not_or.mp s
    rw [final, final, if_neg h.1, if_neg h.2]
theorem final_small (o : List (List Int)) : (final o).1.length ≤ 6 ∧ ∀ r ∈ (final o).1, r.length ≤ 6 := by
  unfold final
  by_cases s : sign o = true
  · rw [if_pos s]
    unfold sign at s
    rw [Bool.and_eq_true] at s
    obtain ⟨b1, b2, b3⟩ := square_of s.1
    exact ⟨b2, fun r hr => by rw [b3 r hr]; exact b2⟩
  · rw [if_neg s]; simp
theorem tab_impl (x : List (List Int)) (n m : Nat) (hn : x.length = n) (hnm : n = 2 * m + 1) (hl : ∀ r ∈ x, r.length = m) (v : Nat → Nat → Int)
    (hv : ∀ i j : Nat, i < n → j < n → v i j = if j < m then (x.getD i []).getD j 0 else if m < j then (x.getD i []).getD (n - 1 - j) 0 else 1 - 2 * ((i : Int) % 2)) : tab n n v = implOut x := by
  refine List.ext_getElem (by simp [tab, implOut, hn]) fun i h1 h2 => ?_
  have hi : i < n := by simpa [tab] using h1
  rw [show (tab n n v)[i] = (List.range n).map (fun j => v i j) by simp [tab], ← getD_at (implOut x) [] h2, implOut_at x i (by omega)]
  have hr : (x.getD i []).length = m := hl _ (getD_mem [] (by omega))
  refine List.ext_getElem (by simp only [List.length_map, List.length_range, implRow, List.length_append, List.length_singleton, List.length_reverse]; omega) fun j g1 g2 => ?_
  have hj : j < n := by simpa using g1
  rw [List.getElem_map, List.getElem_range, hv i j hi hj]
  generalize x.getD i [] = row at hr g2
  simp only [implRow]
  by_cases c1 : j < m
  · rw [if_pos c1, List.getElem_append_left (by simp only [List.length_append, List.length_singleton]; omega), List.getElem_append_left (by omega), getD_at _ _ (by omega)]
  · rw [if_neg c1]
    by_cases c2 : m < j
    · rw [if_pos c2, List.getElem_append_right (by simp only [List.length_append, List.length_singleton]; omega), List.getElem_reverse, getD_at _ _ (by omega)]
      congr 1; simp only [List.length_append, List.length_singleton]; omega
    · rw [if_neg c2, List.getElem_append_left (by simp only [List.length_append, List.length_singleton]; omega), List.getElem_append_right (by omega)]
      simp
theorem fromLeft (x : List (List Int)) (h : x.length ≤ 1048576) (hr : ∀ r ∈ x, r.length ≤ 1048576) :
    ∃ z : List (List Int) × Bool, (z.1.length ≤ 6 ∧ ∀ r ∈ z.1, r.length ≤ 6) ∧ Ans (fun k => spec_FromLeftHalf.f k x) z ∧ Ans (fun k => impl_FromLeftHalf.f k x) z := by
  have noS : Ans (fun k => spec_FromLeftHalf.j0 k x (x.length : Int) true) ([], false) := by
    refine Ans.step ?_; simp only [spec_FromLeftHalf.j0]; exact Ans.yes (by simp) (Ans.pure _)
  have noI : Ans (fun k => impl_FromLeftHalf.j0 k true x (x.length : Int)) ([], false) := by
    refine Ans.step ?_; simp only [impl_FromLeftHalf.j0]; exact Ans.yes (by simp) (Ans.pure _)
  simp only [spec_FromLeftHalf.f, impl_FromLeftHalf.f, impl_isSide.f, l1In, within, Option.bind_some]
  by_cases c : 1 ≤ x.length ∧ x.length ≤ 6
  case neg => exact ⟨([], false), by simp, Ans.not (by simp; omega) noS, Ans.not (by simp; omega) noI⟩
  by_cases od : (x.length : Int) % 2 = 0
  · refine ⟨([], false), by simp, Ans.yes (by simp; omega) ?_, Ans.yes (by simp; omega) (Ans.yes od noI)⟩
    rw [show (((x.length : Int) % 2) == 0) = true by simp [od]]; exact noS
  obtain ⟨m, hm⟩ : ∃ m, x.length = 2 * m + 1 := ⟨x.length / 2, by omega⟩
  have hw : wrap64 ((x.length : Int) / 2) = (m : Int) := by rw [wrap64_in _ ⟨by omega, by omega⟩]; omega
  have hw2 : wrap64 (Int.tdiv (x.length : Int) 2) = (m : Int) := by rw [Int.tdiv_eq_ediv_of_nonneg (by omega)]; exact hw
  have eS := specLoop x.length m c.2 hw (by omega) x c.2 hr x.length 0 [] (by omega) (by omega) (by simp only [List.length_nil]; omega)
  rw [show (0 : Int).toNat = 0 from rfl, List.drop_zero, List.nil_append] at eS
  have eS' : Ans (fun k => spec_FromLeftHalf.j0 k x (x.length : Int) (((x.length : Int) % 2) == 0)) (if x.all (okHalf m) then final (specOut x) else ([], false)) := by
    rw [show (((x.length : Int) % 2) == 0) = false by simp [od]]
    refine Ans.step ?_; simp only [spec_FromLeftHalf.j0]; exact Ans.not (by simp) eS
  have eC := containsL x (by omega) (fun x0_ => impl_FromLeftHalf_1.f x0_ (x.length : Int)) (fun r => (r.length : Int) != (m : Int)) (fun a => by simp only [impl_FromLeftHalf_1.f, hw2])
  refine ⟨_, ?_, Ans.yes (by simp; omega) eS', Ans.yes (by simp; omega) (Ans.not od (Ans.not (by rw [hw]; omega) (eC.bind ?_)))⟩
  · split
    · exact final_small _
    · simp
  by_cases q : ∀ r ∈ x, r.length = m
  case neg =>
    have hq : (x.any fun r => (r.length : Int) != (m : Int)) = true := by
      obtain ⟨r, hm'⟩ := Classical.not_forall.mp q
      obtain ⟨hm', hne⟩ := Classical.not_imp.mp hm'
      refine List.any_eq_true.mpr ⟨r, hm', ?_⟩
      simp only [bne_iff_ne, ne_eq]; omega
    have ha : ¬ x.all (okHalf m) = true := fun ha => q fun r hr => by
      have := List.all_eq_true.mp ha r hr
      rw [okHalf, Bool.and_eq_true] at this
      exact of_decide_eq_true this.1
    rw [hq, if_neg ha]; exact noI
  have hq : (x.any fun r => (r.length : Int) != (m : Int)) = false := by
    rw [Bool.eq_false_iff]; intro hc
    obtain ⟨r, hmem, hne⟩ := List.any_eq_true.mp hc
    have := q r hmem
    simp [this] at hne
  rw [hq]
  have hg : ∀ i j : Nat, i < x.length → j < x.length → impl_FromLeftHalf_2.f i j (x.length : Int) x = some (if j < m then rd (rd_L1 x (i : Int)) (j : Int) else if m < j then rd (rd_L1 x (i : Int)) ((x.length - 1 - j : Nat) : Int) else 1 - 2 * ((i : Int) % 2)) := by
    intro i j hi hj
    have hrow : (rd_L1 x (i : Int)).length = m := q _ (rd_L1_mem (by omega) (by omega))
    have w2 : wrap64 ((x.length : Int) - 1) = (x.length : Int) - 1 := wrap64_in _ ⟨by omega, by omega⟩
    have w3 : wrap64 ((x.length : Int) - 1 - (j : Int)) = ((x.length - 1 - j : Nat) : Int) := by rw [wrap64_in _ ⟨by omega, by omega⟩]; omega
    have w4 : Int.tmod (i : Int) 2 = (i : Int) % 2 := Int.tmod_eq_emod_of_nonneg (by omega)
    have w5 : wrap64 ((i : Int) % 2 * 2) = (i : Int) % 2 * 2 := wrap64_in _ ⟨by omega, by omega⟩
    have w6 : wrap64 (1 - (i : Int) % 2 * 2) = 1 - 2 * ((i : Int) % 2) := by rw [wrap64_in _ ⟨by omega, by omega⟩]; omega
    simp only [impl_FromLeftHalf_2.f, hw2, w2, w3, w4, w5, w6]
    by_cases c1 : j < m
    · rw [if_pos c1, if_pos (by omega), if_pos (by omega), if_pos (by omega), if_pos (by omega), if_pos (by omega)]
    · rw [if_neg c1, if_neg (show ¬ (j : Int) < (m : Int) by omega)]
      by_cases c2 : m < j
      · rw [if_pos c2, if_pos (show (j : Int) > (m : Int) by omega), if_pos (by omega), if_pos (by omega), if_pos (by omega), if_pos (by omega)]
      · rw [if_neg c2, if_neg (show ¬ (j : Int) > (m : Int) by omega)]
  have eT := table x.length x.length h h (fun x0_ x1_ => impl_FromLeftHalf_2.f x0_ x1_ (x.length : Int) x) _ hg
  rw [tab_impl x x.length m rfl hm q _ (fun i j _ _ => by simp only [rd, rd_L1, Int.toNat_natCast])] at eT
  have il : (implOut x).length ≤ 1048576 := by simp only [implOut, List.length_map, List.length_range]; exact h
  have eI : Ans (fun k => impl_FromLeftHalf.j0 k false x (x.length : Int)) (final (implOut x)) := by
    refine Ans.step ?_
    simp only [impl_FromLeftHalf.j0]
    refine Ans.not (by simp) (eT.bind ((isSign (implOut x) il).bind ?_))
    unfold final
    by_cases s : sign (implOut x) = true
    · simp only [if_pos s]; exact Ans.pure _
    · simp only [if_neg s]; exact Ans.pure _
  by_cases A : x.all (okHalf m) = true
  · rw [if_pos A, final_same x m q (by omega)]; exact eI
  · rw [if_neg A]
    have ns : ¬ sign (implOut x) = true := fun s => A (List.all_eq_true.mpr fun r hrm => by
      rw [okHalf, Bool.and_eq_true]
      refine ⟨decide_eq_true (q r hrm), List.all_eq_true.mpr fun a ha => decide_eq_true ?_⟩
      obtain ⟨i, hi, rfl⟩ := List.getElem_of_mem hrm
      have hw := sign_row s (implRow (x.getD i []) i) (by rw [← implOut_at x i hi]; exact getD_mem [] (by simpa [implOut] using hi))
      refine walkBetween _ 0 hw a ?_
      rw [getD_at x [] hi, implRow]
      simp [ha])
    rw [final, if_neg ns] at eI
    exact eI
theorem FnExactFromLeftHalf : laws_FnExactFromLeftHalf.Pure := by
  intro x m0 w0
  unfold maxLen at m0 w0
  obtain ⟨s, es, hs⟩ := szIntSS x 1048576 (by omega) (by omega) (by omega) (fun r hr => (w0 r hr).1)
  obtain ⟨k2, e2⟩ := es.at
  refine ⟨k2, s, e2, fun h0 => ?_⟩
  have ht := hs h0
  have hx : x.length ≤ 1048576 := by omega
  have hr : ∀ r ∈ x, r.length ≤ 1048576 := fun r h => by have := len_total h; omega
  obtain ⟨⟨z, b⟩, ⟨hz, hz2⟩, e1, e3⟩ := fromLeft x hx hr
  have hz : z.length ≤ 6 := hz
  have hz2 : ∀ r ∈ z, r.length ≤ 6 := hz2
  have hzt := total_le hz2
  have F := (Evn.of (toIntSS x (by omega) (fun r h => by have := hr r h; omega))).and ((Evn.of e1).and ((Evn.of e3).and ((Evn.of (eqIntSS z (by omega) (fun r h => by have := hz2 r h; omega))).and ((Evn.of (eqIntSS x (by omega) (fun r h => by have := hr r h; omega))).and ((Evn.of (markIntSS x 1 (by omega) (by omega) (by omega))).and ((Evn.of (markIntSS z 1 (by omega) (by omega) (by omega))).and (Evn.of (heldIntSS z 1 (by omega) (by omega) (by omega)))))))))
  obtain ⟨k, f0, f1, f2, f3, f4, f5, f6, f7⟩ := F.at
  exact ⟨k, z, b, _, _, _, _, f0, f1, f2, f3, f4, f5, by omega, f6, by omega, f7⟩

end Go.Proofs.Ythpnfjdpomadaaa.Pure
