/- For all numbers of rows and every kind the program's ListSymmetric returns what the reference's returns, with its memory its own: no condition. -/
import Derived.Test.YthpnfjdpomadaaaCFnExactListSymmetricx3
import Derived.Test.YthpnfjdpomadaaaQTwo
namespace Go.Proofs.Ythpnfjdpomadaaa.Pure
open Go.RowKit Go.Proofs.Ythpnfjdpomadaaa.X Go.Proofs.YthpnfjdpomadaaaW.PrintWords Go.Proofs.YthpnfjdpomadaaaW.PrintLast Go.Proofs.Ythpnfjdpomadaaa.Q
set_option linter.unusedVariables false
set_option linter.unusedSimpArgs false
theorem len_le {x : List Int} (h : x.length ≤ 17592186044416) : (x.length : Int) ≤ 17592186044416 := by omega
theorem eqIntS_l0 (x : List Int) (hx : x.length ≤ 17592186044416) : ∀ (d : Nat) (i : Int), 0 ≤ i → i + d = x.length → ∀ k, d < k → laws_eqIntS.l0 k x x i = some true := by
  intro d
  induction d with
  | zero => intro i h0 h1 k hk; obtain ⟨j, rfl⟩ : ∃ j, k = j + 1 := ⟨k - 1, by omega⟩; unfold laws_eqIntS.l0; rw [if_neg (by omega)]
  | succ d ih =>
    intro i h0 h1 k hk; obtain ⟨j, rfl⟩ : ∃ j, k = j + 1 := ⟨k - 1, by omega⟩; unfold laws_eqIntS.l0
    rw [if_pos (by omega), if_pos h0, if_pos (by omega), if_pos rfl, wrap64_up h0 (by omega)]
    exact ih _ (by omega) (by omega) _ (by omega)
theorem eqIntS (x : List Int) (hx : x.length ≤ 17592186044416) : Ans (fun k => laws_eqIntS.f k x x) true :=
  Ans.from (x.length + 1) fun k hk => by unfold laws_eqIntS.f; rw [if_pos rfl]; exact eqIntS_l0 x hx x.length 0 (by omega) (by omega) _ (by omega)
/-- The row after marking from `n`: `n, n+1, ..`. -/
def upFrom (n : Int) (m : Nat) : List Int := (List.range m).map fun (i : Nat) => n + (i : Int)
theorem markIntS_l0 (x : List Int) (n : Int) (hn : 0 ≤ n) (hx : n + x.length ≤ 17592186044416) : ∀ (d : Nat) (y : List Int) (i : Int), y.length = x.length → (∀ j : Nat, j < i → y.getD j 0 = n + j) → 0 ≤ i → i + d = x.length → ∀ k, d < k →
    laws_markIntS.l0 k y (n + i) i = some (n + x.length, upFrom n x.length) := by
  intro d
  induction d with
  | zero =>
    intro y i hl hy h0 h1 k hk; obtain ⟨j, rfl⟩ : ∃ j, k = j + 1 := ⟨k - 1, by omega⟩; unfold laws_markIntS.l0; rw [if_neg (by omega)]
    have : y = upFrom n x.length := by
      refine List.ext_getElem (by simp [upFrom, hl]) fun m h2 h3 => ?_
      have := hy m (by omega)
      rw [getD_at _ _ h2] at this
      rw [this]; simp [upFrom]
    rw [this, show n + i = n + x.length by omega]
  | succ d ih =>
    intro y i hl hy h0 h1 k hk; obtain ⟨j, rfl⟩ : ∃ j, k = j + 1 := ⟨k - 1, by omega⟩; unfold laws_markIntS.l0
    rw [if_pos (by omega), if_pos h0, wrap64_up h0 (by omega), wrap64_up (by omega) (by omega), show n + i + 1 = n + (i + 1) by omega]
    refine ih _ _ (by simp [hl]) ?_ (by omega) (by omega) _ (by omega)
    intro m hm
    obtain ⟨a, rfl⟩ : ∃ a : Nat, i = a := ⟨i.toNat, by omega⟩
    by_cases e : m = a
    · subst e
      have h2 : m < (y.set ((m : Int)).toNat (n + (m : Int))).length := by simp only [List.length_set]; omega
      rw [getD_at _ _ h2]
      simp
    · have h2 : m < y.length := by omega
      have h3 : m < (y.set ((a : Int)).toNat (n + (a : Int))).length := by simp only [List.length_set]; omega
      rw [← hy m (by omega), getD_at _ _ h3, getD_at _ _ h2, List.getElem_set_ne (by omega)]
theorem markIntS (x : List Int) (n : Int) (hn : 0 ≤ n) (hx : n + x.length ≤ 17592186044416) : Ans (fun k => laws_markIntS.f k x n) (n + x.length, upFrom n x.length) :=
  Ans.from (x.length + 1) fun k hk => by
    unfold laws_markIntS.f
    have := markIntS_l0 x n hn hx x.length x 0 rfl (by intro j hj; omega) (by omega) (by omega) k (by omega)
    rwa [show n + 0 = n by omega] at this
theorem heldIntS_l0 (m : Nat) (n : Int) (hn : 0 ≤ n) (hx : n + m ≤ 17592186044416) : ∀ (d : Nat) (i : Int), 0 ≤ i → i + d = m → ∀ k, d < k →
    laws_heldIntS.l0 k (upFrom n m) (n + i) i = some (n + m) := by
  intro d
  have hl : (upFrom n m).length = m := by simp [upFrom]
  induction d with
  | zero =>
    intro i h0 h1 k hk; obtain ⟨j, rfl⟩ : ∃ j, k = j + 1 := ⟨k - 1, by omega⟩; unfold laws_heldIntS.l0; rw [if_neg (by omega), show n + i = n + m by omega]
  | succ d ih =>
    intro i h0 h1 k hk; obtain ⟨j, rfl⟩ : ∃ j, k = j + 1 := ⟨k - 1, by omega⟩; unfold laws_heldIntS.l0
    have : rd (upFrom n m) i = n + i := by
      unfold rd; rw [getD_at _ _ (by omega)]; simp only [upFrom, List.getElem_map, List.getElem_range]; omega
    rw [if_pos (by omega), if_pos h0, if_pos this, wrap64_up h0 (by omega), wrap64_up (by omega) (by omega), show n + i + 1 = n + (i + 1) by omega]
    exact ih _ (by omega) (by omega) _ (by omega)
theorem heldIntS (m : Nat) (n : Int) (hn : 0 ≤ n) (hx : n + m ≤ 17592186044416) : Ans (fun k => laws_heldIntS.f k (upFrom n m) n) (n + m) :=
  Ans.from (m + 1) fun k hk => by
    unfold laws_heldIntS.f
    have := heldIntS_l0 m n hn hx m 0 (by omega) (by omega) k (by omega)
    rwa [show n + 0 = n by omega] at this
theorem rd_L1_mem {x : List (List Int)} {i : Int} (h0 : 0 ≤ i) (h1 : i < x.length) : rd_L1 x i ∈ x := by unfold rd_L1; exact getD_mem _ (by omega)
theorem eqIntSS_l0 (x : List (List Int)) (hx : x.length ≤ 17592186044416) (hr : ∀ r ∈ x, r.length ≤ 17592186044416) : ∀ (d : Nat) (i : Int), 0 ≤ i → i + d = x.length → Ans (fun k => laws_eqIntSS.l0 k x x i) true := by
  intro d
  induction d with
  | zero => intro i h0 h1; refine Ans.step ?_; simp only [laws_eqIntSS.l0]; exact Ans.not (by omega) (Ans.pure _)
  | succ d ih =>
    intro i h0 h1; refine Ans.step ?_; simp only [laws_eqIntSS.l0, wrap64_up h0 (by omega : i ≤ 4611686018427387904)]
    exact Ans.yes (by omega) (Ans.yes h0 (Ans.yes (by omega) ((eqIntS _ (hr _ (rd_L1_mem h0 (by omega)))).bind (Ans.yes rfl (ih _ (by omega) (by omega))))))
theorem eqIntSS (x : List (List Int)) (hx : x.length ≤ 17592186044416) (hr : ∀ r ∈ x, r.length ≤ 17592186044416) : Ans (fun k => laws_eqIntSS.f k x x) true := by
  simp only [laws_eqIntSS.f]
  exact Ans.yes (by simp) (eqIntSS_l0 x hx hr x.length 0 (by omega) (by omega))
/-- The rows after marking from `n`. -/
def upRows : Int → List (List Int) → List (List Int)
  | _, [] => []
  | n, a :: x => upFrom n a.length :: upRows (n + a.length) x
theorem upRows_len : ∀ (x : List (List Int)) (n : Int), (upRows n x).length = x.length
  | [], _ => rfl
  | _ :: x, _ => by simp [upRows, upRows_len x]
theorem markIntSS_l0 : ∀ (x : List (List Int)) (y : List (List Int)) (n i : Int), 0 ≤ n → n + total x ≤ 17592186044416 → 0 ≤ i → y.length ≤ 17592186044416 → i + x.length = y.length → y.drop i.toNat = x →
    Ans (fun k => laws_markIntSS.l0 k y n i) (n + total x, y.take i.toNat ++ upRows n x) := by
  intro x
  induction x with
  | nil =>
    intro y n i h0 h1 h2 h3 h4 h5; refine Ans.step ?_; simp only [laws_markIntSS.l0]
    simp only [List.length_nil] at h4
    refine Ans.not (by omega) ?_
    rw [total_nil, upRows, List.append_nil, List.take_of_length_le (by omega), show n + ((0 : Nat) : Int) = n by omega]; exact Ans.pure _
  | cons a x ih =>
    intro y n i h0 h1 h2 h3 h4 h5; refine Ans.step ?_; simp only [laws_markIntSS.l0, wrap64_up h2 (by omega : i ≤ 4611686018427387904)]
    rw [total_cons] at h1
    simp only [List.length_cons] at h4
    have hlt : i.toNat < y.length := by omega
    have hd := drop_at y [] hlt
    rw [h5] at hd
    obtain ⟨ha, hx⟩ := List.cons.inj hd
    rw [← ha]
    refine Ans.yes (by omega) (Ans.yes h2 ((markIntS a n h0 (by omega)).bind ?_))
    obtain ⟨e1, e2⟩ := take_set_drop y i.toNat (upFrom n a.length) hlt
    have := ih (y.set i.toNat (upFrom n a.length)) (n + a.length) (i + 1) (by omega) (by omega) (by omega) (by simp; omega) (by simp only [List.length_set]; omega) (by rw [show (i + 1).toNat = i.toNat + 1 by omega, e2, ← hx])
    rw [show (i + 1).toNat = i.toNat + 1 by omega, e1, show n + (a.length : Int) + (total x : Int) = n + (total (a :: x) : Int) by rw [total_cons]; omega] at this
    rw [upRows]
    simpa using this
theorem markIntSS (x : List (List Int)) (n : Int) (hn : 0 ≤ n) (hx : n + total x ≤ 17592186044416) (hl : x.length ≤ 17592186044416) : Ans (fun k => laws_markIntSS.f k x n) (n + total x, upRows n x) := by
  have := markIntSS_l0 x x n 0 hn hx (by omega) hl (by omega) rfl
  simpa [laws_markIntSS.f] using this
theorem heldIntSS_l0 : ∀ (x : List (List Int)) (y : List (List Int)) (n i : Int), 0 ≤ n → n + total x ≤ 17592186044416 → 0 ≤ i → y.length ≤ 17592186044416 → i + x.length = y.length → y.drop i.toNat = upRows n x →
    Ans (fun k => laws_heldIntSS.l0 k y n i) (n + total x) := by
  intro x
  induction x with
  | nil =>
    intro y n i h0 h1 h2 h3 h4 h5; refine Ans.step ?_; simp only [laws_heldIntSS.l0]
    simp only [List.length_nil] at h4
    refine Ans.not (by omega) ?_
    rw [total_nil, show n + ((0 : Nat) : Int) = n by omega]; exact Ans.pure _
  | cons a x ih =>
    intro y n i h0 h1 h2 h3 h4 h5; refine Ans.step ?_; simp only [laws_heldIntSS.l0, wrap64_up h2 (by omega : i ≤ 4611686018427387904)]
    rw [total_cons] at h1
    simp only [List.length_cons] at h4
    have hlt : i.toNat < y.length := by omega
    have hd := drop_at y [] hlt
    rw [h5, upRows] at hd
    obtain ⟨ha, hx⟩ := List.cons.inj hd
    have hrd : rd_L1 y i = upFrom n a.length := by rw [rd_L1, ← ha]
    rw [hrd]
    refine Ans.yes (by omega) (Ans.yes h2 ((heldIntS a.length n h0 (by omega)).bind (Ans.not (by omega) ?_)))
    have := ih y (n + a.length) (i + 1) (by omega) (by omega) (by omega) h3 (by omega) (by rw [show (i + 1).toNat = i.toNat + 1 by omega, ← hx])
    rwa [show n + (a.length : Int) + (total x : Int) = n + (total (a :: x) : Int) by rw [total_cons]; omega] at this
theorem heldIntSS (x : List (List Int)) (n : Int) (hn : 0 ≤ n) (hx : n + total x ≤ 17592186044416) (hl : x.length ≤ 17592186044416) : Ans (fun k => laws_heldIntSS.f k (upRows n x) n) (n + total x) :=
  heldIntSS_l0 x (upRows n x) n 0 hn hx (by omega) (by rw [upRows_len]; exact hl) (by rw [upRows_len]; omega) rfl
theorem rd_L2_mem {x : List (List (List Int))} {i : Int} (h0 : 0 ≤ i) (h1 : i < x.length) : rd_L2 x i ∈ x := by unfold rd_L2; exact getD_mem _ (by omega)
theorem eqIntSSS_l0 (x : List (List (List Int))) (hx : x.length ≤ 17592186044416) (hr : ∀ a ∈ x, a.length ≤ 17592186044416 ∧ ∀ r ∈ a, r.length ≤ 17592186044416) : ∀ (d : Nat) (i : Int), 0 ≤ i → i + d = x.length → Ans (fun k => laws_eqIntSSS.l0 k x x i) true := by
  intro d
  induction d with
  | zero => intro i h0 h1; refine Ans.step ?_; simp only [laws_eqIntSSS.l0]; exact Ans.not (by omega) (Ans.pure _)
  | succ d ih =>
    intro i h0 h1; refine Ans.step ?_; simp only [laws_eqIntSSS.l0, wrap64_up h0 (by omega : i ≤ 4611686018427387904)]
    have hm := hr _ (rd_L2_mem h0 (show i < x.length by omega))
    exact Ans.yes (by omega) (Ans.yes h0 (Ans.yes (by omega) ((eqIntSS _ hm.1 hm.2).bind (Ans.yes rfl (ih _ (by omega) (by omega))))))
theorem eqIntSSS (x : List (List (List Int))) (hx : x.length ≤ 17592186044416) (hr : ∀ a ∈ x, a.length ≤ 17592186044416 ∧ ∀ r ∈ a, r.length ≤ 17592186044416) : Ans (fun k => laws_eqIntSSS.f k x x) true := by
  simp only [laws_eqIntSSS.f]
  exact Ans.yes (by simp) (eqIntSSS_l0 x hx hr x.length 0 (by omega) (by omega))
/-- All numbers of all rows. -/
def total3 (x : List (List (List Int))) : Nat := (x.map total).sum
theorem total3_nil : total3 [] = 0 := rfl
theorem total3_cons (a : List (List Int)) (x : List (List (List Int))) : total3 (a :: x) = total a + total3 x := rfl
theorem total3_le {c : Nat} {x : List (List (List Int))} (h : ∀ a ∈ x, total a ≤ c) : total3 x ≤ x.length * c := by
  induction x with
  | nil => simp [total3_nil]
  | cons a x ih =>
    have h1 := h a (by simp)
    have h2 := ih (fun b hb => h b (by simp [hb]))
    rw [total3_cons, List.length_cons, Nat.succ_mul]; omega
/-- The tables after marking from `n`. -/
def upTabs : Int → List (List (List Int)) → List (List (List Int))
  | _, [] => []
  | n, a :: x => upRows n a :: upTabs (n + total a) x
theorem upTabs_len : ∀ (x : List (List (List Int))) (n : Int), (upTabs n x).length = x.length
  | [], _ => rfl
  | _ :: x, _ => by simp [upTabs, upTabs_len x]
theorem markIntSSS_l0 : ∀ (x y : List (List (List Int))) (n i : Int), (∀ a ∈ x, a.length ≤ 17592186044416) → 0 ≤ n → n + total3 x ≤ 17592186044416 → 0 ≤ i → y.length ≤ 17592186044416 → i + x.length = y.length → y.drop i.toNat = x →
    Ans (fun k => laws_markIntSSS.l0 k y n i) (n + total3 x, y.take i.toNat ++ upTabs n x) := by
  intro x
  induction x with
  | nil =>
    intro y n i hr h0 h1 h2 h3 h4 h5; refine Ans.step ?_; simp only [laws_markIntSSS.l0]
    simp only [List.length_nil] at h4
    refine Ans.not (by omega) ?_
    rw [total3_nil, upTabs, List.append_nil, List.take_of_length_le (by omega), show n + ((0 : Nat) : Int) = n by omega]; exact Ans.pure _
  | cons a x ih =>
    intro y n i hr h0 h1 h2 h3 h4 h5; refine Ans.step ?_; simp only [laws_markIntSSS.l0, wrap64_up h2 (by omega : i ≤ 4611686018427387904)]
    rw [total3_cons] at h1
    simp only [List.length_cons] at h4
    have hlt : i.toNat < y.length := by omega
    have hd := drop_at y [] hlt
    rw [h5] at hd
    obtain ⟨ha, hx⟩ := List.cons.inj hd
    rw [← ha]
    refine Ans.yes (by omega) (Ans.yes h2 ((markIntSS a n h0 (by omega) (hr a (by simp))).bind ?_))
    obtain ⟨e1, e2⟩ := take_set_drop y i.toNat (upRows n a) hlt
    have := ih (y.set i.toNat (upRows n a)) (n + total a) (i + 1) (fun b hb => hr b (by simp [hb])) (by omega) (by omega) (by omega) (by simp; omega) (by simp only [List.length_set]; omega) (by rw [show (i + 1).toNat = i.toNat + 1 by omega, e2, ← hx])
    rw [show (i + 1).toNat = i.toNat + 1 by omega, e1, show n + (total a : Int) + (total3 x : Int) = n + (total3 (a :: x) : Int) by rw [total3_cons]; omega] at this
    rw [upTabs]
    simpa using this
theorem markIntSSS (x : List (List (List Int))) (n : Int) (hr : ∀ a ∈ x, a.length ≤ 17592186044416) (hn : 0 ≤ n) (hx : n + total3 x ≤ 17592186044416) (hl : x.length ≤ 17592186044416) : Ans (fun k => laws_markIntSSS.f k x n) (n + total3 x, upTabs n x) := by
  have := markIntSSS_l0 x x n 0 hr hn hx (by omega) hl (by omega) rfl
  simpa [laws_markIntSSS.f] using this
theorem heldIntSSS_l0 : ∀ (x : List (List (List Int))) (y : List (List (List Int))) (n i : Int), (∀ a ∈ x, a.length ≤ 17592186044416) → 0 ≤ n → n + total3 x ≤ 17592186044416 → 0 ≤ i → y.length ≤ 17592186044416 → i + x.length = y.length → y.drop i.toNat = upTabs n x →
    Ans (fun k => laws_heldIntSSS.l0 k y n i) (n + total3 x) := by
  intro x
  induction x with
  | nil =>
    intro y n i hr h0 h1 h2 h3 h4 h5; refine Ans.step ?_; simp only [laws_heldIntSSS.l0]
    simp only [List.length_nil] at h4
    refine Ans.not (by omega) ?_
    rw [total3_nil, show n + ((0 : Nat) : Int) = n by omega]; exact Ans.pure _
  | cons a x ih =>
    intro y n i hr h0 h1 h2 h3 h4 h5; refine Ans.step ?_; simp only [laws_heldIntSSS.l0, wrap64_up h2 (by omega : i ≤ 4611686018427387904)]
    rw [total3_cons] at h1
    simp only [List.length_cons] at h4
    have hlt : i.toNat < y.length := by omega
    have hd := drop_at y [] hlt
    rw [h5, upTabs] at hd
    obtain ⟨ha, hx⟩ := List.cons.inj hd
    have hrd : rd_L2 y i = upRows n a := by rw [rd_L2, ← ha]
    rw [hrd]
    refine Ans.yes (by omega) (Ans.yes h2 ((heldIntSS a n h0 (by omega) (hr a (by simp))).bind (Ans.not (by omega) ?_)))
    have := ih y (n + total a) (i + 1) (fun b hb => hr b (by simp [hb])) (by omega) (by omega) (by omega) h3 (by omega) (by rw [show (i + 1).toNat = i.toNat + 1 by omega, ← hx])
    rwa [show n + (total a : Int) + (total3 x : Int) = n + (total3 (a :: x) : Int) by rw [total3_cons]; omega] at this
theorem heldIntSSS (x : List (List (List Int))) (n : Int) (hr : ∀ a ∈ x, a.length ≤ 17592186044416) (hn : 0 ≤ n) (hx : n + total3 x ≤ 17592186044416) (hl : x.length ≤ 17592186044416) : Ans (fun k => laws_heldIntSSS.f k (upTabs n x) n) (n + total3 x) :=
  heldIntSSS_l0 x (upTabs n x) n 0 hr hn hx (by omega) (by rw [upTabs_len]; exact hl) (by rw [upTabs_len]; omega) rfl
theorem smCopy (x : List (List Int)) (h : x.length ≤ 1048576) (hr : ∀ r ∈ x, r.length ≤ 1048576) : Ans (fun k => spec_smCopy.f k x) x := by
  have key : ∀ (d : Nat) (i : Int) (acc : List (List Int)), 0 ≤ i → i + d = x.length → acc.length + d ≤ 1048576 → Ans (fun k => spec_smCopy.l0 k acc x (x.length : Int) i) (acc ++ x.drop i.toNat) := by
    intro d
    induction d with
    | zero =>
      intro i acc h0 h1 h2
      rw [List.drop_eq_nil_of_le (by omega), List.append_nil]; refine Ans.step ?_
      simp only [spec_smCopy.l0]; exact Ans.not (by omega) (Ans.pure _)
    | succ d ih =>
      intro i acc h0 h1 h2
      have hm := hr _ (rd_L1_mem h0 (show i < x.length by omega))
      have e := ih (i + 1) (acc ++ [rd_L1 x i]) (by omega) (by omega) (by simp only [List.length_append, List.length_singleton]; omega)
      rw [show (i + 1).toNat = i.toNat + 1 by omega, List.append_assoc, List.singleton_append] at e
      rw [drop_at x [] (show i.toNat < x.length by omega), show x.getD i.toNat [] = rd_L1 x i from rfl]
      refine Ans.step ?_
      simp only [spec_smCopy.l0, spec_l1Own.f, Option.bind_some, List.nil_append, List.length_nil, if_pos (by omega : 0 + (rd_L1 x i).length < 17592186044416), wrap64_up h0 (by omega : i ≤ 4611686018427387904)]
      exact Ans.yes (by omega) (Ans.yes h0 (Ans.yes (by omega) (Ans.yes (by omega) e)))
  exact key x.length 0 [] (by omega) (by omega) (by simp only [List.length_nil]; omega)
theorem copyTable (x : List (List Int)) (h : x.length ≤ 1048576) (hr : ∀ r ∈ x, r.length ≤ 1048576) : Ans (fun k => impl_copyTable.f k x) x := by
  have key : ∀ (d : Nat) (i : Int) (acc : List (List Int)), 0 ≤ i → i + d = x.length → acc.length + d ≤ 1048576 → Ans (fun k => impl_copyTable.l0 k acc x (x.length : Int) i) (acc ++ x.drop i.toNat) := by
    intro d
    induction d with
    | zero =>
      intro i acc h0 h1 h2
      rw [List.drop_eq_nil_of_le (by omega), List.append_nil]; refine Ans.step ?_
      simp only [impl_copyTable.l0]; exact Ans.not (by omega) (Ans.pure _)
    | succ d ih =>
      intro i acc h0 h1 h2
      have hm := hr _ (rd_L1_mem h0 (show i < x.length by omega))
      have e := ih (i + 1) (acc ++ [rd_L1 x i]) (by omega) (by omega) (by simp only [List.length_append, List.length_singleton]; omega)
      rw [show (i + 1).toNat = i.toNat + 1 by omega, List.append_assoc, List.singleton_append] at e
      rw [drop_at x [] (show i.toNat < x.length by omega), show x.getD i.toNat [] = rd_L1 x i from rfl]
      refine Ans.step ?_
      simp only [impl_copyTable.l0, slices_Clone_int_int.f, Option.bind_some, if_pos (by omega : (rd_L1 x i).length < 17592186044416), wrap64_up h0 (by omega : i ≤ 4611686018427387904)]
      exact Ans.yes (by omega) (Ans.yes h0 (Ans.yes (by omega) (Ans.yes (by omega) e)))
  exact key x.length 0 [] (by omega) (by omega) (by simp only [List.length_nil]; omega)
theorem l1In (a b c : Int) : spec_l1In.f a b c = some (decide (b ≤ a ∧ a ≤ c)) := by
  unfold spec_l1In.f
  by_cases h : a ≥ b
  · rw [if_pos h]; refine congrArg some (decide_eq_decide.mpr ⟨fun q => ⟨h, q⟩, fun q => q.2⟩)
  · rw [if_neg h, decide_eq_false (by omega)]
theorem within (a b c : Int) : impl_within.f a b c = some (decide (b ≤ a ∧ a ≤ c)) := by
  unfold impl_within.f
  by_cases h : b ≤ a
  · rw [if_pos h]; refine congrArg some (decide_eq_decide.mpr ⟨fun q => ⟨h, q⟩, fun q => q.2⟩)
  · rw [if_neg h, decide_eq_false (by omega)]
def colOf (x : List (List Int)) (j : Int) : List Int := x.map fun r => rd r j
theorem range_drop {n i : Nat} (h : i < n) : (List.range n).drop i = i :: (List.range n).drop (i + 1) := by
  rw [drop_at (List.range n) 0 (by simpa using h), getD_at _ _ (by simpa using h), List.getElem_range]
theorem sgTurn (x : List (List Int)) (h : x.length ≤ 1048576) (hr : ∀ r ∈ x, r.length = x.length) : Ans (fun k => spec_sgTurn.f k x) ((List.range x.length).map fun (j : Nat) => colOf x j) := by
  have inner : ∀ (out : List (List Int)) (j : Int) (R : List (List Int)), 0 ≤ j → j < x.length → out.length ≤ 1048576 → ∀ (d : Nat) (i : Int) (acc : List Int), 0 ≤ i → i + d = x.length → acc.length + d ≤ 1048576 →
      Ans (fun k => spec_sgTurn.l0 k x (out ++ [acc ++ colOf (x.drop i.toNat) j]) (x.length : Int) (j + 1)) R → Ans (fun k => spec_sgTurn.l1 k x out j acc (x.length : Int) j x (x.length : Int) i) R := by
    intro out j R hj hj' ho d
    induction d with
    | zero =>
      intro i acc h0 h1 h2 e
      rw [List.drop_eq_nil_of_le (by omega), colOf, List.map_nil, List.append_nil] at e; refine Ans.step ?_
      simp only [spec_sgTurn.l1, wrap64_up hj (by omega : j ≤ 4611686018427387904)]; exact Ans.not (by omega) (Ans.yes (by omega) e)
    | succ d ih =>
      intro i acc h0 h1 h2 e
      have hm := rd_L1_mem h0 (show i < x.length by omega)
      rw [drop_at x [] (show i.toNat < x.length by omega), show x.getD i.toNat [] = rd_L1 x i from rfl] at e
      refine Ans.step ?_
      simp only [spec_sgTurn.l1, wrap64_up h0 (by omega : i ≤ 4611686018427387904)]
      refine Ans.yes (by omega) (Ans.yes h0 (Ans.yes (by omega) (Ans.yes hj (Ans.yes (by have := hr _ hm; omega) (Ans.yes (by omega) (ih (i + 1) _ (by omega) (by omega) (by simp only [List.length_append, List.length_singleton]; omega) ?_))))))
      rw [show (i + 1).toNat = i.toNat + 1 by omega, List.append_assoc, List.singleton_append]
      exact e
  have key : ∀ (d : Nat) (j : Int) (out : List (List Int)), 0 ≤ j → j + d = x.length → out.length + d ≤ 1048576 → Ans (fun k => spec_sgTurn.l0 k x out (x.length : Int) j) (out ++ ((List.range x.length).drop j.toNat).map fun (j : Nat) => colOf x j) := by
    intro d
    induction d with
    | zero =>
      intro j out h0 h1 h2
      rw [List.drop_eq_nil_of_le (by simp only [List.length_range]; omega), List.map_nil, List.append_nil]; refine Ans.step ?_
      simp only [spec_sgTurn.l0]; exact Ans.not (by omega) (Ans.pure _)
    | succ d ih =>
      intro j out h0 h1 h2
      have e := ih (j + 1) (out ++ [colOf x j]) (by omega) (by omega) (by simp only [List.length_append, List.length_singleton]; omega)
      rw [show (j + 1).toNat = j.toNat + 1 by omega, List.append_assoc, List.singleton_append] at e
      rw [range_drop (show j.toNat < x.length by omega), List.map_cons, show ((j.toNat : Nat) : Int) = j by omega]
      refine Ans.step ?_
      simp only [spec_sgTurn.l0]
      exact Ans.yes (by omega) (inner out j _ h0 (by omega) (by omega) x.length 0 [] (by omega) (by omega) (by simp only [List.length_nil]; omega) e)
  exact key x.length 0 [] (by omega) (by omega) (by simp only [List.length_nil]; omega)
def tab (r c : Nat) (v : Nat → Nat → Int) : List (List Int) := (List.range r).map fun i => (List.range c).map fun j => v i j
theorem table_row (c : Nat) (hc : c ≤ 1048576) (g : Int → Int → Option Int) (v : Nat → Int) (n : Int) (i : Nat) (hi : i ≤ 1048576) (hg : ∀ j : Nat, j < c → g i j = some (v j)) {R : List (List Int)} :
    ∀ (d j : Nat) (y : List (List Int)), j + d = c → i < y.length → (y.getD i []).length = c → Ans (fun k => impl_table.l0 k c g (y.set i ((y.getD i []).take j ++ ((List.range c).drop j).map v)) n ((i + 1 : Nat) : Int)) R →
      Ans (fun k => impl_table.l1 k c g y i n i (c : Int) j) R := by
  intro d
  induction d with
  | zero =>
    intro j y h1 h2 h3 e
    rw [List.drop_eq_nil_of_le (by simp only [List.length_range]; omega), List.map_nil, List.append_nil, List.take_of_length_le (by omega), set_same y [] i h2] at e
    refine Ans.step ?_
    simp only [impl_table.l1, wrap64_up (show (0 : Int) ≤ (i : Int) by omega) (by omega : (i : Int) ≤ 4611686018427387904)]
    refine Ans.not (by omega) ?_
    rw [show ((i + 1 : Nat) : Int) = (i : Int) + 1 by omega] at e
    exact e
  | succ d ih =>
    intro j y h1 h2 h3 e
    have hrow : rd_L1 y (i : Int) = y.getD i [] := by unfold rd_L1; rw [Int.toNat_natCast]
    refine Ans.step ?_
    simp only [impl_table.l1, hg j (by omega), Option.bind_some, wrap64_up (show (0 : Int) ≤ (j : Int) by omega) (by omega : (j : Int) ≤ 4611686018427387904), hrow, Int.toNat_natCast]
    refine Ans.yes (by omega) (Ans.yes (by omega) (Ans.yes (by omega) (Ans.yes (by omega) (Ans.yes (by omega) ?_))))
    have hj : j < (y.getD i []).length := by omega
    obtain ⟨t1, _⟩ := take_set_drop (y.getD i []) j (v j) hj
    have hget : (y.set i ((y.getD i []).set j (v j))).getD i [] = (y.getD i []).set j (v j) := by
      rw [getD_at _ _ (by simpa using h2)]; simp
    have := ih (j + 1) (y.set i ((y.getD i []).set j (v j))) (by omega) (by simpa using h2) (by rw [hget]; simpa using h3) (by
      rw [hget, List.set_set, t1, List.append_assoc]
      rw [range_drop (show j < c by omega), List.map_cons] at e
      exact e)
    rwa [show ((j + 1 : Nat) : Int) = (j : Int) + 1 by omega] at this
theorem table (r c : Nat) (hr : r ≤ 1048576) (hc : c ≤ 1048576) (g : Int → Int → Option Int) (v : Nat → Nat → Int) (hg : ∀ i j : Nat, i < r → j < c → g i j = some (v i j)) : Ans (fun k => impl_table.f k r c g) (tab r c v) := by
  have key : ∀ (d i : Nat) (y : List (List Int)), i + d = r → y.length = r → Ans (fun k => impl_table.l0 k c g y (r : Int) i) (y.take i ++ ((List.range r).drop i).map fun i => (List.range c).map fun j => v i j) := by
    intro d
    induction d with
    | zero =>
      intro i y h1 h2
      rw [List.drop_eq_nil_of_le (by simp only [List.length_range]; omega), List.map_nil, List.append_nil, List.take_of_length_le (by omega)]; refine Ans.step ?_
      simp only [impl_table.l0]; exact Ans.not (by omega) (Ans.pure _)
    | succ d ih =>
      intro i y h1 h2
      have hi : i < y.length := by omega
      have hget : (y.set i (List.replicate c 0)).getD i [] = List.replicate c 0 := by rw [getD_at _ _ (by simpa using hi)]; simp
      obtain ⟨t1, _⟩ := take_set_drop y i ((List.range c).map fun j => v i j) hi
      have e := ih (i + 1) (y.set i ((List.range c).map fun j => v i j)) (by omega) (by simpa using h2)
      rw [t1, List.append_assoc, List.singleton_append] at e
      rw [range_drop (show i < r by omega), List.map_cons]
      have hrow : rd_L1 (y.set i (List.replicate c 0)) (i : Int) = List.replicate c 0 := by unfold rd_L1; rw [Int.toNat_natCast]; exact hget
      refine Ans.step ?_
      simp only [impl_table.l0, Option.bind_some, Int.toNat_natCast, hrow, List.length_replicate]
      refine Ans.yes (by omega) (Ans.yes (by omega) (Ans.yes (by omega) (Ans.yes (by omega) (Ans.yes (by omega) ?_))))
      have := table_row c hc g (v i) (r : Int) i (by omega) (fun j hj => hg i j (by omega) hj) c 0 (y.set i (List.replicate c 0)) (by omega) (by simpa using hi) (by rw [hget]; simp) (by
        rw [List.set_set, List.take_zero, List.drop_zero, List.nil_append]; exact e)
      exact this
  simp only [impl_table.f, Option.bind_some, Int.toNat_natCast, List.length_replicate]
  refine Ans.yes (by omega) (Ans.yes (by omega) ?_)
  have := key r 0 (List.replicate r []) (by omega) (by simp)
  simpa [tab] using this
def cmpI (a b : Int) : Int := if a < b then -1 else if a > b then 1 else 0
theorem cmpI_zero {a b : Int} : cmpI a b = 0 ↔ a = b := by
  unfold cmpI; split
  · constructor <;> intro h <;> omega
  · split
    · constructor <;> intro h <;> omega
    · constructor <;> intro h <;> omega
def lexBy {α : Type} (c : α → α → Int) : List α → List α → Int
  | [], [] => 0
  | [], _ :: _ => -1
  | _ :: _, [] => 1
  | a :: x, b :: y => if c a b = 0 then lexBy c x y else c a b
theorem lexBy_zero {α : Type} {c : α → α → Int} (hc : ∀ a b, c a b = 0 ↔ a = b) : ∀ (x y : List α), lexBy c x y = 0 ↔ x = y
  | [], [] => by simp [lexBy]
  | [], _ :: _ => by simp [lexBy]
  | _ :: _, [] => by simp [lexBy]
  | a :: x, b :: y => by
    rw [lexBy]
    by_cases h : c a b = 0
    · rw [if_pos h, lexBy_zero hc x y, (hc a b).mp h]; simp
    · rw [if_neg h]; constructor
      · intro e; exact absurd e h
      · intro e; exact absurd ((hc a b).mpr (List.cons.inj e).1) h
def cmpL : List Int → List Int → Int := lexBy cmpI
def cmpLL : List (List Int) → List (List Int) → Int := lexBy cmpL
theorem cmpL_zero (x y : List Int) : cmpL x y = 0 ↔ x = y := lexBy_zero (fun _ _ => cmpI_zero) x y
theorem cmpLL_zero (x y : List (List Int)) : cmpLL x y = 0 ↔ x = y := lexBy_zero cmpL_zero x y
theorem cmpInt (a b : Int) : cmp_Compare_int.f a b = some (cmpI a b) := by
  simp only [cmp_Compare_int.f, cmp_isNaN_int.f, Option.bind_some, cmpI]
  simp
  repeat' split
  all_goals rfl
theorem compare (x y : List Int) (hx : x.length ≤ 17592186044416) (hy : y.length ≤ 17592186044416) (k : Nat) (hk : x.length < k) : slices_Compare_int_int.f k x y = some (cmpL x y) := by
  have key : ∀ (d : Nat) (i : Int), 0 ≤ i → i + d = x.length → i ≤ y.length → ∀ k, d < k → slices_Compare_int_int.l0 k x y x (x.length : Int) i = some (cmpL (x.drop i.toNat) (y.drop i.toNat)) := by
    intro d
    induction d with
    | zero =>
      intro i h0 h1 h2 k hk; obtain ⟨j, rfl⟩ : ∃ j, k = j + 1 := ⟨k - 1, by omega⟩
      unfold slices_Compare_int_int.l0
      rw [if_neg (by omega), drop_all x (by omega)]
      by_cases c : (x.length : Int) < (y.length : Int)
      · rw [if_pos c, drop_at y 0 (show i.toNat < y.length by omega)]; rfl
      · rw [if_neg c, drop_all y (by omega)]; rfl
    | succ d ih =>
      intro i h0 h1 h2 k hk; obtain ⟨j, rfl⟩ : ∃ j, k = j + 1 := ⟨k - 1, by omega⟩
      unfold slices_Compare_int_int.l0
      rw [if_pos (by omega), if_pos h0, if_pos (by omega), drop_at x 0 (show i.toNat < x.length by omega)]
      by_cases c : i ≥ (y.length : Int)
      · rw [if_pos c, drop_all y (by omega)]; rfl
      · rw [if_neg c, if_pos (by omega), cmpInt, Option.bind_some, drop_at y 0 (show i.toNat < y.length by omega), wrap64_up h0 (by omega)]
        show (if cmpI (rd x i) (rd y i) = 0 then _ else _) = some (if cmpI (rd x i) (rd y i) = 0 then lexBy cmpI (x.drop (i.toNat + 1)) (y.drop (i.toNat + 1)) else cmpI (rd x i) (rd y i))
        by_cases q : cmpI (rd x i) (rd y i) = 0
        · rw [if_pos q, if_pos q, ih (i + 1) (by omega) (by omega) (by omega) j (by omega), show (i + 1).toNat = i.toNat + 1 by omega]; rfl
        · rw [if_neg q, if_neg q]
  exact key x.length 0 (by omega) (by omega) (by omega) k (by omega)
theorem compareTables (x y : List (List Int)) (hx : x.length ≤ 1048576) (hy : y.length ≤ 1048576) (hrx : ∀ r ∈ x, r.length ≤ 1048576) (hry : ∀ r ∈ y, r.length ≤ 1048576) : Ans (fun k => impl_compareTables.f k x y) (cmpLL x y) := by
  refine Ans.from 1048577 fun k0 hk0 => ?_
  unfold impl_compareTables.f slices_CompareFunc_int_int_int_int.f
  have key : ∀ (d : Nat) (i : Int), 0 ≤ i → i + d = x.length → i ≤ y.length → ∀ k, d < k → slices_CompareFunc_int_int_int_int.l0 k x y (fun x0_ x1_ => impl_compareTables_1.f k0 x0_ x1_) x (x.length : Int) i = some (cmpLL (x.drop i.toNat) (y.drop i.toNat)) := by
    intro d
    induction d with
    | zero =>
      intro i h0 h1 h2 k hk; obtain ⟨j, rfl⟩ : ∃ j, k = j + 1 := ⟨k - 1, by omega⟩
      unfold slices_CompareFunc_int_int_int_int.l0
      rw [if_neg (by omega), drop_all x (by omega)]
      by_cases c : (x.length : Int) < (y.length : Int)
      · rw [if_pos c, drop_at y [] (show i.toNat < y.length by omega)]; rfl
      · rw [if_neg c, drop_all y (by omega)]; rfl
    | succ d ih =>
      intro i h0 h1 h2 k hk; obtain ⟨j, rfl⟩ : ∃ j, k = j + 1 := ⟨k - 1, by omega⟩
      unfold slices_CompareFunc_int_int_int_int.l0
      rw [if_pos (by omega), if_pos h0, if_pos (by omega), drop_at x [] (show i.toNat < x.length by omega)]
      by_cases c : i ≥ (y.length : Int)
      · rw [if_pos c, drop_all y (by omega)]; rfl
      · have m1 := hrx _ (rd_L1_mem h0 (show i < x.length by omega))
        have m2 := hry _ (rd_L1_mem h0 (show i < y.length by omega))
        rw [if_neg c, if_pos (by omega)]
        simp only [impl_compareTables_1.f]
        rw [compare _ _ (by omega) (by omega) k0 (by omega), Option.bind_some, Option.bind_some, drop_at y [] (show i.toNat < y.length by omega), wrap64_up h0 (by omega)]
        show (if cmpL (rd_L1 x i) (rd_L1 y i) = 0 then _ else _) = some (if cmpL (rd_L1 x i) (rd_L1 y i) = 0 then lexBy cmpL (x.drop (i.toNat + 1)) (y.drop (i.toNat + 1)) else cmpL (rd_L1 x i) (rd_L1 y i))
        by_cases q : cmpL (rd_L1 x i) (rd_L1 y i) = 0
        · rw [if_pos q, if_pos q]
          have := ih (i + 1) (by omega) (by omega) (by omega) j (by omega)
          simp only [impl_compareTables_1.f] at this
          rw [this, show (i + 1).toNat = i.toNat + 1 by omega]; rfl
        · rw [if_neg q, if_neg q]
  have := key x.length 0 (by omega) (by omega) (by omega) k0 (by omega)
  rw [this]; rfl
theorem l1Same (x y : List Int) (hx : x.length ≤ 17592186044416) : Ans (fun k => spec_l1Same.f k x y) (decide (x = y)) := by
  simp only [spec_l1Same.f]
  by_cases hl : (x.length : Int) = (y.length : Int)
  case neg => rw [decide_eq_false (fun h => hl (by rw [h]))]; exact Ans.not hl (Ans.pure _)
  have key : ∀ (d : Nat) (i : Int), 0 ≤ i → i + d = x.length → Ans (fun k => spec_l1Same.l0 k x y (x.length : Int) i) (decide (x.drop i.toNat = y.drop i.toNat)) := by
    intro d
    induction d with
    | zero =>
      intro i h0 h1
      rw [List.drop_eq_nil_of_le (by omega), List.drop_eq_nil_of_le (by omega)]; refine Ans.step ?_
      simp only [spec_l1Same.l0]; exact Ans.not (by omega) (Ans.pure _)
    | succ d ih =>
      intro i h0 h1
      have e := ih (i + 1) (by omega) (by omega)
      rw [show (i + 1).toNat = i.toNat + 1 by omega] at e
      rw [drop_at x 0 (show i.toNat < x.length by omega), drop_at y 0 (show i.toNat < y.length by omega), show x.getD i.toNat 0 = rd x i from rfl, show y.getD i.toNat 0 = rd y i from rfl]
      refine Ans.step ?_
      simp only [spec_l1Same.l0, wrap64_up h0 (by omega : i ≤ 4611686018427387904)]
      refine Ans.yes (by omega) (Ans.yes h0 (Ans.yes (by omega) (Ans.yes (by omega) ?_)))
      by_cases c : rd x i = rd y i
      · rw [show decide (rd x i :: x.drop (i.toNat + 1) = rd y i :: y.drop (i.toNat + 1)) = decide (x.drop (i.toNat + 1) = y.drop (i.toNat + 1)) from decide_eq_decide.mpr ⟨fun h => (List.cons.inj h).2, fun h => by rw [c, h]⟩]; exact Ans.yes c e
      · rw [decide_eq_false (fun h => c (List.cons.inj h).1)]; exact Ans.not c (Ans.pure _)
  exact Ans.yes hl (key x.length 0 (by omega) (by omega))
theorem weSame (x y : List (List Int)) (hx : x.length ≤ 17592186044416) (hr : ∀ r ∈ x, r.length ≤ 17592186044416) : Ans (fun k => spec_weSame.f k x y) (decide (x = y)) := by
  simp only [spec_weSame.f]
  by_cases hl : (x.length : Int) = (y.length : Int)
  case neg => rw [decide_eq_false (fun h => hl (by rw [h]))]; exact Ans.not hl (Ans.pure _)
  have key : ∀ (d : Nat) (i : Int), 0 ≤ i → i + d = x.length → Ans (fun k => spec_weSame.l0 k y x (x.length : Int) i) (decide (x.drop i.toNat = y.drop i.toNat)) := by
    intro d
    induction d with
    | zero =>
      intro i h0 h1
      rw [List.drop_eq_nil_of_le (by omega), List.drop_eq_nil_of_le (by omega)]; refine Ans.step ?_
      simp only [spec_weSame.l0]; exact Ans.not (by omega) (Ans.pure _)
    | succ d ih =>
      intro i h0 h1
      have e := ih (i + 1) (by omega) (by omega)
      rw [show (i + 1).toNat = i.toNat + 1 by omega] at e
      have hm := hr _ (rd_L1_mem h0 (show i < x.length by omega))
      rw [drop_at x [] (show i.toNat < x.length by omega), drop_at y [] (show i.toNat < y.length by omega), show x.getD i.toNat [] = rd_L1 x i from rfl, show y.getD i.toNat [] = rd_L1 y i from rfl]
      refine Ans.step ?_
      simp only [spec_weSame.l0, wrap64_up h0 (by omega : i ≤ 4611686018427387904)]
      refine Ans.yes (by omega) (Ans.yes h0 (Ans.yes (by omega) (Ans.yes (by omega) ((l1Same _ _ hm).bind ?_))))
      by_cases c : rd_L1 x i = rd_L1 y i
      · rw [decide_eq_true c, show decide (rd_L1 x i :: x.drop (i.toNat + 1) = rd_L1 y i :: y.drop (i.toNat + 1)) = decide (x.drop (i.toNat + 1) = y.drop (i.toNat + 1)) from decide_eq_decide.mpr ⟨fun h => (List.cons.inj h).2, fun h => by rw [c, h]⟩]; exact Ans.yes rfl e
      · rw [decide_eq_false c, decide_eq_false (fun h => c (List.cons.inj h).1)]; exact Ans.not (by simp) (Ans.pure _)
  exact Ans.yes hl (key x.length 0 (by omega) (by omega))
/-- Square, with n rows. -/
def Sq (n : Nat) (x : List (List Int)) : Prop := x.length = n ∧ ∀ r ∈ x, r.length = n
theorem Sq.row {n : Nat} {x : List (List Int)} (h : Sq n x) {i : Nat} (hi : i < n) : (x.getD i []).length = n := h.2 _ (getD_mem [] (by rw [h.1]; exact hi))
theorem tab_is {n : Nat} {y : List (List Int)} (h : Sq n y) (v : Nat → Nat → Int) (hv : ∀ i j : Nat, i < n → j < n → v i j = (y.getD i []).getD j 0) : tab n n v = y := by
  refine List.ext_getElem (by simp [tab, h.1]) fun i h1 h2 => ?_
  have hi : i < n := by rw [← h.1]; exact h2
  have hr := h.row hi
  rw [show (tab n n v)[i] = (List.range n).map (fun j => v i j) by simp [tab], ← getD_at y [] h2]
  refine List.ext_getElem (by simp only [List.length_map, List.length_range]; exact hr.symm) fun j g1 g2 => ?_
  rw [List.getElem_map, List.getElem_range, hv i j hi (by rw [← hr]; exact g2), getD_at _ _ g2]
theorem ext_sq {n : Nat} {x y : List (List Int)} (hx : Sq n x) (hy : Sq n y) (h : ∀ i j : Nat, i < n → j < n → (x.getD i []).getD j 0 = (y.getD i []).getD j 0) : x = y := by
  rw [← tab_is hx (fun i j => (x.getD i []).getD j 0) (fun _ _ _ _ => rfl), tab_is hy _ h]
def mir (x : List (List Int)) : List (List Int) := x.map List.reverse
def tr (x : List (List Int)) : List (List Int) := (List.range x.length).map fun (j : Nat) => colOf x j
def cw (x : List (List Int)) : List (List Int) := mir (tr x)
theorem mir_sq {n : Nat} {x : List (List Int)} (h : Sq n x) : Sq n (mir x) := ⟨by simp [mir, h.1], fun r hr => by obtain ⟨a, ha, rfl⟩ := List.mem_map.1 hr; rw [List.length_reverse]; exact h.2 a ha⟩
theorem tr_sq {n : Nat} {x : List (List Int)} (h : Sq n x) : Sq n (tr x) := ⟨by simp [tr, h.1], fun r hr => by obtain ⟨a, ha, rfl⟩ := List.mem_map.1 hr; simp [colOf, h.1]⟩
theorem cw_sq {n : Nat} {x : List (List Int)} (h : Sq n x) : Sq n (cw x) := mir_sq (tr_sq h)
theorem rev_at (x : List Int) {n j : Nat} (hl : x.length = n) (h : j < n) : x.reverse.getD j 0 = x.getD (n - 1 - j) 0 := by
  rw [getD_at _ _ (by simp; omega), getD_at _ _ (by omega), List.getElem_reverse]; congr 1; omega
theorem mir_at {n : Nat} {x : List (List Int)} (h : Sq n x) {i j : Nat} (hi : i < n) (hj : j < n) : ((mir x).getD i []).getD j 0 = (x.getD i []).getD (n - 1 - j) 0 := by
  rw [show (mir x).getD i [] = (x.getD i []).reverse by rw [getD_at _ _ (by simp [mir, h.1]; exact hi), getD_at _ _ (by rw [h.1]; exact hi)]; simp [mir], rev_at _ (h.row hi) hj]
theorem tr_at {n : Nat} {x : List (List Int)} (h : Sq n x) {i j : Nat} (hi : i < n) (hj : j < n) : ((tr x).getD i []).getD j 0 = (x.getD j []).getD i 0 := by
  have e : (tr x).getD i [] = colOf x (i : Int) := by rw [getD_at _ _ (by simp [tr, h.1]; exact hi)]; simp [tr]
  rw [e, getD_at _ _ (by simp [colOf, h.1]; exact hj), getD_at x [] (by rw [h.1]; exact hj)]
  simp [colOf, rd]
theorem turned (n : Nat) (x : List (List Int)) (h : Sq n x) (hn : n ≤ 1048576) : Ans (fun k => impl_turned.f k x) (cw x) := by
  simp only [impl_turned.f, h.1]
  have hg : ∀ i j : Nat, i < n → j < n → impl_turned_1.f i j x (n : Int) = some ((x.getD (n - 1 - j) []).getD i 0) := by
    intro i j hi hj
    have w1 : wrap64 ((n : Int) - 1) = (n : Int) - 1 := wrap64_in _ ⟨by omega, by omega⟩
    have w2 : wrap64 ((n : Int) - 1 - (j : Int)) = ((n - 1 - j : Nat) : Int) := by rw [wrap64_in _ ⟨by omega, by omega⟩]; omega
    have hr : (rd_L1 x ((n - 1 - j : Nat) : Int)).length = n := h.2 _ (rd_L1_mem (by omega) (by rw [h.1]; omega))
    have hl := h.1
    simp only [impl_turned_1.f, w1, w2]
    rw [if_pos (by omega), if_pos (by omega), if_pos (by omega), if_pos (by omega)]
    simp only [rd, rd_L1, Int.toNat_natCast]
  have e := table n n hn hn (fun x0_ x1_ => impl_turned_1.f x0_ x1_ x (n : Int)) _ hg
  rw [tab_is (cw_sq h) _ (fun i j hi hj => by rw [cw, mir_at (tr_sq h) hi hj, tr_at h hi (by omega)])] at e
  exact e.bind (Ans.pure _)
theorem mirrored (n : Nat) (x : List (List Int)) (h : Sq n x) (hn : n ≤ 1048576) : Ans (fun k => impl_mirrored.f k x) (mir x) := by
  simp only [impl_mirrored.f, h.1]
  have hg : ∀ i j : Nat, i < n → j < n → impl_mirrored_1.f i j x (n : Int) = some ((x.getD i []).getD (n - 1 - j) 0) := by
    intro i j hi hj
    have w1 : wrap64 ((n : Int) - 1) = (n : Int) - 1 := wrap64_in _ ⟨by omega, by omega⟩
    have w2 : wrap64 ((n : Int) - 1 - (j : Int)) = ((n - 1 - j : Nat) : Int) := by rw [wrap64_in _ ⟨by omega, by omega⟩]; omega
    have hr : (rd_L1 x (i : Int)).length = n := h.2 _ (rd_L1_mem (by omega) (by rw [h.1]; omega))
    have hl := h.1
    simp only [impl_mirrored_1.f, w1, w2]
    rw [if_pos (by omega), if_pos (by omega), if_pos (by omega), if_pos (by omega)]
    simp only [rd, rd_L1, Int.toNat_natCast]
  have e := table n n hn hn (fun x0_ x1_ => impl_mirrored_1.f x0_ x1_ x (n : Int)) _ hg
  rw [tab_is (mir_sq h) _ (fun i j hi hj => by rw [mir_at h hi hj])] at e
  exact e.bind (Ans.pure _)
theorem sgMirror (x : List (List Int)) (h : x.length ≤ 1048576) (hr : ∀ r ∈ x, r.length ≤ 1048576) : Ans (fun k => spec_sgMirror.f k x) (mir x) := by
  have inner : ∀ (out : List (List Int)) (row : List Int) (m : Int) (R : List (List Int)), row.length ≤ 1048576 → 0 ≤ m → m ≤ 1048576 → out.length ≤ 1048576 → ∀ (d : Nat) (acc : List Int), d ≤ row.length → acc.length + d ≤ 1048576 →
      Ans (fun k => spec_sgMirror.l0 k (out ++ [acc ++ (row.take d).reverse]) x (x.length : Int) (m + 1)) R → Ans (fun k => spec_sgMirror.l1 k out row acc ((d : Int) - 1) x (x.length : Int) m) R := by
    intro out row m R hrow hm hm' ho d
    induction d with
    | zero =>
      intro acc h2 h3 e
      rw [List.take_zero, List.reverse_nil, List.append_nil] at e
      refine Ans.step ?_
      simp only [spec_sgMirror.l1, wrap64_up hm (by omega : m ≤ 4611686018427387904)]
      exact Ans.not (by omega) (Ans.yes (by omega) e)
    | succ d ih =>
      intro acc h2 h3 e
      rw [take_up row 0 (show d < row.length by omega), List.reverse_append, List.reverse_singleton, List.singleton_append] at e
      have hj : ((d + 1 : Nat) : Int) - 1 = (d : Int) := by omega
      have := ih (acc ++ [rd row d]) (by omega) (by simp only [List.length_append, List.length_singleton]; omega) (by
        rw [List.append_assoc, List.singleton_append, show rd row (d : Int) = row.getD d 0 by unfold rd; rw [Int.toNat_natCast]]; exact e)
      refine Ans.step ?_
      simp only [spec_sgMirror.l1, hj, wrap64_down (show (0 : Int) ≤ (d : Int) by omega) (by omega : (d : Int) ≤ 4611686018427387904)]
      exact Ans.yes (by omega) (Ans.yes (by omega) (Ans.yes (by omega) (Ans.yes (by omega) this)))
  have key : ∀ (d : Nat) (i : Int) (out : List (List Int)), 0 ≤ i → i + d = x.length → out.length + d ≤ 1048576 → Ans (fun k => spec_sgMirror.l0 k out x (x.length : Int) i) (out ++ mir (x.drop i.toNat)) := by
    intro d
    induction d with
    | zero =>
      intro i out h0 h1 h2
      rw [List.drop_eq_nil_of_le (by omega), mir, List.map_nil, List.append_nil]; refine Ans.step ?_
      simp only [spec_sgMirror.l0]; exact Ans.not (by omega) (Ans.pure _)
    | succ d ih =>
      intro i out h0 h1 h2
      have hm := hr _ (rd_L1_mem h0 (show i < x.length by omega))
      have e := ih (i + 1) (out ++ [(rd_L1 x i).reverse]) (by omega) (by omega) (by simp only [List.length_append, List.length_singleton]; omega)
      rw [show (i + 1).toNat = i.toNat + 1 by omega, List.append_assoc, List.singleton_append] at e
      rw [drop_at x [] (show i.toNat < x.length by omega), show x.getD i.toNat [] = rd_L1 x i from rfl]
      have hw : wrap64 (((rd_L1 x i).length : Int) - 1) = ((rd_L1 x i).length : Int) - 1 := wrap64_in _ ⟨by omega, by omega⟩
      refine Ans.step ?_
      simp only [spec_sgMirror.l0, hw]
      refine Ans.yes (by omega) (Ans.yes h0 (Ans.yes (by omega) (inner out _ i _ hm h0 (by omega) (by omega) _ [] (Nat.le_refl _) (by simp only [List.length_nil]; omega) ?_)))
      rw [List.nil_append, List.take_length]; exact e
  exact key x.length 0 [] (by omega) (by omega) (by simp only [List.length_nil]; omega)
theorem sgClockwise (n : Nat) (x : List (List Int)) (h : Sq n x) (hn : n ≤ 1048576) : Ans (fun k => spec_sgClockwise.f k x) (cw x) := by
  have hl := h.1
  simp only [spec_sgClockwise.f]
  have s := tr_sq h
  exact (sgTurn x (by omega) (fun r hr => by rw [h.2 r hr, hl])).bind ((sgMirror (tr x) (by rw [s.1]; omega) (fun r hr => by rw [s.2 r hr]; omega)).bind (Ans.pure _))
/-- All images. -/
def images (x : List (List Int)) : List (List (List Int)) := [x, cw x, cw (cw x), cw (cw (cw x)), mir x, mir (cw x), mir (cw (cw x)), mir (cw (cw (cw x)))]
theorem smSymmetries (n : Nat) (x : List (List Int)) (h : Sq n x) (hn : n ≤ 1048576) : Ans (fun k => spec_smSymmetries.f k x) (images x) := by
  have s1 := cw_sq h; have s2 := cw_sq s1; have s3 := cw_sq s2
  have M : ∀ y, Sq n y → Ans (fun k => spec_sgMirror.f k y) (mir y) := fun y hy => sgMirror y (by rw [hy.1]; exact hn) (fun r hr => by rw [hy.2 r hr]; exact hn)
  simp only [spec_smSymmetries.f]
  refine Ans.step ?_; simp only [spec_smSymmetries.l0, w01, w12, w23, w34]
  refine Ans.yes (by decide) ((sgClockwise n x h hn).bind (Ans.yes (by simp) (Ans.step ?_))); simp only [spec_smSymmetries.l0, w01, w12, w23, w34]
  refine Ans.yes (by decide) ((sgClockwise n _ s1 hn).bind (Ans.yes (by simp) (Ans.step ?_))); simp only [spec_smSymmetries.l0, w01, w12, w23, w34]
  refine Ans.yes (by decide) ((sgClockwise n _ s2 hn).bind (Ans.yes (by simp) (Ans.step ?_))); simp only [spec_smSymmetries.l0, w01, w12, w23, w34]
  refine Ans.not (by decide) (Ans.step ?_); simp only [spec_smSymmetries.l1, w01, w12, w23, w34]
  refine Ans.yes (by decide) (Ans.yes (by decide) (Ans.yes (by simp) (Ans.bind (a := mir x) (M x h) (Ans.yes (by simp) (Ans.step ?_))))); simp only [spec_smSymmetries.l1, w01, w12, w23, w34]
  refine Ans.yes (by decide) (Ans.yes (by decide) (Ans.yes (by first | (simp; done) | (simp; decide)) (Ans.bind (a := mir (cw x)) (M _ s1) (Ans.yes (by simp) (Ans.step ?_))))); simp only [spec_smSymmetries.l1, w01, w12, w23, w34]
  refine Ans.yes (by decide) (Ans.yes (by decide) (Ans.yes (by first | (simp; done) | (simp; decide)) (Ans.bind (a := mir (cw (cw x))) (M _ s2) (Ans.yes (by simp) (Ans.step ?_))))); simp only [spec_smSymmetries.l1, w01, w12, w23, w34]
  refine Ans.yes (by decide) (Ans.yes (by decide) (Ans.yes (by first | (simp; done) | (simp; decide)) (Ans.bind (a := mir (cw (cw (cw x)))) (M _ s3) (Ans.yes (by simp) (Ans.step ?_))))); simp only [spec_smSymmetries.l1, w01, w12, w23, w34]
  exact Ans.not (by decide) (Ans.pure _)
theorem eight (n : Nat) (x : List (List Int)) (h : Sq n x) (hn : n ≤ 1048576) : Ans (fun k => impl_eight.f k x) (images x) := by
  have s1 := cw_sq h; have s2 := cw_sq s1; have s3 := cw_sq s2
  simp only [impl_eight.f]
  refine Ans.step ?_; simp only [impl_eight.l0, w01, w12, w23, w34]
  refine Ans.yes (by decide) (Ans.yes (by simp) ((turned n x h hn).bind (Ans.step ?_))); simp only [impl_eight.l0, w01, w12, w23, w34]
  refine Ans.yes (by decide) (Ans.yes (by simp) ((turned n _ s1 hn).bind (Ans.step ?_))); simp only [impl_eight.l0, w01, w12, w23, w34]
  refine Ans.yes (by decide) (Ans.yes (by simp) ((turned n _ s2 hn).bind (Ans.step ?_))); simp only [impl_eight.l0, w01, w12, w23, w34]
  refine Ans.yes (by decide) (Ans.yes (by simp) ((turned n _ s3 hn).bind (Ans.step ?_))); simp only [impl_eight.l0, w01, w12, w23, w34]
  refine Ans.not (by decide) (Ans.step ?_); simp only [impl_eight.l1, w01, w12, w23, w34]
  refine Ans.yes (by decide) (Ans.yes (by decide) (Ans.yes (by simp) (Ans.bind (a := mir x) (mirrored n x h hn) (Ans.yes (by simp) (Ans.step ?_))))); simp only [impl_eight.l1, w01, w12, w23, w34]
  refine Ans.yes (by decide) (Ans.yes (by decide) (Ans.yes (by first | (simp; done) | (simp; decide)) (Ans.bind (a := mir (cw x)) (mirrored n _ s1 hn) (Ans.yes (by simp) (Ans.step ?_))))); simp only [impl_eight.l1, w01, w12, w23, w34]
  refine Ans.yes (by decide) (Ans.yes (by decide) (Ans.yes (by first | (simp; done) | (simp; decide)) (Ans.bind (a := mir (cw (cw x))) (mirrored n _ s2 hn) (Ans.yes (by simp) (Ans.step ?_))))); simp only [impl_eight.l1, w01, w12, w23, w34]
  refine Ans.yes (by decide) (Ans.yes (by decide) (Ans.yes (by first | (simp; done) | (simp; decide)) (Ans.bind (a := mir (cw (cw (cw x)))) (mirrored n _ s3 hn) (Ans.yes (by simp) (Ans.step ?_))))); simp only [impl_eight.l1, w01, w12, w23, w34]
  exact Ans.not (by decide) (Ans.pure _)
theorem cmpSame (x y : List (List Int)) : (cmpLL x y == 0) = decide (x = y) := by
  rw [Bool.eq_iff_iff, beq_iff_eq, decide_eq_true_iff, cmpLL_zero]
theorem tablesSame (n : Nat) (x y : List (List Int)) (hx : Sq n x) (hy : Sq n y) (hn : n ≤ 1048576) : Ans (fun k => impl_compareTables.f k x y) (cmpLL x y) :=
  compareTables x y (by rw [hx.1]; exact hn) (by rw [hy.1]; exact hn) (fun r hr => by rw [hx.2 r hr]; exact hn) (fun r hr => by rw [hy.2 r hr]; exact hn)
theorem sameW (n : Nat) (x y : List (List Int)) (hx : Sq n x) (hn : n ≤ 1048576) : Ans (fun k => spec_weSame.f k x y) (decide (x = y)) :=
  weSame x y (by rw [hx.1]; omega) (fun r hr => by rw [hx.2 r hr]; omega)
/-- Whether a matrix has the symmetries of a kind. -/
def hasK (x : List (List Int)) (k : Int) : Bool :=
  if k = 0 then decide (cw (cw x) = x) else if k = 1 then decide (cw x = x) else if k = 2 then decide (mir x = x) else if k = 3 then decide (tr x = x) else decide (mir x = x) && decide (mir (cw (cw x)) = x)
theorem smHas (n : Nat) (x : List (List Int)) (h : Sq n x) (hn : n ≤ 1048576) (a : Int) : Ans (fun k => spec_smHas.f k x a) (hasK x a) := by
  have s1 := cw_sq h; have s2 := cw_sq s1
  have hl := h.1
  simp only [spec_smHas.f]
  refine (smSymmetries n x h hn).bind ?_
  unfold hasK
  by_cases c0 : a = 0
  · simp only [if_pos c0]; exact Ans.yes (by simp [images]) ((sameW n _ x s2 hn).bind (Ans.pure _))
  simp only [if_neg c0]
  by_cases c1 : a = 1
  · simp only [if_pos c1]; exact Ans.yes (by simp [images]) ((sameW n _ x s1 hn).bind (Ans.pure _))
  simp only [if_neg c1]
  by_cases c2 : a = 2
  · simp only [if_pos c2]; exact Ans.yes (by simp [images]) ((sameW n _ x (mir_sq h) hn).bind (Ans.pure _))
  simp only [if_neg c2]
  by_cases c3 : a = 3
  · simp only [if_pos c3]; exact (sgTurn x (by omega) (fun r hr => by rw [h.2 r hr, hl])).bind ((sameW n _ x (tr_sq h) hn).bind (Ans.pure _))
  simp only [if_neg c3]
  refine Ans.yes (by simp [images]) ((sameW n _ x (mir_sq h) hn).bind ?_)
  by_cases q : mir x = x
  · rw [decide_eq_true q, Bool.true_and]
    exact Ans.yes rfl (Ans.yes (by simp [images]) ((sameW n _ x (mir_sq s2) hn).bind (Ans.pure _)))
  · rw [decide_eq_false q, Bool.false_and]; exact Ans.not (by simp) (Ans.pure _)
theorem hasKind (n : Nat) (x : List (List Int)) (h : Sq n x) (hn : n ≤ 1048576) (a : Int) : Ans (fun k => impl_hasKind.f k x a) (hasK x a) := by
  have s1 := cw_sq h; have s2 := cw_sq s1
  have same : ∀ y, Sq n y → Ans (fun k => impl_hasKind_1.f k y x) (decide (y = x)) := fun y hy => by
    simp only [impl_hasKind_1.f]
    have := (tablesSame n y x hy h hn).bind (h := fun _ t => some (t == 0)) (Ans.pure _)
    rwa [cmpSame] at this
  have trans : Ans (fun k => impl_transposed.f k x) (tr x) := by
    simp only [impl_transposed.f, h.1]
    have hg : ∀ i j : Nat, i < n → j < n → impl_transposed_1.f i j x = some ((x.getD j []).getD i 0) := by
      intro i j hi hj
      have hr : (rd_L1 x (j : Int)).length = n := h.2 _ (rd_L1_mem (by omega) (by rw [h.1]; omega))
      have hl := h.1
      simp only [impl_transposed_1.f]
      rw [if_pos (by omega), if_pos (by omega), if_pos (by omega), if_pos (by omega)]
      simp only [rd, rd_L1, Int.toNat_natCast]
    have e := table n n hn hn (fun x0_ x1_ => impl_transposed_1.f x0_ x1_ x) _ hg
    rw [tab_is (tr_sq h) _ (fun i j hi hj => by rw [tr_at h hi hj])] at e
    exact e.bind (Ans.pure _)
  simp only [impl_hasKind.f]
  refine (eight n x h hn).bind ?_
  unfold hasK
  by_cases c0 : a = 0
  · simp only [if_pos c0]; exact Ans.yes (by simp [images]) ((same _ s2).bind (Ans.pure _))
  simp only [if_neg c0]
  by_cases c1 : a = 1
  · simp only [if_pos c1]; exact Ans.yes (by simp [images]) ((same _ s1).bind (Ans.pure _))
  simp only [if_neg c1]
  by_cases c2 : a = 2
  · simp only [if_pos c2]; exact Ans.yes (by simp [images]) ((same _ (mir_sq h)).bind (Ans.pure _))
  simp only [if_neg c2]
  by_cases c3 : a = 3
  · simp only [if_pos c3]; exact trans.bind ((same _ (tr_sq h)).bind (Ans.pure _))
  simp only [if_neg c3]
  refine Ans.yes (by simp [images]) ((same _ (mir_sq h)).bind ?_)
  by_cases q : mir x = x
  · rw [decide_eq_true q, Bool.true_and]
    exact Ans.yes rfl (Ans.yes (by simp [images]) ((same _ (mir_sq s2)).bind (Ans.pure _)))
  · rw [decide_eq_false q, Bool.false_and]; exact Ans.not (by simp) (Ans.pure _)
def allIn (x : List Int) (lo hi : Int) : Bool := x.all fun a => decide (lo ≤ a ∧ a ≤ hi)
theorem l1All (x : List Int) (hx : x.length ≤ 17592186044416) (lo hi : Int) : Ans (fun k => spec_l1All.f k x lo hi) (allIn x lo hi) := by
  have key : ∀ (d : Nat) (i : Int), 0 ≤ i → i + d = x.length → Ans (fun k => spec_l1All.l0 k lo hi x (x.length : Int) i) (allIn (x.drop i.toNat) lo hi) := by
    intro d
    induction d with
    | zero =>
      intro i h0 h1
      rw [List.drop_eq_nil_of_le (by omega)]; refine Ans.step ?_
      simp only [spec_l1All.l0]; exact Ans.not (by omega) (Ans.pure _)
    | succ d ih =>
      intro i h0 h1
      have hd := drop_at x 0 (show i.toNat < x.length by omega)
      have e := ih (i + 1) (by omega) (by omega)
      rw [hd, allIn, List.all_cons, show decide (lo ≤ x.getD i.toNat 0 ∧ x.getD i.toNat 0 ≤ hi) = decide (lo ≤ rd x i ∧ rd x i ≤ hi) from rfl]
      refine Ans.step ?_
      simp only [spec_l1All.l0, l1In, Option.bind_some, wrap64_up h0 (by omega : i ≤ 4611686018427387904)]
      refine Ans.yes (by omega) (Ans.yes h0 (Ans.yes (by omega) ?_))
      by_cases c : decide (lo ≤ rd x i ∧ rd x i ≤ hi) = true
      · rw [c, Bool.true_and]; rw [show (i + 1).toNat = i.toNat + 1 by omega] at e; exact Ans.yes rfl e
      · rw [Bool.eq_false_iff.mpr c, Bool.false_and]; exact Ans.not (by simp) (Ans.pure _)
  exact key x.length 0 (by omega) (by omega)
theorem l1Own (x : List Int) (h : x.length ≤ 1048576) : spec_l1Own.f x = some x := by
  simp only [spec_l1Own.f, Option.bind_some, List.length_nil, List.nil_append]
  rw [if_pos (by omega)]
/-- Whether a row keeps the sums of columns 0 or 1; the last row makes them 1. -/
def fitsB (last : Bool) (sums row : List Int) : Bool := (List.zipWith (fun s x => decide (0 ≤ s + x) && decide (s + x ≤ 1) && (!last || decide (s + x = 1))) sums row).all id
/-- All rows of d numbers whose signs go on to alternate from a sum s, in order. -/
def alt : Nat → Int → List (List Int)
  | 0, s => if s = 1 then [[]] else []
  | d + 1, s => (alt d 0).map ((-s) :: ·) ++ (alt d 1).map ((1 - s) :: ·)
theorem alt_len : ∀ (d : Nat) (s : Int), ∀ r ∈ alt d s, r.length = d
  | 0, s, r, h => by
    unfold alt at h
    split at h
    · rw [List.mem_singleton] at h; subst h; rfl
    · cases h
  | d + 1, s, r, h => by
    unfold alt at h
    rcases List.mem_append.1 h with h | h
    · obtain ⟨a, ha, rfl⟩ := List.mem_map.1 h; rw [List.length_cons, alt_len d 0 a ha]
    · obtain ⟨a, ha, rfl⟩ := List.mem_map.1 h; rw [List.length_cons, alt_len d 1 a ha]
theorem alt_many : ∀ (d : Nat) (s : Int), (alt d s).length ≤ 2 ^ d
  | 0, s => by unfold alt; split <;> simp
  | d + 1, s => by
    have h1 := alt_many d 0
    have h2 := alt_many d 1
    rw [alt, List.length_append, List.length_map, List.length_map, Nat.pow_succ]; omega
theorem alt_in : ∀ (d : Nat) (s : Int), 0 ≤ s → s ≤ 1 → ∀ r ∈ alt d s, ∀ x ∈ r, -1 ≤ x ∧ x ≤ 1
  | 0, s, _, _, r, h => by
    unfold alt at h
    split at h
    · rw [List.mem_singleton] at h; subst h; simp
    · cases h
  | d + 1, s, h0, h1, r, h => by
    unfold alt at h
    rcases List.mem_append.1 h with h | h
    · obtain ⟨a, ha, rfl⟩ := List.mem_map.1 h
      intro x hx
      rcases List.mem_cons.1 hx with rfl | hx
      · omega
      · exact alt_in d 0 (by omega) (by omega) a ha x hx
    · obtain ⟨a, ha, rfl⟩ := List.mem_map.1 h
      intro x hx
      rcases List.mem_cons.1 hx with rfl | hx
      · omega
      · exact alt_in d 1 (by omega) (by omega) a ha x hx
theorem mapApp (l : List Int) (x : Int) (z : List (List Int)) : (z.map (x :: ·)).map (l ++ ·) = z.map ((l ++ [x]) ++ ·) := by
  rw [List.map_map]; congr 1; funext t; simp
theorem signRows1 (n : Nat) (hn : n ≤ 1000) : ∀ (d : Nat) (l : List Int) (s : Int), 0 ≤ s → s ≤ 1 → l.length + d = n → Ans (fun k => impl_signRows_1.f k n l s) ((alt d s).map (l ++ ·)) := by
  intro d
  induction d with
  | zero =>
    intro l s h0 h1 hl
    refine Ans.step ?_
    simp only [impl_signRows_1.f]
    refine Ans.yes (by omega) ?_
    unfold alt
    by_cases c : s = 1
    · refine Ans.yes c ?_; rw [if_pos c, List.map_singleton, List.append_nil]; exact Ans.pure _
    · refine Ans.not c ?_; rw [if_neg c]; exact Ans.pure _
  | succ d ih =>
    intro l s h0 h1 hl
    have one : ∀ (x : Int) (R : List (List Int)), x = -s ∨ x = 1 - s → Ans (fun k => impl_signRows_1.l0 k n l s (x + 1)) R → Ans (fun k => impl_signRows_1.l0 k n l s x) ((alt d (s + x)).map ((l ++ [x]) ++ ·) ++ R) := by
      intro x R hx e
      refine Ans.step ?_
      simp only [impl_signRows_1.l0]
      refine Ans.yes (by omega) (Ans.yes (by omega) (Ans.yes (by omega) ((ih (l ++ [x]) (s + x) (by omega) (by omega) (by simp; omega)).bind (e.bind (Ans.pure _)))))
    have end_ : Ans (fun k => impl_signRows_1.l0 k n l s (1 - s + 1)) [] := by
      refine Ans.step ?_
      simp only [impl_signRows_1.l0]
      exact Ans.not (by omega) (Ans.pure _)
    refine Ans.step ?_
    simp only [impl_signRows_1.f]
    refine Ans.not (by omega) (Ans.yes h0 (Ans.yes h1 ?_))
    have e2 := one (1 - s) [] (.inr rfl) end_
    have e1 := one (-s) _ (.inl rfl) (by rw [show -s + 1 = 1 - s by omega]; exact e2)
    rw [alt, List.map_append, mapApp, mapApp]
    rw [List.append_nil, show s + -s = 0 by omega, show s + (1 - s) = 1 by omega] at e1
    exact e1
theorem signRows (n : Nat) (hn : n ≤ 6) : Ans (fun k => impl_signRows.f k n) (alt n 0) := by
  simp only [impl_signRows.f]
  refine (signRows1 n (by omega) n [] 0 (by omega) (by omega) (by simp)).bind ?_
  have h1 := alt_many n 0
  have h2 : 2 ^ n ≤ 2 ^ 6 := Nat.pow_le_pow_right (by omega) hn
  simp only [List.nil_append, List.map_id'] 
  exact Ans.yes (by omega) (Ans.pure _)
theorem fitsB_cons (last : Bool) (s x : Int) (ss xs : List Int) : fitsB last (s :: ss) (x :: xs) = ((decide (0 ≤ s + x) && decide (s + x ≤ 1) && (!last || decide (s + x = 1))) && fitsB last ss xs) := rfl
theorem fitsB_nil (last : Bool) (ss : List Int) : fitsB last ss [] = true := by cases ss <;> rfl
theorem rd_bits {x : List Int} {lo hi : Int} (h : ∀ a ∈ x, lo ≤ a ∧ a ≤ hi) {i : Int} (h0 : 0 ≤ i) (h1 : i < x.length) : lo ≤ rd x i ∧ rd x i ≤ hi := h _ (by unfold rd; exact getD_mem _ (by omega))
theorem fitsSums (sums row : List Int) (last : Bool) (hl : row.length ≤ sums.length) (hm : sums.length ≤ 1000) (hs : ∀ s ∈ sums, 0 ≤ s ∧ s ≤ 1) (hr : ∀ x ∈ row, -1 ≤ x ∧ x ≤ 1) : Ans (fun k => impl_fitsSums.f k sums row last) (fitsB last sums row) := by
  have key : ∀ (d : Nat) (i : Int), 0 ≤ i → i + d = row.length → Ans (fun k => impl_fitsSums.l0 k sums last row (row.length : Int) i) (fitsB last (sums.drop i.toNat) (row.drop i.toNat)) := by
    intro d
    induction d with
    | zero =>
      intro i h0 h1
      rw [List.drop_eq_nil_of_le (show row.length ≤ i.toNat by omega), fitsB_nil]; refine Ans.step ?_
      simp only [impl_fitsSums.l0]; exact Ans.not (by omega) (Ans.pure _)
    | succ d ih =>
      intro i h0 h1
      have e := ih (i + 1) (by omega) (by omega)
      rw [show (i + 1).toNat = i.toNat + 1 by omega] at e
      have b1 := rd_bits hs h0 (show i < sums.length by omega)
      have b2 := rd_bits hr h0 (show i < row.length by omega)
      rw [drop_at row 0 (show i.toNat < row.length by omega), drop_at sums 0 (show i.toNat < sums.length by omega), show row.getD i.toNat 0 = rd row i from rfl, show sums.getD i.toNat 0 = rd sums i from rfl, fitsB_cons]
      refine Ans.step ?_
      simp only [impl_fitsSums.l0, within, Option.bind_some, wrap64_up h0 (by omega : i ≤ 4611686018427387904), wrap64_in (rd sums i + rd row i) ⟨by omega, by omega⟩]
      refine Ans.yes (by omega) (Ans.yes h0 (Ans.yes (by omega) (Ans.yes (by omega) ?_)))
      by_cases c : 0 ≤ rd sums i + rd row i ∧ rd sums i + rd row i ≤ 1
      · rw [decide_eq_true c.1, decide_eq_true c.2]
        refine Ans.yes (decide_eq_true c) ?_
        cases last with
        | false => exact Ans.not (by simp) e
        | true =>
          by_cases c1 : rd sums i + rd row i = 1
          · rw [decide_eq_true c1]; exact Ans.yes rfl (Ans.yes c1 e)
          · rw [decide_eq_false c1]; exact Ans.yes rfl (Ans.not c1 (Ans.pure _))
      · refine Ans.not (by simp only [decide_eq_true_iff]; exact c) ?_
        have : (decide (0 ≤ rd sums i + rd row i) && decide (rd sums i + rd row i ≤ 1)) = false := by
          rw [Bool.eq_false_iff]; simpa using c
        rw [this, Bool.false_and, Bool.false_and]; exact Ans.pure _
  exact key row.length 0 (by omega) (by omega)
theorem filter_map_cons (last : Bool) (s x : Int) (ss : List Int) (z : List (List Int)) : (z.map (x :: ·)).filter (fun t => fitsB last (s :: ss) t) = if (decide (0 ≤ s + x) && decide (s + x ≤ 1) && (!last || decide (s + x = 1))) = true then (z.filter (fun t => fitsB last ss t)).map (x :: ·) else [] := by
  rw [List.filter_map]
  by_cases c : (decide (0 ≤ s + x) && decide (s + x ≤ 1) && (!last || decide (s + x = 1))) = true
  · rw [if_pos c]; congr 1; refine List.filter_congr fun t _ => ?_
    show fitsB last (s :: ss) (x :: t) = _
    rw [fitsB_cons, c, Bool.true_and]
  · rw [if_neg c, List.filter_eq_nil_iff.2 (fun t _ => by show ¬ (fitsB last (s :: ss) (x :: t) = true); rw [fitsB_cons, Bool.eq_false_iff.2 c]; simp)]; rfl
theorem weRows (sums : List Int) (hm : sums.length ≤ 6) (hs : ∀ s ∈ sums, 0 ≤ s ∧ s ≤ 1) : ∀ (d : Nat) (l : List Int) (s : Int), 0 ≤ s → s ≤ 1 → l.length + d = sums.length → Ans (fun k => spec_weRows.f k sums l s) (((alt d s).filter (fun t => fitsB false (sums.drop l.length) t)).map (l ++ ·)) := by
  intro d
  induction d with
  | zero =>
    intro l s h0 h1 hl
    refine Ans.step ?_
    simp only [spec_weRows.f]
    refine Ans.yes (by omega) ?_
    unfold alt
    by_cases c : s = 1
    · refine Ans.yes c ?_; rw [if_pos c, List.filter_cons, fitsB_nil, if_pos rfl, List.filter_nil, List.map_singleton, List.append_nil]; exact Ans.pure _
    · refine Ans.not c ?_; rw [if_neg c]; exact Ans.pure _
  | succ d ih =>
    intro l s h0 h1 hl
    have hlt : l.length < sums.length := by omega
    have hd := drop_at sums 0 hlt
    have hb := rd_bits hs (show (0 : Int) ≤ (l.length : Int) by omega) (show (l.length : Int) < sums.length by omega)
    have hrd : sums.getD l.length 0 = rd sums (l.length : Int) := by unfold rd; rw [Int.toNat_natCast]
    have many : ∀ (e : Nat) (z : Int) (l2 : List Int) (ss : List Int), (((alt e z).filter (fun t => fitsB false ss t)).map (l2 ++ ·)).length ≤ 2 ^ e := fun e z l2 ss => by
      rw [List.length_map]; exact Nat.le_trans (List.length_filter_le _ _) (alt_many e z)
    have h2d : 2 ^ d ≤ 2 ^ 6 := Nat.pow_le_pow_right (by omega) (by omega)
    -- one number x, tried behind what has been found
    have one : ∀ (x : Int) (out R : List (List Int)), -1 ≤ x → x ≤ 1 → out.length ≤ 1000 →
        Ans (fun k => spec_weRows.l0 k sums l s (out ++ (if 0 ≤ s + x ∧ s + x ≤ 1 then (((alt d (s + x)).map (x :: ·)).filter (fun t => fitsB false (sums.drop l.length) t)).map (l ++ ·) else [])) (x + 1)) R → Ans (fun k => spec_weRows.l0 k sums l s out x) R := by
      intro x out R hx1 hx2 ho e
      have w1 : wrap64 (s + x) = s + x := wrap64_in _ ⟨by omega, by omega⟩
      have w2 : wrap64 (rd sums (l.length : Int) + x) = rd sums (l.length : Int) + x := wrap64_in _ ⟨by omega, by omega⟩
      have w3 : wrap64 (x + 1) = x + 1 := wrap64_in _ ⟨by omega, by omega⟩
      refine Ans.step ?_
      simp only [spec_weRows.l0, l1In, Option.bind_some, w1, w2]
      refine Ans.yes (by omega) ?_
      by_cases c : 0 ≤ s + x ∧ s + x ≤ 1
      · rw [if_pos c, hd, filter_map_cons] at e
        refine Ans.yes (decide_eq_true c) (Ans.yes (by omega) (Ans.yes (by omega) (Ans.step ?_)))
        simp only [spec_weRows.j1, w1, w3]
        rw [hrd] at e
        by_cases c2 : 0 ≤ rd sums (l.length : Int) + x ∧ rd sums (l.length : Int) + x ≤ 1
        · rw [if_pos (by simp [c2.1, c2.2]), mapApp] at e
          refine Ans.yes (decide_eq_true c2) ?_
          simp only [l1Own l (by omega), Option.bind_some]
          have e1 := ih (l ++ [x]) (s + x) c.1 c.2 (by simp; omega)
          rw [show (l ++ [x]).length = l.length + 1 by simp] at e1
          refine Ans.yes (by omega) (e1.bind ?_)
          have hm1 := many d (s + x) (l ++ [x]) (sums.drop (l.length + 1))
          exact Ans.yes (by omega) e
        · rw [if_neg (by simp; omega), List.map_nil, List.append_nil] at e
          exact Ans.not (by simp only [decide_eq_true_iff]; exact c2) e
      · rw [if_neg c, List.append_nil] at e
        refine Ans.not (by simp only [decide_eq_true_iff]; exact c) (Ans.step ?_)
        simp only [spec_weRows.j1, w3]
        exact Ans.not (by simp) e
    have end_ : ∀ out : List (List Int), Ans (fun k => spec_weRows.l0 k sums l s out 2) out := fun out => by
      refine Ans.step ?_
      simp only [spec_weRows.l0]
      exact Ans.not (by omega) (Ans.pure _)
    have bnd : ∀ (x : Int), ((if 0 ≤ s + x ∧ s + x ≤ 1 then (((alt d (s + x)).map (x :: ·)).filter (fun t => fitsB false (sums.drop l.length) t)).map (l ++ ·) else []) : List (List Int)).length ≤ 64 := fun x => by
      split
      · rw [List.length_map]
        refine Nat.le_trans (List.length_filter_le _ _) ?_
        rw [List.length_map]
        exact Nat.le_trans (alt_many _ _) h2d
      · simp
    refine Ans.step ?_
    simp only [spec_weRows.f]
    refine Ans.not (by omega) ?_
    have b1 := bnd (-1)
    have b2 := bnd 0
    have e := one (-1) [] _ (by omega) (by omega) (by simp) (one 0 _ _ (by omega) (by omega) (by simp only [List.nil_append]; omega) (one 1 _ _ (by omega) (by omega) (by simp only [List.nil_append, List.length_append]; omega) (end_ _)))
    rcases (show s = 0 ∨ s = 1 by omega) with hs0 | hs1
    · subst hs0
      rw [if_neg (by omega), if_pos (by omega), if_pos (by omega)] at e
      rw [alt, List.filter_append, List.map_append]
      simpa using e
    · subst hs1
      rw [if_pos (by omega), if_pos (by omega), if_neg (by omega)] at e
      rw [alt, List.filter_append, List.map_append]
      simpa using e
/-- All matrices that go on rows with some sums of columns, in order. -/
def goOn (A : List (List Int)) : Nat → List (List Int) → List Int → List (List (List Int))
  | 0, m, _ => [m]
  | r + 1, m, sums => (A.filter (fun row => fitsB (decide (r = 0)) sums row)).flatMap fun row => goOn A r (m ++ [row]) (List.zipWith (· + ·) sums row)
/-- A callback over all of them, till it says no. -/
def foldT {σ : Type} (p : σ → List (List Int) → σ × Bool) : σ → List (List (List Int)) → σ × Bool
  | s, [] => (s, true)
  | s, m :: ms => if (p s m).2 = true then foldT p (p s m).1 ms else ((p s m).1, false)
theorem foldT_append {σ : Type} (p : σ → List (List Int) → σ × Bool) : ∀ (x y : List (List (List Int))) (s : σ), foldT p s (x ++ y) = if (foldT p s x).2 = true then foldT p (foldT p s x).1 y else foldT p s x
  | [], y, s => by simp [foldT]
  | m :: x, y, s => by
    rw [List.cons_append, foldT, foldT]
    by_cases c : (p s m).2 = true
    · rw [if_pos c, if_pos c, foldT_append p x y]
    · rw [if_neg c, if_neg c]; simp
theorem zip_bits : ∀ (last : Bool) (sums row : List Int), sums.length = row.length → fitsB last sums row = true → ∀ s ∈ List.zipWith (· + ·) sums row, 0 ≤ s ∧ s ≤ 1
  | _, [], [], _, _ => by simp
  | last, a :: sums, x :: row, h, hf => by
    rw [fitsB_cons, Bool.and_eq_true, Bool.and_eq_true, Bool.and_eq_true] at hf
    intro s hs
    rw [List.zipWith_cons_cons] at hs
    rcases List.mem_cons.1 hs with rfl | hs
    · exact ⟨of_decide_eq_true hf.1.1.1, of_decide_eq_true hf.1.1.2⟩
    · exact zip_bits last sums row (by simpa using h) hf.2 s hs
theorem rowOk_of {sums row : List Int} (hl : sums.length = row.length) (hs : ∀ s ∈ sums, 0 ≤ s ∧ s ≤ 1) (hr : ∀ x ∈ row, -1 ≤ x ∧ x ≤ 1) : rowOk sums row = true := by
  simp only [rowOk, Bool.and_eq_true, decide_eq_true_eq, List.all_eq_true]
  exact ⟨⟨hl, fun s h => hs s h⟩, fun x h => hr x h⟩
/-- The rows that can stand anywhere. -/
def RowsOf (n : Nat) (A : List (List Int)) : Prop := ∀ r ∈ A, r.length = n ∧ ∀ x ∈ r, -1 ≤ x ∧ x ≤ 1
theorem RowsOf.alt (n : Nat) : RowsOf n (alt n 0) := fun r h => ⟨alt_len n 0 r h, alt_in n 0 (by omega) (by omega) r h⟩
theorem goOn_sq {n : Nat} {A : List (List Int)} (hA : RowsOf n A) : ∀ (r : Nat) (m : List (List Int)) (sums : List Int), m.length + r = n → (∀ x ∈ m, x.length = n) → ∀ y ∈ goOn A r m sums, Sq n y
  | 0, m, sums, h, hm, y, hy => by
    rw [goOn, List.mem_singleton] at hy
    subst hy
    exact ⟨h, hm⟩
  | r + 1, m, sums, h, hm, y, hy => by
    rw [goOn, List.mem_flatMap] at hy
    obtain ⟨row, hrow, hy⟩ := hy
    have hr := hA row (List.mem_filter.1 hrow).1
    exact goOn_sq hA r (m ++ [row]) _ (by simp; omega) (fun x hx => by
      rcases List.mem_append.1 hx with hx | hx
      · exact hm x hx
      · rw [List.mem_singleton] at hx; rw [hx]; exact hr.1) y hy
theorem goOn_many {A : List (List Int)} {c : Nat} (hA : A.length ≤ c) : ∀ (r : Nat) (m : List (List Int)) (sums : List Int), (goOn A r m sums).length ≤ c ^ r
  | 0, m, sums => by simp [goOn]
  | r + 1, m, sums => by
    rw [goOn, List.length_flatMap]
    have key : ∀ (B : List (List Int)), B.length ≤ c → (B.map fun row => (goOn A r (m ++ [row]) (List.zipWith (· + ·) sums row)).length).sum ≤ B.length * c ^ r := by
      intro B
      induction B with
      | nil => simp
      | cons b B ih =>
        intro hB
        rw [List.length_cons] at hB
        have h1 := ih (by omega)
        have h2 := goOn_many hA r (m ++ [b]) (List.zipWith (· + ·) sums b)
        rw [List.map_cons, List.sum_cons, List.length_cons, Nat.succ_mul]
        omega
    have hB : (A.filter (fun row => fitsB (decide (r = 0)) sums row)).length ≤ c := Nat.le_trans (List.length_filter_le _ _) hA
    refine Nat.le_trans (key _ hB) ?_
    rw [Nat.pow_succ, Nat.mul_comm]
    exact Nat.mul_le_mul_left _ hB
theorem eachSigns1 {σ : Type} (n : Nat) (hn : n ≤ 6) (A : List (List Int)) (hA : RowsOf n A) (hc : A.length ≤ 1000) (p : Nat → σ → List (List Int) → Option (σ × Bool)) (pT : σ → List (List Int) → σ × Bool) (hp : ∀ s m, Sq n m → Ans (fun k => p k s m) (pT s m)) :
    ∀ (r : Nat) (m : List (List Int)) (sums : List Int) (s : σ), m.length + r = n → (∀ x ∈ m, x.length = n) → sums.length = n → (∀ x ∈ sums, 0 ≤ x ∧ x ≤ 1) → Ans2 (fun k j => impl_eachSigns_1.f k (p j) n A sums m s) (foldT pT s (goOn A r m sums)) := by
  intro r
  induction r with
  | zero =>
    intro m sums s h hm _ _
    refine Ans2.step ?_
    simp only [impl_eachSigns_1.f]
    refine Ans2.yes (by omega) ?_
    have e : foldT pT s (goOn A 0 m sums) = pT s m := by
      simp only [goOn, foldT]
      by_cases c : (pT s m).2 = true
      · rw [if_pos c, ← c]
      · rw [if_neg c]; rw [show false = (pT s m).2 by simpa using c]
    rw [e]
    exact Ans2.two (hp s m ⟨by omega, hm⟩)
  | succ r ih =>
    intro m sums s h hm hl hs
    have key : ∀ (d : Nat) (i : Int) (s : σ), 0 ≤ i → i + d = A.length →
        Ans2 (fun k j => impl_eachSigns_1.l0 k (p j) n A sums m s i) (foldT pT s (((A.drop i.toNat).filter (fun row => fitsB (decide (r = 0)) sums row)).flatMap fun row => goOn A r (m ++ [row]) (List.zipWith (· + ·) sums row))) := by
      intro d
      induction d with
      | zero =>
        intro i s h0 h1
        rw [List.drop_eq_nil_of_le (by omega)]; refine Ans2.step ?_
        simp only [impl_eachSigns_1.l0]
        exact Ans2.not (by omega) (Ans2.pure _)
      | succ d ihd =>
        intro i s h0 h1
        have hlt : i.toNat < A.length := by omega
        have hrow := hA (A.getD i.toNat []) (getD_mem [] hlt)
        have hnx : ∀ s, _ := fun s => ihd (i + 1) s (by omega) (by omega)
        rw [show (i + 1).toNat = i.toNat + 1 by omega] at hnx
        rw [drop_at A [] hlt, List.filter_cons]
        generalize hg : A.getD i.toNat [] = row at *
        have hfit := fitsSums sums row (decide (r = 0)) (by omega) (by omega) hs hrow.2
        have hlast : ((m.length : Int) == (n : Int) - 1) = decide (r = 0) := by
          rw [Bool.eq_iff_iff, beq_iff_eq, decide_eq_true_iff]; omega
        refine Ans2.step ?_
        simp only [impl_eachSigns_1.l0, hg, hlast]
        refine Ans2.yes (by omega) (Ans2.yes h0 ((Ans2.one hfit).bind ?_))
        by_cases c : fitsB (decide (r = 0)) sums row = true
        · rw [if_pos c, List.flatMap_cons, foldT_append]
          refine Ans2.yes c (Ans2.yes (rowOk_of (by omega) hs hrow.2) ?_)
          have e1 := ih (m ++ [row]) (List.zipWith (· + ·) sums row) s (by simp; omega) (fun x hx => by
            rcases List.mem_append.1 hx with hx | hx
            · exact hm x hx
            · rw [List.mem_singleton] at hx; rw [hx]; exact hrow.1) (by rw [List.length_zipWith]; omega) (zip_bits _ sums row (by omega) c)
          refine e1.bind ?_
          by_cases c2 : (foldT pT s (goOn A r (m ++ [row]) (List.zipWith (· + ·) sums row))).2 = true
          · rw [if_pos c2]; exact Ans2.yes c2 (hnx _)
          · rw [if_neg c2]
            refine Ans2.not c2 ?_
            have e3 : foldT pT s (goOn A r (m ++ [row]) (List.zipWith (· + ·) sums row)) = ((foldT pT s (goOn A r (m ++ [row]) (List.zipWith (· + ·) sums row))).1, false) := by
              rw [show false = (foldT pT s (goOn A r (m ++ [row]) (List.zipWith (· + ·) sums row))).2 by simpa using c2]
            rw [← e3]
            exact Ans2.pure _
        · rw [if_neg c]
          exact Ans2.not c (hnx _)
    refine Ans2.step ?_
    simp only [impl_eachSigns_1.f]
    refine Ans2.not (by omega) (Ans2.yes (by omega) ?_)
    have := key A.length 0 s (by omega) (by omega)
    simpa [goOn] using this
/-- All sign matrices with n rows, in order. -/
def allOf (n : Nat) : List (List (List Int)) := goOn (alt n 0) n [] (List.replicate n 0)
theorem allOf_sq (n : Nat) : ∀ y ∈ allOf n, Sq n y := goOn_sq (RowsOf.alt n) n [] _ (by simp) (by simp)
theorem allOf_many (n : Nat) (hn : n ≤ 6) : (allOf n).length ≤ 68719476736 := by
  have h1 := alt_many n 0
  have h2 : 2 ^ n ≤ 2 ^ 6 := Nat.pow_le_pow_right (by omega) hn
  have h3 := goOn_many (c := 64) (A := alt n 0) (by omega) n [] (List.replicate n 0)
  have h4 : 64 ^ n ≤ 64 ^ 6 := Nat.pow_le_pow_right (by omega) hn
  exact Nat.le_trans h3 (Nat.le_trans h4 (by decide))
theorem eachSigns {σ : Type} (n : Nat) (hn : n ≤ 6) (p : Nat → σ → List (List Int) → Option (σ × Bool)) (pT : σ → List (List Int) → σ × Bool) (hp : ∀ s m, Sq n m → Ans (fun k => p k s m) (pT s m)) (s : σ) :
    Ans (fun k => impl_eachSigns.f k n (p k) s) (foldT pT s (allOf n)).1 := by
  simp only [impl_eachSigns.f]
  refine Ans.yes (by omega) (Ans.yes (by omega) ((signRows n hn).bind ?_))
  have h1 := alt_many n 0
  have h2 : 2 ^ n ≤ 2 ^ 6 := Nat.pow_le_pow_right (by omega) hn
  have e := eachSigns1 n hn (alt n 0) (RowsOf.alt n) (by omega) p pT hp n [] (List.replicate n 0) s (by simp) (by simp) (by simp) (fun x hx => by rw [(List.mem_replicate.1 hx).2]; omega)
  rw [Int.toNat_natCast]
  exact e.join.bind (Ans.pure _)
/-- The reference's way to all of them. -/
def goOn2 (A : List (List Int)) : Nat → List (List Int) → List Int → List (List (List Int))
  | 0, m, sums => if allIn sums 1 1 = true then [m] else []
  | r + 1, m, sums => (A.filter (fun row => fitsB false sums row)).flatMap fun row => goOn2 A r (m ++ [row]) (List.zipWith (· + ·) sums row)
theorem fits_last : ∀ (sums row : List Int), sums.length = row.length → fitsB true sums row = (fitsB false sums row && allIn (List.zipWith (· + ·) sums row) 1 1)
  | [], [], _ => rfl
  | a :: sums, x :: row, h => by
    rw [fitsB_cons, fitsB_cons, fits_last sums row (by simpa using h), List.zipWith_cons_cons, show ∀ z, allIn ((a + x) :: z) 1 1 = (decide (1 ≤ a + x ∧ a + x ≤ 1) && allIn z 1 1) from fun _ => rfl]
    by_cases c : a + x = 1
    · have h1 : decide (0 ≤ a + x) = true := decide_eq_true (by omega)
      have h2 : decide (a + x ≤ 1) = true := decide_eq_true (by omega)
      have h3 : decide (1 ≤ a + x ∧ a + x ≤ 1) = true := decide_eq_true (by omega)
      rw [decide_eq_true c, h1, h2, h3]; simp
    · have h3 : decide (1 ≤ a + x ∧ a + x ≤ 1) = false := decide_eq_false (by omega)
      rw [decide_eq_false c, h3]; simp
theorem goOn_two {n : Nat} {A : List (List Int)} (hA : RowsOf n A) : ∀ (r : Nat) (m : List (List Int)) (sums : List Int), sums.length = n → goOn2 A (r + 1) m sums = goOn A (r + 1) m sums := by
  intro r
  induction r with
  | zero =>
    intro m sums hl
    rw [goOn2, goOn]
    simp only [goOn2, goOn]
    have key : ∀ (B : List (List Int)), (∀ b ∈ B, b.length = n) → ((B.filter (fun row => fitsB false sums row)).flatMap fun row => if allIn (List.zipWith (· + ·) sums row) 1 1 = true then [m ++ [row]] else []) = (B.filter (fun row => fitsB (decide (0 = 0)) sums row)).flatMap fun row => [m ++ [row]] := by
      intro B
      induction B with
      | nil => intro _; rfl
      | cons b B ih =>
        intro hB
        have hb := fits_last sums b (by rw [hl, hB b (by simp)])
        have h1 := ih (fun x hx => hB x (by simp [hx]))
        rw [show decide (0 = 0) = true from rfl] at h1 ⊢
        rw [List.filter_cons, List.filter_cons, hb]
        by_cases c1 : fitsB false sums b = true
        · rw [if_pos c1, List.flatMap_cons, c1, Bool.true_and]
          by_cases c2 : allIn (List.zipWith (· + ·) sums b) 1 1 = true
          · rw [if_pos c2, if_pos c2, List.flatMap_cons, h1]
          · rw [if_neg c2, if_neg c2, List.nil_append, h1]
        · rw [if_neg c1, Bool.eq_false_iff.2 c1, Bool.false_and, if_neg (by simp), h1]
    exact key A (fun b hb => (hA b hb).1)
  | succ r ih =>
    intro m sums hl
    rw [goOn2, goOn, show decide (r + 1 = 0) = false from rfl]
    have key : ∀ (B : List (List Int)), (∀ b ∈ B, b.length = n) → (B.flatMap fun row => goOn2 A (r + 1) (m ++ [row]) (List.zipWith (· + ·) sums row)) = B.flatMap fun row => goOn A (r + 1) (m ++ [row]) (List.zipWith (· + ·) sums row) := by
      intro B
      induction B with
      | nil => intro _; rfl
      | cons b B ihB =>
        intro hB
        rw [List.flatMap_cons, List.flatMap_cons, ihB (fun x hx => hB x (by simp [hx])), ih _ _ (by rw [List.length_zipWith, hl, hB b (by simp), Nat.min_self])]
    exact key _ (fun b hb => (hA b (List.mem_filter.1 hb).1).1)
theorem goOn2_many {A : List (List Int)} (hA : A.length ≤ 64) : ∀ (r : Nat) (m : List (List Int)) (sums : List Int), (goOn2 A r m sums).length ≤ 64 ^ r
  | 0, m, sums => by rw [goOn2]; split <;> simp
  | r + 1, m, sums => by
    rw [goOn2, List.length_flatMap]
    have key : ∀ (B : List (List Int)), (B.map fun row => (goOn2 A r (m ++ [row]) (List.zipWith (· + ·) sums row)).length).sum ≤ B.length * 64 ^ r := by
      intro B
      induction B with
      | nil => simp
      | cons b B ih =>
        have h2 := goOn2_many hA r (m ++ [b]) (List.zipWith (· + ·) sums b)
        rw [List.map_cons, List.sum_cons, List.length_cons, Nat.succ_mul]
        omega
    have hB : (A.filter (fun row => fitsB false sums row)).length ≤ 64 := Nat.le_trans (List.length_filter_le _ _) hA
    refine Nat.le_trans (key _) ?_
    rw [Nat.pow_succ, Nat.mul_comm]
    exact Nat.mul_le_mul_left _ hB
theorem weGoOn (n : Nat) (hn : n ≤ 6) : ∀ (r : Nat) (m : List (List Int)) (sums : List Int), m.length + r = n → sums.length = n → (∀ x ∈ sums, 0 ≤ x ∧ x ≤ 1) → Ans (fun k => spec_weGoOn.f k m sums) (goOn2 (alt n 0) r m sums) := by
  intro r
  induction r with
  | zero =>
    intro m sums h hl hs
    refine Ans.step ?_
    simp only [spec_weGoOn.f]
    refine Ans.yes (by omega) ((l1All sums (by omega) 1 1).bind ?_)
    rw [goOn2]
    by_cases c : allIn sums 1 1 = true
    · refine Ans.yes c ?_; rw [if_pos c]; exact Ans.pure _
    · refine Ans.not c ?_; rw [if_neg c]; exact Ans.pure _
  | succ r ih =>
    intro m sums h hl hs
    have hA : (alt n 0).length ≤ 64 := Nat.le_trans (alt_many n 0) (Nat.le_trans (Nat.pow_le_pow_right (by omega) hn) (by decide : 2 ^ 6 ≤ 64))
    have hr6 : 64 ^ (r + 1) ≤ 64 ^ 6 := Nat.pow_le_pow_right (by omega) (by omega)
    have h66 : (64 : Nat) ^ 6 = 68719476736 := by decide
    obtain ⟨rs, hrs⟩ : ∃ x, (alt n 0).filter (fun row => fitsB false sums row) = x := ⟨_, rfl⟩
    have hrl : rs.length ≤ 64 := by rw [← hrs]; exact Nat.le_trans (List.length_filter_le _ _) hA
    have key : ∀ (d : Nat) (i : Int) (out : List (List (List Int))), 0 ≤ i → i + d = rs.length → out.length + d * 64 ^ r ≤ 64 ^ (r + 1) →
        Ans (fun k => spec_weGoOn.l0 k m sums rs out i) (out ++ ((rs.drop i.toNat).flatMap fun row => goOn2 (alt n 0) r (m ++ [row]) (List.zipWith (· + ·) sums row))) := by
      intro d
      induction d with
      | zero =>
        intro i out h0 h1 h2
        rw [List.drop_eq_nil_of_le (by omega), List.flatMap_nil, List.append_nil]; refine Ans.step ?_
        simp only [spec_weGoOn.l0]
        exact Ans.not (by omega) (Ans.pure _)
      | succ d ihd =>
        intro i out h0 h1 h2
        rw [Nat.succ_mul] at h2
        have hlt : i.toNat < rs.length := by omega
        have hmem : rs.getD i.toNat [] ∈ rs := getD_mem [] hlt
        have hnx : ∀ out : List (List (List Int)), _ := fun out => ihd (i + 1) out (by omega) (by omega)
        rw [show (i + 1).toNat = i.toNat + 1 by omega] at hnx
        rw [drop_at rs [] hlt, List.flatMap_cons]
        generalize hg : rs.getD i.toNat [] = row at *
        rw [← hrs] at hmem
        obtain ⟨hm1, hm2⟩ := List.mem_filter.1 hmem
        have hrow := RowsOf.alt n row hm1
        have hmany := goOn2_many hA r (m ++ [row]) (List.zipWith (· + ·) sums row)
        refine Ans.step ?_
        simp only [spec_weGoOn.l0, hg, l1Own sums (by omega), Option.bind_some]
        refine Ans.yes (by omega) (Ans.yes h0 (Ans.yes (rowOk_of (by omega) hs hrow.2) (Ans.yes (by omega) ?_)))
        have e1 := ih (m ++ [row]) (List.zipWith (· + ·) sums row) (by simp; omega) (by rw [List.length_zipWith]; omega) (zip_bits false sums row (by omega) hm2)
        refine e1.bind (Ans.yes (by omega) ?_)
        have e2 := hnx (out ++ goOn2 (alt n 0) r (m ++ [row]) (List.zipWith (· + ·) sums row)) (by rw [List.length_append]; omega)
        rw [List.append_assoc] at e2
        exact e2
    refine Ans.step ?_
    simp only [spec_weGoOn.f]
    have hw := weRows sums (by omega) hs n [] 0 (by omega) (by omega) (by simp; omega)
    simp only [List.length_nil, List.drop_zero, List.nil_append, List.map_id', hrs] at hw
    refine Ans.not (by omega) (hw.bind ?_)
    have := key rs.length 0 [] (by omega) (by omega) (by rw [List.length_nil, Nat.pow_succ, Nat.zero_add, Nat.mul_comm]; exact Nat.mul_le_mul_left _ hrl)
    rw [goOn2, hrs]
    simpa using this
theorem weAll (n : Nat) (h1 : 1 ≤ n) (hn : n ≤ 6) : Ans (fun k => spec_weAll.f k n) (allOf n) := by
  simp only [spec_weAll.f]
  refine Ans.yes (by omega) (Ans.yes (by omega) ?_)
  have e := weGoOn n hn n [] (List.replicate n 0) (by simp) (by simp) (fun x hx => by rw [(List.mem_replicate.1 hx).2]; omega)
  obtain ⟨r, rfl⟩ : ∃ r, n = r + 1 := ⟨n - 1, by omega⟩
  rw [goOn_two (RowsOf.alt (r + 1)) r [] _ (by simp)] at e
  rw [Int.toNat_natCast]
  exact e
/-- What total adds up: a callback that always goes on. -/
theorem foldT_ok {σ : Type} {p : σ → List (List Int) → σ × Bool} (P : List (List Int) → Prop) (Ok : Nat → σ → Prop) (hk : ∀ j s m, P m → Ok (j + 1) s → Ok j (p s m).1) : ∀ (x : List (List (List Int))) (j : Nat) (s : σ), (∀ m ∈ x, P m) → Ok (x.length + j) s → (foldT p s x).2 = true → Ok j (foldT p s x).1
  | [], j, s, _, h, _ => by simpa [foldT] using h
  | m :: x, j, s, hP, h, h2 => by
    rw [foldT] at h2 ⊢
    by_cases c : (p s m).2 = true
    · rw [if_pos c] at h2 ⊢
      exact foldT_ok P Ok hk x j _ (fun m hm => hP m (List.mem_cons_of_mem _ hm)) (hk _ s m (hP m (List.mem_cons_self ..)) (by rw [List.length_cons] at h; rw [show x.length + j + 1 = x.length + 1 + j by omega]; exact h)) h2
    · rw [if_neg c] at h2
      cases h2
theorem eachSignsO1 {σ : Type} (n : Nat) (hn : n ≤ 6) (A : List (List Int)) (hA : RowsOf n A) (hc : A.length ≤ 1000) (p : Nat → σ → List (List Int) → Option (σ × Bool)) (pT : σ → List (List Int) → σ × Bool) (Ok : Nat → σ → Prop) (hmono : ∀ i j s, i ≤ j → Ok j s → Ok i s) (hp : ∀ j s m, Sq n m → Ok (j + 1) s → Ans (fun k => p k s m) (pT s m)) (hk : ∀ j s m, Sq n m → Ok (j + 1) s → Ok j (pT s m).1) :
    ∀ (r : Nat) (m : List (List Int)) (sums : List Int) (s : σ), m.length + r = n → (∀ x ∈ m, x.length = n) → sums.length = n → (∀ x ∈ sums, 0 ≤ x ∧ x ≤ 1) → Ok (goOn A r m sums).length s → Ans2 (fun k j => impl_eachSigns_1.f k (p j) n A sums m s) (foldT pT s (goOn A r m sums)) := by
  intro r
  induction r with
  | zero =>
    intro m sums s h hm _ _ hO
    refine Ans2.step ?_
    simp only [impl_eachSigns_1.f]
    refine Ans2.yes (by omega) ?_
    have e : foldT pT s (goOn A 0 m sums) = pT s m := by
      simp only [goOn, foldT]
      by_cases c : (pT s m).2 = true
      · rw [if_pos c, ← c]
      · rw [if_neg c]; rw [show false = (pT s m).2 by simpa using c]
    rw [e]
    exact Ans2.two (hp 0 s m ⟨by omega, hm⟩ (by simpa [goOn] using hO))
  | succ r ih =>
    intro m sums s h hm hl hs hO
    have key : ∀ (d : Nat) (i : Int) (s : σ), 0 ≤ i → i + d = A.length → Ok (((A.drop i.toNat).filter (fun row => fitsB (decide (r = 0)) sums row)).flatMap fun row => goOn A r (m ++ [row]) (List.zipWith (· + ·) sums row)).length s →
        Ans2 (fun k j => impl_eachSigns_1.l0 k (p j) n A sums m s i) (foldT pT s (((A.drop i.toNat).filter (fun row => fitsB (decide (r = 0)) sums row)).flatMap fun row => goOn A r (m ++ [row]) (List.zipWith (· + ·) sums row))) := by
      intro d
      induction d with
      | zero =>
        intro i s h0 h1 hO
        rw [List.drop_eq_nil_of_le (by omega)]; refine Ans2.step ?_
        simp only [impl_eachSigns_1.l0]
        exact Ans2.not (by omega) (Ans2.pure _)
      | succ d ihd =>
        intro i s h0 h1 hO
        have hlt : i.toNat < A.length := by omega
        have hrow := hA (A.getD i.toNat []) (getD_mem [] hlt)
        have hnx : ∀ s, _ := fun s hO => ihd (i + 1) s (by omega) (by omega) hO
        rw [show (i + 1).toNat = i.toNat + 1 by omega] at hnx
        rw [drop_at A [] hlt, List.filter_cons] at hO ⊢
        generalize hg : A.getD i.toNat [] = row at *
        have hfit := fitsSums sums row (decide (r = 0)) (by omega) (by omega) hs hrow.2
        have hlast : ((m.length : Int) == (n : Int) - 1) = decide (r = 0) := by
          rw [Bool.eq_iff_iff, beq_iff_eq, decide_eq_true_iff]; omega
        refine Ans2.step ?_
        simp only [impl_eachSigns_1.l0, hg, hlast]
        refine Ans2.yes (by omega) (Ans2.yes h0 ((Ans2.one hfit).bind ?_))
        by_cases c : fitsB (decide (r = 0)) sums row = true
        · rw [if_pos c, List.flatMap_cons, List.length_append] at hO
          rw [if_pos c, List.flatMap_cons, foldT_append]
          refine Ans2.yes c (Ans2.yes (rowOk_of (by omega) hs hrow.2) ?_)
          have e1 := ih (m ++ [row]) (List.zipWith (· + ·) sums row) s (by simp; omega) (fun x hx => by
            rcases List.mem_append.1 hx with hx | hx
            · exact hm x hx
            · rw [List.mem_singleton] at hx; rw [hx]; exact hrow.1) (by rw [List.length_zipWith]; omega) (zip_bits _ sums row (by omega) c) (hmono _ _ _ (Nat.le_add_right _ _) hO)
          refine e1.bind ?_
          by_cases c2 : (foldT pT s (goOn A r (m ++ [row]) (List.zipWith (· + ·) sums row))).2 = true
          · rw [if_pos c2]; exact Ans2.yes c2 (hnx _ (foldT_ok (fun m => Sq n m) Ok hk _ _ s (goOn_sq hA r _ _ (by simp; omega) (fun x hx => by
            rcases List.mem_append.1 hx with hx | hx
            · exact hm x hx
            · rw [List.mem_singleton] at hx; rw [hx]; exact hrow.1)) hO c2))
          · rw [if_neg c2]
            refine Ans2.not c2 ?_
            have e3 : foldT pT s (goOn A r (m ++ [row]) (List.zipWith (· + ·) sums row)) = ((foldT pT s (goOn A r (m ++ [row]) (List.zipWith (· + ·) sums row))).1, false) := by
              rw [show false = (foldT pT s (goOn A r (m ++ [row]) (List.zipWith (· + ·) sums row))).2 by simpa using c2]
            rw [← e3]
            exact Ans2.pure _
        · rw [if_neg c] at hO ⊢
          exact Ans2.not c (hnx _ hO)
    refine Ans2.step ?_
    simp only [impl_eachSigns_1.f]
    refine Ans2.not (by omega) (Ans2.yes (by omega) ?_)
    have := key A.length 0 s (by omega) (by omega) (by simpa [goOn] using hO)
    simpa [goOn] using this
theorem eachSignsO {σ : Type} (n : Nat) (hn : n ≤ 6) (p : Nat → σ → List (List Int) → Option (σ × Bool)) (pT : σ → List (List Int) → σ × Bool) (Ok : Nat → σ → Prop) (hmono : ∀ i j s, i ≤ j → Ok j s → Ok i s) (hp : ∀ j s m, Sq n m → Ok (j + 1) s → Ans (fun k => p k s m) (pT s m)) (hk : ∀ j s m, Sq n m → Ok (j + 1) s → Ok j (pT s m).1) (s : σ) (hO : Ok (allOf n).length s) :
    Ans (fun k => impl_eachSigns.f k n (p k) s) (foldT pT s (allOf n)).1 := by
  simp only [impl_eachSigns.f]
  refine Ans.yes (by omega) (Ans.yes (by omega) ((signRows n hn).bind ?_))
  have h1 := alt_many n 0
  have h2 : 2 ^ n ≤ 2 ^ 6 := Nat.pow_le_pow_right (by omega) hn
  have e := eachSignsO1 n hn (alt n 0) (RowsOf.alt n) (by omega) p pT Ok hmono hp hk n [] (List.replicate n 0) s (by simp) (by simp) (by simp) (fun x hx => by rw [(List.mem_replicate.1 hx).2]; omega) hO
  rw [Int.toNat_natCast]
  exact e.join.bind (Ans.pure _)
theorem smList (n : Nat) (h1 : 1 ≤ n) (hn : n ≤ 6) (a : Int) : Ans (fun k => spec_smList.f k n a) ((allOf n).filter (fun m => hasK m a)) := by
  simp only [spec_smList.f]
  refine (weAll n h1 hn).bind ?_
  have hm := allOf_many n hn
  have key : ∀ (d : Nat) (i : Int) (out : List (List (List Int))), 0 ≤ i → i + d = (allOf n).length → out.length + d ≤ 68719476736 → Ans (fun k => spec_smList.l0 k a out (allOf n) ((allOf n).length : Int) i) (out ++ ((allOf n).drop i.toNat).filter (fun m => hasK m a)) := by
    intro d
    induction d with
    | zero =>
      intro i out h0 h1 h2
      rw [List.drop_eq_nil_of_le (by omega), List.filter_nil, List.append_nil]; refine Ans.step ?_
      simp only [spec_smList.l0]
      exact Ans.not (by omega) (Ans.pure _)
    | succ d ih =>
      intro i out h0 h1 h2
      have hlt : i.toNat < (allOf n).length := by omega
      have hsq := allOf_sq n _ (getD_mem [] hlt)
      have e := fun out h => ih (i + 1) out (by omega) (by omega) h
      rw [show (i + 1).toNat = i.toNat + 1 by omega] at e
      rw [drop_at (allOf n) [] hlt, List.filter_cons]
      refine Ans.step ?_
      simp only [spec_smList.l0, show ∀ j, rd_L2 (allOf n) j = (allOf n).getD j.toNat [] from fun _ => rfl, wrap64_up h0 (by omega : i ≤ 4611686018427387904)]
      refine Ans.yes (by omega) (Ans.yes h0 (Ans.yes (by omega) ((smHas n _ hsq (by omega) a).bind ?_)))
      by_cases c : hasK ((allOf n).getD i.toNat []) a = true
      · rw [if_pos c]
        have := e (out ++ [(allOf n).getD i.toNat []]) (by rw [List.length_append, List.length_singleton]; omega)
        rw [List.append_assoc, List.singleton_append] at this
        exact Ans.yes c (Ans.yes (by omega) this)
      · rw [if_neg c]
        exact Ans.not c (e out (by omega))
  exact key (allOf n).length 0 [] (by omega) (by omega) (by rw [List.length_nil]; omega)
theorem allOf_few : ∀ n : Nat, n ≤ 5 → (allOf n).length ≤ 429 := by
  intro n h
  rcases (show n = 0 ∨ n = 1 ∨ n = 2 ∨ n = 3 ∨ n = 4 ∨ n = 5 by omega) with rfl | rfl | rfl | rfl | rfl | rfl
  · decide +kernel
  · decide +kernel
  · decide +kernel
  · decide +kernel
  · decide +kernel
  · decide +kernel
theorem foldT_filter (q : List (List Int) → Bool) : ∀ (x out : List (List (List Int))), (foldT (fun s m => (if q m = true then s ++ [m] else s, true)) out x).1 = out ++ x.filter q
  | [], out => by simp [foldT]
  | m :: x, out => by
    rw [foldT, if_pos rfl, foldT_filter q x, List.filter_cons]
    by_cases c : q m = true
    · rw [if_pos c, if_pos c, List.append_assoc, List.singleton_append]
    · rw [if_neg c, if_neg c]
theorem allSigns (n : Nat) (hn : n ≤ 5) (g : Nat → List (List Int) → Option Bool) (q : List (List Int) → Bool) (hg : ∀ m, Sq n m → Ans (fun k => g k m) (q m)) : Ans (fun k => impl_allSigns.f k n (g k)) ((allOf n).filter q) := by
  simp only [impl_allSigns.f]
  have e := eachSignsO (σ := List (List (List Int))) n (by omega) (fun k => impl_allSigns_1.step k (g k)) (fun s m => (if q m = true then s ++ [m] else s, true)) (fun j s => s.length + j ≤ 1000) (fun i j s h h2 => by omega)
    (fun j s m hm h => by
      simp only [impl_allSigns_1.step]
      refine (hg m hm).bind ?_
      by_cases c : q m = true
      · rw [if_pos c]
        exact Ans.yes c ((copyTable m (by have := hm.1; omega) (fun r hr => by have := hm.2 r hr; omega)).bind (Ans.yes (by omega) (Ans.pure _)))
      · rw [if_neg c]
        exact Ans.not c (Ans.pure _))
    (fun j s m hm h => by
      show (if q m = true then s ++ [m] else s).length + j ≤ 1000
      split
      · simp; omega
      · omega) [] (by have := allOf_few n hn; simp; omega)
  rw [foldT_filter, List.nil_append] at e
  exact e
theorem listCopies (x : List (List (List Int))) (h : x.length ≤ 1000) (hr : ∀ a ∈ x, a.length ≤ 6 ∧ ∀ r ∈ a, r.length ≤ 6) : ∀ (d : Nat) (i : Int) (out : List (List (List Int))), 0 ≤ i → i + d = x.length → out.length + d ≤ 1000 → Ans (fun k => spec_ListSymmetric.l0 k out x (x.length : Int) i) (out ++ x.drop i.toNat, true) := by
  intro d
  induction d with
  | zero =>
    intro i out h0 h1 h2
    rw [List.drop_eq_nil_of_le (by omega), List.append_nil]; refine Ans.step ?_
    simp only [spec_ListSymmetric.l0]
    exact Ans.not (by omega) (Ans.pure _)
  | succ d ih =>
    intro i out h0 h1 h2
    have hlt : i.toNat < x.length := by omega
    have hm := hr _ (getD_mem [] hlt)
    have e := ih (i + 1) (out ++ [x.getD i.toNat []]) (by omega) (by omega) (by rw [List.length_append, List.length_singleton]; omega)
    rw [show (i + 1).toNat = i.toNat + 1 by omega, List.append_assoc, List.singleton_append] at e
    rw [drop_at x [] hlt]
    refine Ans.step ?_
    simp only [spec_ListSymmetric.l0, show ∀ j, rd_L2 x j = x.getD j.toNat [] from fun _ => rfl, wrap64_up h0 (by omega : i ≤ 4611686018427387904)]
    exact Ans.yes (by omega) (Ans.yes h0 (Ans.yes (by omega) ((smCopy _ (by omega) (fun r h9 => by have := hm.2 r h9; omega)).bind (Ans.yes (by omega) e))))
theorem FnExactListSymmetric : laws_FnExactListSymmetric.Pure := by
  intro n a _ _
  obtain ⟨z, b, hz, hz2, e1, e3⟩ : ∃ (z : List (List (List Int))) (b : Bool), z.length ≤ 1000 ∧ (∀ m ∈ z, m.length ≤ 6 ∧ ∀ r ∈ m, r.length ≤ 6) ∧ Ans (fun k => spec_ListSymmetric.f k n a) (z, b) ∧ Ans (fun k => impl_ListSymmetric.f k n a) (z, b) := by
    have no : Ans (fun k => spec_ListSymmetric.j0 k n a true) ([], false) := by
      refine Ans.step ?_
      simp only [spec_ListSymmetric.j0]
      exact Ans.yes (by simp) (Ans.pure _)
    simp only [spec_ListSymmetric.f, impl_ListSymmetric.f, spec_smKind.f, impl_isKind.f, l1In, within, Option.bind_some]
    by_cases c : 1 ≤ n ∧ n ≤ 5
    · obtain ⟨m, rfl⟩ : ∃ m : Nat, n = m := ⟨n.toNat, by omega⟩
      rw [decide_eq_true c]
      by_cases c2 : 0 ≤ a ∧ a ≤ 4
      · rw [decide_eq_true c2]
        have hfew := allOf_few m (by omega)
        have hsq : ∀ y ∈ (allOf m).filter (fun m => hasK m a), y.length ≤ 6 ∧ ∀ r ∈ y, r.length ≤ 6 := fun y hy => by
          have h := allOf_sq m y (List.mem_filter.1 hy).1
          exact ⟨by have := h.1; omega, fun r hr => by have := h.2 r hr; omega⟩
        have hlen : ((allOf m).filter (fun m => hasK m a)).length ≤ 429 := Nat.le_trans (List.length_filter_le _ _) hfew
        refine ⟨(allOf m).filter (fun m => hasK m a), true, by omega, hsq, Ans.yes rfl (Ans.step ?_), Ans.yes rfl (Ans.yes rfl ((allSigns m (by omega) (fun k x => impl_ListSymmetric_1.f k x a) (fun m => hasK m a) (fun x hx => by
          simp only [impl_ListSymmetric_1.f]
          exact (hasKind m x hx (by omega) a).bind (Ans.pure _))).bind (Ans.pure _)))⟩
        simp only [spec_ListSymmetric.j0]
        have e := listCopies ((allOf m).filter (fun m => hasK m a)) (by omega) hsq ((allOf m).filter (fun m => hasK m a)).length 0 [] (by omega) (by omega) (by simp; omega)
        rw [show (0 : Int).toNat = 0 from rfl, List.drop_zero, List.nil_append] at e
        exact Ans.not (by simp) ((smList m (by omega) (by omega) a).bind e)
      · rw [decide_eq_false c2]
        exact ⟨[], false, by simp, by simp, Ans.yes rfl no, Ans.yes rfl (Ans.not (by simp) (Ans.pure _))⟩
    · rw [decide_eq_false c]
      exact ⟨[], false, by simp, by simp, Ans.not (by simp) no, Ans.not (by simp) (Ans.pure _)⟩
  have ht : total3 z ≤ z.length * 36 := total3_le (fun m hm => by have h1 := total_le (hz2 m hm).2; have h2 := (hz2 m hm).1; omega)
  have F := (Evn.of e1).and ((Evn.of e3).and ((Evn.of (eqIntSSS z (by omega) (fun m hm => ⟨by have := (hz2 m hm).1; omega, fun r h => by have := (hz2 m hm).2 r h; omega⟩))).and ((Evn.of (markIntSSS z 1 (fun m hm => by have := (hz2 m hm).1; omega) (by omega) (by omega) (by omega))).and (Evn.of (heldIntSSS z 1 (fun m hm => by have := (hz2 m hm).1; omega) (by omega) (by omega) (by omega))))))
  obtain ⟨k, f1, f2, f3, f4, f5⟩ := F.at
  exact ⟨k, z, b, _, _, f1, f2, f3, f4, by omega, f5⟩

end Go.Proofs.Ythpnfjdpomadaaa.Pure
