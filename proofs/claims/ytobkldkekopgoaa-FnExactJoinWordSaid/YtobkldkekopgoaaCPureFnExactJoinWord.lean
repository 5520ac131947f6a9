/- For every row and word the program's JoinWord returns what the reference's returns: no condition. -/
import Derived.Test.YtobkldkekopgoaaCFnExactJoinWordx2
import Derived.Test.YtobkldkekopgoaaQTwo
namespace Go.Proofs.Ytobkldkekopgoaa.Pure
open Go.RowKit Go.Proofs.Ytobkldkekopgoaa.X Go.Proofs.YtobkldkekopgoaaW.PrintWords Go.Proofs.YtobkldkekopgoaaW.PrintLast Go.Proofs.Ytobkldkekopgoaa.Q
theorem len_le {x : List Int} (h : x.length ≤ 17592186044416) : (x.length : Int) ≤ 17592186044416 := by omega
theorem eqIntS_l0 (x : List Int) (hx : x.length ≤ 17592186044416) : ∀ (d : Nat) (i : Int), 0 ≤ i → i + d = x.length → ∀ k, d < k → laws_eqIntS.l0 k x x i = some true := by
  intro d
  induction d with
  | zero => intro i h0 h1 k hk; obtain ⟨j, rfl⟩ : ∃ j, k = j + 1 := ⟨k - 1, by omega⟩; unfold laws_eqIntS.l0; rw [if_neg (by omega)]
  | succ d ih =>
    intro i h0 h1 k hk; obtain ⟨j, rfl⟩ : ∃ j, k = j + 1 := ⟨k - 1, by omega⟩; unfold laws_eqIntS.l0
    rw [if_pos (by omega), if_pos h0, if_pos (by omega), if_pos rfl, wrap64_up h0 (by omega)]
    exact ih _ (by omega) (by omega) _ (by omega)
theorem eqIntS (x : List Int) (hx : x.length ≤ 17592186044416) : Ans (fun k => laws_eqIntS.f k x x) true :=
  Ans.from (x.length + 1) fun k hk => by unfold laws_eqIntS.f; rw [if_pos rfl]; exact eqIntS_l0 x hx x.length 0 (by omega) (by omega) _ (by omega)
theorem toIntS_l0 (x : List Int) (hx : x.length ≤ 17592186044416) : ∀ (d : Nat) (y : List Int) (i : Int), y.length = x.length → (∀ j : Nat, j < i → y.getD j 0 = x.getD j 0) → 0 ≤ i → i + d = x.length → ∀ k, d < k → laws_toIntS.l0 k x y i = some x := by
  intro d
  induction d with
  | zero =>
    intro y i hl hy h0 h1 k hk; obtain ⟨j, rfl⟩ : ∃ j, k = j + 1 := ⟨k - 1, by omega⟩; unfold laws_toIntS.l0; rw [if_neg (by omega)]
    refine congrArg some (List.ext_getElem hl fun n h2 h3 => ?_)
    have := hy n (by omega)
    rw [getD_at _ _ h2, getD_at _ _ h3] at this
    exact this
  | succ d ih =>
    intro y i hl hy h0 h1 k hk; obtain ⟨j, rfl⟩ : ∃ j, k = j + 1 := ⟨k - 1, by omega⟩; unfold laws_toIntS.l0
    rw [if_pos (by omega), if_pos h0, if_pos (by omega), wrap64_up h0 (by omega)]
    refine ih _ _ (by simp [hl]) ?_ (by omega) (by omega) _ (by omega)
    intro n hn
    obtain ⟨a, rfl⟩ : ∃ a : Nat, i = a := ⟨i.toNat, by omega⟩
    by_cases e : n = a
    · subst e
      have h2 : n < (y.set ((n : Int)).toNat (rd x n)).length := by simp only [List.length_set]; omega
      rw [getD_at _ _ h2]
      simp [rd]
    · have h2 : n < y.length := by omega
      have h3 : n < (y.set ((a : Int)).toNat (rd x a)).length := by simp only [List.length_set]; omega
      rw [← hy n (by omega), getD_at _ _ h3, getD_at _ _ h2, List.getElem_set_ne (by omega)]
theorem toIntS (x : List Int) (hx : x.length ≤ 17592186044416) : Ans (fun k => laws_toIntS.f k x) x :=
  Ans.from (x.length + 1) fun k hk => by
    unfold laws_toIntS.f; rw [if_pos (by omega), if_pos (by omega)]
    exact toIntS_l0 x hx x.length _ 0 (by simp) (by intro j hj; omega) (by omega) (by omega) _ (by omega)
/-- The row after marking from `n`: `n, n+1, ..`. -/
def upFrom (n : Int) (m : Nat) : List Int := (List.range m).map fun (i : Nat) => n + (i : Int)
theorem markIntS_l0 (x : List Int) (n : Int) (hn : 0 ≤ n) (hx : n + x.length ≤ 17592186044416) : ∀ (d : Nat) (y : List Int) (i : Int), y.length = x.length → (∀ j : Nat, j < i → y.getD j 0 = n + j) → 0 ≤ i → i + d = x.length → ∀ k, d < k →
    laws_markIntS.l0 k y (n + i) i = some (n + x.length, upFrom n x.length) := by
  intro d
  induction d with
  | zero =>
    intro y i hl hy h0 h1 k hk; obtain ⟨j, rfl⟩ : ∃ j, k = j + 1 := ⟨k - 1, by omega⟩; unfold laws_markIntS.l0; rw [if_neg (by omega)]
    have : y = upFrom n x.length := by
      refine List.ext_getElem (by simp [upFrom, hl]) fun m h2 h3 => ?_
      have := hy m (by omega)
      rw [getD_at _ _ h2] at this
      rw [this]; simp [upFrom]
    rw [this, show n + i = n + x.length by omega]
  | succ d ih =>
    intro y i hl hy h0 h1 k hk; obtain ⟨j, rfl⟩ : ∃ j, k = j + 1 := ⟨k - 1, by omega⟩; unfold laws_markIntS.l0
    rw [if_pos (by omega), if_pos h0, wrap64_up h0 (by omega), wrap64_up (by omega) (by omega), show n + i + 1 = n + (i + 1) by omega]
    refine ih _ _ (by simp [hl]) ?_ (by omega) (by omega) _ (by omega)
    intro m hm
    obtain ⟨a, rfl⟩ : ∃ a : Nat, i = a := ⟨i.toNat, by omega⟩
    by_cases e : m = a
    · subst e
      have h2 : m < (y.set ((m : Int)).toNat (n + (m : Int))).length := by simp only [List.length_set]; omega
      rw [getD_at _ _ h2]
      simp
    · have h2 : m < y.length := by omega
      have h3 : m < (y.set ((a : Int)).toNat (n + (a : Int))).length := by simp only [List.length_set]; omega
      rw [← hy m (by omega), getD_at _ _ h3, getD_at _ _ h2, List.getElem_set_ne (by omega)]
theorem markIntS (x : List Int) (n : Int) (hn : 0 ≤ n) (hx : n + x.length ≤ 17592186044416) : Ans (fun k => laws_markIntS.f k x n) (n + x.length, upFrom n x.length) :=
  Ans.from (x.length + 1) fun k hk => by
    unfold laws_markIntS.f
    have := markIntS_l0 x n hn hx x.length x 0 rfl (by intro j hj; omega) (by omega) (by omega) k (by omega)
    rwa [show n + 0 = n by omega] at this
theorem heldIntS_l0 (m : Nat) (n : Int) (hn : 0 ≤ n) (hx : n + m ≤ 17592186044416) : ∀ (d : Nat) (i : Int), 0 ≤ i → i + d = m → ∀ k, d < k →
    laws_heldIntS.l0 k (upFrom n m) (n + i) i = some (n + m) := by
  intro d
  have hl : (upFrom n m).length = m := by simp [upFrom]
  induction d with
  | zero =>
    intro i h0 h1 k hk; obtain ⟨j, rfl⟩ : ∃ j, k = j + 1 := ⟨k - 1, by omega⟩; unfold laws_heldIntS.l0; rw [if_neg (by omega), show n + i = n + m by omega]
  | succ d ih =>
    intro i h0 h1 k hk; obtain ⟨j, rfl⟩ : ∃ j, k = j + 1 := ⟨k - 1, by omega⟩; unfold laws_heldIntS.l0
    have : rd (upFrom n m) i = n + i := by
      unfold rd; rw [getD_at _ _ (by omega)]; simp only [upFrom, List.getElem_map, List.getElem_range]; omega
    rw [if_pos (by omega), if_pos h0, if_pos this, wrap64_up h0 (by omega), wrap64_up (by omega) (by omega), show n + i + 1 = n + (i + 1) by omega]
    exact ih _ (by omega) (by omega) _ (by omega)
theorem heldIntS (m : Nat) (n : Int) (hn : 0 ≤ n) (hx : n + m ≤ 17592186044416) : Ans (fun k => laws_heldIntS.f k (upFrom n m) n) (n + m) :=
  Ans.from (m + 1) fun k hk => by
    unfold laws_heldIntS.f
    have := heldIntS_l0 m n hn hx m 0 (by omega) (by omega) k (by omega)
    rwa [show n + 0 = n by omega] at this
theorem l1In (a b c : Int) : spec_l1In.f a b c = some (decide (b ≤ a ∧ a ≤ c)) := by
  unfold spec_l1In.f
  by_cases h : a ≥ b
  · rw [if_pos h]; refine congrArg some (decide_eq_decide.mpr ⟨fun q => ⟨h, q⟩, fun q => q.2⟩)
  · rw [if_neg h, decide_eq_false (by omega)]
theorem within (a b c : Int) : impl_within.f a b c = some (decide (b ≤ a ∧ a ≤ c)) := by
  unfold impl_within.f
  by_cases h : b ≤ a
  · rw [if_pos h]; refine congrArg some (decide_eq_decide.mpr ⟨fun q => ⟨h, q⟩, fun q => q.2⟩)
  · rw [if_neg h, decide_eq_false (by omega)]
def In (x : List Int) (lo hi : Int) : Prop := ∀ i : Int, 0 ≤ i → i < x.length → lo ≤ rd x i ∧ rd x i ≤ hi
/-- Both range tests of a row answer alike, and tell the range. -/
theorem ranges (x : List Int) (hx : x.length ≤ 17592186044416) (lo hi : Int) : Two (fun k => spec_l1All.f k x lo hi) (fun k => impl_areWithin.f k x lo hi) (fun b => b = true → In x lo hi) := by
  have key : ∀ (d : Nat) (i : Int), 0 ≤ i → i + d = x.length → (∀ j : Int, 0 ≤ j → j < i → lo ≤ rd x j ∧ rd x j ≤ hi) →
      ∃ b : Bool, (b = true → In x lo hi) ∧ Ans (fun k => spec_l1All.l0 k lo hi x (x.length : Int) i) b ∧ ∃ z : Int, Ans (fun k => slices_IndexFunc_int_int.l0 k x (fun x0_ => impl_areWithin_1.f x0_ lo hi) (x.length : Int) i) z ∧ b = !decide (z ≥ 0) := by
    intro d
    induction d with
    | zero =>
      intro i h0 h1 hj
      refine ⟨true, fun _ j hj0 hj1 => hj j hj0 (by omega), Ans.step ?_, -1, Ans.step ?_, by simp⟩
      · simp only [spec_l1All.l0]; exact Ans.not (by omega) (Ans.pure _)
      · simp only [slices_IndexFunc_int_int.l0]; exact Ans.not (by omega) (Ans.pure _)
    | succ d ih =>
      intro i h0 h1 hj
      by_cases c : lo ≤ rd x i ∧ rd x i ≤ hi
      · obtain ⟨b, hb, e1, z, e2, hz⟩ := ih (i + 1) (by omega) (by omega) (fun j a b => if e : j = i then e ▸ c else hj j a (by omega))
        refine ⟨b, hb, Ans.step ?_, z, Ans.step ?_, hz⟩
        · simp only [spec_l1All.l0, l1In, wrap64_up h0 (by omega : i ≤ 4611686018427387904), decide_eq_true c]
          exact Ans.yes (by omega) (Ans.yes h0 (Ans.yes (by omega) ((Ans.pure true).bind (Ans.yes (by simp) e1))))
        · simp only [slices_IndexFunc_int_int.l0, wrap64_up h0 (by omega : i ≤ 4611686018427387904)]
          exact Ans.yes (by omega) (Ans.yes h0 (Ans.yes (by omega) ((Ans.const (g := impl_areWithin_1.f (rd x i) lo hi) (r := false) (by simp [impl_areWithin_1.f, within, c])).bind (Ans.not (by simp) e2))))
      · refine ⟨false, (fun h => by cases h), Ans.step ?_, i, Ans.step ?_, by simp [h0]⟩
        · simp only [spec_l1All.l0, l1In, decide_eq_false c]
          exact Ans.yes (by omega) (Ans.yes h0 (Ans.yes (by omega) ((Ans.pure false).bind (Ans.not (by simp) (Ans.pure _)))))
        · simp only [slices_IndexFunc_int_int.l0]
          exact Ans.yes (by omega) (Ans.yes h0 (Ans.yes (by omega) ((Ans.const (g := impl_areWithin_1.f (rd x i) lo hi) (r := true) (by simp [impl_areWithin_1.f, within, decide_eq_false c])).bind (Ans.yes (by simp) (Ans.pure _)))))
  obtain ⟨b, hb, e1, z, e2, rfl⟩ := key x.length 0 (by omega) (by omega) (fun j a b => by omega)
  refine ⟨_, hb, e1, ?_⟩
  unfold impl_areWithin.f slices_ContainsFunc_int_int.f slices_IndexFunc_int_int.f
  exact Ans.bind (h := fun _ t => some (!t)) (Ans.bind (h := fun _ t => some (decide (t ≥ 0))) e2 (Ans.pure _)) (Ans.pure _)
def Good (x : List Int) : Prop := ∀ i : Int, 0 ≤ i → i < x.length → 0 ≤ rd x i ∧ rd x i < x.length ∧ rd x i ≠ i ∧ rd x (rd x i) = i
theorem pairs (x : List Int) (hx : x.length ≤ 12) (hin : In x 0 (x.length - 1)) : ∀ (d : Nat) (i : Int), 0 ≤ i → i + d = x.length → (∀ j : Int, 0 ≤ j → j < i → rd x j ≠ j ∧ rd x (rd x j) = j) →
    Two (fun k => spec_loIsPattern.l0 k x x (x.length : Int) i) (fun k => impl_IsPattern.l0 k x x (x.length : Int) i) (fun b => b = true → Good x) := by
  intro d
  induction d with
  | zero =>
    intro i h0 h1 hj
    refine Two.step ?_
    simp only [spec_loIsPattern.l0, impl_IsPattern.l0]
    refine Two.not (by omega) (Two.pure fun _ j a b => ?_)
    have := hin j a b; have := hj j a (by omega)
    exact ⟨by omega, by omega, this.1, this.2⟩
  | succ d ih =>
    intro i h0 h1 hj
    have hi := hin i h0 (by omega)
    refine Two.step ?_
    simp only [spec_loIsPattern.l0, impl_IsPattern.l0]
    refine Two.yes (by omega) (Two.yes h0 (Two.yes (by omega) (Two.ite (fun c => ?_) (fun c => ?_))))
    · refine Two.step ?_
      simp only [spec_loIsPattern.j2, impl_IsPattern.j2]
      exact Two.yes (by simp) (Two.pure (by simp))
    · refine Two.yes hi.1 (Two.yes (by omega) (Two.step ?_))
      simp only [spec_loIsPattern.j2, impl_IsPattern.j2]
      refine Two.ite (fun _ => Two.pure (by simp)) (fun e => ?_)
      have e' : rd x (rd x i) = i := by simpa using e
      have nx := ih (i + 1) (by omega) (by omega) (fun j a b => if q : j = i then q ▸ ⟨c, e'⟩ else hj j a (by omega))
      have inner : ∀ (m : Nat) (n : Int), 0 ≤ n → n ≤ 12 → (rd x i - n).toNat ≤ m →
          Two (fun k => spec_loIsPattern.l1 k x i (rd x i) n x (x.length : Int) i) (fun k => impl_IsPattern.l1 k x i (rd x i) n x (x.length : Int) i) (fun b => b = true → Good x) := by
        intro m
        induction m with
        | zero =>
          intro n n0 n1 hm
          refine Two.step ?_
          simp only [spec_loIsPattern.l1, impl_IsPattern.l1, wrap64_up h0 (by omega : i ≤ 4611686018427387904)]
          exact Two.not (by omega) nx
        | succ m ihm =>
          intro n n0 n1 hm
          refine Two.step ?_
          simp only [spec_loIsPattern.l1, impl_IsPattern.l1, wrap64_up h0 (by omega : i ≤ 4611686018427387904), l1In, within]
          refine Two.ite (fun q => ?_) (fun _ => nx)
          refine Two.yes n0 (Two.yes (by omega) (Two.bind (P := fun _ => True) ⟨_, trivial, Ans.pure _, Ans.pure _⟩ fun b _ => Two.ite (fun _ => ?_) (fun _ => Two.pure (by simp))))
          simp only [wrap64_up n0 (by omega : n ≤ 4611686018427387904)]
          exact ihm _ (by omega) (by omega) (by omega)
      simp only [wrap64_up h0 (by omega : i ≤ 4611686018427387904)]
      exact inner _ _ (by omega) (by omega) (Nat.le_refl _)
theorem isPattern (x : List Int) (hx : x.length ≤ 17592186044416) : Two (fun k => spec_loIsPattern.f k x) (fun k => impl_IsPattern.f k x) (fun b => b = true → x.length ≤ 12 ∧ 0 < x.length ∧ Good x) := by
  have no : Two (fun k => spec_loIsPattern.j0 k x true) (fun k => impl_IsPattern.j0 k x true) (fun b => b = true → x.length ≤ 12 ∧ 0 < x.length ∧ Good x) := by
    refine Two.step ?_
    simp only [spec_loIsPattern.j0, impl_IsPattern.j0]
    exact Two.yes (by simp) (Two.pure (by simp))
  simp only [spec_loIsPattern.f, impl_IsPattern.f, impl_isSide.f, l1In, within, wrap64_in ((x.length : Int) / 2) ⟨by omega, by omega⟩, Option.bind_some]
  refine Two.ite (fun _ => no) (fun c => Two.ite (fun b => ?_) (fun _ => no))
  have hb := of_decide_eq_true b
  have hw1 : wrap64 ((x.length : Int) - 1) = (x.length : Int) - 1 := wrap64_in _ ⟨by omega, by omega⟩
  simp only [hw1]
  refine Two.bind (ranges x hx 0 ((x.length : Int) - 1)) fun b hin => ?_
  cases b with
  | false => exact no
  | true =>
    refine Two.step ?_
    simp only [spec_loIsPattern.j0, impl_IsPattern.j0]
    refine Two.not (by simp) ((pairs x (by omega) (hin rfl) x.length 0 (by omega) (by omega) (fun j a b => by omega)).mono fun r h hr => ⟨by omega, by omega, h hr⟩)
theorem rd_set (x : List Int) (i j v : Int) (hi : 0 ≤ i) (hj : 0 ≤ j) (hl : i < x.length) : rd (x.set i.toNat v) j = if j = i then v else rd x j := by
  unfold rd
  by_cases e : j = i
  · subst e; rw [if_pos rfl, getD_at _ _ (by simp; omega)]; simp
  · rw [if_neg e]
    by_cases hjl : j.toNat < x.length
    · rw [getD_at _ _ (by simp; omega), getD_at _ _ hjl, List.getElem_set_ne (by omega)]
    · rw [getD_out _ _ (by simp; omega), getD_out _ _ (by omega)]
theorem rows_eq {x y : List Int} (hl : x.length = y.length) (h : ∀ i : Int, 0 ≤ i → i < x.length → rd x i = rd y i) : x = y := by
  refine List.ext_getElem hl fun n h1 h2 => ?_
  have := h n (by omega) (by omega)
  unfold rd at this
  rwa [getD_at _ _ (by omega), getD_at _ _ (by omega)] at this
theorem join (x : List Int) (hx : x.length ≤ 12) (h0 : 0 < x.length) (g : Good x) (a : Int) (ha : 0 ≤ a) (hal : a < x.length) :
    ∃ y : List Int, y.length = x.length ∧ Good y ∧ spec_syJoin.f x a = some y ∧ impl_joinedAt.f x a = some y := by
  obtain ⟨p, hp⟩ : ∃ p, p = Int.tmod (a + 1) (x.length : Int) := ⟨_, rfl⟩
  have p0 : 0 ≤ p := hp ▸ Int.tmod_nonneg _ (by omega)
  have pl : p < x.length := hp ▸ Int.tmod_lt_of_pos _ (by omega)
  have pa : p ≠ a ∨ x.length = 1 := by
    by_cases q : a + 1 < x.length
    · left; rw [hp, Int.tmod_eq_of_lt (by omega) q]; omega
    · have : a + 1 = x.length := by omega
      rw [this, Int.tmod_self] at hp; omega
  have pa : p ≠ a := pa.elim id (fun e => by have := g a ha hal; omega)
  obtain ⟨u, hu⟩ : ∃ u, u = rd x a := ⟨_, rfl⟩
  obtain ⟨v, hv⟩ : ∃ v, v = rd x p := ⟨_, rfl⟩
  have ga := g a ha hal; have gp := g p p0 pl
  rw [← hu] at ga; rw [← hv] at gp
  have gu := g u ga.1 ga.2.1; have gv := g v gp.1 gp.2.1
  simp only [spec_syJoin.f, impl_joinedAt.f, impl_joined.f, spec_l1Own.f, slices_Clone_int_int.f, wrap64_up ha (by omega : a ≤ 4611686018427387904), ← hp, ← hu, ← hv]
  have hz : ¬ ((x.length : Int) = 0) := by omega
  simp only [if_neg hz, if_pos ha, if_pos hal, if_pos p0, if_pos pl, Option.bind_some, List.nil_append, List.length_nil, if_pos (by omega : 0 + x.length < 17592186044416), if_pos (by omega : x.length < 17592186044416), List.length_set, if_pos ga.1, if_pos ga.2.1, if_pos gp.1, if_pos gp.2.1]
  by_cases c : u = p
  · simp only [if_pos c]; exact ⟨x, rfl, g, rfl, rfl⟩
  · have va : v ≠ a := fun e => c (by have := gp.2.2.2; rw [e, ← hu] at this; exact this)
    have uv : u ≠ v := fun e => by have h1 := ga.2.2.2; have h2 := gp.2.2.2; rw [e, h2] at h1; exact pa h1
    have E : ∀ z : Int, 0 ≤ z → z < x.length → rd ((((x.set a.toNat p).set p.toNat a).set u.toNat v).set v.toNat u) z = if z = v then u else if z = u then v else if z = p then a else if z = a then p else rd x z := by
      intro z z0 z1
      rw [rd_set _ _ _ _ gp.1 z0 (by simpa using gp.2.1), rd_set _ _ _ _ ga.1 z0 (by simpa using ga.2.1), rd_set _ _ _ _ p0 z0 (by simpa using pl), rd_set _ _ _ _ ha z0 hal]
    have E' : ∀ z : Int, 0 ≤ z → z < x.length → rd ((((x.set u.toNat v).set v.toNat u).set a.toNat p).set p.toNat a) z = if z = p then a else if z = a then p else if z = v then u else if z = u then v else rd x z := by
      intro z z0 z1
      rw [rd_set _ _ _ _ p0 z0 (by simpa using pl), rd_set _ _ _ _ ha z0 (by simpa using hal), rd_set _ _ _ _ gp.1 z0 (by simpa using gp.2.1), rd_set _ _ _ _ ga.1 z0 (by simpa using ga.2.1)]
    simp only [if_neg c]
    refine ⟨(((x.set a.toNat p).set p.toNat a).set u.toNat v).set v.toNat u, by simp, ?_, rfl, congrArg some (rows_eq (by simp) ?_)⟩
    · intro z z0 z1
      replace z1 : z < x.length := by simpa using z1
      simp only [List.length_set]
      by_cases e1 : z = v
      · subst e1; rw [E z z0 z1, if_pos rfl, E u ga.1 ga.2.1, if_neg uv, if_pos rfl]; exact ⟨ga.1, ga.2.1, uv, rfl⟩
      · by_cases e2 : z = u
        · subst e2; rw [E z z0 z1, if_neg e1, if_pos rfl, E v gp.1 gp.2.1, if_pos rfl]; exact ⟨gp.1, gp.2.1, Ne.symm uv, rfl⟩
        · by_cases e3 : z = p
          · subst e3; rw [E z z0 z1, if_neg e1, if_neg e2, if_pos rfl, E a ha hal, if_neg (Ne.symm va), if_neg (Ne.symm ga.2.2.1), if_neg (Ne.symm pa), if_pos rfl]; exact ⟨ha, hal, Ne.symm pa, rfl⟩
          · by_cases e4 : z = a
            · subst e4; rw [E z z0 z1, if_neg e1, if_neg e2, if_neg e3, if_pos rfl, E p p0 pl, if_neg (Ne.symm gp.2.2.1), if_neg (Ne.symm c), if_pos rfl]; exact ⟨p0, pl, pa, rfl⟩
            · have gz := g z z0 z1
              have k1 : rd x z ≠ v := fun e => by have h := gz.2.2.2; rw [e, gp.2.2.2] at h; omega
              have k2 : rd x z ≠ u := fun e => by have h := gz.2.2.2; rw [e, ga.2.2.2] at h; omega
              have k3 : rd x z ≠ p := fun e => by have h := gz.2.2.2; rw [e, ← hv] at h; omega
              have k4 : rd x z ≠ a := fun e => by have h := gz.2.2.2; rw [e, ← hu] at h; omega
              rw [E z z0 z1, if_neg e1, if_neg e2, if_neg e3, if_neg e4, E _ gz.1 gz.2.1, if_neg k1, if_neg k2, if_neg k3, if_neg k4]; exact gz
    · intro z z0 z1
      replace z1 : z < x.length := by simpa using z1
      rw [E z z0 z1, E' z z0 z1]
      have := ga.2.2.1; have := gp.2.2.1
      repeat' split
      all_goals first | rfl | omega
theorem words (w : List Int) (n : Nat) (hn : n ≤ 12) (n0 : 0 < n) (hw : w.length ≤ 100) (hin : In w 0 (n - 1)) : ∀ (d : Nat) (i : Int) (y : List Int), 0 ≤ i → i + d = w.length → y.length = n → Good y →
    Two (fun k => spec_JoinWord.l0 k y w (w.length : Int) i) (fun k => impl_JoinWord.l0 k y w (w.length : Int) i) (fun r => r.1.length ≤ 12) := by
  intro d
  induction d with
  | zero =>
    intro i y h0 h1 hy g
    refine Two.step ?_
    simp only [spec_JoinWord.l0, impl_JoinWord.l0]
    exact Two.not (by omega) (Two.pure (show y.length ≤ 12 by omega))
  | succ d ih =>
    intro i y h0 h1 hy g
    have hi := hin i h0 (by omega)
    obtain ⟨y', hl, g', e1, e2⟩ := join y (by omega) (by omega) g (rd w i) hi.1 (by omega)
    refine Two.step ?_
    simp only [spec_JoinWord.l0, impl_JoinWord.l0, e1, e2, Option.bind_some, wrap64_up h0 (by omega : i ≤ 4611686018427387904)]
    exact Two.yes (by omega) (Two.yes h0 (Two.yes (by omega) (ih _ _ (by omega) (by omega) (by omega) g')))
theorem joinWord (x w : List Int) (hx : x.length ≤ 17592186044416) (hw : w.length ≤ 17592186044416) : Two (fun k => spec_JoinWord.f k x w) (fun k => impl_JoinWord.f k x w) (fun r => r.1.length ≤ 12) := by
  have no : Two (fun k => spec_JoinWord.j0 k x w true) (fun k => impl_JoinWord.j0 k x w true) (fun r => r.1.length ≤ 12) := by
    refine Two.step ?_
    simp only [spec_JoinWord.j0, impl_JoinWord.j0]
    exact Two.yes (by simp) (Two.pure (by simp))
  simp only [spec_JoinWord.f, impl_JoinWord.f]
  refine Two.bind (isPattern x hx) fun b hb => ?_
  cases b with
  | false => exact Two.not (by simp) no
  | true =>
    obtain ⟨h12, hp, g⟩ := hb rfl
    refine Two.yes (by simp) (Two.ite (fun _ => no) (fun c => ?_))
    have hw1 : wrap64 ((x.length : Int) - 1) = (x.length : Int) - 1 := wrap64_in _ ⟨by omega, by omega⟩
    simp only [hw1]
    refine Two.bind (ranges w hw 0 ((x.length : Int) - 1)) fun b hin => ?_
    cases b with
    | false => exact no
    | true =>
      refine Two.step ?_
      simp only [spec_JoinWord.j0, impl_JoinWord.j0, spec_l1Own.f, slices_Clone_int_int.f, Option.bind_some, List.nil_append, List.length_nil, if_pos (by omega : 0 + x.length < 17592186044416), if_pos (by omega : x.length < 17592186044416)]
      exact Two.not (by simp) (words w x.length h12 hp (by omega) (hin rfl) _ 0 x (by omega) (show (0 : Int) + (w.length : Nat) = _ by omega) rfl g)
theorem FnExactJoinWord : laws_FnExactJoinWord.Pure := by
  intro x w m0 y0 _ m1 y1 _
  have hx : x.length ≤ 17592186044416 := by omega
  have hw : w.length ≤ 17592186044416 := by omega
  obtain ⟨⟨z, b⟩, hz, e1, e2⟩ := joinWord x w hx hw
  have hz : z.length ≤ 12 := hz
  refine Ans.at (g := fun k => laws_FnExactJoinWord.f k x w) ?_
  simp only [laws_FnExactJoinWord.f]
  by_cases cx : (x.length : Int) > 1048576
  · exact Ans.yes cx (Ans.pure _)
  by_cases cw : (w.length : Int) > 1048576
  · exact Ans.not cx (Ans.yes cw (Ans.pure _))
  refine Ans.not cx (Ans.not cw ?_)
  refine (toIntS x hx).bind ((toIntS w hw).bind (e1.bind ((toIntS x hx).bind ((toIntS w hw).bind (e2.bind ((eqIntS z (by omega)).bind (Ans.yes (by simp) (Ans.step ?_))))))))
  simp only [laws_FnExactJoinWord.j0]
  refine Ans.not (by simp) ((toIntS x hx).bind ((eqIntS x hx).bind (Ans.yes (by simp) ((toIntS w hw).bind ((eqIntS w hw).bind (Ans.yes (by simp) ?_))))))
  refine (markIntS x 1 (by omega) (by omega)).bind ((markIntS w _ (by omega) (by omega)).bind (Ans.not (by simp only; omega) ((eqIntS z (by omega)).bind (Ans.yes (by simp) (Ans.step ?_)))))
  simp only [laws_FnExactJoinWord.j1]
  refine Ans.not (by simp) ((markIntS z 1 (by omega) (by omega)).bind ((heldIntS z.length 1 (by omega) (by omega)).bind (Ans.not (by omega) (Ans.yes (by simp) ?_))))
  refine (toIntS x hx).bind ((toIntS w hw).bind (e2.bind ((eqIntS z (by omega)).bind (Ans.yes (by simp) (Ans.step ?_)))))
  simp only [laws_FnExactJoinWord.j2]
  exact Ans.not (by simp) ((heldIntS z.length 1 (by omega) (by omega)).bind (Ans.not (by omega) (Ans.yes (by simp) (Ans.pure _))))

end Go.Proofs.Ytobkldkekopgoaa.Pure
