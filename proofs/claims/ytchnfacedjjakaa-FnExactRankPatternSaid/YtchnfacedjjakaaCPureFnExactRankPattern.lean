/- For every row the program's RankPattern returns what the reference's returns: no condition. -/
import Derived.Test.YtchnfacedjjakaaCFnExactRankPatternx2
import Derived.Test.YtchnfacedjjakaaQTwo
namespace Go.Proofs.Ytchnfacedjjakaa.Pure
open Go.RowKit Go.Proofs.Ytchnfacedjjakaa.X Go.Proofs.YtchnfacedjjakaaW.PrintWords Go.Proofs.YtchnfacedjjakaaW.PrintLast Go.Proofs.Ytchnfacedjjakaa.Q
set_option linter.unusedVariables false
set_option linter.unusedSimpArgs false
theorem rd_L1_mem {x : List (List Int)} {i : Int} (h0 : 0 ≤ i) (h1 : i < x.length) : rd_L1 x i ∈ x := by unfold rd_L1; exact getD_mem _ (by omega)
theorem len_le {x : List Int} (h : x.length ≤ 17592186044416) : (x.length : Int) ≤ 17592186044416 := by omega
theorem eqIntS_l0 (x : List Int) (hx : x.length ≤ 17592186044416) : ∀ (d : Nat) (i : Int), 0 ≤ i → i + d = x.length → ∀ k, d < k → laws_eqIntS.l0 k x x i = some true := by
  intro d
  induction d with
  | zero => intro i h0 h1 k hk; obtain ⟨j, rfl⟩ : ∃ j, k = j + 1 := ⟨k - 1, by omega⟩; unfold laws_eqIntS.l0; rw [if_neg (by omega)]
  | succ d ih =>
    intro i h0 h1 k hk; obtain ⟨j, rfl⟩ : ∃ j, k = j + 1 := ⟨k - 1, by omega⟩; unfold laws_eqIntS.l0
    rw [if_pos (by omega), if_pos h0, if_pos (by omega), if_pos rfl, wrap64_up h0 (by omega)]
    exact ih _ (by omega) (by omega) _ (by omega)
theorem eqIntS (x : List Int) (hx : x.length ≤ 17592186044416) : Ans (fun k => laws_eqIntS.f k x x) true :=
  Ans.from (x.length + 1) fun k hk => by unfold laws_eqIntS.f; rw [if_pos rfl]; exact eqIntS_l0 x hx x.length 0 (by omega) (by omega) _ (by omega)
theorem toIntS_l0 (x : List Int) (hx : x.length ≤ 17592186044416) : ∀ (d : Nat) (y : List Int) (i : Int), y.length = x.length → (∀ j : Nat, j < i → y.getD j 0 = x.getD j 0) → 0 ≤ i → i + d = x.length → ∀ k, d < k → laws_toIntS.l0 k x y i = some x := by
  intro d
  induction d with
  | zero =>
    intro y i hl hy h0 h1 k hk; obtain ⟨j, rfl⟩ : ∃ j, k = j + 1 := ⟨k - 1, by omega⟩; unfold laws_toIntS.l0; rw [if_neg (by omega)]
    refine congrArg some (List.ext_getElem hl fun n h2 h3 => ?_)
    have := hy n (by omega)
    rw [getD_at _ _ h2, getD_at _ _ h3] at this
    exact this
  | succ d ih =>
    intro y i hl hy h0 h1 k hk; obtain ⟨j, rfl⟩ : ∃ j, k = j + 1 := ⟨k - 1, by omega⟩; unfold laws_toIntS.l0
    rw [if_pos (by omega), if_pos h0, if_pos (by omega), wrap64_up h0 (by omega)]
    refine ih _ _ (by simp [hl]) ?_ (by omega) (by omega) _ (by omega)
    intro n hn
    obtain ⟨a, rfl⟩ : ∃ a : Nat, i = a := ⟨i.toNat, by omega⟩
    by_cases e : n = a
    · subst e
      have h2 : n < (y.set ((n : Int)).toNat (rd x n)).length := by simp only [List.length_set]; omega
      rw [getD_at _ _ h2]
      simp [rd]
    · have h2 : n < y.length := by omega
      have h3 : n < (y.set ((a : Int)).toNat (rd x a)).length := by simp only [List.length_set]; omega
      rw [← hy n (by omega), getD_at _ _ h3, getD_at _ _ h2, List.getElem_set_ne (by omega)]
theorem toIntS (x : List Int) (hx : x.length ≤ 17592186044416) : Ans (fun k => laws_toIntS.f k x) x :=
  Ans.from (x.length + 1) fun k hk => by
    unfold laws_toIntS.f; rw [if_pos (by omega), if_pos (by omega)]
    exact toIntS_l0 x hx x.length _ 0 (by simp) (by intro j hj; omega) (by omega) (by omega) _ (by omega)
theorem l1In (a b c : Int) : spec_l1In.f a b c = some (decide (b ≤ a ∧ a ≤ c)) := by
  unfold spec_l1In.f
  by_cases h : a ≥ b
  · rw [if_pos h]; refine congrArg some (decide_eq_decide.mpr ⟨fun q => ⟨h, q⟩, fun q => q.2⟩)
  · rw [if_neg h, decide_eq_false (by omega)]
theorem within (a b c : Int) : impl_within.f a b c = some (decide (b ≤ a ∧ a ≤ c)) := by
  unfold impl_within.f
  by_cases h : b ≤ a
  · rw [if_pos h]; refine congrArg some (decide_eq_decide.mpr ⟨fun q => ⟨h, q⟩, fun q => q.2⟩)
  · rw [if_neg h, decide_eq_false (by omega)]
/-- Where every element's test answers, 'ContainsFunc' tells whether one passes. -/
theorem containsI (x : List Int) (hx : x.length ≤ 17592186044416) (g : Int → Option Bool) (p : Int → Bool) (hg : ∀ a, g a = some (p a)) : Ans (fun k => slices_ContainsFunc_int_int.f k x g) (x.any p) := by
  have key : ∀ (d : Nat) (i : Int), 0 ≤ i → i + d = x.length → ∃ z : Int, Ans (fun k => slices_IndexFunc_int_int_181.l0 k x g (x.length : Int) i) z ∧ decide (z ≥ 0) = (x.drop i.toNat).any p := by
    intro d
    induction d with
    | zero =>
      intro i h0 h1
      refine ⟨-1, Ans.step ?_, by rw [List.drop_eq_nil_of_le (by omega)]; rfl⟩
      simp only [slices_IndexFunc_int_int_181.l0]; exact Ans.not (by omega) (Ans.pure _)
    | succ d ih =>
      intro i h0 h1
      have hd := drop_at x 0 (show i.toNat < x.length by omega)
      by_cases c : p (rd x i) = true
      · refine ⟨i, Ans.step ?_, by rw [hd, List.any_cons, show p (x.getD i.toNat 0) = true from c]; simp [h0]⟩
        simp only [slices_IndexFunc_int_int_181.l0, hg, Option.bind_some]
        exact Ans.yes (by omega) (Ans.yes h0 (Ans.yes (by omega) (Ans.yes c (Ans.pure _))))
      · obtain ⟨z, e, hz⟩ := ih (i + 1) (by omega) (by omega)
        refine ⟨z, Ans.step ?_, by rw [hz, hd, List.any_cons, show p (x.getD i.toNat 0) = false from Bool.eq_false_iff.mpr c, show (i + 1).toNat = i.toNat + 1 by omega]; simp⟩
        simp only [slices_IndexFunc_int_int_181.l0, hg, Option.bind_some, wrap64_up h0 (by omega : i ≤ 4611686018427387904)]
        exact Ans.yes (by omega) (Ans.yes h0 (Ans.yes (by omega) (Ans.not c e)))
  obtain ⟨z, e, hz⟩ := key x.length 0 (by omega) (by omega)
  simp only [slices_ContainsFunc_int_int.f, slices_IndexFunc_int_int_181.f]
  have := e.bind (h := fun _ t => some (decide (t ≥ 0))) (Ans.pure (decide (z ≥ 0)))
  rwa [hz] at this
def allIn (x : List Int) (lo hi : Int) : Bool := x.all fun a => decide (lo ≤ a ∧ a ≤ hi)
theorem l1All (x : List Int) (hx : x.length ≤ 17592186044416) (lo hi : Int) : Ans (fun k => spec_l1All.f k x lo hi) (allIn x lo hi) := by
  have key : ∀ (d : Nat) (i : Int), 0 ≤ i → i + d = x.length → Ans (fun k => spec_l1All.l0 k lo hi x (x.length : Int) i) (allIn (x.drop i.toNat) lo hi) := by
    intro d
    induction d with
    | zero =>
      intro i h0 h1
      rw [List.drop_eq_nil_of_le (by omega)]; refine Ans.step ?_
      simp only [spec_l1All.l0]; exact Ans.not (by omega) (Ans.pure _)
    | succ d ih =>
      intro i h0 h1
      have hd := drop_at x 0 (show i.toNat < x.length by omega)
      have e := ih (i + 1) (by omega) (by omega)
      rw [hd, allIn, List.all_cons, show decide (lo ≤ x.getD i.toNat 0 ∧ x.getD i.toNat 0 ≤ hi) = decide (lo ≤ rd x i ∧ rd x i ≤ hi) from rfl]
      refine Ans.step ?_
      simp only [spec_l1All.l0, l1In, Option.bind_some, wrap64_up h0 (by omega : i ≤ 4611686018427387904)]
      refine Ans.yes (by omega) (Ans.yes h0 (Ans.yes (by omega) ?_))
      by_cases c : decide (lo ≤ rd x i ∧ rd x i ≤ hi) = true
      · rw [c, Bool.true_and]; rw [show (i + 1).toNat = i.toNat + 1 by omega] at e; exact Ans.yes rfl e
      · rw [Bool.eq_false_iff.mpr c, Bool.false_and]; exact Ans.not (by simp) (Ans.pure _)
  exact key x.length 0 (by omega) (by omega)
theorem areWithin (x : List Int) (hx : x.length ≤ 17592186044416) (lo hi : Int) : Ans (fun k => impl_areWithin.f k x lo hi) (allIn x lo hi) := by
  have e := containsI x hx (fun x0_ => impl_areWithin_1.f x0_ lo hi) (fun a => !decide (lo ≤ a ∧ a ≤ hi)) (fun a => by simp only [impl_areWithin_1.f, within, Option.bind_some])
  have := e.bind (h := fun _ t => some (!t)) (Ans.pure _)
  rw [List.not_any_eq_all_not] at this
  simp only [Bool.not_not] at this
  exact this
def Good (x : List Int) : Prop := ∀ i : Int, 0 ≤ i → i < x.length → 0 ≤ rd x i ∧ rd x i < x.length ∧ rd x i ≠ i ∧ rd x (rd x i) = i
def Nest (x : List Int) : Prop := ∀ i : Int, 0 ≤ i → i < x.length → ∀ j : Int, i < j → j < rd x i → i + 1 ≤ rd x j ∧ rd x j ≤ rd x i - 1
def Pat (x : List Int) : Prop := x.length ≤ 12 ∧ 0 < x.length ∧ x.length % 2 = 0 ∧ Good x ∧ Nest x
theorem allIn_at {x : List Int} {lo hi : Int} (h : allIn x lo hi = true) (i : Int) (h0 : 0 ≤ i) (h1 : i < x.length) : lo ≤ rd x i ∧ rd x i ≤ hi := by
  have := List.all_eq_true.mp h (rd x i) (getD_mem 0 (by omega))
  simpa using this
theorem pairs (x : List Int) (hx : x.length ≤ 12) (hin : ∀ i : Int, 0 ≤ i → i < x.length → 0 ≤ rd x i ∧ rd x i ≤ (x.length : Int) - 1) : ∀ (d : Nat) (i : Int), 0 ≤ i → i + d = x.length →
    (∀ j : Int, 0 ≤ j → j < i → rd x j ≠ j ∧ rd x (rd x j) = j ∧ ∀ l : Int, j < l → l < rd x j → j + 1 ≤ rd x l ∧ rd x l ≤ rd x j - 1) →
    Two (fun k => spec_loIsPattern.l0 k x x (x.length : Int) i) (fun k => impl_IsPattern.l0 k x x (x.length : Int) i) (fun b => b = true → Good x ∧ Nest x) := by
  intro d
  induction d with
  | zero =>
    intro i h0 h1 hj
    refine Two.step ?_
    simp only [spec_loIsPattern.l0, impl_IsPattern.l0]
    refine Two.not (by omega) (Two.pure fun _ => ⟨fun j a b => ?_, fun j a b => (hj j a (by omega)).2.2⟩)
    have := hin j a b; have := hj j a (by omega)
    exact ⟨by omega, by omega, this.1, this.2.1⟩
  | succ d ih =>
    intro i h0 h1 hj
    have hi := hin i h0 (by omega)
    refine Two.step ?_
    simp only [spec_loIsPattern.l0, impl_IsPattern.l0]
    refine Two.yes (by omega) (Two.yes h0 (Two.yes (by omega) (Two.ite (fun c => ?_) (fun c => ?_))))
    · refine Two.step ?_
      simp only [spec_loIsPattern.j2, impl_IsPattern.j2]
      exact Two.yes (by simp) (Two.pure (by simp))
    · refine Two.yes hi.1 (Two.yes (by omega) (Two.step ?_))
      simp only [spec_loIsPattern.j2, impl_IsPattern.j2]
      refine Two.ite (fun _ => Two.pure (by simp)) (fun e => ?_)
      have e' : rd x (rd x i) = i := by simpa using e
      have nx := fun hn => ih (i + 1) (by omega) (by omega) (fun j a b => if q : j = i then q ▸ ⟨c, e', hn⟩ else hj j a (by omega))
      have inner : ∀ (m : Nat) (n : Int), 0 ≤ n → n ≤ 12 → (rd x i - n).toNat ≤ m → (∀ l : Int, i < l → l < n → l < rd x i → i + 1 ≤ rd x l ∧ rd x l ≤ rd x i - 1) →
          Two (fun k => spec_loIsPattern.l1 k x i (rd x i) n x (x.length : Int) i) (fun k => impl_IsPattern.l1 k x i (rd x i) n x (x.length : Int) i) (fun b => b = true → Good x ∧ Nest x) := by
        intro m
        induction m with
        | zero =>
          intro n n0 n1 hm hl
          refine Two.step ?_
          simp only [spec_loIsPattern.l1, impl_IsPattern.l1, wrap64_up h0 (by omega : i ≤ 4611686018427387904)]
          exact Two.not (by omega) (nx (fun l a b => hl l a (by omega) b))
        | succ m ihm =>
          intro n n0 n1 hm hl
          refine Two.step ?_
          simp only [spec_loIsPattern.l1, impl_IsPattern.l1, wrap64_up h0 (by omega : i ≤ 4611686018427387904), l1In, within, wrap64_in (rd x i - 1) ⟨by omega, by omega⟩]
          refine Two.ite (fun q => ?_) (fun _ => nx (fun l a b => hl l a (by omega) b))
          refine Two.yes n0 (Two.yes (by omega) (Two.bind (P := fun b => b = decide (i + 1 ≤ rd x n ∧ rd x n ≤ rd x i - 1)) ⟨_, rfl, Ans.pure _, Ans.pure _⟩ fun b hb => Two.ite (fun ht => ?_) (fun _ => Two.pure (by simp))))
          have hb' : i + 1 ≤ rd x n ∧ rd x n ≤ rd x i - 1 := of_decide_eq_true (hb.symm.trans ht)
          simp only [wrap64_up n0 (by omega : n ≤ 4611686018427387904)]
          exact ihm _ (by omega) (by omega) (by omega) (fun l a b e => if q : l = n then q ▸ hb' else hl l a (by omega) e)
      simp only [wrap64_up h0 (by omega : i ≤ 4611686018427387904)]
      exact inner _ _ (by omega) (by omega) (Nat.le_refl _) (fun l a b => by omega)
theorem isPattern (x : List Int) (hx : x.length ≤ 17592186044416) : Two (fun k => spec_loIsPattern.f k x) (fun k => impl_IsPattern.f k x) (fun b => b = true → Pat x) := by
  have no : Two (fun k => spec_loIsPattern.j0 k x true) (fun k => impl_IsPattern.j0 k x true) (fun b => b = true → Pat x) := by
    refine Two.step ?_
    simp only [spec_loIsPattern.j0, impl_IsPattern.j0]
    exact Two.yes (by simp) (Two.pure (by simp))
  simp only [spec_loIsPattern.f, impl_IsPattern.f, impl_isSide.f, l1In, within, wrap64_in ((x.length : Int) / 2) ⟨by omega, by omega⟩, Option.bind_some]
  refine Two.ite (fun _ => no) (fun c => Two.ite (fun b => ?_) (fun _ => no))
  have hb := of_decide_eq_true b
  have hw1 : wrap64 ((x.length : Int) - 1) = (x.length : Int) - 1 := wrap64_in _ ⟨by omega, by omega⟩
  simp only [hw1]
  refine Two.bind (Two.of (l1All x hx 0 ((x.length : Int) - 1)) (areWithin x hx 0 ((x.length : Int) - 1))) fun b hin => ?_
  cases b with
  | false => exact no
  | true =>
    refine Two.step ?_
    simp only [spec_loIsPattern.j0, impl_IsPattern.j0]
    refine Two.not (by simp) ((pairs x (by omega) (fun i a b => allIn_at hin.symm i a b) x.length 0 (by omega) (by omega) (fun j a b => by omega)).mono fun r h hr => ⟨by omega, by omega, by omega, h hr⟩)
/-- All lists of numbers under m whose beginnings all pass a test. -/
def levels (m : Nat) (ok : List Int → Bool) : Nat → List (List Int)
  | 0 => [[]]
  | d + 1 => (levels m ok d).flatMap fun q => ((List.range m).map fun v : Nat => q ++ [(v : Int)]).filter ok
theorem levels_mem {m : Nat} {ok : List Int → Bool} {x : List Int} (hl : x.length = m) (hr : ∀ i : Int, 0 ≤ i → i < x.length → 0 ≤ rd x i ∧ rd x i < x.length) (hok : ∀ d, d ≤ m → ok (x.take d) = true) : ∀ d, d ≤ m → x.take d ∈ levels m ok d := by
  intro d
  induction d with
  | zero => intro _; simp [levels]
  | succ d ih =>
    intro hd
    rw [levels, List.mem_flatMap]
    refine ⟨x.take d, ih (by omega), ?_⟩
    rw [List.mem_filter]
    refine ⟨?_, hok _ hd⟩
    have hv := hr d (by omega) (by omega)
    rw [List.mem_map]
    refine ⟨(rd x d).toNat, by rw [List.mem_range]; omega, ?_⟩
    rw [take_up x 0 (by omega), show x.getD d 0 = rd x (d : Int) from by simp [rd], Int.toNat_of_nonneg hv.1]
/-- What a beginning of a pattern tells of itself. -/
def okHead (q : List Int) : Bool :=
  (List.range q.length).all fun i => decide (q.getD i 0 ≠ i) && (decide ((q.length : Int) ≤ q.getD i 0) || decide (q.getD (q.getD i 0).toNat 0 = i)) &&
    (List.range i).all fun j => decide (q.getD j 0 ≠ q.getD i 0) && (decide (q.getD j 0 ≤ i) || (decide ((j : Int) + 1 ≤ q.getD i 0) && decide (q.getD i 0 ≤ q.getD j 0 - 1)))
theorem getD_take {x : List Int} {d i : Nat} (h : i < d) : (x.take d).getD i 0 = x.getD i 0 := by
  simp [List.getD_eq_getElem?_getD, List.getElem?_take, h]
theorem okHead_take {x : List Int} (h : Pat x) (d : Nat) (hd : d ≤ x.length) : okHead (x.take d) = true := by
  obtain ⟨_, _, _, hg, hn⟩ := h
  have hlen : (x.take d).length = d := by simp; omega
  unfold okHead
  rw [hlen]
  simp only [List.all_eq_true, List.mem_range, Bool.and_eq_true, Bool.or_eq_true, decide_eq_true_eq]
  intro i hi
  have gi := hg i (by omega) (by omega)
  rw [show rd x (i : Int) = x.getD i 0 from by simp [rd]] at gi
  rw [getD_take hi]
  refine ⟨⟨gi.2.2.1, ?_⟩, fun j hj => ?_⟩
  · by_cases c : (d : Int) ≤ x.getD i 0
    · exact .inl c
    · right
      rw [getD_take (by omega)]
      exact gi.2.2.2
  · have gj := hg j (by omega) (by omega)
    rw [show rd x (j : Int) = x.getD j 0 from by simp [rd]] at gj
    rw [getD_take (by omega)]
    refine ⟨fun e => ?_, ?_⟩
    · have h1 := gi.2.2.2
      have h2 := gj.2.2.2
      rw [e, h1] at h2
      omega
    · by_cases c : x.getD j 0 ≤ i
      · exact .inl c
      · right
        have := hn j (by omega) (by omega) i (by omega) (by rw [show rd x (j : Int) = x.getD j 0 from by simp [rd]]; omega)
        rw [show rd x (j : Int) = x.getD j 0 from by simp [rd], show rd x (i : Int) = x.getD i 0 from by simp [rd]] at this
        exact this
/-- The patterns, as the reference lists them. -/
def pats (n : Nat) : List (List Int) := (spec_loAll.f 300 n 0).getD []
theorem pats_all : ∀ n : Nat, 1 ≤ n → n ≤ 4 → spec_loAll.f 300 n 0 = some (pats n) ∧ impl_patterns.f 300 n = some (pats n) ∧ (levels (2 * n) okHead (2 * n)).all (fun q => decide (q ∈ pats n)) = true ∧ (pats n).all (fun q => decide (q.length = 2 * n)) = true ∧ (pats n).length ≤ 14 := by
  intro n h1 h2
  rcases (show n = 1 ∨ n = 2 ∨ n = 3 ∨ n = 4 by omega) with rfl | rfl | rfl | rfl
  · decide +kernel
  · decide +kernel
  · decide +kernel
  · decide +kernel
theorem LeO.far {α : Type} {g : Nat → Option α} {r : α} (h : ∀ k, LeO (g k) (g (k + 1))) (m : Nat) (e : g m = some r) : Ans g r :=
  ⟨m, fun k hk => by
    obtain ⟨j, rfl⟩ : ∃ j, k = m + j := ⟨k - m, by omega⟩
    clear hk
    induction j with
    | zero => exact e
    | succ j ih => exact h _ r ih⟩
theorem loAll_at (n : Nat) (h1 : 1 ≤ n) (h2 : n ≤ 4) : Ans (fun k => spec_loAll.f k n 0) (pats n) := LeO.far (fun k => spec_loAll.mono _ _ k) 300 (pats_all n h1 h2).1
theorem patterns_at (n : Nat) (h1 : 1 ≤ n) (h2 : n ≤ 4) : Ans (fun k => impl_patterns.f k n) (pats n) := LeO.far (fun k => impl_patterns.mono _ k) 300 (pats_all n h1 h2).2.1
theorem pats_mem {x : List Int} (h : Pat x) (n : Nat) (hn : x.length = 2 * n) (h2 : n ≤ 4) : x ∈ pats n := by
  have h1 : 1 ≤ n := by have := h.2.1; omega
  have hm := levels_mem (ok := okHead) hn (fun i a b => ⟨(h.2.2.2.1 i a b).1, (h.2.2.2.1 i a b).2.1⟩) (fun d hd => okHead_take h d (by omega)) (2 * n) (Nat.le_refl _)
  rw [List.take_of_length_le (by omega)] at hm
  exact of_decide_eq_true (List.all_eq_true.mp (pats_all n h1 h2).2.2.1 x hm)
theorem l1Same (x y : List Int) (hx : x.length ≤ 17592186044416) : Ans (fun k => spec_l1Same.f k x y) (decide (x = y)) := by
  simp only [spec_l1Same.f]
  by_cases hl : (x.length : Int) = (y.length : Int)
  case neg => rw [decide_eq_false (fun h => hl (by rw [h]))]; exact Ans.not hl (Ans.pure _)
  have key : ∀ (d : Nat) (i : Int), 0 ≤ i → i + d = x.length → Ans (fun k => spec_l1Same.l0 k x y (x.length : Int) i) (decide (x.drop i.toNat = y.drop i.toNat)) := by
    intro d
    induction d with
    | zero =>
      intro i h0 h1
      rw [List.drop_eq_nil_of_le (by omega), List.drop_eq_nil_of_le (by omega)]; refine Ans.step ?_
      simp only [spec_l1Same.l0]; exact Ans.not (by omega) (Ans.pure _)
    | succ d ih =>
      intro i h0 h1
      have e := ih (i + 1) (by omega) (by omega)
      rw [show (i + 1).toNat = i.toNat + 1 by omega] at e
      rw [drop_at x 0 (show i.toNat < x.length by omega), drop_at y 0 (show i.toNat < y.length by omega), show x.getD i.toNat 0 = rd x i from rfl, show y.getD i.toNat 0 = rd y i from rfl]
      refine Ans.step ?_
      simp only [spec_l1Same.l0, wrap64_up h0 (by omega : i ≤ 4611686018427387904)]
      refine Ans.yes (by omega) (Ans.yes h0 (Ans.yes (by omega) (Ans.yes (by omega) ?_)))
      by_cases c : rd x i = rd y i
      · rw [show decide (rd x i :: x.drop (i.toNat + 1) = rd y i :: y.drop (i.toNat + 1)) = decide (x.drop (i.toNat + 1) = y.drop (i.toNat + 1)) from decide_eq_decide.mpr ⟨fun h => (List.cons.inj h).2, fun h => by rw [c, h]⟩]; exact Ans.yes c e
      · rw [decide_eq_false (fun h => c (List.cons.inj h).1)]; exact Ans.not c (Ans.pure _)
  exact Ans.yes hl (key x.length 0 (by omega) (by omega))
theorem equalI (x y : List Int) (hx : x.length ≤ 17592186044416) : Ans (fun k => slices_Equal_int_int.f k x y) (decide (x = y)) := by
  simp only [slices_Equal_int_int.f]
  by_cases hl : (x.length : Int) = (y.length : Int)
  case neg => rw [decide_eq_false (fun h => hl (by rw [h]))]; exact Ans.not hl (Ans.pure _)
  have key : ∀ (d : Nat) (i : Int), 0 ≤ i → i + d = x.length → Ans (fun k => slices_Equal_int_int.l0 k x y (x.length : Int) i) (decide (x.drop i.toNat = y.drop i.toNat)) := by
    intro d
    induction d with
    | zero =>
      intro i h0 h1
      rw [List.drop_eq_nil_of_le (by omega), List.drop_eq_nil_of_le (by omega)]; refine Ans.step ?_
      simp only [slices_Equal_int_int.l0]; exact Ans.not (by omega) (Ans.pure _)
    | succ d ih =>
      intro i h0 h1
      have e := ih (i + 1) (by omega) (by omega)
      rw [show (i + 1).toNat = i.toNat + 1 by omega] at e
      rw [drop_at x 0 (show i.toNat < x.length by omega), drop_at y 0 (show i.toNat < y.length by omega), show x.getD i.toNat 0 = rd x i from rfl, show y.getD i.toNat 0 = rd y i from rfl]
      refine Ans.step ?_
      simp only [slices_Equal_int_int.l0, wrap64_up h0 (by omega : i ≤ 4611686018427387904)]
      refine Ans.yes (by omega) (Ans.yes h0 (Ans.yes (by omega) (Ans.yes (by omega) ?_)))
      by_cases c : rd x i = rd y i
      · rw [show decide (rd x i :: x.drop (i.toNat + 1) = rd y i :: y.drop (i.toNat + 1)) = decide (x.drop (i.toNat + 1) = y.drop (i.toNat + 1)) from decide_eq_decide.mpr ⟨fun h => (List.cons.inj h).2, fun h => by rw [c, h]⟩]; exact Ans.yes c e
      · rw [decide_eq_false (fun h => c (List.cons.inj h).1)]; exact Ans.not c (Ans.pure _)
  exact Ans.yes hl (key x.length 0 (by omega) (by omega))
theorem rank (L : List (List Int)) (x : List Int) (hL : L.length ≤ 100) (hr : ∀ q ∈ L, q.length ≤ 100) (hx : x ∈ L) :
    ∃ z : Int, 0 ≤ z ∧ z < L.length ∧ rd_L1 L z = x ∧ Ans (fun k => spec_syRank.f k L x) z ∧ Ans (fun k => impl_rankOf.f k L x) z := by
  have key : ∀ (d : Nat) (i : Int), 0 ≤ i → i + d = L.length → x ∈ L.drop i.toNat →
      ∃ z : Int, 0 ≤ z ∧ z < L.length ∧ rd_L1 L z = x ∧ Ans (fun k => spec_syRank.l0 k L x i) z ∧ Ans2 (fun k j => slices_IndexFunc_int_int_148.l0 k L (fun x0_ => impl_rankOf_1.f j x0_ x) (L.length : Int) i) z := by
    intro d
    induction d with
    | zero =>
      intro i h0 h1 hm
      rw [List.drop_eq_nil_of_le (by omega)] at hm
      simp at hm
    | succ d ih =>
      intro i h0 h1 hm
      have hlen := hr _ (rd_L1_mem h0 (show i < L.length by omega))
      have e1 := l1Same (rd_L1 L i) x (by omega)
      have e2 : Ans (fun j => impl_rankOf_1.f j (rd_L1 L i) x) (decide (rd_L1 L i = x)) := by
        simp only [impl_rankOf_1.f]
        exact (equalI (rd_L1 L i) x (by omega)).bind (Ans.pure _)
      by_cases c : rd_L1 L i = x
      · rw [decide_eq_true c] at e1 e2
        refine ⟨i, h0, by omega, c, Ans.step ?_, Ans2.step ?_⟩
        · simp only [spec_syRank.l0]
          exact Ans.yes h0 (Ans.yes (by omega) (e1.bind (Ans.yes rfl (Ans.pure _))))
        · simp only [slices_IndexFunc_int_int_148.l0]
          exact Ans2.yes (by omega) (Ans2.yes h0 (Ans2.yes (by omega) ((Ans2.two e2).bind (Ans2.yes rfl (Ans2.pure _)))))
      · rw [decide_eq_false c] at e1 e2
        rw [drop_at L [] (show i.toNat < L.length by omega), show L.getD i.toNat [] = rd_L1 L i from rfl] at hm
        obtain ⟨z, z0, z1, hz, f1, f2⟩ := ih (i + 1) (by omega) (by omega) (by rw [show (i + 1).toNat = i.toNat + 1 by omega]; exact (List.mem_cons.mp hm).resolve_left (fun e => c e.symm))
        refine ⟨z, z0, z1, hz, Ans.step ?_, Ans2.step ?_⟩
        · simp only [spec_syRank.l0, wrap64_up h0 (by omega : i ≤ 4611686018427387904)]
          exact Ans.yes h0 (Ans.yes (by omega) (e1.bind (Ans.not (by simp) f1)))
        · simp only [slices_IndexFunc_int_int_148.l0, wrap64_up h0 (by omega : i ≤ 4611686018427387904)]
          exact Ans2.yes (by omega) (Ans2.yes h0 (Ans2.yes (by omega) ((Ans2.two e2).bind (Ans2.not (by simp) f2))))
  obtain ⟨z, z0, z1, hz, f1, f2⟩ := key L.length 0 (by omega) (by omega) (by simpa using hx)
  exact ⟨z, z0, z1, hz, f1, f2.join.bind (Ans.pure _)⟩
theorem rankPattern (x : List Int) (hx : x.length ≤ 17592186044416) : Two (fun k => spec_RankPattern.f k x) (fun k => impl_RankPattern.f k x) (fun _ => True) := by
  obtain ⟨b, hb, e1, e2⟩ := isPattern x hx
  have no : Ans (fun k => spec_RankPattern.j0 k x true) ((0 : Int), false) := by
    refine Ans.step ?_
    simp only [spec_RankPattern.j0]
    exact Ans.yes (by simp) (Ans.pure _)
  cases b with
  | false =>
    refine ⟨(0, false), trivial, ?_, ?_⟩
    · simp only [spec_RankPattern.f]; exact e1.bind (Ans.not (by simp) no)
    · simp only [impl_RankPattern.f, impl_isFewLinked.f]; exact (e2.bind (Ans.not (by simp) (Ans.pure _))).bind (Ans.not (by simp) (Ans.pure _))
  | true =>
    have hp := hb rfl
    obtain ⟨n, hn⟩ : ∃ n, x.length = 2 * n := ⟨x.length / 2, by have := hp.2.2.1; omega⟩
    have hn1 : 1 ≤ n := by have := hp.2.1; omega
    have hn6 : n ≤ 6 := by have := hp.1; omega
    have hw : wrap64 ((x.length : Int) / 2) = (n : Int) := by rw [wrap64_in _ ⟨by omega, by omega⟩]; omega
    by_cases c : n ≤ 4
    · have hq := pats_all n hn1 c
      obtain ⟨z, _, _, _, f1, f2⟩ := rank (pats n) x (by have := hq.2.2.2.2; omega) (fun q h => by have := of_decide_eq_true (List.all_eq_true.mp hq.2.2.2.1 q h); omega) (pats_mem hp n hn c)
      refine ⟨(z, true), trivial, ?_, ?_⟩
      · simp only [spec_RankPattern.f]
        refine e1.bind (Ans.yes (by simp) (Ans.step ?_))
        simp only [spec_RankPattern.j0, hw, decide_eq_false (show ¬ ((x.length : Int) > 8) by omega)]
        exact Ans.not (by simp) ((loAll_at n hn1 c).bind (f1.bind (Ans.pure _)))
      · simp only [impl_RankPattern.f, impl_isFewLinked.f, impl_arePairs.f, within, hw, Option.bind_some]
        exact (e2.bind (Ans.yes (by simp) (Ans.pure _))).bind (Ans.yes (by simp; omega) ((patterns_at n hn1 c).bind (f2.bind (Ans.pure _))))
    · refine ⟨(0, false), trivial, ?_, ?_⟩
      · simp only [spec_RankPattern.f]
        refine e1.bind (Ans.yes (by simp) ?_)
        rw [decide_eq_true (show (x.length : Int) > 8 by omega)]
        exact no
      · simp only [impl_RankPattern.f, impl_isFewLinked.f, impl_arePairs.f, within, hw, Option.bind_some]
        exact (e2.bind (Ans.yes (by simp) (Ans.pure _))).bind (Ans.not (by simp; omega) (Ans.pure _))
theorem FnExactRankPattern : laws_FnExactRankPattern.Pure := by
  intro x m0 y0 _
  have hx : x.length ≤ 17592186044416 := by omega
  refine Ans.at (g := fun k => laws_FnExactRankPattern.f k x) ?_
  simp only [laws_FnExactRankPattern.f]
  by_cases cx : (x.length : Int) > 1048576
  · exact Ans.yes cx (Ans.pure _)
  obtain ⟨⟨z, b⟩, _, e1, e2⟩ := rankPattern x hx
  refine Ans.not cx ((toIntS x hx).bind (e1.bind ((toIntS x hx).bind (e2.bind (Ans.yes (by simp) (Ans.step ?_))))))
  simp only [laws_FnExactRankPattern.j0]
  exact Ans.not (by simp) ((toIntS x hx).bind ((eqIntS x hx).bind (Ans.yes rfl (Ans.pure _))))

end Go.Proofs.Ytchnfacedjjakaa.Pure
