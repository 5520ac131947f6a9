/- For all bytes the statement on patterns answers true: no condition. -/
import Derived.Test.YtchnfacedjjakaaCFnPatternsx5
import Derived.Test.YtchnfacedjjakaaQTwo
import Derived.Test.YtchnfacedjjakaaQByte
namespace Go.Proofs.Ytchnfacedjjakaa.Pure
open Go.RowKit Go.Proofs.Ytchnfacedjjakaa.X Go.Proofs.YtchnfacedjjakaaW.PrintWords Go.Proofs.YtchnfacedjjakaaW.PrintLast Go.Proofs.Ytchnfacedjjakaa.Q
set_option linter.unusedVariables false
set_option linter.unusedSimpArgs false
theorem rd_L1_mem {x : List (List Int)} {i : Int} (h0 : 0 ≤ i) (h1 : i < x.length) : rd_L1 x i ∈ x := by unfold rd_L1; exact getD_mem _ (by omega)
theorem rd_set (x : List Int) (i j v : Int) (hi : 0 ≤ i) (hj : 0 ≤ j) (hl : i < x.length) : rd (x.set i.toNat v) j = if j = i then v else rd x j := by
  unfold rd
  by_cases e : j = i
  · subst e; rw [if_pos rfl, getD_at _ _ (by simp; omega)]; simp
  · rw [if_neg e]
    by_cases hjl : j.toNat < x.length
    · rw [getD_at _ _ (by simp; omega), getD_at _ _ hjl, List.getElem_set_ne (by omega)]
    · rw [getD_out _ _ (by simp; omega), getD_out _ _ (by omega)]
theorem l1In (a b c : Int) : spec_l1In.f a b c = some (decide (b ≤ a ∧ a ≤ c)) := by
  unfold spec_l1In.f
  by_cases h : a ≥ b
  · rw [if_pos h]; refine congrArg some (decide_eq_decide.mpr ⟨fun q => ⟨h, q⟩, fun q => q.2⟩)
  · rw [if_neg h, decide_eq_false (by omega)]
theorem within (a b c : Int) : impl_within.f a b c = some (decide (b ≤ a ∧ a ≤ c)) := by
  unfold impl_within.f
  by_cases h : b ≤ a
  · rw [if_pos h]; refine congrArg some (decide_eq_decide.mpr ⟨fun q => ⟨h, q⟩, fun q => q.2⟩)
  · rw [if_neg h, decide_eq_false (by omega)]
/-- Where every element's test answers, 'ContainsFunc' tells whether one passes. -/
theorem containsI (x : List Int) (hx : x.length ≤ 17592186044416) (g : Int → Option Bool) (p : Int → Bool) (hg : ∀ a, g a = some (p a)) : Ans (fun k => slices_ContainsFunc_int_int.f k x g) (x.any p) := by
  have key : ∀ (d : Nat) (i : Int), 0 ≤ i → i + d = x.length → ∃ z : Int, Ans (fun k => slices_IndexFunc_int_int_181.l0 k x g (x.length : Int) i) z ∧ decide (z ≥ 0) = (x.drop i.toNat).any p := by
    intro d
    induction d with
    | zero =>
      intro i h0 h1
      refine ⟨-1, Ans.step ?_, by rw [List.drop_eq_nil_of_le (by omega)]; rfl⟩
      simp only [slices_IndexFunc_int_int_181.l0]; exact Ans.not (by omega) (Ans.pure _)
    | succ d ih =>
      intro i h0 h1
      have hd := drop_at x 0 (show i.toNat < x.length by omega)
      by_cases c : p (rd x i) = true
      · refine ⟨i, Ans.step ?_, by rw [hd, List.any_cons, show p (x.getD i.toNat 0) = true from c]; simp [h0]⟩
        simp only [slices_IndexFunc_int_int_181.l0, hg, Option.bind_some]
        exact Ans.yes (by omega) (Ans.yes h0 (Ans.yes (by omega) (Ans.yes c (Ans.pure _))))
      · obtain ⟨z, e, hz⟩ := ih (i + 1) (by omega) (by omega)
        refine ⟨z, Ans.step ?_, by rw [hz, hd, List.any_cons, show p (x.getD i.toNat 0) = false from Bool.eq_false_iff.mpr c, show (i + 1).toNat = i.toNat + 1 by omega]; simp⟩
        simp only [slices_IndexFunc_int_int_181.l0, hg, Option.bind_some, wrap64_up h0 (by omega : i ≤ 4611686018427387904)]
        exact Ans.yes (by omega) (Ans.yes h0 (Ans.yes (by omega) (Ans.not c e)))
  obtain ⟨z, e, hz⟩ := key x.length 0 (by omega) (by omega)
  simp only [slices_ContainsFunc_int_int.f, slices_IndexFunc_int_int_181.f]
  have := e.bind (h := fun _ t => some (decide (t ≥ 0))) (Ans.pure (decide (z ≥ 0)))
  rwa [hz] at this
def allIn (x : List Int) (lo hi : Int) : Bool := x.all fun a => decide (lo ≤ a ∧ a ≤ hi)
theorem l1All (x : List Int) (hx : x.length ≤ 17592186044416) (lo hi : Int) : Ans (fun k => spec_l1All.f k x lo hi) (allIn x lo hi) := by
  have key : ∀ (d : Nat) (i : Int), 0 ≤ i → i + d = x.length → Ans (fun k => spec_l1All.l0 k lo hi x (x.length : Int) i) (allIn (x.drop i.toNat) lo hi) := by
    intro d
    induction d with
    | zero =>
      intro i h0 h1
      rw [List.drop_eq_nil_of_le (by omega)]; refine Ans.step ?_
      simp only [spec_l1All.l0]; exact Ans.not (by omega) (Ans.pure _)
    | succ d ih =>
      intro i h0 h1
      have hd := drop_at x 0 (show i.toNat < x.length by omega)
      have e := ih (i + 1) (by omega) (by omega)
      rw [hd, allIn, List.all_cons, show decide (lo ≤ x.getD i.toNat 0 ∧ x.getD i.toNat 0 ≤ hi) = decide (lo ≤ rd x i ∧ rd x i ≤ hi) from rfl]
      refine Ans.step ?_
      simp only [spec_l1All.l0, l1In, Option.bind_some, wrap64_up h0 (by omega : i ≤ 4611686018427387904)]
      refine Ans.yes (by omega) (Ans.yes h0 (Ans.yes (by omega) ?_))
      by_cases c : decide (lo ≤ rd x i ∧ rd x i ≤ hi) = true
      · rw [c, Bool.true_and]; rw [show (i + 1).toNat = i.toNat + 1 by omega] at e; exact Ans.yes rfl e
      · rw [Bool.eq_false_iff.mpr c, Bool.false_and]; exact Ans.not (by simp) (Ans.pure _)
  exact key x.length 0 (by omega) (by omega)
theorem areWithin (x : List Int) (hx : x.length ≤ 17592186044416) (lo hi : Int) : Ans (fun k => impl_areWithin.f k x lo hi) (allIn x lo hi) := by
  have e := containsI x hx (fun x0_ => impl_areWithin_1.f x0_ lo hi) (fun a => !decide (lo ≤ a ∧ a ≤ hi)) (fun a => by simp only [impl_areWithin_1.f, within, Option.bind_some])
  have := e.bind (h := fun _ t => some (!t)) (Ans.pure _)
  rw [List.not_any_eq_all_not] at this
  simp only [Bool.not_not] at this
  exact this
theorem LeO.far {α : Type} {g : Nat → Option α} {r : α} (h : ∀ k, LeO (g k) (g (k + 1))) (m : Nat) (e : g m = some r) : Ans g r :=
  ⟨m, fun k hk => by
    obtain ⟨j, rfl⟩ : ∃ j, k = m + j := ⟨k - m, by omega⟩
    clear hk
    induction j with
    | zero => exact e
    | succ j ih => exact h _ r ih⟩
def Good (x : List Int) : Prop := ∀ i : Int, 0 ≤ i → i < x.length → 0 ≤ rd x i ∧ rd x i < x.length ∧ rd x i ≠ i ∧ rd x (rd x i) = i
def Nest (x : List Int) : Prop := ∀ i : Int, 0 ≤ i → i < x.length → ∀ j : Int, i < j → j < rd x i → i + 1 ≤ rd x j ∧ rd x j ≤ rd x i - 1
def Pat (x : List Int) : Prop := x.length ≤ 12 ∧ 0 < x.length ∧ x.length % 2 = 0 ∧ Good x ∧ Nest x
theorem allIn_at {x : List Int} {lo hi : Int} (h : allIn x lo hi = true) (i : Int) (h0 : 0 ≤ i) (h1 : i < x.length) : lo ≤ rd x i ∧ rd x i ≤ hi := by
  have := List.all_eq_true.mp h (rd x i) (getD_mem 0 (by omega))
  simpa using this
theorem pairs (x : List Int) (hx : x.length ≤ 12) (hin : ∀ i : Int, 0 ≤ i → i < x.length → 0 ≤ rd x i ∧ rd x i ≤ (x.length : Int) - 1) : ∀ (d : Nat) (i : Int), 0 ≤ i → i + d = x.length →
    (∀ j : Int, 0 ≤ j → j < i → rd x j ≠ j ∧ rd x (rd x j) = j ∧ ∀ l : Int, j < l → l < rd x j → j + 1 ≤ rd x l ∧ rd x l ≤ rd x j - 1) →
    Two (fun k => spec_loIsPattern.l0 k x x (x.length : Int) i) (fun k => impl_IsPattern.l0 k x x (x.length : Int) i) (fun b => b = true → Good x ∧ Nest x) := by
  intro d
  induction d with
  | zero =>
    intro i h0 h1 hj
    refine Two.step ?_
    simp only [spec_loIsPattern.l0, impl_IsPattern.l0]
    refine Two.not (by omega) (Two.pure fun _ => ⟨fun j a b => ?_, fun j a b => (hj j a (by omega)).2.2⟩)
    have := hin j a b; have := hj j a (by omega)
    exact ⟨by omega, by omega, this.1, this.2.1⟩
  | succ d ih =>
    intro i h0 h1 hj
    have hi := hin i h0 (by omega)
    refine Two.step ?_
    simp only [spec_loIsPattern.l0, impl_IsPattern.l0]
    refine Two.yes (by omega) (Two.yes h0 (Two.yes (by omega) (Two.ite (fun c => ?_) (fun c => ?_))))
    · refine Two.step ?_
      simp only [spec_loIsPattern.j2, impl_IsPattern.j2]
      exact Two.yes (by simp) (Two.pure (by simp))
    · refine Two.yes hi.1 (Two.yes (by omega) (Two.step ?_))
      simp only [spec_loIsPattern.j2, impl_IsPattern.j2]
      refine Two.ite (fun _ => Two.pure (by simp)) (fun e => ?_)
      have e' : rd x (rd x i) = i := by simpa using e
      have nx := fun hn => ih (i + 1) (by omega) (by omega) (fun j a b => if q : j = i then q ▸ ⟨c, e', hn⟩ else hj j a (by omega))
      have inner : ∀ (m : Nat) (n : Int), 0 ≤ n → n ≤ 12 → (rd x i - n).toNat ≤ m → (∀ l : Int, i < l → l < n → l < rd x i → i + 1 ≤ rd x l ∧ rd x l ≤ rd x i - 1) →
          Two (fun k => spec_loIsPattern.l1 k x i (rd x i) n x (x.length : Int) i) (fun k => impl_IsPattern.l1 k x i (rd x i) n x (x.length : Int) i) (fun b => b = true → Good x ∧ Nest x) := by
        intro m
        induction m with
        | zero =>
          intro n n0 n1 hm hl
          refine Two.step ?_
          simp only [spec_loIsPattern.l1, impl_IsPattern.l1, wrap64_up h0 (by omega : i ≤ 4611686018427387904)]
          exact Two.not (by omega) (nx (fun l a b => hl l a (by omega) b))
        | succ m ihm =>
          intro n n0 n1 hm hl
          refine Two.step ?_
          simp only [spec_loIsPattern.l1, impl_IsPattern.l1, wrap64_up h0 (by omega : i ≤ 4611686018427387904), l1In, within, wrap64_in (rd x i - 1) ⟨by omega, by omega⟩]
          refine Two.ite (fun q => ?_) (fun _ => nx (fun l a b => hl l a (by omega) b))
          refine Two.yes n0 (Two.yes (by omega) (Two.bind (P := fun b => b = decide (i + 1 ≤ rd x n ∧ rd x n ≤ rd x i - 1)) ⟨_, rfl, Ans.pure _, Ans.pure _⟩ fun b hb => Two.ite (fun ht => ?_) (fun _ => Two.pure (by simp))))
          have hb' : i + 1 ≤ rd x n ∧ rd x n ≤ rd x i - 1 := of_decide_eq_true (hb.symm.trans ht)
          simp only [wrap64_up n0 (by omega : n ≤ 4611686018427387904)]
          exact ihm _ (by omega) (by omega) (by omega) (fun l a b e => if q : l = n then q ▸ hb' else hl l a (by omega) e)
      simp only [wrap64_up h0 (by omega : i ≤ 4611686018427387904)]
      exact inner _ _ (by omega) (by omega) (Nat.le_refl _) (fun l a b => by omega)
theorem isPattern (x : List Int) (hx : x.length ≤ 17592186044416) : Two (fun k => spec_loIsPattern.f k x) (fun k => impl_IsPattern.f k x) (fun b => b = true → Pat x) := by
  have no : Two (fun k => spec_loIsPattern.j0 k x true) (fun k => impl_IsPattern.j0 k x true) (fun b => b = true → Pat x) := by
    refine Two.step ?_
    simp only [spec_loIsPattern.j0, impl_IsPattern.j0]
    exact Two.yes (by simp) (Two.pure (by simp))
  simp only [spec_loIsPattern.f, impl_IsPattern.f, impl_isSide.f, l1In, within, wrap64_in ((x.length : Int) / 2) ⟨by omega, by omega⟩, Option.bind_some]
  refine Two.ite (fun _ => no) (fun c => Two.ite (fun b => ?_) (fun _ => no))
  have hb := of_decide_eq_true b
  have hw1 : wrap64 ((x.length : Int) - 1) = (x.length : Int) - 1 := wrap64_in _ ⟨by omega, by omega⟩
  simp only [hw1]
  refine Two.bind (Two.of (l1All x hx 0 ((x.length : Int) - 1)) (areWithin x hx 0 ((x.length : Int) - 1))) fun b hin => ?_
  cases b with
  | false => exact no
  | true =>
    refine Two.step ?_
    simp only [spec_loIsPattern.j0, impl_IsPattern.j0]
    refine Two.not (by simp) ((pairs x (by omega) (fun i a b => allIn_at hin.symm i a b) x.length 0 (by omega) (by omega) (fun j a b => by omega)).mono fun r h hr => ⟨by omega, by omega, by omega, h hr⟩)
/-- May v stand behind q in a pattern. -/
def okGo (i v : Nat) : Nat → List Nat → Bool
  | _, [] => true
  | j, a :: q => (!(a.beq i) || v.beq j) && !(v.beq a) && (a.ble i || (j.blt v && v.blt a)) && okGo i v (j + 1) q
def okN (q : List Nat) (v : Nat) : Bool := !(v.beq q.length) && (q.length.blt v || (q.getD v 0).beq q.length) && okGo q.length v 0 q
/-- The beginnings of patterns of m points. -/
def PN (m : Nat) : Nat → List (List Nat)
  | 0 => [[]]
  | d + 1 => (PN m d).flatMap fun q => ((List.range m).filter (okN q)).map fun v => q ++ [v]
def toZ (p : List Nat) : List Int := p.map fun (v : Nat) => (v : Int)
theorem toZ_len (p : List Nat) : (toZ p).length = p.length := by simp [toZ]
theorem toZ_rd (p : List Nat) (i : Nat) : rd (toZ p) i = ((p.getD i 0 : Nat) : Int) := by
  unfold rd toZ
  simp only [Int.toNat_natCast, List.getD_eq_getElem?_getD, List.getElem?_map]
  cases p[i]? <;> rfl
theorem okGo_of {i v : Nat} : ∀ (q : List Nat) (j : Nat), (∀ t, t < q.length → ((q.getD t 0 = i → v = j + t) ∧ v ≠ q.getD t 0 ∧ (q.getD t 0 ≤ i ∨ (j + t < v ∧ v < q.getD t 0)))) → okGo i v j q = true
  | [], _, _ => rfl
  | a :: q, j, h => by
    have h0 := h 0 (by simp)
    have hs := okGo_of q (j + 1) (fun t ht => by have := h (t + 1) (by simpa using ht); simp only [List.getD_cons_succ] at this; rw [show j + 1 + t = j + (t + 1) by omega]; exact this)
    simp only [List.getD_cons_zero, Nat.add_zero] at h0
    simp only [okGo, hs, Bool.and_true, Bool.and_eq_true, Bool.or_eq_true, Bool.not_eq_true']
    refine ⟨⟨?_, ?_⟩, ?_⟩
    · by_cases e : a = i
      · exact .inr (by rw [h0.1 e]; exact Nat.beq_refl j)
      · exact .inl (Bool.eq_false_iff.mpr (fun h => e (Nat.eq_of_beq_eq_true h)))
    · exact Bool.eq_false_iff.mpr (fun h => h0.2.1 (Nat.eq_of_beq_eq_true h))
    · rcases h0.2.2 with h | h
      · exact .inl (Nat.ble_eq_true_of_le h)
      · exact .inr ⟨Nat.ble_eq_true_of_le h.1, Nat.ble_eq_true_of_le h.2⟩
theorem PN_mem {x : List Int} (h : Pat x) : ∃ y ∈ PN x.length x.length, x = toZ y := by
  obtain ⟨_, _, _, hg, hn⟩ := h
  have hx : x = toZ (x.map Int.toNat) := by
    refine List.ext_getElem (by simp [toZ]) fun m h1 h2 => ?_
    have := hg m (by omega) (by omega)
    unfold rd at this
    rw [Int.toNat_natCast, getD_at _ _ h1] at this
    simp only [toZ, List.getElem_map]
    omega
  have hv : ∀ t, t < x.length → ((x.map Int.toNat).getD t 0 : Int) = rd x t := fun t ht => by
    have e : rd (toZ (x.map Int.toNat)) t = rd x t := by rw [← hx]
    rw [← e, toZ_rd]
  refine ⟨x.map Int.toNat, ?_, hx⟩
  have key : ∀ d, d ≤ x.length → (x.map Int.toNat).take d ∈ PN x.length d := by
    intro d
    induction d with
    | zero => intro _; simp [PN]
    | succ d ih =>
      intro hd
      have hl : ((x.map Int.toNat).take d).length = d := by simp; omega
      have gd := hg d (by omega) (by omega)
      have ed := hv d (by omega)
      rw [PN, List.mem_flatMap]
      refine ⟨(x.map Int.toNat).take d, ih (by omega), List.mem_map.mpr ⟨(x.map Int.toNat).getD d 0, List.mem_filter.mpr ⟨by rw [List.mem_range]; omega, ?_⟩, (take_up (x.map Int.toNat) 0 (by simp; omega)).symm⟩⟩
      have tk : ∀ t, t < d → ((x.map Int.toNat).take d).getD t 0 = (x.map Int.toNat).getD t 0 := fun t ht => by simp [List.getD_eq_getElem?_getD, List.getElem?_take, ht]
      unfold okN
      rw [hl, Bool.and_eq_true, Bool.and_eq_true, Bool.or_eq_true]
      refine ⟨⟨?_, ?_⟩, okGo_of _ _ fun t ht => ?_⟩
      · rw [Bool.not_eq_true']; exact Bool.eq_false_iff.mpr (fun h => by have := Nat.eq_of_beq_eq_true h; omega)
      · by_cases c : d < (x.map Int.toNat).getD d 0
        · exact .inl (Nat.ble_eq_true_of_le c)
        · right
          rw [tk _ (by omega)]
          have e2 := hv ((x.map Int.toNat).getD d 0) (by omega)
          rw [ed, gd.2.2.2] at e2
          rw [show (x.map Int.toNat).getD ((x.map Int.toNat).getD d 0) 0 = d by omega]
          exact Nat.beq_refl d
      · rw [hl] at ht
        rw [tk t ht, Nat.zero_add]
        have gt := hg t (by omega) (by omega)
        have et := hv t (by omega)
        have h2 := gd.2.2.2
        have h3 := gt.2.2.2
        refine ⟨fun e => ?_, fun e => ?_, ?_⟩
        · rw [show rd x t = (d : Int) by omega] at h3; omega
        · rw [show rd x t = rd x d by omega, h2] at h3; omega
        · by_cases c : (x.map Int.toNat).getD t 0 ≤ d
          · exact .inl c
          · have := hn t (by omega) (by omega) d (by omega) (by omega)
            right; omega
  have := key x.length (Nat.le_refl _)
  rwa [List.take_of_length_le (by simp)] at this
theorem l1Own (x : List Int) (h : x.length ≤ 1048576) : spec_l1Own.f x = some x := by
  simp only [spec_l1Own.f, Option.bind_some, List.length_nil, List.nil_append]
  rw [if_pos (by omega)]
/-- The reader of draws: from place a on, at most n places on. -/
theorem draw_next (c : List Int) (hc : ∀ x ∈ c, (Lit.int .u8 x).wf = true) (a s : Int) (h0 : 0 ≤ a) (h1 : a ≤ 2305843009213693952) : ∃ b s', spec_l1Cur_next.f c a s = some (b, a + 1, s') ∧ 0 ≤ b ∧ b ≤ 255 := by
  have hw : wrap64 (a + 1) = a + 1 := wrap64_in _ ⟨by omega, by omega⟩
  simp only [spec_l1Cur_next.f, hw]
  by_cases c1 : a < (c.length : Int)
  · have hr := byte_wf (hc (rd c a) (getD_mem 0 (by omega)))
    have hw2 : wrap64 (rd c a) = rd c a := wrap64_in _ ⟨by omega, by omega⟩
    rw [if_pos c1, if_pos h0, if_pos (by omega)]
    exact ⟨_, _, rfl, by rw [hw2]; exact hr.1, by rw [hw2]; exact hr.2⟩
  · rw [if_neg c1, if_neg (by omega)]
    exact ⟨_, _, rfl, (byte_and _).1, (byte_and _).2⟩
theorem tmod_in {x n : Int} (h : 0 ≤ x) (hn : 1 < n) : 0 ≤ Int.tmod x n ∧ Int.tmod x n < n := ⟨Int.tmod_nonneg _ h, Int.tmod_lt_of_pos _ (by omega)⟩
theorem draw_pick (c : List Int) (hc : ∀ x ∈ c, (Lit.int .u8 x).wf = true) (a s n : Int) (h0 : 0 ≤ a) (h1 : a ≤ 1152921504606846976) : ∃ v a' s', spec_l1Cur_pick.f c a s n = some (v, a', s') ∧ a ≤ a' ∧ a' ≤ a + 2 ∧ 0 ≤ v ∧ (v < n ∨ v = 0) := by
  simp only [spec_l1Cur_pick.f]
  by_cases c1 : n ≤ 1
  · rw [if_pos c1]; exact ⟨_, _, _, rfl, by omega, by omega, by omega, by omega⟩
  · rw [if_neg c1]
    obtain ⟨b, s1, e1, b0, b1⟩ := draw_next c hc a s h0 (by omega)
    rw [e1]; simp only [Option.bind_some]
    by_cases c2 : n > 200
    · rw [if_pos c2]
      obtain ⟨b', s2, e2, b0', b1'⟩ := draw_next c hc (a + 1) s1 (by omega) (by omega)
      rw [e2]; simp only [Option.bind_some]
      rw [if_neg (by omega), wrap64_in (b * 256) ⟨by omega, by omega⟩, wrap64_in (b * 256 + b') ⟨by omega, by omega⟩]
      have := tmod_in (x := b * 256 + b') (n := n) (by omega) (by omega)
      exact ⟨_, _, _, rfl, by omega, by omega, this.1, .inl this.2⟩
    · rw [if_neg c2, if_neg (by omega)]
      have := tmod_in (x := b) (n := n) (by omega) (by omega)
      exact ⟨_, _, _, rfl, by omega, by omega, this.1, .inl this.2⟩
theorem draw_one (c : List Int) (hc : ∀ x ∈ c, (Lit.int .u8 x).wf = true) (a s n : Int) (h0 : 0 ≤ a) (h1 : a ≤ 1152921504606846976) : ∃ v a' s', spec_l1Cur_one.f c a s n = some (v, a', s') ∧ a ≤ a' ∧ a' ≤ a + 2 := by
  obtain ⟨v, a', s', e, h2, h3, _⟩ := draw_pick c hc a s n h0 h1
  simp only [spec_l1Cur_one.f, e, Option.bind_some]
  exact ⟨_, _, _, rfl, h2, h3⟩
theorem draw_among (c : List Int) (hc : ∀ x ∈ c, (Lit.int .u8 x).wf = true) (a s : Int) (l : List Int) (hl : 0 < l.length) (h0 : 0 ≤ a) (h1 : a ≤ 1152921504606846976) : ∃ v a' s', spec_l1Cur_among.f c a s l = some (v, a', s') ∧ a ≤ a' ∧ a' ≤ a + 2 ∧ v ∈ l := by
  obtain ⟨v, a', s', e, h2, h3, h4, h5⟩ := draw_pick c hc a s (l.length : Int) h0 h1
  simp only [spec_l1Cur_among.f, e, Option.bind_some]
  rw [if_pos h4, if_pos (by omega)]
  exact ⟨_, _, _, rfl, h2, h3, getD_mem 0 (by omega)⟩
theorem push_size (s t : ByteArray) : (s ++ t).size = s.size + t.size := ByteArray.size_append
theorem parse_ans (s : ByteArray) : ∃ p b, Ans (fun k => spec_ParsePattern.f k s) (p, b) ∧ p.length ≤ s.size := by
  simp only [spec_ParsePattern.f]
  by_cases c : (s.size : Int) > 12
  · exact ⟨_, _, Ans.yes c (Ans.pure _), by simp⟩
  have key : ∀ (d : Nat) (i : Int) (x o : List Int), 0 ≤ i → i + d = s.size → x.length = s.size → o.length ≤ i → (∀ v ∈ o, 0 ≤ v ∧ v < s.size) → ∃ p b, Ans (fun k => spec_ParsePattern.l0 k s x o i) (p, b) ∧ p.length ≤ s.size := by
    intro d
    induction d with
    | zero =>
      intro i x o h0 h1 hx ho hv
      by_cases c1 : (o.length : Int) > 0
      · exact ⟨_, _, Ans.step (by simp only [spec_ParsePattern.l0]; exact Ans.not (by omega) (Ans.yes c1 (Ans.pure _))), by simp⟩
      · obtain ⟨b, _, e, _⟩ := isPattern x (by omega)
        cases b with
        | true => exact ⟨x, true, Ans.step (by simp only [spec_ParsePattern.l0]; exact Ans.not (by omega) (Ans.not c1 (e.bind (Ans.yes rfl (Ans.pure _))))), by omega⟩
        | false => exact ⟨[], false, Ans.step (by simp only [spec_ParsePattern.l0]; exact Ans.not (by omega) (Ans.not c1 (e.bind (Ans.not (by simp) (Ans.pure _))))), by simp⟩
    | succ d ih =>
      intro i x o h0 h1 hx ho hv
      have hw : wrap64 (i + 1) = i + 1 := wrap64_in _ ⟨by omega, by omega⟩
      by_cases c1 : bt s i = 40
      · obtain ⟨p, b, e, hp⟩ := ih (i + 1) x (o ++ [i]) (by omega) (by omega) hx (by simp; omega) (by
          intro v hv'; rcases List.mem_append.1 hv' with h | h
          · exact hv v h
          · simp at h; omega)
        refine ⟨p, b, Ans.step ?_, hp⟩
        simp only [spec_ParsePattern.l0, hw]
        exact Ans.yes (by omega) (Ans.yes h0 (Ans.yes c1 (Ans.yes (by omega) e)))
      · by_cases c2 : bt s i = 41
        · by_cases c3 : (o.length : Int) > 0
          · have hw2 : wrap64 ((o.length : Int) - 1) = (o.length : Int) - 1 := wrap64_in _ ⟨by omega, by omega⟩
            have hr := hv (rd o ((o.length : Int) - 1)) (getD_mem 0 (by omega))
            obtain ⟨p, b, e, hp⟩ := ih (i + 1) ((x.set i.toNat (rd o ((o.length : Int) - 1))).set (rd o ((o.length : Int) - 1)).toNat i) (o.take ((o.length : Int) - 1).toNat) (by omega) (by omega) (by simp [hx]) (by simp; omega) (fun v hv' => hv v (List.mem_of_mem_take hv'))
            refine ⟨p, b, Ans.step ?_, hp⟩
            simp only [spec_ParsePattern.l0, hw, hw2]
            exact Ans.yes (by omega) (Ans.yes h0 (Ans.not c1 (Ans.yes c2 (Ans.yes c3 (Ans.yes (by omega) (Ans.yes (by omega) (Ans.yes (by omega) (Ans.yes (by omega) (Ans.yes hr.1 (Ans.yes (by omega) e))))))))))
          · exact ⟨_, _, Ans.step (by simp only [spec_ParsePattern.l0]; exact Ans.yes (by omega) (Ans.yes h0 (Ans.not c1 (Ans.yes c2 (Ans.not c3 (Ans.pure _)))))), by simp⟩
        · exact ⟨_, _, Ans.step (by simp only [spec_ParsePattern.l0]; exact Ans.yes (by omega) (Ans.yes h0 (Ans.not c1 (Ans.not c2 (Ans.pure _))))), by simp⟩
  obtain ⟨p, b, e, hp⟩ := key s.size 0 (List.replicate ((s.size : Int) : Int).toNat 0) [] (by omega) (by omega) (by simp) (by simp) (by simp)
  exact ⟨p, b, Ans.not c (Ans.yes (by omega) (Ans.yes (by omega) e)), hp⟩
theorem draw_pattern (c : List Int) (hc : ∀ x ∈ c, (Lit.int .u8 x).wf = true) (a s m : Int) (h0 : 0 ≤ a) (h1 : a ≤ 1000000000) (hm : 1 ≤ m) (hm2 : m ≤ 6) :
    ∃ p a' s', Ans (fun k => spec_l1Cur_pattern.f k c a s m) (p, a', s') ∧ a ≤ a' ∧ a' ≤ a + 100 ∧ (p.length : Int) ≤ 2 * m + 1 := by
  have tail : ∀ (y : List Int) (a s n : Int), 0 ≤ a → a ≤ 1000000000 + n → n ≤ 1000 → (y.length : Int) ≤ 2 * m → ∃ p a' s', spec_l1Cur_one.f c a s 20 = spec_l1Cur_one.f c a s 20 ∧
      ((spec_l1Cur_one.f c a s 20).bind fun bt => if bt.1 = true then (if y.length < 17592186044416 then some ((y ++ [0]), bt.2.1, bt.2.2) else none) else some (y, bt.2.1, bt.2.2)) = some (p, a', s') ∧ a ≤ a' ∧ a' ≤ a + 2 ∧ (p.length : Int) ≤ 2 * m + 1 := by
    intro y a s n h0 h1 hn hy
    obtain ⟨v, a', s', e, h2, h3⟩ := draw_one c hc a s 20 h0 (by omega)
    rw [e]; simp only [Option.bind_some]
    cases v with
    | true => rw [if_pos rfl, if_pos (by omega)]; exact ⟨_, _, _, trivial, rfl, h2, h3, by simp; omega⟩
    | false => rw [if_neg (by simp)]; exact ⟨_, _, _, trivial, rfl, h2, h3, by omega⟩
  have spoil : ∀ (y : List Int) (b : Bool) (a s n : Int), 0 ≤ a → a ≤ 1000000000 + n → n ≤ 900 → (y.length : Int) ≤ 2 * m → (b = true → 0 < y.length) → ∃ p a' s', Ans (fun k => spec_l1Cur_pattern.j1 k y b c a s) (p, a', s') ∧ a ≤ a' ∧ a' ≤ a + 6 ∧ (p.length : Int) ≤ 2 * m + 1 := by
    intro y b a s n h0 h1 hn hy hb
    cases b with
    | true =>
      obtain ⟨v, a1, s1, e1, p1, q1, v0, v1⟩ := draw_pick c hc a s (y.length : Int) h0 (by omega)
      obtain ⟨u, a2, s2, e2, p2, q2, _⟩ := draw_among c hc a1 s1 [-1, 0, 1, (y.length : Int), 4611686018427387904] (by simp) (by omega) (by omega)
      obtain ⟨p, a3, s3, _, e3, p3, q3, hp⟩ := tail (y.set v.toNat u) a2 s2 (n + 4) (by omega) (by omega) (by omega) (by simpa using hy)
      have hb := hb rfl
      refine ⟨p, a3, s3, Ans.step ?_, by omega, by omega, hp⟩
      simp only [spec_l1Cur_pattern.j1, e1, e2, Option.bind_some]
      exact Ans.yes trivial (Ans.yes v0 (Ans.yes (by omega) (Ans.const e3)))
    | false =>
      obtain ⟨p, a3, s3, _, e3, p3, q3, hp⟩ := tail y a s n (by omega) (by omega) (by omega) hy
      refine ⟨p, a3, s3, Ans.step ?_, by omega, by omega, hp⟩
      simp only [spec_l1Cur_pattern.j1]
      exact Ans.not (by simp) (Ans.const e3)
  have loop : ∀ (d : Nat) (t : ByteArray) (o l a s n : Int), 0 ≤ o → 0 ≤ l → 2 * l + o = d → (t.size : Int) + d ≤ 2 * m → 0 ≤ a → a ≤ 1000000000 + n → n + 2 * d ≤ 60 →
      ∃ p a' s', Ans (fun k => spec_l1Cur_pattern.l0 k t o l c a s) (p, a', s') ∧ a ≤ a' ∧ a' ≤ a + 2 * d + 10 ∧ (p.length : Int) ≤ 2 * m + 1 := by
    intro d
    induction d with
    | zero =>
      intro t o l a s n ho hl hd ht h0 h1 hn
      obtain ⟨q, b, e, hq⟩ := parse_ans t
      obtain ⟨v, a1, s1, e1, p1, q1⟩ := draw_one c hc a s 12 h0 (by omega)
      have hown : spec_l1Own.f q = some q := l1Own q (by omega)
      have hw : wrap64 (o + l) = 0 := by rw [wrap64_in _ ⟨by omega, by omega⟩]; omega
      cases v with
      | true =>
        obtain ⟨p, a', s', e2, p2, q2, hp⟩ := spoil q (decide ((q.length : Int) > 0)) a1 s1 (n + 2) (by omega) (by omega) (by omega) (by omega) (by simp)
        refine ⟨p, a', s', Ans.step ?_, by omega, by omega, hp⟩
        simp only [spec_l1Cur_pattern.l0, hw]
        refine Ans.not (by omega) (e.bind ?_)
        simp only [hown, e1, Option.bind_some]
        exact Ans.yes trivial e2
      | false =>
        obtain ⟨p, a', s', e2, p2, q2, hp⟩ := spoil q false a1 s1 (n + 2) (by omega) (by omega) (by omega) (by omega) (by simp)
        refine ⟨p, a', s', Ans.step ?_, by omega, by omega, hp⟩
        simp only [spec_l1Cur_pattern.l0, hw]
        refine Ans.not (by omega) (e.bind ?_)
        simp only [hown, e1, Option.bind_some]
        exact Ans.not (by simp) e2
    | succ d ih =>
      intro t o l a s n ho hl hd ht h0 h1 hn
      have hw : wrap64 (o + l) = o + l := wrap64_in _ ⟨by omega, by omega⟩
      have hw1 : wrap64 (o + 1) = o + 1 := wrap64_in _ ⟨by omega, by omega⟩
      have hw2 : wrap64 (l - 1) = l - 1 := wrap64_in _ ⟨by omega, by omega⟩
      have hw3 : wrap64 (o - 1) = o - 1 := wrap64_in _ ⟨by omega, by omega⟩
      have sz (x : UInt8) : ((t ++ (⟨#[x]⟩ : ByteArray)).size : Int) = t.size + 1 := by rw [push_size]; rfl
      by_cases c1 : l > 0
      · by_cases c2 : o = 0
        · obtain ⟨p, a', s', e, p1, q1, hp⟩ := ih (t ++ (⟨#[40]⟩ : ByteArray)) (o + 1) (l - 1) a s n (by omega) (by omega) (by omega) (by rw [sz]; omega) h0 h1 (by omega)
          refine ⟨p, a', s', Ans.step ?_, by omega, by omega, hp⟩
          simp only [spec_l1Cur_pattern.l0, hw, hw1, hw2]
          exact Ans.yes (by omega) (Ans.yes c1 (Ans.yes c2 (Ans.yes (by omega) e)))
        · obtain ⟨v, a1, s1, e1, p1, q1⟩ := draw_one c hc a s 2 h0 (by omega)
          cases v with
          | true =>
            obtain ⟨p, a', s', e, p2, q2, hp⟩ := ih (t ++ (⟨#[40]⟩ : ByteArray)) (o + 1) (l - 1) a1 s1 (n + 2) (by omega) (by omega) (by omega) (by rw [sz]; omega) (by omega) (by omega) (by omega)
            refine ⟨p, a', s', Ans.step ?_, by omega, by omega, hp⟩
            simp only [spec_l1Cur_pattern.l0, hw, hw1, hw2, e1, Option.bind_some]
            exact Ans.yes (by omega) (Ans.yes c1 (Ans.not c2 (Ans.yes trivial (Ans.yes (by omega) e))))
          | false =>
            obtain ⟨p, a', s', e, p2, q2, hp⟩ := ih (t ++ (⟨#[41]⟩ : ByteArray)) (o - 1) l a1 s1 (n + 2) (by omega) (by omega) (by omega) (by rw [sz]; omega) (by omega) (by omega) (by omega)
            refine ⟨p, a', s', Ans.step ?_, by omega, by omega, hp⟩
            simp only [spec_l1Cur_pattern.l0, hw, hw1, hw3, e1, Option.bind_some]
            exact Ans.yes (by omega) (Ans.yes c1 (Ans.not c2 (Ans.not (by simp) (Ans.yes (by omega) e))))
      · obtain ⟨p, a', s', e, p1, q1, hp⟩ := ih (t ++ (⟨#[41]⟩ : ByteArray)) (o - 1) l a s n (by omega) (by omega) (by omega) (by rw [sz]; omega) h0 h1 (by omega)
        refine ⟨p, a', s', Ans.step ?_, by omega, by omega, hp⟩
        simp only [spec_l1Cur_pattern.l0, hw, hw3]
        exact Ans.yes (by omega) (Ans.not c1 (Ans.yes (by omega) e))
  obtain ⟨v, a1, s1, e1, p1, q1, v0, v1⟩ := draw_pick c hc a s m h0 (by omega)
  have hw : wrap64 (1 + v) = 1 + v := wrap64_in _ ⟨by omega, by omega⟩
  obtain ⟨p, a', s', e, p2, q2, hp⟩ := loop (2 * (1 + v)).toNat ⟨#[]⟩ 0 (1 + v) a1 s1 2 (by omega) (by omega) (by omega) (by have : (ByteArray.size ⟨#[]⟩ : Int) = 0 := rfl; omega) (by omega) (by omega) (by omega)
  refine ⟨p, a', s', ?_, by omega, by omega, hp⟩
  simp only [spec_l1Cur_pattern.f, e1, Option.bind_some, hw]
  exact e
theorem big_ans (c m : List Int) : ∃ b, laws_big.f c m = some b := by
  simp only [laws_big.f]
  split
  · exact ⟨_, rfl⟩
  · exact ⟨_, rfl⟩
theorem hSame (x y : List Int) (hx : x.length ≤ 17592186044416) : Ans (fun k => laws_hSame.f k x y) (decide (x = y)) := by
  simp only [laws_hSame.f]
  by_cases hl : (x.length : Int) = (y.length : Int)
  · refine Ans.yes hl ?_
    have key : ∀ (d : Nat) (i : Int), 0 ≤ i → i + d = x.length → Ans (fun k => laws_hSame.l0 k x y (x.length : Int) i) (decide (x.drop i.toNat = y.drop i.toNat)) := by
      intro d
      induction d with
      | zero =>
        intro i h0 h1
        refine Ans.step ?_
        simp only [laws_hSame.l0]
        rw [drop_all x (by omega), drop_all y (by omega)]
        exact Ans.not (by omega) (Ans.pure _)
      | succ d ih =>
        intro i h0 h1
        refine Ans.step ?_
        simp only [laws_hSame.l0]
        refine Ans.yes (by omega) (Ans.yes h0 (Ans.yes (by omega) (Ans.yes (by omega) ?_)))
        rw [drop_at x 0 (show i.toNat < x.length by omega), drop_at y 0 (show i.toNat < y.length by omega)]
        by_cases c : rd x i = rd y i
        · have e := ih (i + 1) (by omega) (by omega)
          rw [wrap64_in (i + 1) ⟨by omega, by omega⟩]
          rw [show (i + 1).toNat = i.toNat + 1 by omega] at e
          refine Ans.yes c ?_
          rw [show x.getD i.toNat 0 = y.getD i.toNat 0 from c]
          simpa using e
        · refine Ans.not c ?_
          rw [show decide (x.getD i.toNat 0 :: x.drop (i.toNat + 1) = y.getD i.toNat 0 :: y.drop (i.toNat + 1)) = false from decide_eq_false (fun h => c (by injection h))]
          exact Ans.pure _
    exact key x.length 0 (by omega) (by omega)
  · refine Ans.not hl ?_
    rw [decide_eq_false (fun h => hl (by rw [h]))]
    exact Ans.pure _
def eqN : List Nat → List Nat → Bool
  | [], [] => true
  | a :: p, b :: q => a.beq b && eqN p q
  | _, _ => false
theorem eqN_eq : ∀ {p q : List Nat}, eqN p q = true → p = q
  | [], [], _ => rfl
  | [], _ :: _, h => by simp [eqN] at h
  | _ :: _, [], h => by simp [eqN] at h
  | a :: p, b :: q, h => by simp only [eqN, Bool.and_eq_true] at h; rw [Nat.eq_of_beq_eq_true h.1, eqN_eq h.2]
theorem hRows (x : List (List Int)) (hx : x.length ≤ 1000000) (hr : ∀ r ∈ x, r.length ≤ 1000000) : Ans (fun k => laws_hRows.f k x x) true := by
  simp only [laws_hRows.f]
  refine Ans.yes trivial ?_
  have key : ∀ (d : Nat) (i : Int), 0 ≤ i → i + d = x.length → Ans (fun k => laws_hRows.l0 k x x (x.length : Int) i) true := by
    intro d
    induction d with
    | zero => intro i h0 h1; exact Ans.step (by simp only [laws_hRows.l0]; exact Ans.not (by omega) (Ans.pure _))
    | succ d ih =>
      intro i h0 h1
      have e := hSame (rd_L1 x i) (rd_L1 x i) (by have := hr _ (rd_L1_mem h0 (show i < x.length by omega)); omega)
      rw [decide_eq_true rfl] at e
      refine Ans.step ?_
      simp only [laws_hRows.l0, wrap64_in (i + 1) ⟨by omega, by omega⟩]
      exact Ans.yes (by omega) (Ans.yes h0 (Ans.yes (by omega) (Ans.yes (by omega) (e.bind (Ans.yes rfl (ih _ (by omega) (by omega)))))))
  exact key x.length 0 (by omega) (by omega)
/-- The patterns of 2 n points. -/
def PS (n : Nat) : List (List Nat) := PN (2 * n) (2 * n)
theorem PS_mem {x : List Int} (h : Pat x) (n : Nat) (hn : x.length = 2 * n) : ∃ y ∈ PS n, x = toZ y := by
  obtain ⟨y, hy, e⟩ := PN_mem h
  rw [hn] at hy
  exact ⟨y, hy, e⟩
def txt (p : List Nat) : ByteArray := ⟨((List.range p.length).map fun e => if Nat.ble (p.getD e 0) e then (41 : UInt8) else 40).toArray⟩
def mr (p : List Nat) : List Nat := (List.range p.length).map fun e => p.length - 1 - p.getD (p.length - 1 - e) 0
def chkA (n : Nat) : Bool := (PS n).all fun p => Nat.beq p.length (2 * n) && decide (impl_IsPattern.f 100 (toZ p) = some true) && decide (spec_loIsPattern.f 100 (toZ p) = some true) && decide (impl_PatternText.f 100 (toZ p) = some (txt p, true)) && decide (spec_PatternText.f 100 (toZ p) = some (txt p, true)) &&
  decide (impl_ParsePattern.f 150 (txt p) = some (toZ p, true)) && decide (impl_MirrorPattern.f 100 (toZ p) = some (toZ (mr p), true)) && decide (spec_MirrorPattern.f 100 (toZ p) = some (toZ (mr p), true)) && (PS n).contains (mr p) && eqN (mr (mr p)) p
theorem chkA_all : ∀ n : Nat, 1 ≤ n → n ≤ 6 → chkA n = true := by
  intro n h1 h2
  rcases (show n = 1 ∨ n = 2 ∨ n = 3 ∨ n = 4 ∨ n = 5 ∨ n = 6 by omega) with rfl | rfl | rfl | rfl | rfl | rfl
  all_goals decide +kernel
def bys : List Int := [0, 1, (-1), 2, 7, 100, (-100)]
def tz (p : List Nat) (by_ : Int) : List Int := (spec_loTurn.f 60 (toZ p) by_).getD []
def chkT (n : Nat) : Bool := (PS n).all fun p => decide (impl_TurnPattern.f 60 (toZ p) (2 * n : Nat) = some (toZ p, true)) && decide (impl_TurnPattern.f 60 (toZ p) 101 = some ([], false)) && decide (spec_TurnPattern.f 60 (toZ p) 101 = some ([], false)) &&
  bys.all fun b => decide (impl_TurnPattern.f 60 (toZ p) b = some (tz p b, true)) && decide (spec_TurnPattern.f 60 (toZ p) b = some (tz p b, true)) && decide ((tz p b).length ≤ 12) && decide (impl_IsPattern.f 60 (tz p b) = some true) && decide (impl_TurnPattern.f 60 (tz p b) (wrap64 (-b)) = some (toZ p, true))
theorem chkT_all : ∀ n : Nat, 1 ≤ n → n ≤ 5 → chkT n = true := by
  intro n h1 h2
  rcases (show n = 1 ∨ n = 2 ∨ n = 3 ∨ n = 4 ∨ n = 5 by omega) with rfl | rfl | rfl | rfl | rfl
  all_goals decide +kernel
/-- All patterns, as the reference lists them. -/
def LL (n : Nat) : List (List Int) := (spec_loAll.f 400 n 0).getD []
def chkL (n : Nat) : Bool := decide (spec_loAll.f 400 n 0 = some (LL n)) && decide (impl_patterns.f 400 n = some (LL n)) && decide (spec_CountPatterns.f 60 n = some (((LL n).length : Int), true)) && decide ((LL n).length ≤ 132) && (LL n).all (fun x => decide (x.length ≤ 12)) &&
  (List.range (LL n).length).all fun i => decide (impl_IsPattern.f 100 ((LL n).getD i []) = some true) && (Nat.beq i 0 || decide (laws_hLess.f 60 [(LL n).getD (i - 1) []] [(LL n).getD i []] = some true))
theorem chkL1 : chkL 1 = true := by decide +kernel
theorem chkL2 : chkL 2 = true := by decide +kernel
theorem chkL3 : chkL 3 = true := by decide +kernel
theorem chkL4 : chkL 4 = true := by decide +kernel
theorem chkL5 : chkL 5 = true := by decide +kernel
theorem chkL6 : chkL 6 = true := by decide +kernel
theorem PS_at {n : Nat} (h1 : 1 ≤ n) (h2 : n ≤ 6) {p : List Nat} (hp : p ∈ PS n) : p.length = 2 * n ∧ Ans (fun k => impl_IsPattern.f k (toZ p)) true ∧ Ans (fun k => spec_loIsPattern.f k (toZ p)) true ∧ Ans (fun k => impl_PatternText.f k (toZ p)) (txt p, true) ∧ Ans (fun k => spec_PatternText.f k (toZ p)) (txt p, true) ∧
    Ans (fun k => impl_ParsePattern.f k (txt p)) (toZ p, true) ∧ Ans (fun k => impl_MirrorPattern.f k (toZ p)) (toZ (mr p), true) ∧ Ans (fun k => spec_MirrorPattern.f k (toZ p)) (toZ (mr p), true) ∧ mr p ∈ PS n ∧ mr (mr p) = p := by
  have h := List.all_eq_true.mp (chkA_all n h1 h2) p hp
  simp only [Bool.and_eq_true, decide_eq_true_eq] at h
  obtain ⟨⟨⟨⟨⟨⟨⟨⟨⟨a, b⟩, c⟩, d⟩, e⟩, f⟩, g⟩, i⟩, j⟩, l⟩ := h
  exact ⟨Nat.eq_of_beq_eq_true a, LeO.far (fun k => impl_IsPattern.mono _ k) 100 b, LeO.far (fun k => spec_loIsPattern.mono _ k) 100 c, LeO.far (fun k => impl_PatternText.mono _ k) 100 d, LeO.far (fun k => spec_PatternText.mono _ k) 100 e,
    LeO.far (fun k => impl_ParsePattern.mono _ k) 150 f, LeO.far (fun k => impl_MirrorPattern.mono _ k) 100 g, LeO.far (fun k => spec_MirrorPattern.mono _ k) 100 i, List.contains_iff_mem.mp j, eqN_eq l⟩
/-- A pattern, or none. -/
theorem pat_or (x : List Int) (hx : x.length ≤ 1000) : (Ans (fun k => impl_IsPattern.f k x) false ∧ Ans (fun k => spec_loIsPattern.f k x) false) ∨ ∃ n p, 1 ≤ n ∧ n ≤ 6 ∧ p ∈ PS n ∧ x = toZ p := by
  obtain ⟨b, hb, e1, e2⟩ := isPattern x (by omega)
  cases b with
  | false => exact .inl ⟨e2, e1⟩
  | true =>
    have hp := hb rfl
    have a1 := hp.1; have a2 := hp.2.1; have a3 := hp.2.2.1
    obtain ⟨y, hy, e⟩ := PS_mem hp (x.length / 2) (by omega)
    exact .inr ⟨x.length / 2, y, by omega, by omega, hy, e⟩
theorem txt_size (p : List Nat) : (txt p).size = p.length := by
  show ((List.range p.length).map _).toArray.size = p.length
  simp
theorem txt_bt (p : List Nat) (e : Nat) (he : e < p.length) : bt (txt p) e = if p.getD e 0 ≤ e then 41 else 40 := by
  have hs := txt_size p
  unfold bt
  rw [dif_pos (by rw [Int.toNat_natCast, hs]; exact he)]
  show (((((List.range p.length).map fun e => if Nat.ble (p.getD e 0) e then (41 : UInt8) else 40).toArray[((e : Int)).toNat]'_).toNat : Nat) : Int) = _
  simp only [Int.toNat_natCast, List.getElem_toArray, List.getElem_map, List.getElem_range]
  by_cases c : p.getD e 0 ≤ e
  · rw [if_pos c, if_pos (Nat.ble_eq_true_of_le c)]; rfl
  · rw [if_neg c, if_neg (fun h => c (Nat.le_of_ble_eq_true h))]; rfl
theorem bytes_ext {s t : ByteArray} (hs : s.size = t.size) (h : ∀ e : Nat, e < s.size → bt s e = bt t e) : s = t := by
  refine ByteArray.ext (Array.ext hs fun i h1 h2 => ?_)
  have := h i h1
  unfold bt at this
  rw [dif_pos (by rw [Int.toNat_natCast]; exact h1), dif_pos (by rw [Int.toNat_natCast]; exact h2)] at this
  simp only [Int.toNat_natCast] at this
  exact UInt8.toNat_inj.mp (by exact_mod_cast this)
/-- What both tell of a text. -/
theorem parse (t : ByteArray) (ht : t.size ≤ 12) : ∃ y b, Ans (fun k => impl_ParsePattern.f k t) (y, b) ∧ Ans (fun k => spec_ParsePattern.f k t) (y, b) ∧ y.length ≤ 12 ∧ (b = true → ∃ n p, 1 ≤ n ∧ n ≤ 6 ∧ p ∈ PS n ∧ y = toZ p ∧ txt p = t) := by
  simp only [impl_ParsePattern.f, spec_ParsePattern.f]
  have key : ∀ (d : Nat) (i : Int) (x o : List Int), 0 ≤ i → i + d = t.size → x.length = t.size → o.length ≤ i → (∀ v ∈ o, 0 ≤ v ∧ v < i) →
      (∀ j : Int, 0 ≤ j → j < i → (bt t j = 40 ∧ (j ∈ o ∨ j < rd x j)) ∨ (bt t j = 41 ∧ rd x j < j)) → (∀ v ∈ o, bt t v = 40) →
      ∃ y b, Ans (fun k => impl_ParsePattern.l0 k t x o (t.size : Int) i) (y, b) ∧ Ans (fun k => spec_ParsePattern.l0 k t x o i) (y, b) ∧ y.length ≤ 12 ∧ (b = true → ∃ n p, 1 ≤ n ∧ n ≤ 6 ∧ p ∈ PS n ∧ y = toZ p ∧ txt p = t) := by
    intro d
    induction d with
    | zero =>
      intro i x o h0 h1 hx ho hv hj h4
      by_cases c1 : (o.length : Int) > 0
      · exact ⟨[], false, Ans.step (by simp only [impl_ParsePattern.l0]; exact Ans.not (by omega) (Ans.yes c1 (Ans.pure _))), Ans.step (by simp only [spec_ParsePattern.l0]; exact Ans.not (by omega) (Ans.yes c1 (Ans.pure _))), by simp, by simp⟩
      · rcases pat_or x (by omega) with ⟨e1, e2⟩ | ⟨n, p, n1, n2, hp, rfl⟩
        · exact ⟨[], false, Ans.step (by simp only [impl_ParsePattern.l0]; exact Ans.not (by omega) (Ans.not c1 (e1.bind (Ans.not (by simp) (Ans.pure _))))), Ans.step (by simp only [spec_ParsePattern.l0]; exact Ans.not (by omega) (Ans.not c1 (e2.bind (Ans.not (by simp) (Ans.pure _))))), by simp, by simp⟩
        · have q := PS_at n1 n2 hp
          refine ⟨toZ p, true, Ans.step (by simp only [impl_ParsePattern.l0]; exact Ans.not (by omega) (Ans.not c1 (q.2.1.bind (Ans.yes rfl (Ans.pure _))))), Ans.step (by simp only [spec_ParsePattern.l0]; exact Ans.not (by omega) (Ans.not c1 (q.2.2.1.bind (Ans.yes rfl (Ans.pure _))))), by omega, fun _ => ⟨n, p, n1, n2, hp, rfl, ?_⟩⟩
          have lp : p.length = t.size := by rw [← hx, toZ_len]
          have o0 : o = [] := List.eq_nil_of_length_eq_zero (by omega)
          refine bytes_ext (by rw [txt_size, lp]) (fun e he => ?_)
          rw [txt_size] at he
          rw [txt_bt p e he]
          have := hj e (by omega) (by omega)
          rw [toZ_rd, o0] at this
          simp only [List.mem_nil_iff, false_or] at this
          rcases this with ⟨h, g⟩ | ⟨h, g⟩
          · rw [h, if_neg (by omega)]
          · rw [h, if_pos (by omega)]
    | succ d ih =>
      intro i x o h0 h1 hx ho hv hj h4
      have hw : wrap64 (i + 1) = i + 1 := wrap64_in _ ⟨by omega, by omega⟩
      by_cases c1 : bt t i = 40
      · obtain ⟨y, b, e1, e2, hy, hb⟩ := ih (i + 1) x (o ++ [i]) (by omega) (by omega) hx (by simp; omega) (by
          intro v hv'; rcases List.mem_append.1 hv' with h | h
          · have := hv v h; omega
          · simp at h; omega) (by
          intro j j0 j1
          by_cases cj : j = i
          · subst cj; exact .inl ⟨c1, .inl (by simp)⟩
          · rcases hj j j0 (by omega) with ⟨a, b | b⟩ | ⟨a, b⟩
            · exact .inl ⟨a, .inl (by simp [b])⟩
            · exact .inl ⟨a, .inr b⟩
            · exact .inr ⟨a, b⟩) (by
          intro v hv'; rcases List.mem_append.1 hv' with h | h
          · exact h4 v h
          · simp at h; rw [h]; exact c1)
        refine ⟨y, b, Ans.step ?_, Ans.step ?_, hy, hb⟩
        · simp only [impl_ParsePattern.l0, hw]
          exact Ans.yes (by omega) (Ans.yes h0 (Ans.yes (by omega) (Ans.yes c1 (Ans.yes (by omega) e1))))
        · simp only [spec_ParsePattern.l0, hw]
          exact Ans.yes (by omega) (Ans.yes h0 (Ans.yes c1 (Ans.yes (by omega) e2)))
      · by_cases c2 : bt t i = 41
        · by_cases c3 : (o.length : Int) > 0
          · have hw2 : wrap64 ((o.length : Int) - 1) = (o.length : Int) - 1 := wrap64_in _ ⟨by omega, by omega⟩
            have hmem : rd o ((o.length : Int) - 1) ∈ o := getD_mem 0 (by omega)
            have hr := hv _ hmem
            have split : o = o.take ((o.length : Int) - 1).toNat ++ [rd o ((o.length : Int) - 1)] := by
              have := take_up o 0 (show ((o.length : Int) - 1).toNat < o.length by omega)
              rw [List.take_of_length_le (by omega)] at this
              exact this
            obtain ⟨f, hf⟩ : ∃ f, f = rd o ((o.length : Int) - 1) := ⟨_, rfl⟩
            obtain ⟨o', ho'⟩ : ∃ o', o' = o.take ((o.length : Int) - 1).toNat := ⟨_, rfl⟩
            rw [← hf] at hmem hr split; rw [← ho'] at split
            have sub : ∀ v ∈ o', v ∈ o := fun v h => by rw [split]; simp [h]
            have E : ∀ j : Int, 0 ≤ j → j < x.length → rd ((x.set i.toNat f).set f.toNat i) j = if j = f then i else if j = i then f else rd x j := by
              intro j j0 j1
              rw [rd_set _ _ _ _ hr.1 j0 (by rw [List.length_set]; omega), rd_set _ _ _ _ h0 j0 (by omega)]
            obtain ⟨y, b, e1, e2, hy, hb⟩ := ih (i + 1) ((x.set i.toNat f).set f.toNat i) o' (by omega) (by omega) (by simp [hx]) (by have := congrArg List.length split; simp at this; omega) (fun v h => by have := hv v (sub v h); omega) (by
              intro j j0 j1
              rw [E j j0 (by omega)]
              by_cases cf : j = f
              · rw [if_pos cf, cf]; exact .inl ⟨h4 f hmem, .inr hr.2⟩
              · rw [if_neg cf]
                by_cases cj : j = i
                · rw [if_pos cj, cj]; exact .inr ⟨c2, hr.2⟩
                · rw [if_neg cj]
                  rcases hj j j0 (by omega) with ⟨a, b | b⟩ | ⟨a, b⟩
                  · rw [split] at b
                    rcases List.mem_append.1 b with b | b
                    · exact .inl ⟨a, .inl b⟩
                    · simp at b; exact absurd b cf
                  · exact .inl ⟨a, .inr b⟩
                  · exact .inr ⟨a, b⟩) (fun v h => h4 v (sub v h))
            refine ⟨y, b, Ans.step ?_, Ans.step ?_, hy, hb⟩
            · simp only [impl_ParsePattern.l0, hw, hw2, ← hf, ← ho']
              exact Ans.yes (by omega) (Ans.yes h0 (Ans.yes (by omega) (Ans.not c1 (Ans.yes c2 (Ans.yes c3 (Ans.yes (by omega) (Ans.yes (by omega) (Ans.yes (by omega) (Ans.yes (by omega) (Ans.yes hr.1 (Ans.yes (by omega) e1)))))))))))
            · simp only [spec_ParsePattern.l0, hw, hw2, ← hf, ← ho']
              exact Ans.yes (by omega) (Ans.yes h0 (Ans.not c1 (Ans.yes c2 (Ans.yes c3 (Ans.yes (by omega) (Ans.yes (by omega) (Ans.yes (by omega) (Ans.yes (by omega) (Ans.yes hr.1 (Ans.yes (by omega) e2))))))))))
          · exact ⟨[], false, Ans.step (by simp only [impl_ParsePattern.l0]; exact Ans.yes (by omega) (Ans.yes h0 (Ans.yes (by omega) (Ans.not c1 (Ans.yes c2 (Ans.not c3 (Ans.pure _))))))), Ans.step (by simp only [spec_ParsePattern.l0]; exact Ans.yes (by omega) (Ans.yes h0 (Ans.not c1 (Ans.yes c2 (Ans.not c3 (Ans.pure _)))))), by simp, by simp⟩
        · exact ⟨[], false, Ans.step (by simp only [impl_ParsePattern.l0]; exact Ans.yes (by omega) (Ans.yes h0 (Ans.yes (by omega) (Ans.not c1 (Ans.not c2 (Ans.pure _)))))), Ans.step (by simp only [spec_ParsePattern.l0]; exact Ans.yes (by omega) (Ans.yes h0 (Ans.not c1 (Ans.not c2 (Ans.pure _))))), by simp, by simp⟩
  obtain ⟨y, b, e1, e2, hy, hb⟩ := key t.size 0 (List.replicate ((t.size : Int) : Int).toNat 0) [] (by omega) (by omega) (by simp) (by simp) (by simp) (fun j a b => by omega) (by simp)
  exact ⟨y, b, Ans.yes (by omega) (Ans.yes (by omega) e1), Ans.not (by omega) (Ans.yes (by omega) (Ans.yes (by omega) e2)), hy, hb⟩
theorem ext_size (x : ByteArray) (a b : Nat) : (x.extract a b).size ≤ b - a := by
  rw [ByteArray.size_extract]; omega
theorem one_size (v : Int) : (strOfNums [v]).size = 1 := rfl
theorem spoilt (c : List Int) (hc : ∀ x ∈ c, (Lit.int .u8 x).wf = true) (w : ByteArray) (hw : w.size = 3) : ∀ (d : Nat) (t : ByteArray) (a s : Int), t.size + d ≤ 110 → d ≤ 10 → 0 ≤ a → a + 10 * d ≤ 1000000 → ∃ t' a' s', Ans (fun k => spec_l1Cur_spoilt.l0 k t w (d : Int) c a s) (t', a', s') ∧ t'.size ≤ t.size + d := by
  intro d
  induction d with
  | zero =>
    intro t a s ht hd h0 h1
    refine ⟨t, a, s, Ans.step ?_, by omega⟩
    simp only [spec_l1Cur_spoilt.l0]
    refine Ans.not (by omega) (Ans.step ?_)
    simp only [spec_l1Cur_spoilt.j1]
    exact Ans.not (by simp) (Ans.pure _)
  | succ d ih =>
    intro t a s ht hd h0 h1
    have wd : wrap64 (((d + 1 : Nat) : Int) - 1) = d := by rw [wrap64_in _ ⟨by omega, by omega⟩]; omega
    by_cases c1 : (t.size : Int) > 0
    · obtain ⟨i, a1, s1, e1, p1, q1, i0, i1⟩ := draw_pick c hc a s (t.size : Int) h0 (by omega)
      obtain ⟨j, a2, s2, e2, p2, q2, j0, j1⟩ := draw_pick c hc a1 s1 (w.size : Int) (by omega) (by omega)
      obtain ⟨z, a3, s3, e3, p3, q3, z0, z1⟩ := draw_pick c hc a2 s2 3 (by omega) (by omega)
      have wi : wrap64 (i + 1) = i + 1 := wrap64_in _ ⟨by omega, by omega⟩
      have x1 := ext_size t 0 i.toNat
      have x2 := ext_size t i.toNat t.size
      have x3 := ext_size t (i + 1).toNat t.size
      have x4 := one_size (bt w j)
      have s1' := push_size (t.extract 0 i.toNat) (strOfNums [bt w j])
      by_cases c2 : z = 0
      · have s2' := push_size (t.extract 0 i.toNat ++ strOfNums [bt w j]) (t.extract i.toNat t.size)
        obtain ⟨t', a', s', e, h⟩ := ih (t.extract 0 i.toNat ++ strOfNums [bt w j] ++ t.extract i.toNat t.size) a3 s3 (by omega) (by omega) (by omega) (by omega)
        refine ⟨t', a', s', Ans.step ?_, by omega⟩
        simp only [spec_l1Cur_spoilt.l0]
        refine Ans.yes (by omega) (Ans.step ?_)
        simp only [spec_l1Cur_spoilt.j1, e1, e2, e3, Option.bind_some, wd, wi]
        exact Ans.yes (by simp; omega) (Ans.yes j0 (Ans.yes (by omega) (Ans.yes c2 (Ans.yes i0 (Ans.yes (by omega) (Ans.yes (by omega) (Ans.yes (by omega) e)))))))
      · by_cases c3 : z = 1
        · have s2' := push_size (t.extract 0 i.toNat ++ strOfNums [bt w j]) (t.extract (i + 1).toNat t.size)
          obtain ⟨t', a', s', e, h⟩ := ih (t.extract 0 i.toNat ++ strOfNums [bt w j] ++ t.extract (i + 1).toNat t.size) a3 s3 (by omega) (by omega) (by omega) (by omega)
          refine ⟨t', a', s', Ans.step ?_, by omega⟩
          simp only [spec_l1Cur_spoilt.l0]
          refine Ans.yes (by omega) (Ans.step ?_)
          simp only [spec_l1Cur_spoilt.j1, e1, e2, e3, Option.bind_some, wd, wi]
          exact Ans.yes (by simp; omega) (Ans.yes j0 (Ans.yes (by omega) (Ans.not c2 (Ans.yes c3 (Ans.yes i0 (Ans.yes (by omega) (Ans.yes (by omega) (Ans.yes (by omega) (Ans.yes (by omega) (Ans.yes (by omega) e))))))))))
        · have s2' := push_size (t.extract 0 i.toNat) (t.extract (i + 1).toNat t.size)
          obtain ⟨t', a', s', e, h⟩ := ih (t.extract 0 i.toNat ++ t.extract (i + 1).toNat t.size) a3 s3 (by omega) (by omega) (by omega) (by omega)
          refine ⟨t', a', s', Ans.step ?_, by omega⟩
          simp only [spec_l1Cur_spoilt.l0]
          refine Ans.yes (by omega) (Ans.step ?_)
          simp only [spec_l1Cur_spoilt.j1, e1, e2, e3, Option.bind_some, wd, wi]
          exact Ans.yes (by simp; omega) (Ans.yes j0 (Ans.yes (by omega) (Ans.not c2 (Ans.not c3 (Ans.yes i0 (Ans.yes (by omega) (Ans.yes (by omega) (Ans.yes (by omega) (Ans.yes (by omega) e)))))))))
    · refine ⟨t, a, s, Ans.step ?_, by omega⟩
      simp only [spec_l1Cur_spoilt.l0]
      refine Ans.yes (by omega) (Ans.step ?_)
      simp only [spec_l1Cur_spoilt.j1]
      exact Ans.not (by rw [decide_eq_false c1]; simp) (Ans.pure _)
theorem drawParse (c : List Int) (hc : ∀ x ∈ c, (Lit.int .u8 x).wf = true) : ∃ t, Ans (fun k => spec_DrawParsePattern.f k c) t ∧ t.size ≤ 12 := by
  obtain ⟨p, a, s, e, a0, a1, hp⟩ := draw_pattern c hc 0 0 5 (by omega) (by omega) (by omega) (by omega)
  have tail : ∀ t : ByteArray, t.size ≤ 10 → ∃ t', Ans (fun k => spec_DrawParsePattern.j0 k t c a s) t' ∧ t'.size ≤ 12 := by
    intro t ht
    obtain ⟨v, a1, s1, e1, p1, q1⟩ := draw_one c hc a s 3 (by omega) (by omega)
    cases v with
    | false => exact ⟨t, Ans.step (by simp only [spec_DrawParsePattern.j0, e1, Option.bind_some]; exact Ans.not (by simp) (Ans.pure _)), by omega⟩
    | true =>
      obtain ⟨u, a2, s2, e2, p2, q2, u0, u1⟩ := draw_pick c hc a1 s1 2 (by omega) (by omega)
      have wu : wrap64 (1 + u) = ((u.toNat + 1 : Nat) : Int) := by rw [wrap64_in _ ⟨by omega, by omega⟩]; omega
      obtain ⟨t', a', s', e3, h3⟩ := spoilt c hc (⟨#[40, 41, 120]⟩ : ByteArray) rfl (u.toNat + 1) t a2 s2 (by omega) (by omega) (by omega) (by omega)
      refine ⟨t', Ans.step ?_, by omega⟩
      simp only [spec_DrawParsePattern.j0, e1, Option.bind_some]
      refine Ans.yes trivial (Ans.bind (a := (t', a', s')) ?_ (Ans.pure _))
      simp only [spec_l1Cur_spoilt.f, e2, Option.bind_some, wu]
      exact e3
  rcases pat_or p (by omega) with ⟨_, x2⟩ | ⟨n, y, n1, n2, hy, rfl⟩
  · obtain ⟨t, et, ht⟩ := tail (⟨#[40, 40, 41, 41]⟩ : ByteArray) (by decide)
    exact ⟨t, e.bind (x2.bind (Ans.not (by simp) et)), ht⟩
  · have q := PS_at n1 n2 hy
    have lt : (txt y).size ≤ 10 := by rw [txt_size]; rw [toZ_len] at hp; have := q.1; omega
    obtain ⟨t, et, ht⟩ := tail (txt y) lt
    have tx : Ans (fun k => spec_loText.f k (toZ y)) (txt y) := by
      obtain ⟨k0, hk⟩ := q.2.2.2.2.1
      obtain ⟨k1, hk1⟩ := q.2.2.1
      refine ⟨k0 + k1, fun k hkk => ?_⟩
      show spec_loText.f k (toZ y) = some (txt y)
      have := hk k (by omega)
      simp only [spec_PatternText.f, hk1 k (by omega), Option.bind_some, if_pos] at this
      obtain ⟨z, hz, h2⟩ := Option.bind_eq_some_iff.mp this
      simp only [Option.some.injEq, Prod.mk.injEq] at h2
      rw [hz, h2.1]
    exact ⟨t, e.bind (q.2.2.1.bind (Ans.yes rfl (tx.bind et))), ht⟩
theorem drawTurn (c : List Int) (hc : ∀ x ∈ c, (Lit.int .u8 x).wf = true) : ∃ p b, Ans (fun k => spec_DrawTurnPattern.f k c) (p, b) ∧ p.length ≤ 11 ∧ (b ∈ bys ∨ b = 101) := by
  obtain ⟨p, a, s, e, a0, a1, hp⟩ := draw_pattern c hc 0 0 5 (by omega) (by omega) (by omega) (by omega)
  obtain ⟨v, a2, s2, e2, p2, q2, hv⟩ := draw_among c hc a s [0, 1, (-1), 2, 7, 100, (-100), 101] (by simp) (by omega) (by omega)
  refine ⟨p, v, e.bind ?_, by omega, ?_⟩
  · simp only [e2, Option.bind_some]; exact Ans.pure _
  · simp only [List.mem_cons, List.mem_nil_iff, or_false, bys] at hv ⊢
    omega
theorem drawAll (c : List Int) (hc : ∀ x ∈ c, (Lit.int .u8 x).wf = true) : ∃ n, spec_DrawAllPatterns.f c = some n ∧ 0 ≤ n ∧ n ≤ 7 := by
  obtain ⟨v, a2, s2, e2, p2, q2, hv⟩ := draw_among c hc 0 0 [1, 2, 3, 4, 5, 6, 7, 0] (by simp) (by omega) (by omega)
  refine ⟨v, by simp only [spec_DrawAllPatterns.f, spec_DrawEndsOf.f, e2, Option.bind_some], ?_⟩
  simp only [List.mem_cons, List.mem_nil_iff, or_false] at hv
  omega
theorem hSameT (x : List Int) (hx : x.length ≤ 1000) : Ans (fun k => laws_hSame.f k x x) true := by
  have := hSame x x (by omega)
  rwa [decide_eq_true rfl] at this
theorem turn_no (x : List Int) (b : Int) (e1 : Ans (fun k => impl_IsPattern.f k x) false) (e2 : Ans (fun k => spec_loIsPattern.f k x) false) : Ans (fun k => impl_TurnPattern.f k x b) ([], false) ∧ Ans (fun k => spec_TurnPattern.f k x b) ([], false) :=
  ⟨e1.bind (Ans.not (by simp) (Ans.pure _)), e2.bind (Ans.not (by simp) (Ans.pure _))⟩
theorem list_at {n : Nat} (h1 : 1 ≤ n) (h2 : n ≤ 6) : ∃ L : List (List Int), Ans (fun k => spec_loAll.f k n 0) L ∧ Ans (fun k => impl_patterns.f k n) L ∧ Ans (fun k => spec_CountPatterns.f k n) ((L.length : Int), true) ∧ L.length ≤ 132 ∧ (∀ x ∈ L, x.length ≤ 12) ∧
    ∀ i : Nat, i < L.length → Ans (fun k => impl_IsPattern.f k (L.getD i [])) true ∧ (0 < i → Ans (fun k => laws_hLess.f k [L.getD (i - 1) []] [L.getD i []]) true) := by
  have h : chkL n = true := by
    rcases (show n = 1 ∨ n = 2 ∨ n = 3 ∨ n = 4 ∨ n = 5 ∨ n = 6 by omega) with rfl | rfl | rfl | rfl | rfl | rfl
    · exact chkL1
    · exact chkL2
    · exact chkL3
    · exact chkL4
    · exact chkL5
    · exact chkL6
  simp only [chkL, Bool.and_eq_true, decide_eq_true_eq, List.all_eq_true, List.mem_range, Bool.or_eq_true] at h
  obtain ⟨⟨⟨⟨⟨a, b⟩, c⟩, d⟩, e⟩, f⟩ := h
  refine ⟨LL n, LeO.far (fun k => spec_loAll.mono _ _ k) 400 a, LeO.far (fun k => impl_patterns.mono _ k) 400 b, LeO.far (fun k => spec_CountPatterns.mono _ k) 60 c, d, e, fun i hi => ⟨LeO.far (fun k => impl_IsPattern.mono _ k) 100 (f i hi).1, fun h0 => ?_⟩⟩
  rcases (f i hi).2 with g | g
  · have := Nat.eq_of_beq_eq_true g; omega
  · exact LeO.far (fun k => laws_hLess.mono _ _ k) 60 g
theorem FnPatterns : laws_FnPatterns.Pure := by
  intro c m _ _ hc _ _ hm
  refine Ans.at (g := fun k => laws_FnPatterns.f k c m) ?_
  simp only [laws_FnPatterns.f]
  obtain ⟨b, hb⟩ := big_ans c m
  simp only [hb, Option.bind_some]
  cases b with
  | true => exact Ans.yes rfl (Ans.pure _)
  | false =>
  refine Ans.not (by simp) ?_
  obtain ⟨p, b, f1, hp, hbys⟩ := drawTurn c hc
  obtain ⟨n, f2, n0, n7⟩ := drawAll m hm
  obtain ⟨x, a3, s3, f3, _, _, hx⟩ := draw_pattern m hm 0 0 6 (by omega) (by omega) (by omega) (by omega)
  obtain ⟨t, f4, ht⟩ := drawParse m hm
  -- the last text
  have j6 : Ans (fun k => laws_FnPatterns.j6 k m) true := by
    obtain ⟨y, b, g1, g2, hy, hb⟩ := parse t ht
    refine Ans.step ?_
    simp only [laws_FnPatterns.j6]
    refine f4.bind (g1.bind (g2.bind (Ans.not (by simp) ((hSameT y (by omega)).bind (Ans.step ?_)))))
    simp only [laws_FnPatterns.j7]
    refine Ans.not (by simp) ?_
    cases b with
    | false => exact Ans.not (by simp) (Ans.pure _)
    | true =>
      obtain ⟨n, q, n1, n2, hq, rfl, ht2⟩ := hb rfl
      have hh := (PS_at n1 n2 hq).2.2.2.1
      refine Ans.yes rfl (hh.bind (Ans.yes rfl ?_))
      simp only [ht2, beq_self_eq_true]
      exact Ans.pure _
  -- the text of a pattern
  have j4 : Ans (fun k => laws_FnPatterns.j4 k m) true := by
    refine Ans.step ?_
    simp only [laws_FnPatterns.j4]
    have f3' : Ans (fun k => spec_DrawPatternText.f k m) x := Ans.bind (h := fun _ t => some t) (Ans.bind (h := fun _ (t : List Int × Int × Int) => some t.1) f3 (Ans.pure _)) (Ans.pure _)
    refine f3'.bind ?_
    rcases pat_or x (by omega) with ⟨x1, x2⟩ | ⟨n, q, n1, n2, hq, rfl⟩
    · have t1 : Ans (fun k => impl_PatternText.f k x) ((⟨#[]⟩ : ByteArray), false) := x1.bind (Ans.not (by simp) (Ans.pure _))
      have t2 : Ans (fun k => spec_PatternText.f k x) ((⟨#[]⟩ : ByteArray), false) := x2.bind (Ans.not (by simp) (Ans.pure _))
      have t3 : Ans (fun k => impl_MirrorPattern.f k x) ([], false) := x1.bind (Ans.not (by simp) (Ans.pure _))
      have t4 : Ans (fun k => spec_MirrorPattern.f k x) ([], false) := x2.bind (Ans.not (by simp) (Ans.pure _))
      have t5 : Ans (fun k => spec_IsPattern.f k x) false := x2.bind (Ans.pure _)
      refine t1.bind (t2.bind (t3.bind (t4.bind (Ans.not (by simp) (Ans.yes rfl (Ans.not (by simp) ((hSameT [] (by simp)).bind (Ans.yes rfl (x1.bind (Ans.not (by simp) (t5.bind ?_)))))))))))
      refine Ans.step ?_
      simp only [laws_FnPatterns.j5]
      exact Ans.not (by simp) (Ans.not (by simp) j6)
    · obtain ⟨lq, x1, x2, t1, t2, t0, t3, t4, hmr, _⟩ := PS_at n1 n2 hq
      have lm := (PS_at n1 n2 hmr).1
      have t5 : Ans (fun k => spec_IsPattern.f k (toZ q)) true := x2.bind (Ans.pure _)
      refine t1.bind (t2.bind (t3.bind (t4.bind (Ans.not (by simp) (Ans.yes rfl (Ans.not (by simp) ((hSameT (toZ (mr q)) (by rw [toZ_len]; omega)).bind (Ans.yes rfl (x1.bind (Ans.not (by simp) (t5.bind ?_)))))))))))
      refine Ans.step ?_
      simp only [laws_FnPatterns.j5]
      exact Ans.not (by simp) (Ans.yes trivial (t0.bind (Ans.yes rfl ((hSameT (toZ q) (by rw [toZ_len]; omega)).bind (Ans.yes rfl j6)))))
  -- all patterns
  have j1 : Ans (fun k => laws_FnPatterns.j1 k m) true := by
    refine Ans.step ?_
    simp only [laws_FnPatterns.j1, f2, Option.bind_some]
    by_cases h : 1 ≤ n ∧ n ≤ 6
    · obtain ⟨n, rfl⟩ : ∃ z : Nat, n = z := ⟨n.toNat, by omega⟩
      obtain ⟨L, l1, l2, l3, l4, l5, l6⟩ := list_at (n := n) (by omega) (by omega)
      have t1 : Ans (fun k => impl_AllPatterns.f k n) (L, true) := by
        simp only [impl_AllPatterns.f, impl_isSide.f, within, Option.bind_some]
        exact Ans.yes (decide_eq_true h) (l2.bind (Ans.pure _))
      have t2 : Ans (fun k => spec_AllPatterns.f k n) (L, true) := by
        simp only [spec_AllPatterns.f, spec_heSide.f, l1In, Option.bind_some]
        exact Ans.yes (decide_eq_true h) (l1.bind (Ans.pure _))
      have t3 : Ans (fun k => impl_CountPatterns.f k n) ((L.length : Int), true) := t1.bind (Ans.pure _)
      refine t1.bind (t2.bind (t3.bind (l3.bind (Ans.not (by simp) ((hRows L (by omega) (fun r hr => by have := l5 r hr; omega)).bind (Ans.yes rfl (Ans.not (by simp) (Ans.yes rfl ?_))))))))
      refine Ans.step ?_
      simp only [laws_FnPatterns.j2]
      refine Ans.not (by simp) (Ans.yes trivial (Ans.yes trivial ?_))
      have key : ∀ (d i : Nat), i + d = L.length → Ans (fun k => laws_FnPatterns.l0 k m L L (L.length : Int) (i : Int)) true := by
        intro d
        induction d with
        | zero => intro i hi; exact Ans.step (by simp only [laws_FnPatterns.l0]; exact Ans.not (by omega) j4)
        | succ d ih =>
          intro i hi
          obtain ⟨g1, g2⟩ := l6 i (by omega)
          have e := ih (i + 1) (by omega)
          have w1 : wrap64 ((i : Int) + 1) = ((i + 1 : Nat) : Int) := by rw [wrap64_in _ ⟨by omega, by omega⟩]; omega
          have r1 : rd_L1 L (i : Int) = L.getD i [] := by unfold rd_L1; rw [Int.toNat_natCast]
          refine Ans.step ?_
          simp only [laws_FnPatterns.l0, w1, r1]
          clear w1 r1
          refine Ans.yes (by omega) (Ans.yes (by omega) (Ans.yes (by omega) (g1.bind (Ans.yes rfl ?_))))
          by_cases c0 : 0 < i
          · have w2 : wrap64 ((i : Int) - 1) = ((i - 1 : Nat) : Int) := by rw [wrap64_in _ ⟨by omega, by omega⟩]; omega
            have r2 : rd_L1 L ((i - 1 : Nat) : Int) = L.getD (i - 1) [] := by unfold rd_L1; rw [Int.toNat_natCast]
            rw [w2, r2]
            clear w2 r2
            exact Ans.yes (by omega) (Ans.yes (by omega) (Ans.yes (by omega) ((g2 c0).bind (Ans.yes rfl e))))
          · exact Ans.not (by omega) e
      exact key L.length 0 (by omega)
    · have t1 : Ans (fun k => impl_AllPatterns.f k n) ([], false) := by
        simp only [impl_AllPatterns.f, impl_isSide.f, within, Option.bind_some]
        exact Ans.not (by simpa using h) (Ans.pure _)
      have t2 : Ans (fun k => spec_AllPatterns.f k n) ([], false) := by
        simp only [spec_AllPatterns.f, spec_heSide.f, l1In, Option.bind_some]
        exact Ans.not (by simpa using h) (Ans.pure _)
      have t3 : Ans (fun k => impl_CountPatterns.f k n) (0, false) := t1.bind (Ans.pure _)
      have t4 : Ans (fun k => spec_CountPatterns.f k n) (0, false) := by
        simp only [spec_CountPatterns.f, spec_heSide.f, l1In, Option.bind_some]
        exact Ans.not (by simpa using h) (Ans.pure _)
      refine t1.bind (t2.bind (t3.bind (t4.bind (Ans.not (by simp) ((hRows [] (by simp) (by simp)).bind (Ans.yes rfl (Ans.not (by simp) (Ans.yes rfl ?_))))))))
      refine Ans.step ?_
      simp only [laws_FnPatterns.j2]
      exact Ans.not (by simp) (Ans.not (by simp) j4)
  -- the turns
  refine f1.bind ?_
  rcases pat_or p (by omega) with ⟨x1, x2⟩ | ⟨k, q, n1, n2, hq, rfl⟩
  · obtain ⟨t1, t2⟩ := turn_no p b x1 x2
    refine t1.bind (t2.bind (Ans.not (by simp) ((hSameT [] (by simp)).bind (Ans.step ?_))))
    simp only [laws_FnPatterns.j0]
    exact Ans.not (by simp) (Ans.not (by simp) j1)
  · obtain ⟨lq, x1, x2, _, _, _, t3, t4, hmr, hmm⟩ := PS_at n1 n2 hq
    have n5 : k ≤ 5 := by rw [toZ_len] at hp; omega
    have h := List.all_eq_true.mp (chkT_all k n1 n5) q hq
    simp only [Bool.and_eq_true, decide_eq_true_eq, List.all_eq_true] at h
    obtain ⟨⟨⟨r1, r2⟩, r3⟩, r4⟩ := h
    rcases hbys with hbys | rfl
    · obtain ⟨⟨⟨⟨u1, u2⟩, u3⟩, u4⟩, u5⟩ := r4 b hbys
      generalize tz q b = z at u1 u2 u3 u4 u5
      have far := fun (x : List Int) (v : Int) (y : List Int × Bool) (e : impl_TurnPattern.f 60 x v = some y) => LeO.far (fun k => impl_TurnPattern.mono x v k) 60 e
      refine (far _ _ _ u1).bind ((LeO.far (fun k => spec_TurnPattern.mono _ _ k) 60 u2).bind (Ans.not (by simp) ((hSameT z (by omega)).bind (Ans.step ?_))))
      simp only [laws_FnPatterns.j0]
      have lq' : (toZ q).length = 2 * k := by rw [toZ_len]; exact lq
      have r1' := far _ _ _ r1
      rw [← lq'] at r1'
      have mm := PS_at n1 n2 hmr
      have m2 := mm.2.2.2.2.2.2.1
      rw [hmm] at m2
      have hs := hSameT (toZ q) (by omega)
      refine Ans.not (by simp) (Ans.yes trivial ((far _ _ _ u5).bind (r1'.bind (t3.bind (m2.bind ((LeO.far (fun k => impl_IsPattern.mono _ k) 60 u4).bind (Ans.yes rfl (Ans.yes rfl ?_))))))))
      refine hs.bind (Ans.yes rfl (Ans.yes rfl (hs.bind (Ans.yes rfl (Ans.yes rfl ?_)))))
      exact mm.2.1.bind (Ans.yes rfl (Ans.yes rfl (hs.bind (Ans.yes rfl j1))))
    · refine (LeO.far (fun k => impl_TurnPattern.mono _ _ k) 60 r2).bind ((LeO.far (fun k => spec_TurnPattern.mono _ _ k) 60 r3).bind (Ans.not (by simp) ((hSameT [] (by simp)).bind (Ans.step ?_))))
      simp only [laws_FnPatterns.j0]
      exact Ans.not (by simp) (Ans.not (by simp) j1)

end Go.Proofs.Ytchnfacedjjakaa.Pure
