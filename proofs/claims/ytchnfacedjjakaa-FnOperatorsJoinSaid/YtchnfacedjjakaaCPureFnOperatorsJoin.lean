/- For all bytes the statement on joins answers true: no condition. -/
import Derived.Test.YtchnfacedjjakaaCFnOperatorsJoinx3
import Derived.Test.YtchnfacedjjakaaQTwo
import Derived.Test.YtchnfacedjjakaaQByte
namespace Go.Proofs.Ytchnfacedjjakaa.Pure
open Go.RowKit Go.Proofs.Ytchnfacedjjakaa.X Go.Proofs.YtchnfacedjjakaaW.PrintWords Go.Proofs.YtchnfacedjjakaaW.PrintLast Go.Proofs.Ytchnfacedjjakaa.Q
set_option linter.unusedVariables false
set_option linter.unusedSimpArgs false
theorem rd_L1_mem {x : List (List Int)} {i : Int} (h0 : 0 ≤ i) (h1 : i < x.length) : rd_L1 x i ∈ x := by unfold rd_L1; exact getD_mem _ (by omega)
theorem l1In (a b c : Int) : spec_l1In.f a b c = some (decide (b ≤ a ∧ a ≤ c)) := by
  unfold spec_l1In.f
  by_cases h : a ≥ b
  · rw [if_pos h]; refine congrArg some (decide_eq_decide.mpr ⟨fun q => ⟨h, q⟩, fun q => q.2⟩)
  · rw [if_neg h, decide_eq_false (by omega)]
theorem within (a b c : Int) : impl_within.f a b c = some (decide (b ≤ a ∧ a ≤ c)) := by
  unfold impl_within.f
  by_cases h : b ≤ a
  · rw [if_pos h]; refine congrArg some (decide_eq_decide.mpr ⟨fun q => ⟨h, q⟩, fun q => q.2⟩)
  · rw [if_neg h, decide_eq_false (by omega)]
/-- Where every element's test answers, 'ContainsFunc' tells whether one passes. -/
theorem containsI (x : List Int) (hx : x.length ≤ 17592186044416) (g : Int → Option Bool) (p : Int → Bool) (hg : ∀ a, g a = some (p a)) : Ans (fun k => slices_ContainsFunc_int_int.f k x g) (x.any p) := by
  have key : ∀ (d : Nat) (i : Int), 0 ≤ i → i + d = x.length → ∃ z : Int, Ans (fun k => slices_IndexFunc_int_int.l0 k x g (x.length : Int) i) z ∧ decide (z ≥ 0) = (x.drop i.toNat).any p := by
    intro d
    induction d with
    | zero =>
      intro i h0 h1
      refine ⟨-1, Ans.step ?_, by rw [List.drop_eq_nil_of_le (by omega)]; rfl⟩
      simp only [slices_IndexFunc_int_int.l0]; exact Ans.not (by omega) (Ans.pure _)
    | succ d ih =>
      intro i h0 h1
      have hd := drop_at x 0 (show i.toNat < x.length by omega)
      by_cases c : p (rd x i) = true
      · refine ⟨i, Ans.step ?_, by rw [hd, List.any_cons, show p (x.getD i.toNat 0) = true from c]; simp [h0]⟩
        simp only [slices_IndexFunc_int_int.l0, hg, Option.bind_some]
        exact Ans.yes (by omega) (Ans.yes h0 (Ans.yes (by omega) (Ans.yes c (Ans.pure _))))
      · obtain ⟨z, e, hz⟩ := ih (i + 1) (by omega) (by omega)
        refine ⟨z, Ans.step ?_, by rw [hz, hd, List.any_cons, show p (x.getD i.toNat 0) = false from Bool.eq_false_iff.mpr c, show (i + 1).toNat = i.toNat + 1 by omega]; simp⟩
        simp only [slices_IndexFunc_int_int.l0, hg, Option.bind_some, wrap64_up h0 (by omega : i ≤ 4611686018427387904)]
        exact Ans.yes (by omega) (Ans.yes h0 (Ans.yes (by omega) (Ans.not c e)))
  obtain ⟨z, e, hz⟩ := key x.length 0 (by omega) (by omega)
  simp only [slices_ContainsFunc_int_int.f, slices_IndexFunc_int_int.f]
  have := e.bind (h := fun _ t => some (decide (t ≥ 0))) (Ans.pure (decide (z ≥ 0)))
  rwa [hz] at this
def allIn (x : List Int) (lo hi : Int) : Bool := x.all fun a => decide (lo ≤ a ∧ a ≤ hi)
theorem l1All (x : List Int) (hx : x.length ≤ 17592186044416) (lo hi : Int) : Ans (fun k => spec_l1All.f k x lo hi) (allIn x lo hi) := by
  have key : ∀ (d : Nat) (i : Int), 0 ≤ i → i + d = x.length → Ans (fun k => spec_l1All.l0 k lo hi x (x.length : Int) i) (allIn (x.drop i.toNat) lo hi) := by
    intro d
    induction d with
    | zero =>
      intro i h0 h1
      rw [List.drop_eq_nil_of_le (by omega)]; refine Ans.step ?_
      simp only [spec_l1All.l0]; exact Ans.not (by omega) (Ans.pure _)
    | succ d ih =>
      intro i h0 h1
      have hd := drop_at x 0 (show i.toNat < x.length by omega)
      have e := ih (i + 1) (by omega) (by omega)
      rw [hd, allIn, List.all_cons, show decide (lo ≤ x.getD i.toNat 0 ∧ x.getD i.toNat 0 ≤ hi) = decide (lo ≤ rd x i ∧ rd x i ≤ hi) from rfl]
      refine Ans.step ?_
      simp only [spec_l1All.l0, l1In, Option.bind_some, wrap64_up h0 (by omega : i ≤ 4611686018427387904)]
      refine Ans.yes (by omega) (Ans.yes h0 (Ans.yes (by omega) ?_))
      by_cases c : decide (lo ≤ rd x i ∧ rd x i ≤ hi) = true
      · rw [c, Bool.true_and]; rw [show (i + 1).toNat = i.toNat + 1 by omega] at e; exact Ans.yes rfl e
      · rw [Bool.eq_false_iff.mpr c, Bool.false_and]; exact Ans.not (by simp) (Ans.pure _)
  exact key x.length 0 (by omega) (by omega)
theorem areWithin (x : List Int) (hx : x.length ≤ 17592186044416) (lo hi : Int) : Ans (fun k => impl_areWithin.f k x lo hi) (allIn x lo hi) := by
  have e := containsI x hx (fun x0_ => impl_areWithin_1.f x0_ lo hi) (fun a => !decide (lo ≤ a ∧ a ≤ hi)) (fun a => by simp only [impl_areWithin_1.f, within, Option.bind_some])
  have := e.bind (h := fun _ t => some (!t)) (Ans.pure _)
  rw [List.not_any_eq_all_not] at this
  simp only [Bool.not_not] at this
  exact this
theorem LeO.far {α : Type} {g : Nat → Option α} {r : α} (h : ∀ k, LeO (g k) (g (k + 1))) (m : Nat) (e : g m = some r) : Ans g r :=
  ⟨m, fun k hk => by
    obtain ⟨j, rfl⟩ : ∃ j, k = m + j := ⟨k - m, by omega⟩
    clear hk
    induction j with
    | zero => exact e
    | succ j ih => exact h _ r ih⟩
def Good (x : List Int) : Prop := ∀ i : Int, 0 ≤ i → i < x.length → 0 ≤ rd x i ∧ rd x i < x.length ∧ rd x i ≠ i ∧ rd x (rd x i) = i
def Nest (x : List Int) : Prop := ∀ i : Int, 0 ≤ i → i < x.length → ∀ j : Int, i < j → j < rd x i → i + 1 ≤ rd x j ∧ rd x j ≤ rd x i - 1
def Pat (x : List Int) : Prop := x.length ≤ 12 ∧ 0 < x.length ∧ x.length % 2 = 0 ∧ Good x ∧ Nest x
theorem allIn_at {x : List Int} {lo hi : Int} (h : allIn x lo hi = true) (i : Int) (h0 : 0 ≤ i) (h1 : i < x.length) : lo ≤ rd x i ∧ rd x i ≤ hi := by
  have := List.all_eq_true.mp h (rd x i) (getD_mem 0 (by omega))
  simpa using this
theorem pairs (x : List Int) (hx : x.length ≤ 12) (hin : ∀ i : Int, 0 ≤ i → i < x.length → 0 ≤ rd x i ∧ rd x i ≤ (x.length : Int) - 1) : ∀ (d : Nat) (i : Int), 0 ≤ i → i + d = x.length →
    (∀ j : Int, 0 ≤ j → j < i → rd x j ≠ j ∧ rd x (rd x j) = j ∧ ∀ l : Int, j < l → l < rd x j → j + 1 ≤ rd x l ∧ rd x l ≤ rd x j - 1) →
    Two (fun k => spec_loIsPattern.l0 k x x (x.length : Int) i) (fun k => impl_IsPattern.l0 k x x (x.length : Int) i) (fun b => b = true → Good x ∧ Nest x) := by
  intro d
  induction d with
  | zero =>
    intro i h0 h1 hj
    refine Two.step ?_
    simp only [spec_loIsPattern.l0, impl_IsPattern.l0]
    refine Two.not (by omega) (Two.pure fun _ => ⟨fun j a b => ?_, fun j a b => (hj j a (by omega)).2.2⟩)
    have := hin j a b; have := hj j a (by omega)
    exact ⟨by omega, by omega, this.1, this.2.1⟩
  | succ d ih =>
    intro i h0 h1 hj
    have hi := hin i h0 (by omega)
    refine Two.step ?_
    simp only [spec_loIsPattern.l0, impl_IsPattern.l0]
    refine Two.yes (by omega) (Two.yes h0 (Two.yes (by omega) (Two.ite (fun c => ?_) (fun c => ?_))))
    · refine Two.step ?_
      simp only [spec_loIsPattern.j2, impl_IsPattern.j2]
      exact Two.yes (by simp) (Two.pure (by simp))
    · refine Two.yes hi.1 (Two.yes (by omega) (Two.step ?_))
      simp only [spec_loIsPattern.j2, impl_IsPattern.j2]
      refine Two.ite (fun _ => Two.pure (by simp)) (fun e => ?_)
      have e' : rd x (rd x i) = i := by simpa using e
      have nx := fun hn => ih (i + 1) (by omega) (by omega) (fun j a b => if q : j = i then q ▸ ⟨c, e', hn⟩ else hj j a (by omega))
      have inner : ∀ (m : Nat) (n : Int), 0 ≤ n → n ≤ 12 → (rd x i - n).toNat ≤ m → (∀ l : Int, i < l → l < n → l < rd x i → i + 1 ≤ rd x l ∧ rd x l ≤ rd x i - 1) →
          Two (fun k => spec_loIsPattern.l1 k x i (rd x i) n x (x.length : Int) i) (fun k => impl_IsPattern.l1 k x i (rd x i) n x (x.length : Int) i) (fun b => b = true → Good x ∧ Nest x) := by
        intro m
        induction m with
        | zero =>
          intro n n0 n1 hm hl
          refine Two.step ?_
          simp only [spec_loIsPattern.l1, impl_IsPattern.l1, wrap64_up h0 (by omega : i ≤ 4611686018427387904)]
          exact Two.not (by omega) (nx (fun l a b => hl l a (by omega) b))
        | succ m ihm =>
          intro n n0 n1 hm hl
          refine Two.step ?_
          simp only [spec_loIsPattern.l1, impl_IsPattern.l1, wrap64_up h0 (by omega : i ≤ 4611686018427387904), l1In, within, wrap64_in (rd x i - 1) ⟨by omega, by omega⟩]
          refine Two.ite (fun q => ?_) (fun _ => nx (fun l a b => hl l a (by omega) b))
          refine Two.yes n0 (Two.yes (by omega) (Two.bind (P := fun b => b = decide (i + 1 ≤ rd x n ∧ rd x n ≤ rd x i - 1)) ⟨_, rfl, Ans.pure _, Ans.pure _⟩ fun b hb => Two.ite (fun ht => ?_) (fun _ => Two.pure (by simp))))
          have hb' : i + 1 ≤ rd x n ∧ rd x n ≤ rd x i - 1 := of_decide_eq_true (hb.symm.trans ht)
          simp only [wrap64_up n0 (by omega : n ≤ 4611686018427387904)]
          exact ihm _ (by omega) (by omega) (by omega) (fun l a b e => if q : l = n then q ▸ hb' else hl l a (by omega) e)
      simp only [wrap64_up h0 (by omega : i ≤ 4611686018427387904)]
      exact inner _ _ (by omega) (by omega) (Nat.le_refl _) (fun l a b => by omega)
theorem isPattern (x : List Int) (hx : x.length ≤ 17592186044416) : Two (fun k => spec_loIsPattern.f k x) (fun k => impl_IsPattern.f k x) (fun b => b = true → Pat x) := by
  have no : Two (fun k => spec_loIsPattern.j0 k x true) (fun k => impl_IsPattern.j0 k x true) (fun b => b = true → Pat x) := by
    refine Two.step ?_
    simp only [spec_loIsPattern.j0, impl_IsPattern.j0]
    exact Two.yes (by simp) (Two.pure (by simp))
  simp only [spec_loIsPattern.f, impl_IsPattern.f, impl_isSide.f, l1In, within, wrap64_in ((x.length : Int) / 2) ⟨by omega, by omega⟩, Option.bind_some]
  refine Two.ite (fun _ => no) (fun c => Two.ite (fun b => ?_) (fun _ => no))
  have hb := of_decide_eq_true b
  have hw1 : wrap64 ((x.length : Int) - 1) = (x.length : Int) - 1 := wrap64_in _ ⟨by omega, by omega⟩
  simp only [hw1]
  refine Two.bind (Two.of (l1All x hx 0 ((x.length : Int) - 1)) (areWithin x hx 0 ((x.length : Int) - 1))) fun b hin => ?_
  cases b with
  | false => exact no
  | true =>
    refine Two.step ?_
    simp only [spec_loIsPattern.j0, impl_IsPattern.j0]
    refine Two.not (by simp) ((pairs x (by omega) (fun i a b => allIn_at hin.symm i a b) x.length 0 (by omega) (by omega) (fun j a b => by omega)).mono fun r h hr => ⟨by omega, by omega, by omega, h hr⟩)
/-- May v stand behind q in a pattern. -/
def okGo (i v : Nat) : Nat → List Nat → Bool
  | _, [] => true
  | j, a :: q => (!(a.beq i) || v.beq j) && !(v.beq a) && (a.ble i || (j.blt v && v.blt a)) && okGo i v (j + 1) q
def okN (q : List Nat) (v : Nat) : Bool := !(v.beq q.length) && (q.length.blt v || (q.getD v 0).beq q.length) && okGo q.length v 0 q
/-- The beginnings of patterns of m points. -/
def PN (m : Nat) : Nat → List (List Nat)
  | 0 => [[]]
  | d + 1 => (PN m d).flatMap fun q => ((List.range m).filter (okN q)).map fun v => q ++ [v]
def toZ (p : List Nat) : List Int := p.map fun (v : Nat) => (v : Int)
theorem toZ_len (p : List Nat) : (toZ p).length = p.length := by simp [toZ]
theorem toZ_rd (p : List Nat) (i : Nat) : rd (toZ p) i = ((p.getD i 0 : Nat) : Int) := by
  unfold rd toZ
  simp only [Int.toNat_natCast, List.getD_eq_getElem?_getD, List.getElem?_map]
  cases p[i]? <;> rfl
theorem okGo_of {i v : Nat} : ∀ (q : List Nat) (j : Nat), (∀ t, t < q.length → ((q.getD t 0 = i → v = j + t) ∧ v ≠ q.getD t 0 ∧ (q.getD t 0 ≤ i ∨ (j + t < v ∧ v < q.getD t 0)))) → okGo i v j q = true
  | [], _, _ => rfl
  | a :: q, j, h => by
    have h0 := h 0 (by simp)
    have hs := okGo_of q (j + 1) (fun t ht => by have := h (t + 1) (by simpa using ht); simp only [List.getD_cons_succ] at this; rw [show j + 1 + t = j + (t + 1) by omega]; exact this)
    simp only [List.getD_cons_zero, Nat.add_zero] at h0
    simp only [okGo, hs, Bool.and_true, Bool.and_eq_true, Bool.or_eq_true, Bool.not_eq_true']
    refine ⟨⟨?_, ?_⟩, ?_⟩
    · by_cases e : a = i
      · exact .inr (by rw [h0.1 e]; exact Nat.beq_refl j)
      · exact .inl (Bool.eq_false_iff.mpr (fun h => e (Nat.eq_of_beq_eq_true h)))
    · exact Bool.eq_false_iff.mpr (fun h => h0.2.1 (Nat.eq_of_beq_eq_true h))
    · rcases h0.2.2 with h | h
      · exact .inl (Nat.ble_eq_true_of_le h)
      · exact .inr ⟨Nat.ble_eq_true_of_le h.1, Nat.ble_eq_true_of_le h.2⟩
theorem PN_mem {x : List Int} (h : Pat x) : ∃ y ∈ PN x.length x.length, x = toZ y := by
  obtain ⟨_, _, _, hg, hn⟩ := h
  have hx : x = toZ (x.map Int.toNat) := by
    refine List.ext_getElem (by simp [toZ]) fun m h1 h2 => ?_
    have := hg m (by omega) (by omega)
    unfold rd at this
    rw [Int.toNat_natCast, getD_at _ _ h1] at this
    simp only [toZ, List.getElem_map]
    omega
  have hv : ∀ t, t < x.length → ((x.map Int.toNat).getD t 0 : Int) = rd x t := fun t ht => by
    have e : rd (toZ (x.map Int.toNat)) t = rd x t := by rw [← hx]
    rw [← e, toZ_rd]
  refine ⟨x.map Int.toNat, ?_, hx⟩
  have key : ∀ d, d ≤ x.length → (x.map Int.toNat).take d ∈ PN x.length d := by
    intro d
    induction d with
    | zero => intro _; simp [PN]
    | succ d ih =>
      intro hd
      have hl : ((x.map Int.toNat).take d).length = d := by simp; omega
      have gd := hg d (by omega) (by omega)
      have ed := hv d (by omega)
      rw [PN, List.mem_flatMap]
      refine ⟨(x.map Int.toNat).take d, ih (by omega), List.mem_map.mpr ⟨(x.map Int.toNat).getD d 0, List.mem_filter.mpr ⟨by rw [List.mem_range]; omega, ?_⟩, (take_up (x.map Int.toNat) 0 (by simp; omega)).symm⟩⟩
      have tk : ∀ t, t < d → ((x.map Int.toNat).take d).getD t 0 = (x.map Int.toNat).getD t 0 := fun t ht => by simp [List.getD_eq_getElem?_getD, List.getElem?_take, ht]
      unfold okN
      rw [hl, Bool.and_eq_true, Bool.and_eq_true, Bool.or_eq_true]
      refine ⟨⟨?_, ?_⟩, okGo_of _ _ fun t ht => ?_⟩
      · rw [Bool.not_eq_true']; exact Bool.eq_false_iff.mpr (fun h => by have := Nat.eq_of_beq_eq_true h; omega)
      · by_cases c : d < (x.map Int.toNat).getD d 0
        · exact .inl (Nat.ble_eq_true_of_le c)
        · right
          rw [tk _ (by omega)]
          have e2 := hv ((x.map Int.toNat).getD d 0) (by omega)
          rw [ed, gd.2.2.2] at e2
          rw [show (x.map Int.toNat).getD ((x.map Int.toNat).getD d 0) 0 = d by omega]
          exact Nat.beq_refl d
      · rw [hl] at ht
        rw [tk t ht, Nat.zero_add]
        have gt := hg t (by omega) (by omega)
        have et := hv t (by omega)
        have h2 := gd.2.2.2
        have h3 := gt.2.2.2
        refine ⟨fun e => ?_, fun e => ?_, ?_⟩
        · rw [show rd x t = (d : Int) by omega] at h3; omega
        · rw [show rd x t = rd x d by omega, h2] at h3; omega
        · by_cases c : (x.map Int.toNat).getD t 0 ≤ d
          · exact .inl c
          · have := hn t (by omega) (by omega) d (by omega) (by omega)
            right; omega
  have := key x.length (Nat.le_refl _)
  rwa [List.take_of_length_le (by simp)] at this
theorem l1Own (x : List Int) (h : x.length ≤ 1048576) : spec_l1Own.f x = some x := by
  simp only [spec_l1Own.f, Option.bind_some, List.length_nil, List.nil_append]
  rw [if_pos (by omega)]
/-- The reader of draws: from place a on, at most n places on. -/
theorem draw_next (c : List Int) (hc : ∀ x ∈ c, (Lit.int .u8 x).wf = true) (a s : Int) (h0 : 0 ≤ a) (h1 : a ≤ 2305843009213693952) : ∃ b s', spec_l1Cur_next.f c a s = some (b, a + 1, s') ∧ 0 ≤ b ∧ b ≤ 255 := by
  have hw : wrap64 (a + 1) = a + 1 := wrap64_in _ ⟨by omega, by omega⟩
  simp only [spec_l1Cur_next.f, hw]
  by_cases c1 : a < (c.length : Int)
  · have hr := byte_wf (hc (rd c a) (getD_mem 0 (by omega)))
    have hw2 : wrap64 (rd c a) = rd c a := wrap64_in _ ⟨by omega, by omega⟩
    rw [if_pos c1, if_pos h0, if_pos (by omega)]
    exact ⟨_, _, rfl, by rw [hw2]; exact hr.1, by rw [hw2]; exact hr.2⟩
  · rw [if_neg c1, if_neg (by omega)]
    exact ⟨_, _, rfl, (byte_and _).1, (byte_and _).2⟩
theorem tmod_in {x n : Int} (h : 0 ≤ x) (hn : 1 < n) : 0 ≤ Int.tmod x n ∧ Int.tmod x n < n := ⟨Int.tmod_nonneg _ h, Int.tmod_lt_of_pos _ (by omega)⟩
theorem draw_pick (c : List Int) (hc : ∀ x ∈ c, (Lit.int .u8 x).wf = true) (a s n : Int) (h0 : 0 ≤ a) (h1 : a ≤ 1152921504606846976) : ∃ v a' s', spec_l1Cur_pick.f c a s n = some (v, a', s') ∧ a ≤ a' ∧ a' ≤ a + 2 ∧ 0 ≤ v ∧ (v < n ∨ v = 0) := by
  simp only [spec_l1Cur_pick.f]
  by_cases c1 : n ≤ 1
  · rw [if_pos c1]; exact ⟨_, _, _, rfl, by omega, by omega, by omega, by omega⟩
  · rw [if_neg c1]
    obtain ⟨b, s1, e1, b0, b1⟩ := draw_next c hc a s h0 (by omega)
    rw [e1]; simp only [Option.bind_some]
    by_cases c2 : n > 200
    · rw [if_pos c2]
      obtain ⟨b', s2, e2, b0', b1'⟩ := draw_next c hc (a + 1) s1 (by omega) (by omega)
      rw [e2]; simp only [Option.bind_some]
      rw [if_neg (by omega), wrap64_in (b * 256) ⟨by omega, by omega⟩, wrap64_in (b * 256 + b') ⟨by omega, by omega⟩]
      have := tmod_in (x := b * 256 + b') (n := n) (by omega) (by omega)
      exact ⟨_, _, _, rfl, by omega, by omega, this.1, .inl this.2⟩
    · rw [if_neg c2, if_neg (by omega)]
      have := tmod_in (x := b) (n := n) (by omega) (by omega)
      exact ⟨_, _, _, rfl, by omega, by omega, this.1, .inl this.2⟩
theorem draw_one (c : List Int) (hc : ∀ x ∈ c, (Lit.int .u8 x).wf = true) (a s n : Int) (h0 : 0 ≤ a) (h1 : a ≤ 1152921504606846976) : ∃ v a' s', spec_l1Cur_one.f c a s n = some (v, a', s') ∧ a ≤ a' ∧ a' ≤ a + 2 := by
  obtain ⟨v, a', s', e, h2, h3, _⟩ := draw_pick c hc a s n h0 h1
  simp only [spec_l1Cur_one.f, e, Option.bind_some]
  exact ⟨_, _, _, rfl, h2, h3⟩
theorem draw_among (c : List Int) (hc : ∀ x ∈ c, (Lit.int .u8 x).wf = true) (a s : Int) (l : List Int) (hl : 0 < l.length) (h0 : 0 ≤ a) (h1 : a ≤ 1152921504606846976) : ∃ v a' s', spec_l1Cur_among.f c a s l = some (v, a', s') ∧ a ≤ a' ∧ a' ≤ a + 2 ∧ v ∈ l := by
  obtain ⟨v, a', s', e, h2, h3, h4, h5⟩ := draw_pick c hc a s (l.length : Int) h0 h1
  simp only [spec_l1Cur_among.f, e, Option.bind_some]
  rw [if_pos h4, if_pos (by omega)]
  exact ⟨_, _, _, rfl, h2, h3, getD_mem 0 (by omega)⟩
theorem push_size (s t : ByteArray) : (s ++ t).size = s.size + t.size := ByteArray.size_append
theorem parse_ans (s : ByteArray) : ∃ p b, Ans (fun k => spec_ParsePattern.f k s) (p, b) ∧ p.length ≤ s.size := by
  simp only [spec_ParsePattern.f]
  by_cases c : (s.size : Int) > 12
  · exact ⟨_, _, Ans.yes c (Ans.pure _), by simp⟩
  have key : ∀ (d : Nat) (i : Int) (x o : List Int), 0 ≤ i → i + d = s.size → x.length = s.size → o.length ≤ i → (∀ v ∈ o, 0 ≤ v ∧ v < s.size) → ∃ p b, Ans (fun k => spec_ParsePattern.l0 k s x o i) (p, b) ∧ p.length ≤ s.size := by
    intro d
    induction d with
    | zero =>
      intro i x o h0 h1 hx ho hv
      by_cases c1 : (o.length : Int) > 0
      · exact ⟨_, _, Ans.step (by simp only [spec_ParsePattern.l0]; exact Ans.not (by omega) (Ans.yes c1 (Ans.pure _))), by simp⟩
      · obtain ⟨b, _, e, _⟩ := isPattern x (by omega)
        cases b with
        | true => exact ⟨x, true, Ans.step (by simp only [spec_ParsePattern.l0]; exact Ans.not (by omega) (Ans.not c1 (e.bind (Ans.yes rfl (Ans.pure _))))), by omega⟩
        | false => exact ⟨[], false, Ans.step (by simp only [spec_ParsePattern.l0]; exact Ans.not (by omega) (Ans.not c1 (e.bind (Ans.not (by simp) (Ans.pure _))))), by simp⟩
    | succ d ih =>
      intro i x o h0 h1 hx ho hv
      have hw : wrap64 (i + 1) = i + 1 := wrap64_in _ ⟨by omega, by omega⟩
      by_cases c1 : bt s i = 40
      · obtain ⟨p, b, e, hp⟩ := ih (i + 1) x (o ++ [i]) (by omega) (by omega) hx (by simp; omega) (by
          intro v hv'; rcases List.mem_append.1 hv' with h | h
          · exact hv v h
          · simp at h; omega)
        refine ⟨p, b, Ans.step ?_, hp⟩
        simp only [spec_ParsePattern.l0, hw]
        exact Ans.yes (by omega) (Ans.yes h0 (Ans.yes c1 (Ans.yes (by omega) e)))
      · by_cases c2 : bt s i = 41
        · by_cases c3 : (o.length : Int) > 0
          · have hw2 : wrap64 ((o.length : Int) - 1) = (o.length : Int) - 1 := wrap64_in _ ⟨by omega, by omega⟩
            have hr := hv (rd o ((o.length : Int) - 1)) (getD_mem 0 (by omega))
            obtain ⟨p, b, e, hp⟩ := ih (i + 1) ((x.set i.toNat (rd o ((o.length : Int) - 1))).set (rd o ((o.length : Int) - 1)).toNat i) (o.take ((o.length : Int) - 1).toNat) (by omega) (by omega) (by simp [hx]) (by simp; omega) (fun v hv' => hv v (List.mem_of_mem_take hv'))
            refine ⟨p, b, Ans.step ?_, hp⟩
            simp only [spec_ParsePattern.l0, hw, hw2]
            exact Ans.yes (by omega) (Ans.yes h0 (Ans.not c1 (Ans.yes c2 (Ans.yes c3 (Ans.yes (by omega) (Ans.yes (by omega) (Ans.yes (by omega) (Ans.yes (by omega) (Ans.yes hr.1 (Ans.yes (by omega) e))))))))))
          · exact ⟨_, _, Ans.step (by simp only [spec_ParsePattern.l0]; exact Ans.yes (by omega) (Ans.yes h0 (Ans.not c1 (Ans.yes c2 (Ans.not c3 (Ans.pure _)))))), by simp⟩
        · exact ⟨_, _, Ans.step (by simp only [spec_ParsePattern.l0]; exact Ans.yes (by omega) (Ans.yes h0 (Ans.not c1 (Ans.not c2 (Ans.pure _))))), by simp⟩
  obtain ⟨p, b, e, hp⟩ := key s.size 0 (List.replicate ((s.size : Int) : Int).toNat 0) [] (by omega) (by omega) (by simp) (by simp) (by simp)
  exact ⟨p, b, Ans.not c (Ans.yes (by omega) (Ans.yes (by omega) e)), hp⟩
theorem draw_pattern (c : List Int) (hc : ∀ x ∈ c, (Lit.int .u8 x).wf = true) (a s m : Int) (h0 : 0 ≤ a) (h1 : a ≤ 1000000000) (hm : 1 ≤ m) (hm2 : m ≤ 6) :
    ∃ p a' s', Ans (fun k => spec_l1Cur_pattern.f k c a s m) (p, a', s') ∧ a ≤ a' ∧ a' ≤ a + 100 ∧ (p.length : Int) ≤ 2 * m + 1 := by
  have tail : ∀ (y : List Int) (a s n : Int), 0 ≤ a → a ≤ 1000000000 + n → n ≤ 1000 → (y.length : Int) ≤ 2 * m → ∃ p a' s', spec_l1Cur_one.f c a s 20 = spec_l1Cur_one.f c a s 20 ∧
      ((spec_l1Cur_one.f c a s 20).bind fun bt => if bt.1 = true then (if y.length < 17592186044416 then some ((y ++ [0]), bt.2.1, bt.2.2) else none) else some (y, bt.2.1, bt.2.2)) = some (p, a', s') ∧ a ≤ a' ∧ a' ≤ a + 2 ∧ (p.length : Int) ≤ 2 * m + 1 := by
    intro y a s n h0 h1 hn hy
    obtain ⟨v, a', s', e, h2, h3⟩ := draw_one c hc a s 20 h0 (by omega)
    rw [e]; simp only [Option.bind_some]
    cases v with
    | true => rw [if_pos rfl, if_pos (by omega)]; exact ⟨_, _, _, trivial, rfl, h2, h3, by simp; omega⟩
    | false => rw [if_neg (by simp)]; exact ⟨_, _, _, trivial, rfl, h2, h3, by omega⟩
  have spoil : ∀ (y : List Int) (b : Bool) (a s n : Int), 0 ≤ a → a ≤ 1000000000 + n → n ≤ 900 → (y.length : Int) ≤ 2 * m → (b = true → 0 < y.length) → ∃ p a' s', Ans (fun k => spec_l1Cur_pattern.j1 k y b c a s) (p, a', s') ∧ a ≤ a' ∧ a' ≤ a + 6 ∧ (p.length : Int) ≤ 2 * m + 1 := by
    intro y b a s n h0 h1 hn hy hb
    cases b with
    | true =>
      obtain ⟨v, a1, s1, e1, p1, q1, v0, v1⟩ := draw_pick c hc a s (y.length : Int) h0 (by omega)
      obtain ⟨u, a2, s2, e2, p2, q2, _⟩ := draw_among c hc a1 s1 [-1, 0, 1, (y.length : Int), 4611686018427387904] (by simp) (by omega) (by omega)
      obtain ⟨p, a3, s3, _, e3, p3, q3, hp⟩ := tail (y.set v.toNat u) a2 s2 (n + 4) (by omega) (by omega) (by omega) (by simpa using hy)
      have hb := hb rfl
      refine ⟨p, a3, s3, Ans.step ?_, by omega, by omega, hp⟩
      simp only [spec_l1Cur_pattern.j1, e1, e2, Option.bind_some]
      exact Ans.yes trivial (Ans.yes v0 (Ans.yes (by omega) (Ans.const e3)))
    | false =>
      obtain ⟨p, a3, s3, _, e3, p3, q3, hp⟩ := tail y a s n (by omega) (by omega) (by omega) hy
      refine ⟨p, a3, s3, Ans.step ?_, by omega, by omega, hp⟩
      simp only [spec_l1Cur_pattern.j1]
      exact Ans.not (by simp) (Ans.const e3)
  have loop : ∀ (d : Nat) (t : ByteArray) (o l a s n : Int), 0 ≤ o → 0 ≤ l → 2 * l + o = d → (t.size : Int) + d ≤ 2 * m → 0 ≤ a → a ≤ 1000000000 + n → n + 2 * d ≤ 60 →
      ∃ p a' s', Ans (fun k => spec_l1Cur_pattern.l0 k t o l c a s) (p, a', s') ∧ a ≤ a' ∧ a' ≤ a + 2 * d + 10 ∧ (p.length : Int) ≤ 2 * m + 1 := by
    intro d
    induction d with
    | zero =>
      intro t o l a s n ho hl hd ht h0 h1 hn
      obtain ⟨q, b, e, hq⟩ := parse_ans t
      obtain ⟨v, a1, s1, e1, p1, q1⟩ := draw_one c hc a s 12 h0 (by omega)
      have hown : spec_l1Own.f q = some q := l1Own q (by omega)
      have hw : wrap64 (o + l) = 0 := by rw [wrap64_in _ ⟨by omega, by omega⟩]; omega
      cases v with
      | true =>
        obtain ⟨p, a', s', e2, p2, q2, hp⟩ := spoil q (decide ((q.length : Int) > 0)) a1 s1 (n + 2) (by omega) (by omega) (by omega) (by omega) (by simp)
        refine ⟨p, a', s', Ans.step ?_, by omega, by omega, hp⟩
        simp only [spec_l1Cur_pattern.l0, hw]
        refine Ans.not (by omega) (e.bind ?_)
        simp only [hown, e1, Option.bind_some]
        exact Ans.yes trivial e2
      | false =>
        obtain ⟨p, a', s', e2, p2, q2, hp⟩ := spoil q false a1 s1 (n + 2) (by omega) (by omega) (by omega) (by omega) (by simp)
        refine ⟨p, a', s', Ans.step ?_, by omega, by omega, hp⟩
        simp only [spec_l1Cur_pattern.l0, hw]
        refine Ans.not (by omega) (e.bind ?_)
        simp only [hown, e1, Option.bind_some]
        exact Ans.not (by simp) e2
    | succ d ih =>
      intro t o l a s n ho hl hd ht h0 h1 hn
      have hw : wrap64 (o + l) = o + l := wrap64_in _ ⟨by omega, by omega⟩
      have hw1 : wrap64 (o + 1) = o + 1 := wrap64_in _ ⟨by omega, by omega⟩
      have hw2 : wrap64 (l - 1) = l - 1 := wrap64_in _ ⟨by omega, by omega⟩
      have hw3 : wrap64 (o - 1) = o - 1 := wrap64_in _ ⟨by omega, by omega⟩
      have sz (x : UInt8) : ((t ++ (⟨#[x]⟩ : ByteArray)).size : Int) = t.size + 1 := by rw [push_size]; rfl
      by_cases c1 : l > 0
      · by_cases c2 : o = 0
        · obtain ⟨p, a', s', e, p1, q1, hp⟩ := ih (t ++ (⟨#[40]⟩ : ByteArray)) (o + 1) (l - 1) a s n (by omega) (by omega) (by omega) (by rw [sz]; omega) h0 h1 (by omega)
          refine ⟨p, a', s', Ans.step ?_, by omega, by omega, hp⟩
          simp only [spec_l1Cur_pattern.l0, hw, hw1, hw2]
          exact Ans.yes (by omega) (Ans.yes c1 (Ans.yes c2 (Ans.yes (by omega) e)))
        · obtain ⟨v, a1, s1, e1, p1, q1⟩ := draw_one c hc a s 2 h0 (by omega)
          cases v with
          | true =>
            obtain ⟨p, a', s', e, p2, q2, hp⟩ := ih (t ++ (⟨#[40]⟩ : ByteArray)) (o + 1) (l - 1) a1 s1 (n + 2) (by omega) (by omega) (by omega) (by rw [sz]; omega) (by omega) (by omega) (by omega)
            refine ⟨p, a', s', Ans.step ?_, by omega, by omega, hp⟩
            simp only [spec_l1Cur_pattern.l0, hw, hw1, hw2, e1, Option.bind_some]
            exact Ans.yes (by omega) (Ans.yes c1 (Ans.not c2 (Ans.yes trivial (Ans.yes (by omega) e))))
          | false =>
            obtain ⟨p, a', s', e, p2, q2, hp⟩ := ih (t ++ (⟨#[41]⟩ : ByteArray)) (o - 1) l a1 s1 (n + 2) (by omega) (by omega) (by omega) (by rw [sz]; omega) (by omega) (by omega) (by omega)
            refine ⟨p, a', s', Ans.step ?_, by omega, by omega, hp⟩
            simp only [spec_l1Cur_pattern.l0, hw, hw1, hw3, e1, Option.bind_some]
            exact Ans.yes (by omega) (Ans.yes c1 (Ans.not c2 (Ans.not (by simp) (Ans.yes (by omega) e))))
      · obtain ⟨p, a', s', e, p1, q1, hp⟩ := ih (t ++ (⟨#[41]⟩ : ByteArray)) (o - 1) l a s n (by omega) (by omega) (by omega) (by rw [sz]; omega) h0 h1 (by omega)
        refine ⟨p, a', s', Ans.step ?_, by omega, by omega, hp⟩
        simp only [spec_l1Cur_pattern.l0, hw, hw3]
        exact Ans.yes (by omega) (Ans.not c1 (Ans.yes (by omega) e))
  obtain ⟨v, a1, s1, e1, p1, q1, v0, v1⟩ := draw_pick c hc a s m h0 (by omega)
  have hw : wrap64 (1 + v) = 1 + v := wrap64_in _ ⟨by omega, by omega⟩
  obtain ⟨p, a', s', e, p2, q2, hp⟩ := loop (2 * (1 + v)).toNat ⟨#[]⟩ 0 (1 + v) a1 s1 2 (by omega) (by omega) (by omega) (by have : (ByteArray.size ⟨#[]⟩ : Int) = 0 := rfl; omega) (by omega) (by omega) (by omega)
  refine ⟨p, a', s', ?_, by omega, by omega, hp⟩
  simp only [spec_l1Cur_pattern.f, e1, Option.bind_some, hw]
  exact e
/-- The patterns of 2 n points. -/
def PS (n : Nat) : List (List Nat) := PN (2 * n) (2 * n)
def PL (n : Nat) : List (List Int) := (PS n).map toZ
theorem PL_mem {x : List Int} (h : Pat x) (n : Nat) (hn : x.length = 2 * n) : x ∈ PL n := by
  obtain ⟨y, hy, e⟩ := PN_mem h
  rw [hn] at hy
  exact List.mem_map.mpr ⟨y, hy, e.symm⟩
/-- A pattern joined at a point. -/
def jn (p : List Nat) (i : Nat) : List Nat :=
  let k := if Nat.beq (i + 1) p.length then 0 else i + 1
  let a := p.getD i 0
  let b := p.getD k 0
  if Nat.beq a k then p else (((p.set i k).set k i).set a b).set b a
def jr (p : List Int) (i : Int) : List Int := toZ (jn (p.map Int.toNat) i.toNat)
theorem toZ_nat (p : List Nat) : (toZ p).map Int.toNat = p := by
  induction p with
  | nil => rfl
  | cons a p ih => rw [toZ, List.map_cons, List.map_cons] at *; rw [Int.toNat_natCast]; exact congrArg (a :: ·) ih
def chkJoin (n : Nat) : Bool := (PS n).all fun p => Nat.beq p.length (2 * n) && decide (impl_IsPattern.f 60 (toZ p) = some true) && decide (spec_loIsPattern.f 60 (toZ p) = some true) && (List.range (2 * n)).all fun i => decide (spec_syJoin.f (toZ p) i = some (toZ (jn p i))) && decide (impl_joinedAt.f (toZ p) i = some (toZ (jn p i))) && (PS n).contains (jn p i)
theorem chkJoin_all : ∀ n : Nat, 1 ≤ n → n ≤ 5 → chkJoin n = true := by
  intro n h1 h2
  rcases (show n = 1 ∨ n = 2 ∨ n = 3 ∨ n = 4 ∨ n = 5 by omega) with rfl | rfl | rfl | rfl | rfl
  all_goals decide +kernel
theorem uSame (x y : List Int) (hx : x.length ≤ 17592186044416) : Ans (fun k => laws_uSame.f k x y) (decide (x = y)) := by
  simp only [laws_uSame.f]
  by_cases hl : (x.length : Int) = (y.length : Int)
  · refine Ans.yes hl ?_
    have key : ∀ (d : Nat) (i : Int), 0 ≤ i → i + d = x.length → Ans (fun k => laws_uSame.l0 k x y (x.length : Int) i) (decide (x.drop i.toNat = y.drop i.toNat)) := by
      intro d
      induction d with
      | zero =>
        intro i h0 h1
        refine Ans.step ?_
        simp only [laws_uSame.l0]
        rw [drop_all x (by omega), drop_all y (by omega)]
        exact Ans.not (by omega) (Ans.pure _)
      | succ d ih =>
        intro i h0 h1
        refine Ans.step ?_
        simp only [laws_uSame.l0]
        refine Ans.yes (by omega) (Ans.yes h0 (Ans.yes (by omega) (Ans.yes (by omega) ?_)))
        rw [drop_at x 0 (show i.toNat < x.length by omega), drop_at y 0 (show i.toNat < y.length by omega)]
        by_cases c : rd x i = rd y i
        · have e := ih (i + 1) (by omega) (by omega)
          rw [wrap64_in (i + 1) ⟨by omega, by omega⟩]
          rw [show (i + 1).toNat = i.toNat + 1 by omega] at e
          refine Ans.yes c ?_
          rw [show x.getD i.toNat 0 = y.getD i.toNat 0 from c]
          simpa using e
        · refine Ans.not c ?_
          rw [show decide (x.getD i.toNat 0 :: x.drop (i.toNat + 1) = y.getD i.toNat 0 :: y.drop (i.toNat + 1)) = false from decide_eq_false (fun h => c (by injection h))]
          exact Ans.pure _
    exact key x.length 0 (by omega) (by omega)
  · refine Ans.not hl ?_
    rw [decide_eq_false (fun h => hl (by rw [h]))]
    exact Ans.pure _
/-- A pattern joined at the points of a word. -/
def wr (p w : List Int) : List Int := w.foldl jr p
theorem PL_at {n : Nat} (h1 : 1 ≤ n) (h2 : n ≤ 5) {p : List Int} (hp : p ∈ PL n) : p.length = 2 * n ∧ Ans (fun k => impl_IsPattern.f k p) true ∧ Ans (fun k => spec_loIsPattern.f k p) true ∧
    ∀ i : Int, 0 ≤ i → i < 2 * n → spec_syJoin.f p i = some (jr p i) ∧ impl_joinedAt.f p i = some (jr p i) ∧ jr p i ∈ PL n := by
  obtain ⟨y, hy, rfl⟩ := List.mem_map.mp hp
  have h := List.all_eq_true.mp (chkJoin_all n h1 h2) y hy
  simp only [Bool.and_eq_true, decide_eq_true_eq, List.all_eq_true, List.mem_range] at h
  obtain ⟨⟨⟨a, b⟩, c⟩, d⟩ := h
  refine ⟨by rw [toZ_len]; exact Nat.eq_of_beq_eq_true a, LeO.far (fun k => impl_IsPattern.mono _ k) 60 b, LeO.far (fun k => spec_loIsPattern.mono _ k) 60 c, fun i i0 i1 => ?_⟩
  have := d i.toNat (by omega)
  rw [Int.toNat_of_nonneg i0] at this
  unfold jr
  rw [toZ_nat]
  exact ⟨this.1.1, this.1.2, List.mem_map.mpr ⟨_, List.contains_iff_mem.mp this.2, rfl⟩⟩
theorem wr_mem {n : Nat} (h1 : 1 ≤ n) (h2 : n ≤ 5) (w : List Int) (hw : ∀ v ∈ w, 0 ≤ v ∧ v < 2 * n) : ∀ p ∈ PL n, wr p w ∈ PL n := by
  induction w with
  | nil => exact fun p hp => hp
  | cons v w ih => exact fun p hp => ih (fun u hu => hw u (by simp [hu])) (jr p v) ((PL_at h1 h2 hp).2.2.2 v (hw v (by simp)).1 (hw v (by simp)).2).2.2
theorem words (n : Nat) (h1 : 1 ≤ n) (h2 : n ≤ 5) (w : List Int) (hl : w.length ≤ 101) (hw : ∀ v ∈ w, 0 ≤ v ∧ v < 2 * n) : ∀ (d : Nat) (i : Int) (p : List Int), 0 ≤ i → i + d = w.length → p ∈ PL n →
    Ans (fun k => impl_JoinWord.l0 k p w (w.length : Int) i) (wr p (w.drop i.toNat), true) ∧ Ans (fun k => spec_JoinWord.l0 k p w (w.length : Int) i) (wr p (w.drop i.toNat), true) := by
  intro d
  induction d with
  | zero =>
    intro i p h0 hi hp
    rw [drop_all w (by omega)]
    exact ⟨Ans.step (by simp only [impl_JoinWord.l0]; exact Ans.not (by omega) (Ans.pure _)), Ans.step (by simp only [spec_JoinWord.l0]; exact Ans.not (by omega) (Ans.pure _))⟩
  | succ d ih =>
    intro i p h0 hi hp
    have hv := hw (rd w i) (getD_mem 0 (by omega))
    obtain ⟨e1, e2, e3⟩ := (PL_at h1 h2 hp).2.2.2 _ hv.1 hv.2
    obtain ⟨a, b⟩ := ih (i + 1) _ (by omega) (by omega) e3
    have hwp : wrap64 (i + 1) = i + 1 := wrap64_in _ ⟨by omega, by omega⟩
    rw [show (i + 1).toNat = i.toNat + 1 by omega] at a b
    rw [drop_at w 0 (show i.toNat < w.length by omega)]
    refine ⟨Ans.step ?_, Ans.step ?_⟩
    · simp only [impl_JoinWord.l0, e2, Option.bind_some, hwp]
      exact Ans.yes (by omega) (Ans.yes h0 (Ans.yes (by omega) a))
    · simp only [spec_JoinWord.l0, e1, Option.bind_some, hwp]
      exact Ans.yes (by omega) (Ans.yes h0 (Ans.yes (by omega) b))
theorem allIn_mem {x : List Int} {lo hi : Int} (h : allIn x lo hi = true) : ∀ v ∈ x, lo ≤ v ∧ v ≤ hi := fun v hv => by simpa using List.all_eq_true.mp h v hv
/-- A pattern of few points, or none. -/
theorem pat_or (x : List Int) (hx : x.length ≤ 11) : (Ans (fun k => impl_IsPattern.f k x) false ∧ Ans (fun k => spec_loIsPattern.f k x) false) ∨ ∃ n, 1 ≤ n ∧ n ≤ 5 ∧ x ∈ PL n := by
  obtain ⟨b, hb, e1, e2⟩ := isPattern x (by omega)
  cases b with
  | false => exact .inl ⟨e2, e1⟩
  | true =>
    have hp := hb rfl
    refine .inr ⟨x.length / 2, ?_, ?_, PL_mem hp _ ?_⟩
    · have := hp.2.1; have := hp.2.2.1; omega
    · omega
    · have := hp.2.2.1; omega
theorem joinWord_no (x w : List Int) (e1 : Ans (fun k => impl_IsPattern.f k x) false) (e2 : Ans (fun k => spec_loIsPattern.f k x) false) : Ans (fun k => impl_JoinWord.f k x w) ([], false) ∧ Ans (fun k => spec_JoinWord.f k x w) ([], false) := by
  have no1 : Ans (fun k => impl_JoinWord.j0 k x w true) ([], false) := Ans.step (by simp only [impl_JoinWord.j0]; exact Ans.yes trivial (Ans.pure _))
  have no2 : Ans (fun k => spec_JoinWord.j0 k x w true) ([], false) := Ans.step (by simp only [spec_JoinWord.j0]; exact Ans.yes trivial (Ans.pure _))
  exact ⟨e1.bind (Ans.not (by simp) no1), e2.bind (Ans.not (by simp) no2)⟩
/-- May the word be joined. -/
def wordOk (n : Nat) (w : List Int) : Bool := decide (w.length ≤ 100) && allIn w 0 (2 * n - 1)
theorem wordOk_in {n : Nat} {w : List Int} (h : wordOk n w = true) : w.length ≤ 100 ∧ ∀ v ∈ w, 0 ≤ v ∧ v < 2 * n := by
  unfold wordOk at h
  rw [Bool.and_eq_true, decide_eq_true_eq] at h
  exact ⟨h.1, fun v hv => by have := allIn_mem h.2 v hv; omega⟩
theorem joinWord_yes {n : Nat} (n1 : 1 ≤ n) (n2 : n ≤ 5) {x : List Int} (hp : x ∈ PL n) (w : List Int) (hw : w.length ≤ 1000) :
    Ans (fun k => impl_JoinWord.f k x w) (if wordOk n w = true then (wr x w, true) else ([], false)) ∧ Ans (fun k => spec_JoinWord.f k x w) (if wordOk n w = true then (wr x w, true) else ([], false)) := by
  have no1 : Ans (fun k => impl_JoinWord.j0 k x w true) ([], false) := Ans.step (by simp only [impl_JoinWord.j0]; exact Ans.yes trivial (Ans.pure _))
  have no2 : Ans (fun k => spec_JoinWord.j0 k x w true) ([], false) := Ans.step (by simp only [spec_JoinWord.j0]; exact Ans.yes trivial (Ans.pure _))
  obtain ⟨hl, e1, e2, _⟩ := PL_at n1 n2 hp
  by_cases c : (w.length : Int) > 100
  · have hk : wordOk n w = false := by unfold wordOk; rw [decide_eq_false (by omega : ¬ w.length ≤ 100)]; rfl
    rw [hk]
    exact ⟨e1.bind (Ans.yes rfl (Ans.yes c no1)), e2.bind (Ans.yes rfl (Ans.yes c no2))⟩
  have hw1 : wrap64 ((x.length : Int) - 1) = 2 * (n : Int) - 1 := by rw [wrap64_in _ ⟨by omega, by omega⟩]; omega
  have a1 := areWithin w (by omega) 0 (2 * (n : Int) - 1)
  have a2 := l1All w (by omega) 0 (2 * (n : Int) - 1)
  cases ha : allIn w 0 (2 * (n : Int) - 1) with
  | false =>
    have hk : wordOk n w = false := by unfold wordOk; rw [ha]; simp
    rw [ha] at a1 a2; rw [hk]
    refine ⟨e1.bind (Ans.yes rfl (Ans.not c ?_)), e2.bind (Ans.yes rfl (Ans.not c ?_))⟩
    · rw [hw1]; exact a1.bind no1
    · rw [hw1]; exact a2.bind no2
  | true =>
    have hk : wordOk n w = true := by unfold wordOk; rw [ha, decide_eq_true (by omega : w.length ≤ 100)]; rfl
    rw [ha] at a1 a2; rw [hk, if_pos rfl]
    obtain ⟨b1, b2⟩ := words n n1 n2 w (by omega) (wordOk_in hk).2 w.length 0 x (by omega) (by omega) hp
    refine ⟨e1.bind (Ans.yes rfl (Ans.not c ?_)), e2.bind (Ans.yes rfl (Ans.not c ?_))⟩
    · rw [hw1]
      refine a1.bind (Ans.step ?_)
      simp only [impl_JoinWord.j0, slices_Clone_int_int.f, Option.bind_some, if_pos (by omega : x.length < 17592186044416)]
      exact Ans.not (by simp) b1
    · rw [hw1]
      refine a2.bind (Ans.step ?_)
      simp only [spec_JoinWord.j0, l1Own x (by omega), Option.bind_some]
      exact Ans.not (by simp) b2
theorem joinAt_no (x : List Int) (i : Int) (e1 : Ans (fun k => impl_IsPattern.f k x) false) (e2 : Ans (fun k => spec_loIsPattern.f k x) false) : Ans (fun k => impl_JoinAt.f k x i) ([], false) ∧ Ans (fun k => spec_JoinAt.f k x i) ([], false) :=
  ⟨(joinWord_no x [i] e1 e2).1.bind (Ans.pure _), e2.bind (Ans.not (by simp) (Ans.pure _))⟩
theorem joinAt_yes {n : Nat} (n1 : 1 ≤ n) (n2 : n ≤ 5) {x : List Int} (hp : x ∈ PL n) (i : Int) :
    Ans (fun k => impl_JoinAt.f k x i) (if 0 ≤ i ∧ i < 2 * n then (jr x i, true) else ([], false)) ∧ Ans (fun k => spec_JoinAt.f k x i) (if 0 ≤ i ∧ i < 2 * n then (jr x i, true) else ([], false)) := by
  obtain ⟨hl, e1, e2, hj⟩ := PL_at n1 n2 hp
  have hw1 : wrap64 ((x.length : Int) - 1) = 2 * (n : Int) - 1 := by rw [wrap64_in _ ⟨by omega, by omega⟩]; omega
  constructor
  · refine Ans.bind (h := fun _ (bt : List Int × Bool) => some (bt.1, bt.2)) (joinWord_yes n1 n2 hp [i] (by simp)).1 ?_
    by_cases c : 0 ≤ i ∧ i < 2 * n
    · rw [if_pos c, if_pos (by unfold wordOk allIn; simp; omega)]; exact Ans.pure _
    · rw [if_neg c, if_neg (by unfold wordOk allIn; simp; omega)]; exact Ans.pure _
  · refine e2.bind (Ans.yes rfl ?_)
    simp only [hw1, l1In, Option.bind_some]
    by_cases c : 0 ≤ i ∧ i < 2 * n
    · rw [if_pos c]
      have := (hj i c.1 c.2).1
      simp only [this, Option.bind_some]
      exact Ans.yes (by simp; omega) (Ans.pure _)
    · rw [if_neg c]
      exact Ans.not (by simp; omega) (Ans.pure _)
def arcs (q : List Nat) : List Int := toZ ((List.range q.length).filter fun e => Nat.beq (q.getD e 0) ((e + 1) % q.length))
def tn (p : List Nat) : List Nat := (List.range p.length).map fun e => (p.getD ((e + p.length - 1) % p.length) 0 + 1) % p.length
def tb (p : List Nat) : List Nat := (List.range p.length).map fun e => (p.getD ((e + 1) % p.length) 0 + p.length - 1) % p.length
def chkMore (n : Nat) : Bool := (PS n).all fun p => decide (impl_SmallArcs.f 60 (toZ p) = some (arcs p, true)) && decide (impl_TurnPattern.f 60 (toZ p) 1 = some (toZ (tn p), true)) && decide (impl_TurnPattern.f 60 (toZ p) (-1) = some (toZ (tb p), true)) && (PS n).contains (tn p)
def eqN : List Nat → List Nat → Bool
  | [], [] => true
  | a :: p, b :: q => a.beq b && eqN p q
  | _, _ => false
theorem eqN_eq : ∀ {p q : List Nat}, eqN p q = true → p = q
  | [], [], _ => rfl
  | [], _ :: _, h => by simp [eqN] at h
  | _ :: _, [], h => by simp [eqN] at h
  | a :: p, b :: q, h => by simp only [eqN, Bool.and_eq_true] at h; rw [Nat.eq_of_beq_eq_true h.1, eqN_eq h.2]
def chkLaw (n : Nat) : Bool := (PS n).all fun p => (List.range (2 * n)).all fun i =>
  let q := jn p i
  eqN (jn q i) q && eqN (jn (jn q ((i + 1) % (2 * n))) i) q && eqN (jn (jn q ((i + 2 * n - 1) % (2 * n))) i) q && (arcs q).contains (i : Int) && eqN (tb (jn (tn p) ((i + 1) % (2 * n)))) q &&
  (List.range (2 * n)).all fun j => Nat.beq j i || Nat.beq ((j + 1) % (2 * n)) i || Nat.beq ((i + 1) % (2 * n)) j || eqN (jn q j) (jn (jn p j) i)
theorem chkMore_all : ∀ n : Nat, 1 ≤ n → n ≤ 5 → chkMore n = true := by
  intro n h1 h2
  rcases (show n = 1 ∨ n = 2 ∨ n = 3 ∨ n = 4 ∨ n = 5 by omega) with rfl | rfl | rfl | rfl | rfl
  all_goals decide +kernel
theorem chkLaw_all : ∀ n : Nat, 1 ≤ n → n ≤ 5 → chkLaw n = true := by
  intro n h1 h2
  rcases (show n = 1 ∨ n = 2 ∨ n = 3 ∨ n = 4 ∨ n = 5 by omega) with rfl | rfl | rfl | rfl | rfl
  all_goals decide +kernel
theorem uHas (l : List Int) (hl : l.length ≤ 1000) (i : Int) (h : i ∈ l) : Ans (fun k => laws_uHas.f k l i) true := by
  have key : ∀ (d : Nat) (x : Int), 0 ≤ x → x + d = l.length → i ∈ l.drop x.toNat → Ans (fun k => laws_uHas.l0 k i l (l.length : Int) x) true := by
    intro d
    induction d with
    | zero => intro x h0 h1 h; rw [drop_all l (by omega)] at h; simp at h
    | succ d ih =>
      intro x h0 h1 h
      refine Ans.step ?_
      simp only [laws_uHas.l0, wrap64_in (x + 1) ⟨by omega, by omega⟩]
      refine Ans.yes (by omega) (Ans.yes h0 (Ans.yes (by omega) ?_))
      by_cases c : rd l x = i
      · exact Ans.yes c (Ans.pure _)
      · refine Ans.not c (ih (x + 1) (by omega) (by omega) ?_)
        rw [drop_at l 0 (show x.toNat < l.length by omega)] at h
        rw [show (x + 1).toNat = x.toNat + 1 by omega]
        exact (List.mem_cons.mp h).resolve_left (fun e => c e.symm)
  exact key l.length 0 (by omega) (by omega) h
theorem tmod_nat (a b : Nat) : Int.tmod (a : Int) (b : Int) = ((a % b : Nat) : Int) := by rw [Int.tmod_eq_emod_of_nonneg (by omega)]; omega
theorem tail (p : List Int) (i : Int) (q : List Int) (fine : Bool) (h : fine = true → ∃ n, 1 ≤ n ∧ n ≤ 5 ∧ p ∈ PL n ∧ 0 ≤ i ∧ i < 2 * n ∧ q = jr p i) : Ans (fun k => laws_FnOperatorsJoin.j3 k p i q fine) true := by
  cases fine with
  | false => exact Ans.step (by simp only [laws_FnOperatorsJoin.j3]; exact Ans.not (by simp) (Ans.pure _))
  | true =>
    obtain ⟨n, n1, n2, hp, i0, i1, rfl⟩ := h rfl
    obtain ⟨i, rfl⟩ : ∃ m : Nat, i = m := ⟨i.toNat, by omega⟩
    have hq := ((PL_at n1 n2 hp).2.2.2 i i0 i1).2.2
    have hp' := hp
    obtain ⟨y, hy, rfl⟩ := List.mem_map.mp hp'
    have ly : y.length = 2 * n := by have := (PL_at n1 n2 hp).1; rwa [toZ_len] at this
    have J : ∀ (z : List Nat) (e : Nat), jr (toZ z) (e : Int) = toZ (jn z e) := fun z e => by unfold jr; rw [toZ_nat]; rfl
    have hl := List.all_eq_true.mp (List.all_eq_true.mp (chkLaw_all n n1 n2) y hy) i (by rw [List.mem_range]; omega)
    simp only [Bool.and_eq_true, List.all_eq_true, List.mem_range] at hl
    obtain ⟨⟨⟨⟨⟨h1, h2⟩, h3⟩, h4⟩, h5⟩, h6⟩ := hl
    rw [J] at hq ⊢
    have lq : (toZ (jn y i)).length = 2 * n := (PL_at n1 n2 hq).1
    have lp : (toZ y).length = 2 * n := (PL_at n1 n2 hp).1
    have mem_of : ∀ z, z ∈ PS n → toZ z ∈ PL n := fun z hz => List.mem_map.mpr ⟨z, hz, rfl⟩
    obtain ⟨z, hz, ez⟩ := List.mem_map.mp hq
    have ez : z = jn y i := by have := congrArg (List.map Int.toNat) ez; rwa [toZ_nat, toZ_nat] at this
    rw [ez] at hz
    have m1 := List.all_eq_true.mp (chkMore_all n n1 n2) (jn y i) hz
    have m2 := List.all_eq_true.mp (chkMore_all n n1 n2) y hy
    simp only [Bool.and_eq_true, decide_eq_true_eq] at m1 m2
    have W : ∀ w : List Int, w.length ≤ 100 → (∀ v ∈ w, 0 ≤ v ∧ v < 2 * n) → Ans (fun k => impl_JoinWord.f k (toZ y) w) (wr (toZ y) w, true) := fun w hw hv => by
      have := (joinWord_yes n1 n2 hp w (by omega)).1
      rwa [if_pos (by unfold wordOk allIn; rw [decide_eq_true hw]; simpa using fun v hv' => by have := hv v hv'; omega)] at this
    have A : ∀ (z : List Int) (hz : z ∈ PL n) (e : Int), 0 ≤ e → e < 2 * n → Ans (fun k => impl_JoinAt.f k z e) (jr z e, true) := fun z hz e e0 e1 => by
      have := (joinAt_yes n1 n2 hz e).1
      rwa [if_pos ⟨e0, e1⟩] at this
    have U : ∀ z : List Int, z = toZ (jn y i) → Ans (fun k => laws_uSame.f k z (toZ (jn y i))) true := fun z hz => by
      subst hz
      have := uSame (toZ (jn y i)) (toZ (jn y i)) (by omega)
      rwa [decide_eq_true rfl] at this
    have up : Int.tmod (wrap64 ((i : Int) + 1)) ((toZ y).length : Int) = (((i + 1) % (2 * n) : Nat) : Int) := by
      rw [wrap64_in _ ⟨by omega, by omega⟩, lp, show (i : Int) + 1 = ((i + 1 : Nat) : Int) by omega, tmod_nat]
    have dn : Int.tmod (wrap64 ((wrap64 ((i : Int) + ((toZ y).length : Int))) - 1)) ((toZ y).length : Int) = (((i + 2 * n - 1) % (2 * n) : Nat) : Int) := by
      rw [wrap64_in ((i : Int) + ((toZ y).length : Int)) ⟨by omega, by omega⟩, wrap64_in _ ⟨by omega, by omega⟩, lp, show (i : Int) + ((2 * n : Nat) : Int) - 1 = ((i + 2 * n - 1 : Nat) : Int) by omega, tmod_nat]
    have up1 := Nat.mod_lt (i + 1) (show 0 < 2 * n by omega)
    have dn1 := Nat.mod_lt (i + 2 * n - 1) (show 0 < 2 * n by omega)
    generalize (i + 1) % (2 * n) = u at *
    generalize (i + 2 * n - 1) % (2 * n) = v at *
    refine Ans.step ?_
    simp only [laws_FnOperatorsJoin.j3, up, dn]
    refine Ans.yes trivial ((A _ hq i i0 i1).bind (Ans.not (by omega) ?_))
    refine (W [(i : Int), (u : Int), (i : Int)] (by simp) (by simp; omega)).bind ((W [(i : Int), (v : Int), (i : Int)] (by simp) (by simp; omega)).bind ?_)
    refine (LeO.far (fun k => impl_SmallArcs.mono _ k) 60 m1.1.1.1).bind (Ans.yes rfl (Ans.yes rfl (Ans.yes rfl (Ans.yes rfl ?_))))
    refine (PL_at n1 n2 hq).2.1.bind (Ans.yes rfl ?_)
    refine (U _ (by rw [J, eqN_eq h1])).bind (Ans.yes rfl ((U _ (by simp only [wr, List.foldl]; rw [J, J, J, eqN_eq h2])).bind (Ans.yes rfl ((U _ (by simp only [wr, List.foldl]; rw [J, J, J, eqN_eq h3])).bind (Ans.yes rfl ?_)))))
    refine (uHas (arcs (jn y i)) (by unfold arcs; rw [toZ_len]; have := List.length_filter_le (fun e => Nat.beq ((jn y i).getD e 0) ((e + 1) % (jn y i).length)) (List.range (jn y i).length); rw [List.length_range] at this; rw [toZ_len] at lq; omega) i (List.contains_iff_mem.mp h4)).bind (Ans.step ?_)
    simp only [laws_FnOperatorsJoin.j4]
    refine Ans.not (by simp) ?_
    have key : ∀ (d j : Nat), j + d = 2 * n → Ans (fun k => laws_FnOperatorsJoin.l1 k (toZ y) i (toZ (jn y i)) ((toZ y).length : Int) (j : Int)) true := by
      intro d
      induction d with
      | zero =>
        intro j hj
        refine Ans.step ?_
        simp only [laws_FnOperatorsJoin.l1, up]
        have ht : tn y ∈ PS n := List.contains_iff_mem.mp m2.2
        have hj2 := (PL_at n1 n2 (mem_of _ ht)).2.2.2 (u : Int) (by omega) (by omega)
        obtain ⟨z2, hz2, ez2⟩ := List.mem_map.mp hj2.2.2
        rw [J] at ez2
        have ez2 : z2 = jn (tn y) u := by have := congrArg (List.map Int.toNat) ez2; rwa [toZ_nat, toZ_nat] at this
        have m3 := List.all_eq_true.mp (chkMore_all n n1 n2) _ (ez2 ▸ hz2)
        simp only [Bool.and_eq_true, decide_eq_true_eq] at m3
        refine Ans.not (by omega) ((LeO.far (fun k => impl_TurnPattern.mono _ _ k) 60 m2.1.1.2).bind (Ans.not (by omega) ((A _ (mem_of _ ht) _ (by omega) (by omega)).bind ?_)))
        simp only [J]
        refine (LeO.far (fun k => impl_TurnPattern.mono _ _ k) 60 m3.1.2).bind (Ans.yes (by first | trivial | rfl) (Ans.yes (by first | trivial | rfl) (Ans.yes (by first | trivial | rfl) ((U _ (by rw [eqN_eq h5])).bind (Ans.pure _)))))
      | succ d ih =>
        intro j hj
        have c0 : (j : Int) < ((toZ y).length : Int) := by rw [lp]; exact Int.ofNat_lt.mpr (Nat.lt_of_lt_of_le (Nat.lt_add_of_pos_right (Nat.succ_pos d)) (Nat.le_of_eq hj))
        have vi : 0 ≤ (i : Int) ∧ (i : Int) < 2 * n := ⟨i0, i1⟩
        have vj : 0 ≤ (j : Int) ∧ (j : Int) < 2 * n := by clear ih; omega
        have vij : ∀ v ∈ [(i : Int), (j : Int)], 0 ≤ v ∧ v < 2 * n := List.forall_mem_cons.mpr ⟨vi, List.forall_mem_cons.mpr ⟨vj, by simp⟩⟩
        have vji : ∀ v ∈ [(j : Int), (i : Int)], 0 ≤ v ∧ v < 2 * n := List.forall_mem_cons.mpr ⟨vj, List.forall_mem_cons.mpr ⟨vi, by simp⟩⟩
        have cj : j < 2 * n := Nat.lt_of_lt_of_le (Nat.lt_add_of_pos_right (Nat.succ_pos d)) (Nat.le_of_eq hj)
        have cp : ¬ ((toZ y).length : Int) = 0 := by rw [lp]; exact fun e => absurd (Int.ofNat_inj.mp e) (Nat.ne_of_gt (Nat.lt_of_le_of_lt (Nat.zero_le _) cj))
        have nx := ih (j + 1) (by rw [← hj]; exact Nat.add_right_comm j 1 d)
        have hw : wrap64 ((j : Int) + 1) = ((j + 1 : Nat) : Int) := by rw [wrap64_in _ ⟨by omega, by omega⟩]; omega
        have skip : Ans (fun k => laws_FnOperatorsJoin.j6 k (toZ y) i (toZ (jn y i)) ((toZ y).length : Int) (j : Int) true) true := Ans.step (by simp only [laws_FnOperatorsJoin.j6, hw]; exact Ans.yes trivial nx)
        have upj : Int.tmod (wrap64 ((j : Int) + 1)) ((toZ y).length : Int) = (((j + 1) % (2 * n) : Nat) : Int) := by rw [hw, lp, tmod_nat]
        refine Ans.step ?_
        simp only [laws_FnOperatorsJoin.l1, up, upj]
        refine Ans.yes c0 ?_
        by_cases c1 : j = i
        · exact Ans.yes (congrArg (fun (m : Nat) => (m : Int)) c1) skip
        refine Ans.not (fun e => c1 (Int.ofNat_inj.mp e)) (Ans.not cp ?_)
        by_cases c2 : (j + 1) % (2 * n) = i
        · exact Ans.yes (congrArg (fun (m : Nat) => (m : Int)) c2) skip
        refine Ans.not (fun e => c2 (Int.ofNat_inj.mp e)) ?_
        by_cases c3 : u = j
        · rw [show ((u : Int) == (j : Int)) = true from beq_iff_eq.mpr (congrArg (fun (m : Nat) => (m : Int)) c3)]; exact skip
        rw [show ((u : Int) == (j : Int)) = false from beq_eq_false_iff_ne.mpr (fun e => c3 (Int.ofNat_inj.mp e))]
        clear upj skip hw
        have h6j := h6 j cj
        simp only [Bool.or_eq_true] at h6j
        have e6 : jn (jn y i) j = jn (jn y j) i := by
          rcases h6j with ((h | h) | h) | h
          · exact absurd (Nat.eq_of_beq_eq_true h) c1
          · exact absurd (Nat.eq_of_beq_eq_true h) c2
          · exact absurd (Nat.eq_of_beq_eq_true h) c3
          · exact eqN_eq h
        clear c1 c2 c3 h6j
        have hw : wrap64 ((j : Int) + 1) = ((j + 1 : Nat) : Int) := by rw [wrap64_in _ ⟨by omega, by omega⟩]; omega
        refine Ans.step ?_
        simp only [laws_FnOperatorsJoin.j6, hw]
        refine Ans.not (by simp) ((W [(i : Int), (j : Int)] (by simp) vij).bind ((W [(j : Int), (i : Int)] (by simp) vji).bind ?_))
        refine Ans.yes rfl (Ans.yes rfl ?_)
        have ew : wr (toZ y) [(i : Int), (j : Int)] = wr (toZ y) [(j : Int), (i : Int)] := by simp only [wr, List.foldl]; rw [J, J, J, J, e6]
        have hwm := wr_mem n1 n2 [(j : Int), (i : Int)] vji _ hp
        rw [ew]
        have hlen : (wr (toZ y) [(j : Int), (i : Int)]).length ≤ 17592186044416 := by rw [(PL_at n1 n2 hwm).1]; omega
        have us := uSame _ (wr (toZ y) [(j : Int), (i : Int)]) hlen
        rw [decide_eq_true rfl] at us
        exact us.bind (Ans.yes rfl nx)
    exact key (2 * n) 0 (by omega)
theorem steps (p : List Int) (i : Int) (q : List Int) (fine : Bool) (ht : Ans (fun k => laws_FnOperatorsJoin.j3 k p i q fine) true) (n : Nat) (n1 : 1 ≤ n) (n2 : n ≤ 5) (w : List Int) (hl : w.length ≤ 100) (hw : ∀ v ∈ w, 0 ≤ v ∧ v < 2 * n) :
    ∀ (d : Nat) (x : Int) (now : List Int), 0 ≤ x → x + d = w.length → now ∈ PL n → Ans (fun k => laws_FnOperatorsJoin.l0 k p i q fine (wr now (w.drop x.toNat)) now w (w.length : Int) x) true := by
  intro d
  induction d with
  | zero =>
    intro x now h0 h1 hn
    rw [drop_all w (by omega)]
    refine Ans.step ?_
    simp only [laws_FnOperatorsJoin.l0]
    refine Ans.not (by omega) ((uSame now now (by have := (PL_at n1 n2 hn).1; omega)).bind (Ans.yes (by simp) ht))
  | succ d ih =>
    intro x now h0 h1 hn
    have hv := hw (rd w x) (getD_mem 0 (by omega))
    have hj := (joinAt_yes n1 n2 hn (rd w x)).1
    rw [if_pos hv] at hj
    have e := ih (x + 1) _ (by omega) (by omega) ((PL_at n1 n2 hn).2.2.2 _ hv.1 hv.2).2.2
    rw [show (x + 1).toNat = x.toNat + 1 by omega] at e
    rw [drop_at w 0 (show x.toNat < w.length by omega)]
    refine Ans.step ?_
    simp only [laws_FnOperatorsJoin.l0, wrap64_in (x + 1) ⟨by omega, by omega⟩]
    exact Ans.yes (by omega) (Ans.yes h0 (Ans.yes (by omega) (hj.bind (Ans.yes rfl e))))
theorem drawJoinAt (c : List Int) (hc : ∀ x ∈ c, (Lit.int .u8 x).wf = true) : ∃ p i, Ans (fun k => spec_DrawJoinAt.f k c) (p, i) ∧ p.length ≤ 11 := by
  obtain ⟨p, a, s, e, a0, a1, hp⟩ := draw_pattern c hc 0 0 5 (by omega) (by omega) (by omega) (by omega)
  obtain ⟨v, a', s', e1, p1, q1, _⟩ := draw_pick c hc a s (wrap64 ((p.length : Int) + 2)) (by omega) (by omega)
  obtain ⟨u, a2, s2, e2, _⟩ := draw_pick c hc a' s' 9 (by omega) (by omega)
  refine ⟨p, wrap64 (v - wrap64 (Int.tdiv u 8)), e.bind ?_, by omega⟩
  simp only [e1, e2, Option.bind_some]
  exact Ans.pure _
theorem drawJoinWord (c : List Int) (hc : ∀ x ∈ c, (Lit.int .u8 x).wf = true) : ∃ p w, Ans (fun k => spec_DrawJoinWord.f k c) (p, w) ∧ p.length ≤ 11 ∧ w.length ≤ 1000 := by
  obtain ⟨p, a, s, e, a0, a1, hp⟩ := draw_pattern c hc 0 0 5 (by omega) (by omega) (by omega) (by omega)
  obtain ⟨v, a2, s2, e1, p1, q1, v0, v1⟩ := draw_pick c hc a s 8 (by omega) (by omega)
  have key : ∀ (d : Nat) (x : List Int) (a s : Int), x.length + d ≤ 100 → 0 ≤ a → a + 2 * d ≤ 10000 → ∃ w, Ans (fun k => spec_DrawJoinWord.l0 k p x (d : Int) c a s) (p, w) ∧ w.length ≤ 1000 := by
    intro d
    induction d with
    | zero =>
      intro x a s hx h0 h1
      obtain ⟨v, a2, s2, e1, p1, q1, v0, v1⟩ := draw_pick c hc a s 14 (by omega) (by omega)
      by_cases c1 : v = 0
      · obtain ⟨u, a3, s3, e2, _⟩ := draw_among c hc a2 s2 [(-1), (p.length : Int)] (by simp) (by omega) (by omega)
        refine ⟨x ++ [u], Ans.step ?_, by simp; omega⟩
        simp only [spec_DrawJoinWord.l0, e1, Option.bind_some]
        refine Ans.not (by omega) (Ans.yes c1 ?_)
        simp only [e2, Option.bind_some]
        exact Ans.yes (by omega) (Ans.pure _)
      · by_cases c2 : v = 1
        · obtain ⟨u, a3, s3, e2, p3, q3, u0, u1⟩ := draw_pick c hc a2 s2 2 (by omega) (by omega)
          have hw : wrap64 (100 + u) = 100 + u := wrap64_in _ ⟨by omega, by omega⟩
          refine ⟨List.replicate (100 + u).toNat 0, Ans.step ?_, by simp; omega⟩
          simp only [spec_DrawJoinWord.l0, e1, Option.bind_some]
          refine Ans.not (by omega) (Ans.not c1 (Ans.yes c2 ?_))
          simp only [e2, Option.bind_some, hw]
          exact Ans.yes (by omega) (Ans.yes (by omega) (Ans.pure _))
        · refine ⟨x, Ans.step ?_, by omega⟩
          simp only [spec_DrawJoinWord.l0, e1, Option.bind_some]
          exact Ans.not (by omega) (Ans.not c1 (Ans.not c2 (Ans.pure _)))
    | succ d ih =>
      intro x a s hx h0 h1
      obtain ⟨v, a2, s2, e1, p1, q1, v0, v1⟩ := draw_pick c hc a s (p.length : Int) (by omega) (by omega)
      obtain ⟨w, e, hw⟩ := ih (x ++ [v]) a2 s2 (by simp; omega) (by omega) (by omega)
      refine ⟨w, Ans.step ?_, hw⟩
      simp only [spec_DrawJoinWord.l0, e1, Option.bind_some, wrap64_in (((d + 1 : Nat) : Int) - 1) ⟨by omega, by omega⟩]
      rw [show ((d + 1 : Nat) : Int) - 1 = d by omega]
      exact Ans.yes (by omega) (Ans.yes (by omega) e)
  obtain ⟨w, e2, hw⟩ := key v.toNat [] a2 s2 (by simp; omega) (by omega) (by omega)
  rw [Int.toNat_of_nonneg v0] at e2
  refine ⟨p, w, e.bind ?_, by omega, hw⟩
  simp only [e1, Option.bind_some]
  exact e2
theorem FnOperatorsJoin : laws_FnOperatorsJoin.Pure := by
  intro c m _ _ hc _ _ hm
  refine Ans.at (g := fun k => laws_FnOperatorsJoin.f k c m) ?_
  simp only [laws_FnOperatorsJoin.f]
  obtain ⟨b, hb⟩ : ∃ b, laws_big.f c m = some b := by
    simp only [laws_big.f]
    split
    · exact ⟨_, rfl⟩
    · exact ⟨_, rfl⟩
  simp only [hb, Option.bind_some]
  cases b with
  | true => exact Ans.yes rfl (Ans.pure _)
  | false =>
    refine Ans.not (by simp) ?_
    obtain ⟨p, i, e1, hp⟩ := drawJoinAt c hc
    obtain ⟨w, u, e2, hw, hu⟩ := drawJoinWord m hm
    refine e1.bind ?_
    -- behind the joins of p at i
    have go : ∀ (q : List Int) (fine : Bool), q.length ≤ 12 → (fine = true → ∃ n, 1 ≤ n ∧ n ≤ 5 ∧ p ∈ PL n ∧ 0 ≤ i ∧ i < 2 * n ∧ q = jr p i) → Ans (fun k => impl_JoinAt.f k p i) (q, fine) → Ans (fun k => spec_JoinAt.f k p i) (q, fine) →
        Ans (fun k => (impl_JoinAt.f k p i).bind fun bt106 => (spec_JoinAt.f k p i).bind fun bt110 => if (bt106.2 != bt110.2) = true then laws_FnOperatorsJoin.j0 k m p i bt106.1 bt110.2 true else (laws_uSame.f k bt106.1 bt110.1).bind fun t114 => laws_FnOperatorsJoin.j0 k m p i bt106.1 bt110.2 (!t114)) true := by
      intro q fine hq hf f1 f2
      refine f1.bind (f2.bind (Ans.not (by simp) ((uSame q q (by omega)).bind (Ans.step ?_))))
      simp only [laws_FnOperatorsJoin.j0]
      refine Ans.not (by simp) (e2.bind ?_)
      have t := tail p i q fine hf
      -- behind the joins of w at a word
      have go2 : ∀ (end_ : List Int) (good : Bool), end_.length ≤ 12 → (good = true → ∃ n, 1 ≤ n ∧ n ≤ 5 ∧ w ∈ PL n ∧ u.length ≤ 100 ∧ (∀ v ∈ u, 0 ≤ v ∧ v < 2 * n) ∧ end_ = wr w u) → Ans (fun k => impl_JoinWord.f k w u) (end_, good) → Ans (fun k => spec_JoinWord.f k w u) (end_, good) →
          Ans (fun k => (impl_JoinWord.f k w u).bind fun bt121 => (spec_JoinWord.f k w u).bind fun bt125 => if (bt121.2 != bt125.2) = true then laws_FnOperatorsJoin.j1 k p i q fine w u bt121.1 bt121.2 true else (laws_uSame.f k bt121.1 bt125.1).bind fun t129 => laws_FnOperatorsJoin.j1 k p i q fine w u bt121.1 bt121.2 (!t129)) true := by
        intro en good he hg g1 g2
        refine g1.bind (g2.bind (Ans.not (by simp) ((uSame en en (by omega)).bind (Ans.step ?_))))
        simp only [laws_FnOperatorsJoin.j1]
        refine Ans.not (by simp) ?_
        cases good with
        | false => exact Ans.not (by simp) t
        | true =>
          obtain ⟨n, n1, n2, hwp, hul, hui, rfl⟩ := hg rfl
          exact Ans.yes rfl (steps p i q fine t n n1 n2 u hul hui u.length 0 w (by omega) (by omega) hwp)
      rcases pat_or w hw with ⟨x1, x2⟩ | ⟨n, n1, n2, hwp⟩
      · exact go2 [] false (by simp) (by simp) (joinWord_no w u x1 x2).1 (joinWord_no w u x1 x2).2
      · obtain ⟨y1, y2⟩ := joinWord_yes n1 n2 hwp u hu
        by_cases hk : wordOk n u = true
        · rw [if_pos hk] at y1 y2
          exact go2 _ true (by have := (PL_at n1 n2 (wr_mem n1 n2 u (wordOk_in hk).2 w hwp)).1; omega) (fun _ => ⟨n, n1, n2, hwp, (wordOk_in hk).1, (wordOk_in hk).2, rfl⟩) y1 y2
        · rw [if_neg hk] at y1 y2
          exact go2 [] false (by simp) (by simp) y1 y2
    rcases pat_or p hp with ⟨x1, x2⟩ | ⟨n, n1, n2, hpp⟩
    · exact go [] false (by simp) (by simp) (joinAt_no p i x1 x2).1 (joinAt_no p i x1 x2).2
    · obtain ⟨y1, y2⟩ := joinAt_yes n1 n2 hpp i
      by_cases hk : 0 ≤ i ∧ i < 2 * n
      · rw [if_pos hk] at y1 y2
        exact go _ true (by have := (PL_at n1 n2 ((PL_at n1 n2 hpp).2.2.2 i hk.1 hk.2).2.2).1; omega) (fun _ => ⟨n, n1, n2, hpp, hk.1, hk.2, rfl⟩) y1 y2
      · rw [if_neg hk] at y1 y2
        exact go [] false (by simp) (by simp) y1 y2

end Go.Proofs.Ytchnfacedjjakaa.Pure
