
import Derived.Test.YtgmeijbomnijiaaCFnColoursFlipx6
import Derived.Test.YtgmeijbomnijiaaQTwo
import Derived.Test.YtgmeijbomnijiaaQByte
import Derived.Test.YtgmeijbomnijiaaQByte
namespace Go.Proofs.Ytgmeijbomnijiaa.Pure
open Go.RowKit Go.Proofs.Ytgmeijbomnijiaa.X Go.Proofs.YtgmeijbomnijiaaW.PrintWords Go.Proofs.YtgmeijbomnijiaaW.PrintLast Go.Proofs.Ytgmeijbomnijiaa.Q
set_option linter.unusedVariables false
set_option linter.unusedSimpArgs false
theorem o_ {p : Prop} (h : p := by omega) : p := h
theorem y_ {α : Type} {c : Prop} [Decidable c] {a b : Nat → Option α} {r : α} (hc : c) (x : Ans a r) : Ans (fun k => if c then a k else b k) r := Ans.yes hc x
theorem n_ {α : Type} {c : Prop} [Decidable c] {a b : Nat → Option α} {r : α} (hc : ¬ c) (x : Ans b r) : Ans (fun k => if c then a k else b k) r := Ans.not hc x
theorem p_ {α : Type} {r : α} : Ans (fun _ => some r) r := Ans.pure r
theorem rd_L1_mem {x : Tb_} {i : Int} (h0 : 0 ≤ i) (h1 : i < x.length) : rd_L3 x i ∈ x := by unfold rd_L3; exact getD_mem _ o_
theorem LeO.far {α : Type} {g : Nat → Option α} {r : α} (h : ∀ k, LeO (g k) (g (k + 1))) (m : Nat) (e : g m = some r) : Ans g r :=
 ⟨m, fun k hk => by
  obtain ⟨j, rfl⟩ : ∃ j, k = m + j := ⟨k - m, by omega⟩
  clear hk
  induction j with
  | zero => exact e
  | succ j ih => exact h _ r ih⟩
theorem l1In (a b c : Int) : spec_l1In.f a b c = some (decide (b ≤ a ∧ a ≤ c)) := by
 unfold spec_l1In.f
 by_cases h : a ≥ b
 ·rw [if_pos h]; refine congrArg some (decide_eq_decide.mpr ⟨fun q => ⟨h, q⟩, fun q => q.2⟩)
 ·rw [if_neg h, decide_eq_false o_]
theorem within (a b c : Int) : impl_within.f a b c = some (decide (b ≤ a ∧ a ≤ c)) := by
 unfold impl_within.f
 by_cases h : b ≤ a
 ·rw [if_pos h]; refine congrArg some (decide_eq_decide.mpr ⟨fun q => ⟨h, q⟩, fun q => q.2⟩)
 ·rw [if_neg h, decide_eq_false o_]
theorem containsL (x : Tb_) (hx : x.length ≤ 17592186044416) (g : List Int → Option Bool) (p : List Int → Bool) (hg : ∀ a, g a = some (p a)) : Ans (fun k => slices_ContainsFunc_int_int.f k x g) (x.any p) := by
 have key : ∀ (d : Nat) (i : Int), 0 ≤ i → i + d = x.length → ∃ z : Int, Ans (fun k => slices_IndexFunc_int_int.l0 k x g (x.length : Int) i) z ∧ decide (z ≥ 0) = (x.drop i.toNat).any p := by
  intro d
  induction d with
  | zero =>
   intro i h0 h1
   refine ⟨-1, Ans.step ?_, by rw [List.drop_eq_nil_of_le o_]; rfl⟩
   simp only [slices_IndexFunc_int_int.l0]; exact n_ o_ p_
  | succ d ih =>
   intro i h0 h1
   have hd := drop_at x [] (show i.toNat < x.length by omega)
   by_cases c : p (rd_L3 x i) = true
   ·refine ⟨i, Ans.step ?_, by rw [hd, List.any_cons, show p (x.getD i.toNat []) = true from c]; simp [h0]⟩
    simp only [slices_IndexFunc_int_int.l0, hg, Option.bind_some]
    exact y_ o_ (y_ h0 (y_ o_ (y_ c p_)))
   ·obtain ⟨z, e, hz⟩ := ih (i + 1) o_ o_
    refine ⟨z, Ans.step ?_, by rw [hz, hd, List.any_cons, show p (x.getD i.toNat []) = false from Bool.eq_false_iff.mpr c, show (i + 1).toNat = i.toNat + 1 by omega]; simp⟩
    simp only [slices_IndexFunc_int_int.l0, hg, Option.bind_some, wrap64_up h0 (by omega : i ≤ 4611686018427387904)]
    exact y_ o_ (y_ h0 (y_ o_ (n_ c e)))
 obtain ⟨z, e, hz⟩ := key x.length 0 o_ o_
 simp only [slices_ContainsFunc_int_int.f, slices_IndexFunc_int_int.f]
 have := e.bind (h := fun _ t => some (decide (t ≥ 0))) (Ans.pure (decide (z ≥ 0)))
 rwa [hz] at this
theorem isSquare (x : Tb_) (hx : x.length ≤ 17592186044416) : Ans (fun k => impl_isSquare.f k x) (x.all fun r => decide (r.length = x.length)) := by
 have e := containsL x hx (fun x0_ => impl_isSquare_1.f x0_ x) (fun r => (r.length : Int) != (x.length : Int)) (fun a => rfl)
 have := e.bind (h := fun _ t => some (!t)) p_
 rw [List.not_any_eq_all_not] at this
 rwa [show (fun r : List Int => !((r.length : Int) != (x.length : Int))) = fun r => decide (r.length = x.length) from funext fun r => by by_cases h : r.length = x.length <;> simp [bne, h]; omega] at this
def colOf (x : Tb_) (j : Int) : List Int := x.map fun r => rd r j
theorem range_drop {n i : Nat} (h : i < n) : (List.range n).drop i = i :: (List.range n).drop (i + 1) := by
 rw [drop_at (List.range n) 0 (by simpa using h), getD_at _ _ (by simpa using h), List.getElem_range]
theorem sgTurn (x : Tb_) (h : x.length ≤ 1048576) (hr : ∀ r ∈ x, r.length = x.length) : Ans (fun k => spec_sgTurn.f k x) ((List.range x.length).map fun (j : Nat) => colOf x j) := by
 have inner : ∀ (out : Tb_) (j : Int) (R : Tb_), 0 ≤ j → j < x.length → out.length ≤ 1048576 → ∀ (d : Nat) (i : Int) (acc : List Int), 0 ≤ i → i + d = x.length → acc.length + d ≤ 1048576 →
   Ans (fun k => spec_sgTurn.l0 k x (out ++ [acc ++ colOf (x.drop i.toNat) j]) (x.length : Int) (j + 1)) R → Ans (fun k => spec_sgTurn.l1 k x out j acc (x.length : Int) j x (x.length : Int) i) R := by
  intro out j R hj hj' ho d
  induction d with
  | zero =>
   intro i acc h0 h1 h2 e
   rw [List.drop_eq_nil_of_le o_, colOf, List.map_nil, List.append_nil] at e; refine Ans.step ?_
   simp only [spec_sgTurn.l1, wrap64_up hj (by omega : j ≤ 4611686018427387904)]; exact n_ o_ (y_ o_ e)
  | succ d ih =>
   intro i acc h0 h1 h2 e
   have hm := rd_L1_mem h0 (show i < x.length by omega)
   rw [drop_at x [] (show i.toNat < x.length by omega), show x.getD i.toNat [] = rd_L3 x i from rfl] at e
   refine Ans.step ?_
   simp only [spec_sgTurn.l1, wrap64_up h0 (by omega : i ≤ 4611686018427387904)]
   refine y_ o_ (y_ h0 (y_ o_ (y_ hj (y_ (by have := hr _ hm; omega) (y_ o_ (ih (i + 1) _ o_ o_ (by simp only [List.length_append, List.length_singleton]; omega) ?_))))))
   rw [show (i + 1).toNat = i.toNat + 1 by omega, List.append_assoc, List.singleton_append]
   exact e
 have key : ∀ (d : Nat) (j : Int) (out : Tb_), 0 ≤ j → j + d = x.length → out.length + d ≤ 1048576 → Ans (fun k => spec_sgTurn.l0 k x out (x.length : Int) j) (out ++ ((List.range x.length).drop j.toNat).map fun (j : Nat) => colOf x j) := by
  intro d
  induction d with
  | zero =>
   intro j out h0 h1 h2
   rw [List.drop_eq_nil_of_le (by simp only [List.length_range]; omega), List.map_nil, List.append_nil]; refine Ans.step ?_
   simp only [spec_sgTurn.l0]; exact n_ o_ p_
  | succ d ih =>
   intro j out h0 h1 h2
   have e := ih (j + 1) (out ++ [colOf x j]) o_ o_ (by simp only [List.length_append, List.length_singleton]; omega)
   rw [show (j + 1).toNat = j.toNat + 1 by omega, List.append_assoc, List.singleton_append] at e
   rw [range_drop (show j.toNat < x.length by omega), List.map_cons, show ((j.toNat : Nat) : Int) = j by omega]
   refine Ans.step ?_
   simp only [spec_sgTurn.l0]
   exact y_ o_ (inner out j _ h0 o_ o_ x.length 0 [] o_ o_ (by simp only [List.length_nil]; omega) e)
 exact key x.length 0 [] o_ o_ (by simp only [List.length_nil]; omega)
def walkOk : Int → List Int → Bool
 | s, [] => s == 1
 | s, a :: x => decide (-1 ≤ a ∧ a ≤ 1) && (decide (0 ≤ s + a ∧ s + a ≤ 1) && walkOk (s + a) x)
theorem alternate (x : List Int) (hx : x.length ≤ 17592186044416) : Ans (fun k => impl_alternate.f k x) (walkOk 0 x) := by
 have key : ∀ (d : Nat) (i s : Int), 0 ≤ i → i + d = x.length → 0 ≤ s → s ≤ 1 → Ans (fun k => impl_alternate.l0 k s x (x.length : Int) i) (walkOk s (x.drop i.toNat)) := by
  intro d
  induction d with
  | zero =>
   intro i s h0 h1 s0 s1
   rw [List.drop_eq_nil_of_le o_]; refine Ans.step ?_
   simp only [impl_alternate.l0]; exact n_ o_ p_
  | succ d ih =>
   intro i s h0 h1 s0 s1
   rw [drop_at x 0 (show i.toNat < x.length by omega), show x.getD i.toNat 0 = rd x i from rfl, walkOk]
   refine Ans.step ?_
   simp only [impl_alternate.l0, within, Option.bind_some, wrap64_up h0 (by omega : i ≤ 4611686018427387904)]
   refine y_ o_ (y_ h0 (y_ o_ ?_))
   by_cases c1 : decide (-1 ≤ rd x i ∧ rd x i ≤ 1) = true
   ·have b1 := of_decide_eq_true c1
    have hw : wrap64 (s + rd x i) = s + rd x i := wrap64_in _ ⟨o_, o_⟩
    simp only [hw]
    rw [c1, Bool.true_and]
    refine y_ rfl ?_
    by_cases c2 : decide (0 ≤ s + rd x i ∧ s + rd x i ≤ 1) = true
    ·have b2 := of_decide_eq_true c2
     have e := ih (i + 1) (s + rd x i) o_ o_ b2.1 b2.2
     rw [show (i + 1).toNat = i.toNat + 1 by omega] at e
     rw [c2, Bool.true_and]; exact y_ rfl e
    ·rw [Bool.eq_false_iff.mpr c2, Bool.false_and]; exact n_ (by simp) p_
   ·rw [Bool.eq_false_iff.mpr c1, Bool.false_and]; exact n_ (by simp) p_
 exact key x.length 0 0 o_ o_ o_ o_
theorem sgRows (x : Tb_) (hx : x.length ≤ 17592186044416) (hr : ∀ r ∈ x, r.length ≤ 17592186044416) : Ans (fun k => spec_sgRows.f k x) (x.all (walkOk 0)) := by
 have inner : ∀ (row : List Int) (m : Int) (R : Bool), row.length ≤ 17592186044416 → 0 ≤ m → m ≤ 17592186044416 → Ans (fun k => spec_sgRows.l0 k x (x.length : Int) (m + 1)) R →
   ∀ (d : Nat) (i s : Int), 0 ≤ i → i + d = row.length → 0 ≤ s → s ≤ 1 → Ans (fun k => spec_sgRows.l1 k s x (x.length : Int) m row (row.length : Int) i) (walkOk s (row.drop i.toNat) && R) := by
  intro row m R hrow hm hm' e d
  induction d with
  | zero =>
   intro i s h0 h1 s0 s1
   rw [List.drop_eq_nil_of_le o_, walkOk]; refine Ans.step ?_
   simp only [spec_sgRows.l1, wrap64_up hm (by omega : m ≤ 4611686018427387904)]
   refine n_ o_ ?_
   by_cases c : s = 1
   ·rw [show (s == 1) = true by simp [c], Bool.true_and]; exact y_ c e
   ·rw [show (s == 1) = false by simp [c], Bool.false_and]; exact n_ c p_
  | succ d ih =>
   intro i s h0 h1 s0 s1
   rw [drop_at row 0 (show i.toNat < row.length by omega), show row.getD i.toNat 0 = rd row i from rfl, walkOk]
   refine Ans.step ?_
   simp only [spec_sgRows.l1, l1In, Option.bind_some, wrap64_up h0 (by omega : i ≤ 4611686018427387904)]
   refine y_ o_ (y_ h0 (y_ o_ ?_))
   by_cases c1 : decide (-1 ≤ rd row i ∧ rd row i ≤ 1) = true
   ·have b1 := of_decide_eq_true c1
    have hw : wrap64 (s + rd row i) = s + rd row i := wrap64_in _ ⟨o_, o_⟩
    simp only [hw]
    rw [c1, Bool.true_and]
    refine y_ rfl ?_
    by_cases c2 : decide (0 ≤ s + rd row i ∧ s + rd row i ≤ 1) = true
    ·have b2 := of_decide_eq_true c2
     have e := ih (i + 1) (s + rd row i) o_ o_ b2.1 b2.2
     rw [show (i + 1).toNat = i.toNat + 1 by omega] at e
     rw [c2, Bool.true_and]; exact y_ rfl e
    ·rw [Bool.eq_false_iff.mpr c2, Bool.false_and, Bool.false_and]; exact n_ (by simp) p_
   ·rw [Bool.eq_false_iff.mpr c1, Bool.false_and, Bool.false_and]; exact n_ (by simp) p_
 have key : ∀ (d : Nat) (i : Int), 0 ≤ i → i + d = x.length → Ans (fun k => spec_sgRows.l0 k x (x.length : Int) i) ((x.drop i.toNat).all (walkOk 0)) := by
  intro d
  induction d with
  | zero =>
   intro i h0 h1
   rw [List.drop_eq_nil_of_le o_]; refine Ans.step ?_
   simp only [spec_sgRows.l0]; exact n_ o_ p_
  | succ d ih =>
   intro i h0 h1
   have hm := rd_L1_mem h0 (show i < x.length by omega)
   rw [drop_at x [] (show i.toNat < x.length by omega), show x.getD i.toNat [] = rd_L3 x i from rfl, List.all_cons]
   have e := ih (i + 1) o_ o_
   rw [show (i + 1).toNat = i.toNat + 1 by omega] at e
   refine Ans.step ?_
   simp only [spec_sgRows.l0]
   exact y_ o_ (y_ h0 (y_ o_ (inner _ i _ (hr _ hm) h0 o_ e _ 0 0 o_ (show (0 : Int) + ((rd_L3 x i).length : Nat) = _ by omega) o_ o_)))
 exact key x.length 0 o_ o_
theorem column (x : Tb_) (j : Int) (h : x.length ≤ 1048576) (hj : 0 ≤ j) (hr : ∀ r ∈ x, j < r.length) : Ans (fun k => impl_column.f k x j) (colOf x j) := by
 have key : ∀ (d : Nat) (i : Int) (acc : List Int), 0 ≤ i → i + d = x.length → acc.length + d ≤ 1048576 → Ans (fun k => impl_column.l0 k j acc x (x.length : Int) i) (acc ++ colOf (x.drop i.toNat) j) := by
  intro d
  induction d with
  | zero =>
   intro i acc h0 h1 h2
   rw [List.drop_eq_nil_of_le o_, colOf, List.map_nil, List.append_nil]; refine Ans.step ?_
   simp only [impl_column.l0]; exact n_ o_ p_
  | succ d ih =>
   intro i acc h0 h1 h2
   have hm := rd_L1_mem h0 (show i < x.length by omega)
   have e := ih (i + 1) (acc ++ [rd (rd_L3 x i) j]) o_ o_ (by simp only [List.length_append, List.length_singleton]; omega)
   rw [show (i + 1).toNat = i.toNat + 1 by omega, List.append_assoc, List.singleton_append] at e
   rw [drop_at x [] (show i.toNat < x.length by omega), show x.getD i.toNat [] = rd_L3 x i from rfl]
   refine Ans.step ?_
   simp only [impl_column.l0, wrap64_up h0 (by omega : i ≤ 4611686018427387904)]
   exact y_ o_ (y_ h0 (y_ o_ (y_ hj (y_ (hr _ hm) (y_ o_ e)))))
 exact key x.length 0 [] o_ o_ (by simp only [List.length_nil]; omega)
theorem sgSquare (x : Tb_) (h : x.length ≤ 1048576) : Ans (fun k => spec_sgSquare.f k x) (decide (1 ≤ x.length ∧ x.length ≤ 6) && x.all fun r => decide (r.length = x.length)) := by
 have key : ∀ (d : Nat) (i : Int), 0 ≤ i → i + d = x.length → Ans (fun k => spec_sgSquare.l0 k x x (x.length : Int) i) ((x.drop i.toNat).all fun r => decide (r.length = x.length)) := by
  intro d
  induction d with
  | zero =>
   intro i h0 h1
   rw [List.drop_eq_nil_of_le o_]; refine Ans.step ?_
   simp only [spec_sgSquare.l0]; exact n_ o_ p_
  | succ d ih =>
   intro i h0 h1
   rw [drop_at x [] (show i.toNat < x.length by omega), show x.getD i.toNat [] = rd_L3 x i from rfl, List.all_cons]
   have e := ih (i + 1) o_ o_
   rw [show (i + 1).toNat = i.toNat + 1 by omega] at e
   refine Ans.step ?_
   simp only [spec_sgSquare.l0, wrap64_up h0 (by omega : i ≤ 4611686018427387904)]
   refine y_ o_ (y_ h0 (y_ o_ ?_))
   by_cases c : (rd_L3 x i).length = x.length
   ·rw [decide_eq_true c, Bool.true_and]; exact y_ o_ e
   ·rw [decide_eq_false c, Bool.false_and]; exact n_ o_ p_
 simp only [spec_sgSquare.f, l1In, Option.bind_some]
 by_cases c : decide ((1 : Int) ≤ (x.length : Int) ∧ (x.length : Int) ≤ 6) = true
 ·have b := of_decide_eq_true c
  rw [show decide (1 ≤ x.length ∧ x.length ≤ 6) = true from decide_eq_true ⟨o_, o_⟩, Bool.true_and]
  exact y_ c (key x.length 0 o_ o_)
 ·have b : ¬ ((1 : Int) ≤ (x.length : Int) ∧ (x.length : Int) ≤ 6) := fun h => c (decide_eq_true h)
  rw [show decide (1 ≤ x.length ∧ x.length ≤ 6) = false from decide_eq_false o_, Bool.false_and]
  exact n_ c p_
def sign (x : Tb_) : Bool :=
 (decide (1 ≤ x.length ∧ x.length ≤ 6) && x.all fun r => decide (r.length = x.length)) && (x.all (walkOk 0) && (List.range x.length).all fun (j : Nat) => walkOk 0 (colOf x j))
theorem square_of {x : Tb_} (h : (decide (1 ≤ x.length ∧ x.length ≤ 6) && x.all fun r => decide (r.length = x.length)) = true) : 1 ≤ x.length ∧ x.length ≤ 6 ∧ ∀ r ∈ x, r.length = x.length := by
 rw [Bool.and_eq_true] at h
 have b := of_decide_eq_true h.1
 exact ⟨b.1, b.2, fun r hr => of_decide_eq_true (List.all_eq_true.mp h.2 r hr)⟩
theorem sgGood (x : Tb_) (h : x.length ≤ 1048576) : Ans (fun k => spec_sgGood.f k x) (sign x) := by
 simp only [spec_sgGood.f]
 refine (sgSquare x h).bind ?_
 unfold sign
 by_cases c : (decide (1 ≤ x.length ∧ x.length ≤ 6) && x.all fun r => decide (r.length = x.length)) = true
 ·obtain ⟨b1, b2, b3⟩ := square_of c
  rw [c, Bool.true_and]
  refine y_ rfl ((sgRows x o_ (fun r hr => by have := b3 r hr; omega)).bind ?_)
  by_cases c2 : x.all (walkOk 0) = true
  ·rw [c2, Bool.true_and]
   have e := sgRows ((List.range x.length).map fun (j : Nat) => colOf x j) (by simp only [List.length_map, List.length_range]; omega) (fun r hr => by
    obtain ⟨j, _, rfl⟩ := List.mem_map.1 hr
    simp only [colOf, List.length_map]; omega)
   rw [List.all_map] at e
   exact y_ rfl ((sgTurn x h b3).bind (e.bind p_))
  ·rw [Bool.eq_false_iff.mpr c2, Bool.false_and]; exact n_ (by simp) p_
 ·rw [Bool.eq_false_iff.mpr c, Bool.false_and]; exact n_ (by simp) p_
theorem isSign (x : Tb_) (h : x.length ≤ 1048576) : Ans (fun k => impl_IsSignMatrix.f k x) (sign x) := by
 have no : Ans (fun k => impl_IsSignMatrix.j0 k x true) false := by
  refine Ans.step ?_; simp only [impl_IsSignMatrix.j0]; exact y_ (by simp) p_
 simp only [impl_IsSignMatrix.f, impl_isSide.f, within, Option.bind_some]
 by_cases c : decide ((1 : Int) ≤ (x.length : Int) ∧ (x.length : Int) ≤ 6) = true
 ·have b := of_decide_eq_true c
  refine y_ c ((isSquare x o_).bind ?_)
  unfold sign
  rw [show decide (1 ≤ x.length ∧ x.length ≤ 6) = true from decide_eq_true ⟨o_, o_⟩, Bool.true_and]
  by_cases c2 : (x.all fun r => decide (r.length = x.length)) = true
  ·rw [c2, Bool.true_and]
   have b3 : ∀ r ∈ x, r.length = x.length := fun r hr => of_decide_eq_true (List.all_eq_true.mp c2 r hr)
   have key : ∀ (d : Nat) (i : Int), 0 ≤ i → i + d = x.length → Ans (fun k => impl_IsSignMatrix.l0 k x (x.length : Int) i) ((x.drop i.toNat).all (walkOk 0) && ((List.range x.length).drop i.toNat).all fun (j : Nat) => walkOk 0 (colOf x j)) := by
    intro d
    induction d with
    | zero =>
     intro i h0 h1
     rw [List.drop_eq_nil_of_le o_, List.drop_eq_nil_of_le (by simp only [List.length_range]; omega)]; refine Ans.step ?_
     simp only [impl_IsSignMatrix.l0]; exact n_ o_ p_
    | succ d ih =>
     intro i h0 h1
     have hm := rd_L1_mem h0 (show i < x.length by omega)
     have e := ih (i + 1) o_ o_
     rw [show (i + 1).toNat = i.toNat + 1 by omega] at e
     rw [drop_at x [] (show i.toNat < x.length by omega), show x.getD i.toNat [] = rd_L3 x i from rfl, range_drop (show i.toNat < x.length by omega), List.all_cons, List.all_cons, show ((i.toNat : Nat) : Int) = i by omega]
     refine Ans.step ?_
     simp only [impl_IsSignMatrix.l0, wrap64_up h0 (by omega : i ≤ 4611686018427387904)]
     refine y_ o_ (y_ h0 (y_ o_ ((alternate _ (by have := b3 _ hm; omega)).bind ?_)))
     by_cases q1 : walkOk 0 (rd_L3 x i) = true
     ·rw [q1, Bool.true_and]
      refine y_ rfl ((column x i h h0 (fun r hr => by have := b3 r hr; omega)).bind ((alternate _ (by simp only [colOf, List.length_map]; omega)).bind ?_))
      by_cases q2 : walkOk 0 (colOf x i) = true
      ·rw [q2, Bool.true_and]; exact y_ rfl e
      ·rw [Bool.eq_false_iff.mpr q2, Bool.false_and, Bool.and_false]; exact n_ (by simp) p_
     ·rw [Bool.eq_false_iff.mpr q1, Bool.false_and, Bool.false_and]; exact n_ (by simp) p_
   refine Ans.step ?_
   simp only [impl_IsSignMatrix.j0]
   exact n_ (by simp) (key x.length 0 o_ o_)
  ·rw [Bool.eq_false_iff.mpr c2, Bool.false_and]; exact no
 ·have b : ¬ ((1 : Int) ≤ (x.length : Int) ∧ (x.length : Int) ≤ 6) := fun h => c (decide_eq_true h)
  unfold sign
  rw [show decide (1 ≤ x.length ∧ x.length ≤ 6) = false from decide_eq_false o_, Bool.false_and, Bool.false_and]
  exact n_ c no
def tab (r c : Nat) (v : Nat → Nat → Int) : Tb_ := (List.range r).map fun i => (List.range c).map fun j => v i j
theorem table_row (c : Nat) (hc : c ≤ 1048576) (g : Int → Int → Option Int) (v : Nat → Int) (n : Int) (i : Nat) (hi : i ≤ 1048576) (hg : ∀ j : Nat, j < c → g i j = some (v j)) {R : Tb_} :
  ∀ (d j : Nat) (y : Tb_), j + d = c → i < y.length → (y.getD i []).length = c → Ans (fun k => impl_table.l0 k c g (y.set i ((y.getD i []).take j ++ ((List.range c).drop j).map v)) n ((i + 1 : Nat) : Int)) R →
   Ans (fun k => impl_table.l1 k c g y i n i (c : Int) j) R := by
 intro d
 induction d with
 | zero =>
  intro j y h1 h2 h3 e
  rw [List.drop_eq_nil_of_le (by simp only [List.length_range]; omega), List.map_nil, List.append_nil, List.take_of_length_le o_, set_same y [] i h2] at e
  refine Ans.step ?_
  simp only [impl_table.l1, wrap64_up (show (0 : Int) ≤ (i : Int) by omega) (by omega : (i : Int) ≤ 4611686018427387904)]
  refine n_ o_ ?_
  rw [show ((i + 1 : Nat) : Int) = (i : Int) + 1 by omega] at e
  exact e
 | succ d ih =>
  intro j y h1 h2 h3 e
  have hrow : rd_L3 y (i : Int) = y.getD i [] := by unfold rd_L3; rw [Int.toNat_natCast]
  refine Ans.step ?_
  simp only [impl_table.l1, hg j o_, Option.bind_some, wrap64_up (show (0 : Int) ≤ (j : Int) by omega) (by omega : (j : Int) ≤ 4611686018427387904), hrow, Int.toNat_natCast]
  refine y_ o_ (y_ o_ (y_ o_ (y_ o_ (y_ o_ ?_))))
  have hj : j < (y.getD i []).length := by omega
  obtain ⟨t1, _⟩ := take_set_drop (y.getD i []) j (v j) hj
  have hget : (y.set i ((y.getD i []).set j (v j))).getD i [] = (y.getD i []).set j (v j) := by
   rw [getD_at _ _ (by simpa using h2)]; simp
  have := ih (j + 1) (y.set i ((y.getD i []).set j (v j))) o_ (by simpa using h2) (by rw [hget]; simpa using h3) (by
   rw [hget, List.set_set, t1, List.append_assoc]
   rw [range_drop (show j < c by omega), List.map_cons] at e
   exact e)
  rwa [show ((j + 1 : Nat) : Int) = (j : Int) + 1 by omega] at this
theorem table (r c : Nat) (hr : r ≤ 1048576) (hc : c ≤ 1048576) (g : Int → Int → Option Int) (v : Nat → Nat → Int) (hg : ∀ i j : Nat, i < r → j < c → g i j = some (v i j)) : Ans (fun k => impl_table.f k r c g) (tab r c v) := by
 have key : ∀ (d i : Nat) (y : Tb_), i + d = r → y.length = r → Ans (fun k => impl_table.l0 k c g y (r : Int) i) (y.take i ++ ((List.range r).drop i).map fun i => (List.range c).map fun j => v i j) := by
  intro d
  induction d with
  | zero =>
   intro i y h1 h2
   rw [List.drop_eq_nil_of_le (by simp only [List.length_range]; omega), List.map_nil, List.append_nil, List.take_of_length_le o_]; refine Ans.step ?_
   simp only [impl_table.l0]; exact n_ o_ p_
  | succ d ih =>
   intro i y h1 h2
   have hi : i < y.length := by omega
   have hget : (y.set i (List.replicate c 0)).getD i [] = List.replicate c 0 := by rw [getD_at _ _ (by simpa using hi)]; simp
   obtain ⟨t1, _⟩ := take_set_drop y i ((List.range c).map fun j => v i j) hi
   have e := ih (i + 1) (y.set i ((List.range c).map fun j => v i j)) o_ (by simpa using h2)
   rw [t1, List.append_assoc, List.singleton_append] at e
   rw [range_drop (show i < r by omega), List.map_cons]
   have hrow : rd_L3 (y.set i (List.replicate c 0)) (i : Int) = List.replicate c 0 := by unfold rd_L3; rw [Int.toNat_natCast]; exact hget
   refine Ans.step ?_
   simp only [impl_table.l0, Option.bind_some, Int.toNat_natCast, hrow, List.length_replicate]
   refine y_ o_ (y_ o_ (y_ o_ (y_ o_ (y_ o_ ?_))))
   have := table_row c hc g (v i) (r : Int) i o_ (fun j hj => hg i j o_ hj) c 0 (y.set i (List.replicate c 0)) o_ (by simpa using hi) (by rw [hget]; simp) (by
    rw [List.set_set, List.take_zero, List.drop_zero, List.nil_append]; exact e)
   exact this
 simp only [impl_table.f, Option.bind_some, Int.toNat_natCast, List.length_replicate]
 refine y_ o_ (y_ o_ ?_)
 have := key r 0 (List.replicate r []) o_ (by simp)
 simpa [tab] using this
theorem table_row2 (c : Nat) (hc : c ≤ 1048576) (g : Nat → Int → Int → Option Int) (v : Nat → Int) (n : Int) (i : Nat) (hi : i ≤ 1048576) (hg : ∀ j : Nat, j < c → Ans (fun q => g q i j) (v j)) {R : Tb_} :
  ∀ (d j : Nat) (y : Tb_), j + d = c → i < y.length → (y.getD i []).length = c → Ans2 (fun k q => impl_table.l0 k c (g q) (y.set i ((y.getD i []).take j ++ ((List.range c).drop j).map v)) n ((i + 1 : Nat) : Int)) R →
   Ans2 (fun k q => impl_table.l1 k c (g q) y i n i (c : Int) j) R := by
 intro d
 induction d with
 | zero =>
  intro j y h1 h2 h3 e
  rw [List.drop_eq_nil_of_le (by simp only [List.length_range]; omega), List.map_nil, List.append_nil, List.take_of_length_le o_, set_same y [] i h2] at e
  refine Ans2.step ?_
  simp only [impl_table.l1, wrap64_up (show (0 : Int) ≤ (i : Int) by omega) (by omega : (i : Int) ≤ 4611686018427387904)]
  refine Ans2.not o_ ?_
  rw [show ((i + 1 : Nat) : Int) = (i : Int) + 1 by omega] at e
  exact e
 | succ d ih =>
  intro j y h1 h2 h3 e
  have hrow : rd_L3 y (i : Int) = y.getD i [] := by unfold rd_L3; rw [Int.toNat_natCast]
  refine Ans2.step ?_
  simp only [impl_table.l1, wrap64_up (show (0 : Int) ≤ (j : Int) by omega) (by omega : (j : Int) ≤ 4611686018427387904), hrow, Int.toNat_natCast]
  refine Ans2.yes o_ (Ans2.yes o_ (Ans2.yes o_ ((Ans2.two (hg j o_)).bind (Ans2.yes o_ (Ans2.yes o_ ?_)))))
  have hj : j < (y.getD i []).length := by omega
  obtain ⟨t1, _⟩ := take_set_drop (y.getD i []) j (v j) hj
  have hget : (y.set i ((y.getD i []).set j (v j))).getD i [] = (y.getD i []).set j (v j) := by
   rw [getD_at _ _ (by simpa using h2)]; simp
  have := ih (j + 1) (y.set i ((y.getD i []).set j (v j))) o_ (by simpa using h2) (by rw [hget]; simpa using h3) (by
   rw [hget, List.set_set, t1, List.append_assoc]
   rw [range_drop (show j < c by omega), List.map_cons] at e
   exact e)
  rwa [show ((j + 1 : Nat) : Int) = (j : Int) + 1 by omega] at this
theorem table2 (r c : Nat) (hr : r ≤ 1048576) (hc : c ≤ 1048576) (g : Nat → Int → Int → Option Int) (v : Nat → Nat → Int) (hg : ∀ i j : Nat, i < r → j < c → Ans (fun q => g q i j) (v i j)) : Ans (fun k => impl_table.f k r c (g k)) (tab r c v) := by
 have key : ∀ (d i : Nat) (y : Tb_), i + d = r → y.length = r → Ans2 (fun k q => impl_table.l0 k c (g q) y (r : Int) i) (y.take i ++ ((List.range r).drop i).map fun i => (List.range c).map fun j => v i j) := by
  intro d
  induction d with
  | zero =>
   intro i y h1 h2
   rw [List.drop_eq_nil_of_le (by simp only [List.length_range]; omega), List.map_nil, List.append_nil, List.take_of_length_le o_]; refine Ans2.step ?_
   simp only [impl_table.l0]; exact Ans2.not o_ (Ans2.pure _)
  | succ d ih =>
   intro i y h1 h2
   have hi : i < y.length := by omega
   have hget : (y.set i (List.replicate c 0)).getD i [] = List.replicate c 0 := by rw [getD_at _ _ (by simpa using hi)]; simp
   obtain ⟨t1, _⟩ := take_set_drop y i ((List.range c).map fun j => v i j) hi
   have e := ih (i + 1) (y.set i ((List.range c).map fun j => v i j)) o_ (by simpa using h2)
   rw [t1, List.append_assoc, List.singleton_append] at e
   rw [range_drop (show i < r by omega), List.map_cons]
   have hrow : rd_L3 (y.set i (List.replicate c 0)) (i : Int) = List.replicate c 0 := by unfold rd_L3; rw [Int.toNat_natCast]; exact hget
   refine Ans2.step ?_
   simp only [impl_table.l0, Option.bind_some, Int.toNat_natCast, hrow, List.length_replicate]
   refine Ans2.yes o_ (Ans2.yes o_ (Ans2.yes o_ (Ans2.yes o_ (Ans2.yes o_ ?_))))
   have := table_row2 c hc g (v i) (r : Int) i o_ (fun j hj => hg i j o_ hj) c 0 (y.set i (List.replicate c 0)) o_ (by simpa using hi) (by rw [hget]; simp) (by
    rw [List.set_set, List.take_zero, List.drop_zero, List.nil_append]; exact e)
   exact this
 simp only [impl_table.f, Option.bind_some, Int.toNat_natCast, List.length_replicate]
 refine y_ o_ (y_ o_ ?_)
 have := (key r 0 (List.replicate r []) o_ (by simp)).join
 simpa [tab] using this
def Sq (n : Nat) (x : Tb_) : Prop := x.length = n ∧ ∀ r ∈ x, r.length = n
theorem Sq.row {n : Nat} {x : Tb_} (h : Sq n x) {i : Nat} (hi : i < n) : (x.getD i []).length = n := h.2 _ (getD_mem [] (by rw [h.1]; exact hi))
theorem tab_is {n : Nat} {y : Tb_} (h : Sq n y) (v : Nat → Nat → Int) (hv : ∀ i j : Nat, i < n → j < n → v i j = (y.getD i []).getD j 0) : tab n n v = y := by
 refine List.ext_getElem (by simp [tab, h.1]) fun i h1 h2 => ?_
 have hi : i < n := by rw [← h.1]; exact h2
 have hr := h.row hi
 rw [show (tab n n v)[i] = (List.range n).map (fun j => v i j) by simp [tab], ← getD_at y [] h2]
 refine List.ext_getElem (by simp only [List.length_map, List.length_range]; exact hr.symm) fun j g1 g2 => ?_
 rw [List.getElem_map, List.getElem_range, hv i j hi (by rw [← hr]; exact g2), getD_at _ _ g2]
theorem ext_sq {n : Nat} {x y : Tb_} (hx : Sq n x) (hy : Sq n y) (h : ∀ i j : Nat, i < n → j < n → (x.getD i []).getD j 0 = (y.getD i []).getD j 0) : x = y := by
 rw [← tab_is hx (fun i j => (x.getD i []).getD j 0) (fun _ _ _ _ => rfl), tab_is hy _ h]
def mir (x : Tb_) : Tb_ := x.map List.reverse
def tr (x : Tb_) : Tb_ := (List.range x.length).map fun (j : Nat) => colOf x j
def cw (x : Tb_) : Tb_ := mir (tr x)
theorem sign_sq {x : Tb_} (s : sign x = true) : Sq x.length x ∧ x.length ≤ 6 := by
 unfold sign at s
 rw [Bool.and_eq_true] at s
 obtain ⟨b1, b2, b3⟩ := square_of s.1
 exact ⟨⟨rfl, b3⟩, b2⟩
def S : Nat → (Nat → Int) → Int
 | 0, _ => 0
 | n + 1, f => S n f + f n
theorem S_congr {f g : Nat → Int} : ∀ {n : Nat}, (∀ i, i < n → f i = g i) → S n f = S n g
 | 0, _ => rfl
 | n + 1, h => by rw [S, S, S_congr (fun i hi => h i o_), h n o_]
theorem S_add (f g : Nat → Int) : ∀ n, S n (fun i => f i + g i) = S n f + S n g
 | 0 => rfl
 | n + 1 => by rw [S, S, S, S_add f g n]; omega
theorem S_zero : ∀ n, S n (fun _ => 0) = 0
 | 0 => rfl
 | n + 1 => by rw [S, S_zero n]; rfl
theorem S_comm (F : Nat → Nat → Int) (m : Nat) : ∀ n, S n (fun i => S m (fun j => F i j)) = S m (fun j => S n (fun i => F i j))
 | 0 => by simp only [S]; rw [S_zero]
 | n + 1 => by rw [S, S_comm F m n, ← S_add]; rfl
theorem S_front (f : Nat → Int) : ∀ n, S (n + 1) f = f 0 + S n (fun i => f (i + 1))
 | 0 => by simp [S]
 | n + 1 => by rw [S, S_front f n, S]; omega
def T (n : Nat) (F : Nat → Nat → Int) : Int := S n (fun i => S i (fun k => F i k))
theorem S_bound {f : Nat → Int} {B : Int} : ∀ {n : Nat}, (∀ i, i < n → -B ≤ f i ∧ f i ≤ B) → -(B * n) ≤ S n f ∧ S n f ≤ B * n
 | 0, _ => by simp [S]
 | n + 1, h => by
  have a := S_bound (fun i hi => h i (by omega : i < n + 1)) (n := n)
  have b := h n o_
  rw [S, Int.natCast_add, Int.natCast_one, Int.mul_add, Int.mul_one]; omega
def en (x : Tb_) (i j : Nat) : Int := (x.getD i []).getD j 0
theorem walk_pre : ∀ (c : List Int) (s : Int), 0 ≤ s → s ≤ 1 → walkOk s c = true → (∀ i, i < c.length → (-1 ≤ c.getD i 0 ∧ c.getD i 0 ≤ 1) ∧ 0 ≤ s + S i (fun k => c.getD k 0) ∧ s + S i (fun k => c.getD k 0) ≤ 1 ∧ 0 ≤ s + S i (fun k => c.getD k 0) + c.getD i 0 ∧ s + S i (fun k => c.getD k 0) + c.getD i 0 ≤ 1) ∧ s + S c.length (fun k => c.getD k 0) = 1
 | [], s, _, _, h => ⟨fun i hi => absurd hi (by simp), by simp only [walkOk, beq_iff_eq] at h; simp [S, h]⟩
 | a :: c, s, h0, h1, h => by
  simp only [walkOk, Bool.and_eq_true, decide_eq_true_eq] at h
  obtain ⟨b1, b2, b3⟩ := h
  have ih := walk_pre c (s + a) b2.1 b2.2 b3
  have fr : ∀ m, S (m + 1) (fun k => (a :: c).getD k 0) = a + S m (fun k => c.getD k 0) := fun m => S_front _ m
  refine ⟨fun i hi => ?_, by rw [List.length_cons, fr]; omega⟩
  cases i with
  | zero => simp only [S, List.getD_cons_zero]; omega
  | succ i =>
   have := ih.1 i (by simpa using hi)
   rw [fr, List.getD_cons_succ]; omega
theorem sign_en {x : Tb_} (s : sign x = true) {n : Nat} (hn : x.length = n) : Sq n x ∧ 1 ≤ n ∧ n ≤ 6 ∧
  (∀ i j, i < n → j < n → (-1 ≤ en x i j ∧ en x i j ≤ 1) ∧ (0 ≤ S j (en x i) ∧ S j (en x i) ≤ 1 ∧ 0 ≤ S j (en x i) + en x i j ∧ S j (en x i) + en x i j ≤ 1) ∧ (0 ≤ S i (fun k => en x k j) ∧ S i (fun k => en x k j) ≤ 1 ∧ 0 ≤ S i (fun k => en x k j) + en x i j ∧ S i (fun k => en x k j) + en x i j ≤ 1)) ∧
  (∀ i, i < n → S n (en x i) = 1) ∧ ∀ j, j < n → S n (fun k => en x k j) = 1 := by
 subst hn
 have s' := s
 unfold sign at s'
 simp only [Bool.and_eq_true] at s'
 obtain ⟨h1, h2, q⟩ := square_of (show (decide (1 ≤ x.length ∧ x.length ≤ 6) && x.all fun r => decide (r.length = x.length)) = true by simp only [Bool.and_eq_true]; exact s'.1)
 have sq : Sq x.length x := ⟨rfl, q⟩
 have R : ∀ i, i < x.length → walkOk 0 (x.getD i []) = true := fun i hi => List.all_eq_true.mp s'.2.1 _ (getD_mem [] hi)
 have C : ∀ j, j < x.length → walkOk 0 (colOf x j) = true := fun j hj => List.all_eq_true.mp s'.2.2 j (List.mem_range.mpr hj)
 have ce : ∀ i j, i < x.length → (colOf x (j : Nat)).getD i 0 = en x i j := fun i j hi => by
  rw [getD_at _ _ (by simpa [colOf] using hi)]
  simp only [colOf, List.getElem_map, rd, Int.toNat_natCast, en]
  rw [getD_at x [] hi]
 have cl : ∀ j : Nat, (colOf x j).length = x.length := fun j => by simp [colOf]
 refine ⟨sq, h1, h2, fun i j hi hj => ?_, fun i hi => ?_, fun j hj => ?_⟩
 ·have a := (walk_pre _ 0 o_ o_ (R i hi)).1 j (by rw [sq.row hi]; exact hj)
  have b := (walk_pre _ 0 o_ o_ (C j hj)).1 i (by rw [cl]; exact hi)
  rw [S_congr (fun k hk => ce k j (by omega : k < x.length)), ce i j hi] at b
  have e : S j (en x i) = S j (fun k => (x.getD i []).getD k 0) := rfl
  rw [e]
  have e2 : en x i j = (x.getD i []).getD j 0 := rfl
  rw [← e2] at a
  omega
 ·have a := (walk_pre _ 0 o_ o_ (R i hi)).2
  rw [sq.row hi] at a
  have e : S x.length (en x i) = S x.length (fun k => (x.getD i []).getD k 0) := rfl
  omega
 ·have b := (walk_pre _ 0 o_ o_ (C j hj)).2
  rw [cl, S_congr (fun k hk => ce k j hk)] at b
  omega
theorem ext_en {n : Nat} {x y : Tb_} (hx : Sq n x) (hy : Sq n y) (h : ∀ i j : Nat, i < n → j < n → en x i j = en y i j) : x = y := ext_sq hx hy h
theorem S_split (f : Nat → Int) (a : Nat) : ∀ b, S (a + b) f = S a f + S b (fun t => f (a + t))
 | 0 => by simp [S]
 | b + 1 => by rw [← Nat.add_assoc, S, S_split f a b, S]; omega
theorem walk_of : ∀ (c : List Int) (s : Int), (∀ i, i < c.length → (-1 ≤ c.getD i 0 ∧ c.getD i 0 ≤ 1) ∧ 0 ≤ s + S (i + 1) (fun k => c.getD k 0) ∧ s + S (i + 1) (fun k => c.getD k 0) ≤ 1) → s + S c.length (fun k => c.getD k 0) = 1 → walkOk s c = true
 | [], s, _, h => by simp only [List.length_nil, S] at h; simp only [walkOk, beq_iff_eq]; omega
 | a :: c, s, h, t => by
  have fr : ∀ m, S (m + 1) (fun k => (a :: c).getD k 0) = a + S m (fun k => c.getD k 0) := fun m => S_front _ m
  have h0 := h 0 (by simp)
  rw [fr] at h0
  simp only [S, List.getD_cons_zero] at h0
  simp only [walkOk, Bool.and_eq_true, decide_eq_true_eq]
  refine ⟨h0.1, by omega, walk_of c (s + a) (fun i hi => ?_) (by rw [List.length_cons, fr] at t; omega)⟩
  have := h (i + 1) (by simpa using hi)
  rw [fr, List.getD_cons_succ] at this
  omega
theorem sign_of {n : Nat} {x : Tb_} (h : Sq n x) (h1 : 1 ≤ n) (h2 : n ≤ 6) (R : ∀ r ∈ x, walkOk 0 r = true) (C : ∀ j : Nat, j < n → walkOk 0 (colOf x j) = true) : sign x = true := by
 have hl := h.1
 unfold sign
 simp only [Bool.and_eq_true, decide_eq_true_eq, List.all_eq_true, List.mem_range]
 exact ⟨⟨by omega, fun r hr => by rw [h.2 r hr, hl]⟩, R, fun j hj => C j o_⟩
theorem col_at (x : Tb_) (j i : Nat) (hi : i < x.length) : (colOf x (j : Nat)).getD i 0 = en x i j := by
 rw [getD_at _ _ (by simpa [colOf] using hi)]
 simp only [colOf, List.getElem_map, rd, Int.toNat_natCast, en]
 rw [getD_at x [] hi]
theorem wrap_add (a b : Int) : wrap64 (wrap64 a + b) = wrap64 (a + b) := by unfold wrap64; omega
theorem sumOf (r : List Int) (hr : r.length ≤ 1048576) : Ans (fun k => impl_sum.f k r) (wrap64 (S r.length (fun t => r.getD t 0))) := by
 have key : ∀ (d i : Nat) (a : Int), i + d = r.length → Ans (fun k => impl_sum.l0 k (wrap64 a) r (r.length : Int) (i : Int)) (wrap64 (a + S d (fun t => r.getD (i + t) 0))) := by
  intro d
  induction d with
  | zero =>
   intro i a h
   refine Ans.step ?_
   simp only [impl_sum.l0, S, Int.add_zero]
   exact n_ o_ p_
  | succ d ih =>
   intro i a h
   have e := ih (i + 1) (a + r.getD i 0) o_
   rw [S_front, Nat.add_zero, ← Int.add_assoc, S_congr (f := fun t => r.getD (i + (t + 1)) 0) (g := fun t => r.getD (i + 1 + t) 0) (fun t _ => by congr 1; omega)]
   rw [show ((i + 1 : Nat) : Int) = (i : Int) + 1 by omega] at e
   refine Ans.step ?_
   simp only [impl_sum.l0, wrap64_up (show (0 : Int) ≤ i by omega) o_]
   refine y_ o_ (y_ o_ (y_ o_ ?_))
   rw [show rd r (i : Int) = r.getD i 0 by simp only [rd, Int.toNat_natCast], wrap_add]
   exact e
 have := key r.length 0 0 o_
 rw [show wrap64 0 = 0 from wrap64_in 0 ⟨o_, o_⟩, Int.zero_add, S_congr (g := fun t => r.getD t 0) (fun t _ => by rw [Nat.zero_add])] at this
 exact this
theorem draw_next (c : List Int) (hc : ∀ x ∈ c, (Lit.int .u8 x).wf = true) (a s : Int) (h0 : 0 ≤ a) (h1 : a ≤ 2305843009213693952) : ∃ b s', spec_l1Cur_next.f c a s = some (b, a + 1, s') ∧ 0 ≤ b ∧ b ≤ 255 := by
 have hw : wrap64 (a + 1) = a + 1 := wrap64_in _ ⟨o_, o_⟩
 simp only [spec_l1Cur_next.f, hw]
 by_cases c1 : a < (c.length : Int)
 ·have hr := byte_wf (hc (rd c a) (getD_mem 0 o_))
  have hw2 : wrap64 (rd c a) = rd c a := wrap64_in _ ⟨o_, o_⟩
  rw [if_pos c1, if_pos h0, if_pos o_]
  exact ⟨_, _, rfl, by rw [hw2]; exact hr.1, by rw [hw2]; exact hr.2⟩
 ·rw [if_neg c1, if_neg o_]
  exact ⟨_, _, rfl, (byte_and _).1, (byte_and _).2⟩
theorem tmod_in {x n : Int} (h : 0 ≤ x) (hn : 1 < n) : 0 ≤ Int.tmod x n ∧ Int.tmod x n < n := ⟨Int.tmod_nonneg _ h, Int.tmod_lt_of_pos _ o_⟩
theorem draw_pick (c : List Int) (hc : ∀ x ∈ c, (Lit.int .u8 x).wf = true) (a s n : Int) (h0 : 0 ≤ a) (h1 : a ≤ 1152921504606846976) : ∃ v a' s', spec_l1Cur_pick.f c a s n = some (v, a', s') ∧ a ≤ a' ∧ a' ≤ a + 2 ∧ 0 ≤ v ∧ (v < n ∨ v = 0) := by
 simp only [spec_l1Cur_pick.f]
 by_cases c1 : n ≤ 1
 ·rw [if_pos c1]; exact ⟨_, _, _, rfl, by omega, by omega, by omega, by omega⟩
 ·rw [if_neg c1]
  obtain ⟨b, s1, e1, b0, b1⟩ := draw_next c hc a s h0 o_
  rw [e1]; simp only [Option.bind_some]
  by_cases c2 : n > 200
  ·rw [if_pos c2]
   obtain ⟨b', s2, e2, b0', b1'⟩ := draw_next c hc (a + 1) s1 o_ o_
   rw [e2]; simp only [Option.bind_some]
   rw [if_neg o_, wrap64_in (b * 256) ⟨o_, o_⟩, wrap64_in (b * 256 + b') ⟨o_, o_⟩]
   have := tmod_in (x := b * 256 + b') (n := n) o_ o_
   exact ⟨_, _, _, rfl, by omega, by omega, this.1, .inl this.2⟩
  ·rw [if_neg c2, if_neg o_]
   have := tmod_in (x := b) (n := n) o_ o_
   exact ⟨_, _, _, rfl, by omega, by omega, this.1, .inl this.2⟩
theorem draw_one (c : List Int) (hc : ∀ x ∈ c, (Lit.int .u8 x).wf = true) (a s n : Int) (h0 : 0 ≤ a) (h1 : a ≤ 1152921504606846976) : ∃ v a' s', spec_l1Cur_one.f c a s n = some (v, a', s') ∧ a ≤ a' ∧ a' ≤ a + 2 := by
 obtain ⟨v, a', s', e, h2, h3, _⟩ := draw_pick c hc a s n h0 h1
 simp only [spec_l1Cur_one.f, e, Option.bind_some]
 exact ⟨_, _, _, rfl, h2, h3⟩
theorem draw_among (c : List Int) (hc : ∀ x ∈ c, (Lit.int .u8 x).wf = true) (a s : Int) (l : List Int) (hl : 0 < l.length) (h0 : 0 ≤ a) (h1 : a ≤ 1152921504606846976) : ∃ v a' s', spec_l1Cur_among.f c a s l = some (v, a', s') ∧ a ≤ a' ∧ a' ≤ a + 2 ∧ v ∈ l := by
 obtain ⟨v, a', s', e, h2, h3, h4, h5⟩ := draw_pick c hc a s (l.length : Int) h0 h1
 simp only [spec_l1Cur_among.f, e, Option.bind_some]
 rw [if_pos h4, if_pos o_]
 exact ⟨_, _, _, rfl, h2, h3, getD_mem 0 o_⟩
theorem put_sq {n : Nat} {y : Tb_} (h : Sq n y) (i j : Nat) (hi : i < n) (hj : j < n) (v : Int) : Sq n (y.set i ((y.getD i []).set j v)) ∧
  ∀ a b : Nat, a < n → b < n → ((y.set i ((y.getD i []).set j v)).getD a []).getD b 0 = if a = i ∧ b = j then v else (y.getD a []).getD b 0 := by
 have hr := h.row hi
 refine ⟨⟨by rw [List.length_set]; exact h.1, fun r hr' => ?_⟩, fun a b ha hb => ?_⟩
 ·rcases List.mem_or_eq_of_mem_set hr' with h1 | h1
  ·exact h.2 r h1
  ·rw [h1, List.length_set]; exact hr
 ·have ra := h.row ha
  by_cases e : i = a
  ·subst e
   rw [show (y.set i ((y.getD i []).set j v)).getD i [] = (y.getD i []).set j v from by rw [getD_at (y.set i _) [] (by rw [List.length_set, h.1]; exact hi), List.getElem_set_self]]
   by_cases e2 : j = b
   ·subst e2; rw [if_pos ⟨rfl, rfl⟩, getD_at _ _ (by rw [List.length_set, hr]; exact hj), List.getElem_set_self]
   ·rw [if_neg (fun h => e2 h.2.symm), getD_at _ _ (by rw [List.length_set, hr]; exact hb), List.getElem_set_ne e2, ← getD_at _ 0 (by rw [hr]; exact hb)]
  ·rw [if_neg (fun h => e h.1.symm), getD_at _ [] (by rw [List.length_set, h.1]; exact ha), List.getElem_set_ne e, ← getD_at y [] (by rw [h.1]; exact ha)]
theorem rep_sq (n : Nat) (v : Int) : Sq n (List.replicate n (List.replicate n v)) := ⟨by simp, fun r hr => by rw [List.eq_of_mem_replicate hr]; simp⟩
theorem sgZero (n : Nat) (hn : n ≤ 1000) : Ans (fun k => spec_sgZero.f k n) (List.replicate n (List.replicate n 0)) := by
 have key : ∀ (d i : Nat), i + d = n → Ans (fun k => spec_sgZero.l0 k n (List.replicate i (List.replicate n 0)) (i : Int)) (List.replicate n (List.replicate n 0)) := by
  intro d
  induction d with
  | zero =>
   intro i h
   obtain rfl : i = n := by omega
   exact Ans.step (by simp only [spec_sgZero.l0]; exact n_ o_ p_)
  | succ d ih =>
   intro i h
   have e := ih (i + 1) o_
   refine Ans.step ?_
   simp only [spec_sgZero.l0, wrap64_up (show (0 : Int) ≤ i by omega) o_, Int.toNat_natCast]
   rw [List.replicate_succ', show ((i + 1 : Nat) : Int) = (i : Int) + 1 by omega] at e
   exact y_ o_ (y_ o_ (y_ o_ (y_ (by rw [List.length_replicate]; omega) e)))
 exact key n 0 o_
def sgat (x : Tb_) (i j : Int) : Int := if i < 0 then 0 else if j < 0 then 0 else rd (rd_L3 x i) j
theorem sgAt {n : Nat} {x : Tb_} (h : Sq n x) (i j : Int) (hi : i < n) (hj : j < n) : spec_sgAt.f x i j = some (sgat x i j) := by
 simp only [spec_sgAt.f, sgat]
 by_cases c1 : i < 0
 ·rw [if_pos c1, if_pos c1]
 ·by_cases c2 : j < 0
  ·rw [if_neg c1, if_neg c1, if_pos c2, if_pos c2]
  ·have hr : (rd_L3 x i).length = n := h.row o_
   rw [if_neg c1, if_neg c1, if_neg c2, if_neg c2, if_pos o_, if_pos (by have := h.1; omega), if_pos o_, if_pos o_]
def diff (x : Tb_) (i j : Int) : Int := wrap64 (wrap64 (wrap64 (sgat x i j - sgat x (i - 1) j) - sgat x i (j - 1)) + sgat x (i - 1) (j - 1))
def frm (x : Tb_) : Tb_ := tab x.length x.length (fun i j => diff x i j)
theorem tab_sq (n : Nat) (v : Nat → Nat → Int) : Sq n (tab n n v) := ⟨by simp [tab], fun r hr => by obtain ⟨a, _, rfl⟩ := List.mem_map.1 hr; simp⟩
theorem sgFrom (n : Nat) (x : Tb_) (h : Sq n x) (hn : n ≤ 1000) : Ans (fun k => spec_sgFrom.f k x) (frm x) := by
 have hx := h.1
 have inner : ∀ (i : Nat), i < n → ∀ (d j : Nat) (y : Tb_), j + d = n → Sq n y → (∀ a b : Nat, a < n → b < n → (a < i ∨ a = i ∧ b < j) → (y.getD a []).getD b 0 = diff x a b) →
   (∀ y', Sq n y' → (∀ a b : Nat, a < n → b < n → a < i + 1 → (y'.getD a []).getD b 0 = diff x a b) → Ans (fun k => spec_sgFrom.l0 k x y' (n : Int) ((i + 1 : Nat) : Int)) (frm x)) →
   Ans (fun k => spec_sgFrom.l1 k x y (i : Int) (n : Int) (i : Int) (n : Int) (j : Int)) (frm x) := by
  intro i hi d
  induction d with
  | zero =>
   intro j y hj hy hv nx
   refine Ans.step ?_
   simp only [spec_sgFrom.l1, wrap64_up (show (0 : Int) ≤ i by omega) o_]
   have := nx y hy (fun a b ha hb hlt => hv a b ha hb o_)
   rw [show ((i + 1 : Nat) : Int) = (i : Int) + 1 by omega] at this
   exact n_ o_ this
  | succ d ih =>
   intro j y hj hy hv nx
   obtain ⟨q1, q2⟩ := put_sq hy i j hi o_ (diff x i j)
   have e := ih (j + 1) _ o_ q1 (fun a b ha hb hlt => by
    rw [q2 a b ha hb]
    by_cases c : a = i ∧ b = j
    ·rw [if_pos c, c.1, c.2]
    ·rw [if_neg c]; exact hv a b ha hb o_) nx
   have hr : (rd_L3 y (i : Int)).length = n := by unfold rd_L3; rw [Int.toNat_natCast]; exact hy.row hi
   have w1 : wrap64 ((i : Int) - 1) = (i : Int) - 1 := wrap64_in _ ⟨o_, o_⟩
   have w2 : wrap64 ((j : Int) - 1) = (j : Int) - 1 := wrap64_in _ ⟨o_, o_⟩
   refine Ans.step ?_
   simp only [spec_sgFrom.l1, w1, w2, wrap64_up (show (0 : Int) ≤ j by omega) o_, sgAt h i j o_ o_, sgAt h ((i : Int) - 1) j o_ o_, sgAt h i ((j : Int) - 1) o_ o_, sgAt h ((i : Int) - 1) ((j : Int) - 1) o_ o_, Option.bind_some, Int.toNat_natCast]
   rw [show ((j + 1 : Nat) : Int) = (j : Int) + 1 by omega] at e
   exact y_ o_ (y_ o_ (y_ (by have := hy.1; omega) (y_ o_ (y_ o_ e))))
 have key : ∀ (d i : Nat) (y : Tb_), i + d = n → Sq n y → (∀ a b : Nat, a < n → b < n → a < i → (y.getD a []).getD b 0 = diff x a b) → Ans (fun k => spec_sgFrom.l0 k x y (n : Int) (i : Int)) (frm x) := by
  intro d
  induction d with
  | zero =>
   intro i y h1 hy hv
   have : y = frm x := by unfold frm; rw [hx]; exact (tab_is hy _ (fun a b ha hb => (hv a b ha hb o_).symm)).symm
   rw [this]
   exact Ans.step (by simp only [spec_sgFrom.l0]; exact n_ o_ p_)
  | succ d ih =>
   intro i y h1 hy hv
   refine Ans.step ?_
   simp only [spec_sgFrom.l0, hx]
   exact y_ o_ (inner i o_ n 0 y o_ hy (fun a b ha hb hlt => hv a b ha hb o_) (fun y' hy' hv' => ih (i + 1) y' o_ hy' hv'))
 simp only [spec_sgFrom.f, hx]
 exact (sgZero n hn).bind (by
  have := key n 0 (List.replicate n (List.replicate n 0)) o_ (rep_sq n 0) (fun a b ha hb hlt => by omega)
  simpa [rep_sq] using this)
theorem frm_sq {n : Nat} {x : Tb_} (h : Sq n x) : Sq n (frm x) := by unfold frm; rw [h.1]; exact tab_sq n _
def corn (n : Nat) : Tb_ := tab n n (fun i j => ((min i j : Nat) : Int) + 1)
theorem corn_sign : ∀ n : Nat, 1 ≤ n → n ≤ 6 → sign (frm (corn n)) = true := by
 intro n h1 h2
 rcases (show n = 1 ∨ n = 2 ∨ n = 3 ∨ n = 4 ∨ n = 5 ∨ n = 6 by omega) with rfl | rfl | rfl | rfl | rfl | rfl
 all_goals decide +kernel
def InZ (x : Tb_) : Prop := ∀ r ∈ x, ∀ v ∈ r, -9223372036854775808 ≤ v ∧ v ≤ 9223372036854775807
theorem wrap64_range (n : Int) : -9223372036854775808 ≤ wrap64 n ∧ wrap64 n ≤ 9223372036854775807 := by unfold wrap64; omega
theorem InZ.put {x : Tb_} (h : InZ x) (i j : Nat) (hi : i < x.length) (n : Int) : InZ (x.set i ((x.getD i []).set j (wrap64 n))) := by
 intro r hr v hv
 rcases List.mem_or_eq_of_mem_set hr with h1 | h1
 ·exact h r h1 v hv
 ·subst h1
  rcases List.mem_or_eq_of_mem_set hv with h2 | h2
  ·exact h _ (getD_mem [] hi) v h2
  ·rw [h2]; exact wrap64_range n
theorem draw_sure (c : List Int) (hc : ∀ x ∈ c, (Lit.int .u8 x).wf = true) (a s : Int) (n : Nat) (hn : 1 ≤ n) (hn2 : n ≤ 6) (h0 : 0 ≤ a) (h1 : a ≤ 1000000000000) :
  ∃ m a' s', Ans (fun k => spec_l1Cur_sure.f k c a s n) (m, a', s') ∧ a ≤ a' ∧ a' ≤ a + 1000 ∧ Sq n m ∧ sign m = true := by

 have flips : ∀ (d : Nat) (x : Tb_) (a s : Int), Sq n x → InZ x → sign (frm x) = true → 0 ≤ a → a + 6 * d ≤ 1000000002000 →
   ∃ m a' s', Ans (fun k => spec_l1Cur_sure.l2 k n x (d : Int) c a s) (m, a', s') ∧ a ≤ a' ∧ a' ≤ a + 6 * d ∧ Sq n m ∧ sign m = true := by
  intro d
  induction d with
  | zero =>
   intro x a s hx hz hs h0 h1
   refine ⟨frm x, a, s, Ans.step ?_, by omega, by omega, frm_sq hx, hs⟩
   simp only [spec_l1Cur_sure.l2]
   refine n_ o_ (Ans.step ?_)
   simp only [spec_l1Cur_sure.j3]
   exact n_ (by simp) ((sgFrom n x hx o_).bind p_)
  | succ d ih =>
   intro x a s hx hz hs h0 h1
   by_cases c1 : (n : Int) > 1
   ·have wn : wrap64 ((n : Int) - 1) = (n : Int) - 1 := wrap64_in _ ⟨o_, o_⟩
    obtain ⟨i, a1, s1, e1, p1, q1, i0, i1⟩ := draw_pick c hc a s ((n : Int) - 1) h0 o_
    obtain ⟨j, a2, s2, e2, p2, q2, j0, j1⟩ := draw_pick c hc a1 s1 ((n : Int) - 1) o_ o_
    obtain ⟨v, a3, s3, e3, p3, q3, v0, v1⟩ := draw_pick c hc a2 s2 2 o_ o_
    have hr : (rd_L3 x i).length = n := hx.row o_
    have hl := hx.1
    obtain ⟨y, hy⟩ : ∃ y, y = x.set i.toNat ((rd_L3 x i).set j.toNat (wrap64 ((rd (rd_L3 x i) j) + (wrap64 ((wrap64 (2 * v)) - 1))))) := ⟨_, rfl⟩
    have ys : Sq n y := by rw [hy]; exact (put_sq hx i.toNat j.toNat o_ o_ _).1
    have yz : InZ y := by rw [hy]; exact hz.put i.toNat j.toNat o_ _
    have wd : wrap64 (((d + 1 : Nat) : Int) - 1) = d := by rw [wrap64_in _ ⟨o_, o_⟩]; omega
    by_cases c2 : sign (frm y) = true
    ·obtain ⟨m, a', s', e, g1, g2, g3, g4⟩ := ih y a3 s3 ys yz c2 o_ o_
     refine ⟨m, a', s', Ans.step ?_, by omega, by omega, g3, g4⟩
     simp only [spec_l1Cur_sure.l2]
     refine y_ o_ (Ans.step ?_)
     simp only [spec_l1Cur_sure.j3, wn, wd, e1, e2, e3, Option.bind_some, ← hy]
     have gg := sgGood (frm y) (by rw [(frm_sq ys).1]; omega)
     rw [c2] at gg
     exact y_ (by simp; omega) (y_ i0 (y_ o_ (y_ j0 (y_ o_ ((sgFrom n y ys o_).bind (gg.bind (y_ rfl e)))))))
    ·have back : y.set i.toNat ((rd_L3 y i).set j.toNat (wrap64 ((rd (rd_L3 y i) j) - (wrap64 ((wrap64 (2 * v)) - 1))))) = x := by
      have hq := put_sq hx i.toNat j.toNat o_ o_ (wrap64 ((rd (rd_L3 x i) j) + (wrap64 ((wrap64 (2 * v)) - 1))))
      have hq2 := put_sq ys i.toNat j.toNat o_ o_ (wrap64 ((rd (rd_L3 y i) j) - (wrap64 ((wrap64 (2 * v)) - 1))))
      refine ext_sq hq2.1 hx (fun a b ha hb => ?_)
      have e1 := hq2.2 a b ha hb
      rw [show y.getD i.toNat [] = rd_L3 y i from rfl] at e1
      rw [e1]
      have hyv := hq.2 a b ha hb
      rw [show x.getD i.toNat [] = rd_L3 x i from rfl, ← hy] at hyv
      by_cases c3 : a = i.toNat ∧ b = j.toNat
      ·rw [if_pos c3]
       rw [if_pos c3] at hyv
       have e4 : rd (rd_L3 y i) j = wrap64 ((rd (rd_L3 x i) j) + (wrap64 ((wrap64 (2 * v)) - 1))) := by rw [← hyv, c3.1, c3.2]; rfl
       rw [e4, c3.1, c3.2, show (x.getD i.toNat []).getD j.toNat 0 = rd (rd_L3 x i) j from rfl]
       have hz1 := hz (rd_L3 x i) (getD_mem [] o_) (rd (rd_L3 x i) j) (getD_mem 0 o_)
       unfold wrap64
       omega
      ·rw [if_neg c3]; rw [if_neg c3] at hyv; exact hyv
     have hry : (rd_L3 y i).length = n := ys.row o_
     obtain ⟨m, a', s', e, g1, g2, g3, g4⟩ := ih x a3 s3 hx hz hs o_ o_
     refine ⟨m, a', s', Ans.step ?_, by omega, by omega, g3, g4⟩
     simp only [spec_l1Cur_sure.l2]
     refine y_ o_ (Ans.step ?_)
     simp only [spec_l1Cur_sure.j3, wn, wd, e1, e2, e3, Option.bind_some, ← hy, back]
     have gg := sgGood (frm y) (by rw [(frm_sq ys).1]; omega)
     rw [Bool.eq_false_iff.mpr c2] at gg
     exact y_ (by simp; omega) (y_ i0 (y_ o_ (y_ j0 (y_ o_ ((sgFrom n y ys o_).bind (gg.bind (n_ (by simp) (y_ o_ e))))))))
   ·refine ⟨frm x, a, s, Ans.step ?_, by omega, by omega, frm_sq hx, hs⟩
    simp only [spec_l1Cur_sure.l2]
    refine y_ o_ (Ans.step ?_)
    simp only [spec_l1Cur_sure.j3]
    exact n_ (by simp; omega) ((sgFrom n x hx o_).bind p_)

 have w3 : wrap64 ((wrap64 (3 * (n : Int))) * n) = 3 * (n : Int) * n := by
  have : (3 * (n : Int)) * n ≤ 18 * 6 := Int.mul_le_mul o_ o_ o_ o_
  have h0 : 0 ≤ 3 * (n : Int) * n := Int.mul_nonneg o_ o_
  rw [wrap64_in (3 * (n : Int)) ⟨o_, o_⟩, wrap64_in _ ⟨o_, o_⟩]
 obtain ⟨t, a1, s1, e1, p1, q1, t0, t1⟩ := draw_pick c hc a s (3 * (n : Int) * n) h0 o_
 have ht : t ≤ 108 := by
  have : (3 * (n : Int)) * n ≤ 18 * 6 := Int.mul_le_mul o_ o_ o_ o_
  omega
 obtain ⟨m, a', s', e2, p2, q2, g3, g4⟩ := flips t.toNat (corn n) a1 s1 (tab_sq n _) (by
  intro r hr v hv
  obtain ⟨i, hi, rfl⟩ := List.mem_map.1 hr
  obtain ⟨j, hj, rfl⟩ := List.mem_map.1 hv
  rw [List.mem_range] at hi hj
  show -9223372036854775808 ≤ ((min i j : Nat) : Int) + 1 ∧ ((min i j : Nat) : Int) + 1 ≤ 9223372036854775807
  have := Nat.min_le_left i j
  omega) (corn_sign n hn hn2) o_ o_
 rw [Int.toNat_of_nonneg t0] at e2
 refine ⟨m, a', s', ?_, by omega, by omega, g3, g4⟩
 have inner : ∀ (i : Nat), i < n → ∀ (d j : Nat) (y : Tb_), j + d = n → Sq n y → (∀ a b : Nat, a < n → b < n → (a < i ∨ a = i ∧ b < j) → (y.getD a []).getD b 0 = ((min a b : Nat) : Int) + 1) →
   (∀ y', Sq n y' → (∀ a b : Nat, a < n → b < n → a < i + 1 → (y'.getD a []).getD b 0 = ((min a b : Nat) : Int) + 1) → Ans (fun k => spec_l1Cur_sure.l0 k n y' (n : Int) ((i + 1 : Nat) : Int) c a s) (m, a', s')) →
   Ans (fun k => spec_l1Cur_sure.l1 k n y (i : Int) (n : Int) (i : Int) (n : Int) (j : Int) c a s) (m, a', s') := by
  intro i hi d
  induction d with
  | zero =>
   intro j y hj hy hv nx
   refine Ans.step ?_
   simp only [spec_l1Cur_sure.l1, wrap64_up (show (0 : Int) ≤ i by omega) o_]
   have := nx y hy (fun a b ha hb hlt => hv a b ha hb o_)
   rw [show ((i + 1 : Nat) : Int) = (i : Int) + 1 by omega] at this
   exact n_ o_ this
  | succ d ih =>
   intro j y hj hy hv nx
   obtain ⟨q1, q2⟩ := put_sq hy i j hi o_ (((min i j : Nat) : Int) + 1)
   have e := ih (j + 1) _ o_ q1 (fun a b ha hb hlt => by
    rw [q2 a b ha hb]
    by_cases c : a = i ∧ b = j
    ·rw [if_pos c, c.1, c.2]
    ·rw [if_neg c]; exact hv a b ha hb o_) nx
   have hr : (rd_L3 y (i : Int)).length = n := by unfold rd_L3; rw [Int.toNat_natCast]; exact hy.row hi
   have hl : spec_l1Least.f (i : Int) (j : Int) = some ((min i j : Nat) : Int) := by
    simp only [spec_l1Least.f]
    by_cases c : (i : Int) < j
    ·rw [if_pos c, Nat.min_eq_left o_]
    ·rw [if_neg c, Nat.min_eq_right o_]
   have w1 : wrap64 (((min i j : Nat) : Int) + 1) = ((min i j : Nat) : Int) + 1 := wrap64_in _ ⟨o_, o_⟩
   refine Ans.step ?_
   simp only [spec_l1Cur_sure.l1, hl, Option.bind_some, w1, wrap64_up (show (0 : Int) ≤ j by omega) o_, Int.toNat_natCast]
   rw [show ((j + 1 : Nat) : Int) = (j : Int) + 1 by omega] at e
   exact y_ o_ (y_ o_ (y_ (by have := hy.1; omega) (y_ o_ (y_ o_ e))))
 have key : ∀ (d i : Nat) (y : Tb_), i + d = n → Sq n y → (∀ a b : Nat, a < n → b < n → a < i → (y.getD a []).getD b 0 = ((min a b : Nat) : Int) + 1) → Ans (fun k => spec_l1Cur_sure.l0 k n y (n : Int) (i : Int) c a s) (m, a', s') := by
  intro d
  induction d with
  | zero =>
   intro i y h1 hy hv
   have : y = corn n := (tab_is hy _ (fun a b ha hb => (hv a b ha hb o_).symm)).symm
   rw [this]
   refine Ans.step ?_
   simp only [spec_l1Cur_sure.l0, w3, e1, Option.bind_some]
   exact n_ o_ e2
  | succ d ih =>
   intro i y h1 hy hv
   have hl := hy.1
   refine Ans.step ?_
   simp only [spec_l1Cur_sure.l0, hl]
   exact y_ o_ (inner i o_ n 0 y o_ hy (fun a b ha hb hlt => hv a b ha hb o_) (fun y' hy' hv' => ih (i + 1) y' o_ hy' hv'))
 simp only [spec_l1Cur_sure.f]
 refine (sgZero n o_).bind ?_
 simp only [List.length_replicate]
 exact key n 0 _ o_ (rep_sq n 0) (fun a b ha hb hlt => by omega)
theorem draw_signs (c : List Int) (hc : ∀ x ∈ c, (Lit.int .u8 x).wf = true) (a s : Int) (most : Nat) (hm : 1 ≤ most) (hm2 : most ≤ 6) (h0 : 0 ≤ a) (h1 : a ≤ 100000000000) :
  ∃ m a' s', Ans (fun k => spec_l1Cur_signs.f k c a s most) (m, a', s') ∧ a ≤ a' ∧ a' ≤ a + 3000 ∧ m.length ≤ 7 ∧ ∀ r ∈ m, r.length ≤ 7 := by
 obtain ⟨t, a1, s1, e1, p1, q1, t0, t1⟩ := draw_pick c hc a s most h0 o_
 have wt : wrap64 (1 + t) = ((t.toNat + 1 : Nat) : Int) := by rw [wrap64_in _ ⟨o_, o_⟩]; omega
 obtain ⟨n, hn⟩ : ∃ n, n = t.toNat + 1 := ⟨_, rfl⟩
 rw [← hn] at wt
 obtain ⟨m, a2, s2, e2, p2, q2, hs, _⟩ := draw_sure c hc a1 s1 n o_ o_ o_ o_
 obtain ⟨z, a3, s3, e3, p3, q3, z0, z1⟩ := draw_pick c hc a2 s2 20 o_ o_
 have hl := hs.1
 by_cases c0 : z = 0
 ·obtain ⟨i, a4, s4, e4, p4, q4, i0, i1⟩ := draw_pick c hc a3 s3 n o_ o_
  obtain ⟨j, a5, s5, e5, p5, q5, j0, j1⟩ := draw_pick c hc a4 s4 n o_ o_
  obtain ⟨v, a6, s6, e6, p6, q6, _⟩ := draw_among c hc a5 s5 [(-2), (-1), 0, 1, 2, 4611686018427387904] (by simp) o_ o_
  have hr : (rd_L3 m i).length = n := hs.row o_
  refine ⟨m.set i.toNat ((rd_L3 m i).set j.toNat v), a6, s6, ?_, by omega, by omega, by rw [List.length_set]; omega, fun r hr' => ?_⟩
  ·simp only [spec_l1Cur_signs.f, e1, Option.bind_some, wt]
   refine e2.bind ?_
   simp only [e3, Option.bind_some]
   refine y_ c0 ?_
   simp only [e4, Option.bind_some]
   refine y_ i0 (y_ o_ ?_)
   simp only [e5, e6, Option.bind_some]
   exact y_ j0 (y_ o_ p_)
  ·rcases List.mem_or_eq_of_mem_set hr' with h | h
   ·rw [hs.2 r h]; omega
   ·rw [h, List.length_set, hr]; omega
 by_cases c1 : z = 1
 ·refine ⟨m ++ [List.replicate n 0], a3, s3, ?_, by omega, by omega, by simp; omega, fun r hr' => ?_⟩
  ·simp only [spec_l1Cur_signs.f, e1, Option.bind_some, wt]
   refine e2.bind ?_
   simp only [e3, Option.bind_some, Int.toNat_natCast]
   exact n_ c0 (y_ c1 (y_ o_ (y_ o_ (y_ o_ p_))))
  ·rcases List.mem_append.1 hr' with h | h
   ·rw [hs.2 r h]; omega
   ·simp only [List.mem_singleton] at h; rw [h, List.length_replicate]; omega
 by_cases c2 : z = 2
 ·have hr : (rd_L3 m 0).length = n := hs.row o_
  refine ⟨m.set (0 : Int).toNat (rd_L3 m 0 ++ [0]), a3, s3, ?_, by omega, by omega, by rw [List.length_set]; omega, fun r hr' => ?_⟩
  ·simp only [spec_l1Cur_signs.f, e1, Option.bind_some, wt]
   refine e2.bind ?_
   simp only [e3, Option.bind_some]
   exact n_ c0 (n_ c1 (y_ c2 (y_ o_ (y_ o_ p_))))
  ·rcases List.mem_or_eq_of_mem_set hr' with h | h
   ·rw [hs.2 r h]; omega
   ·rw [h, List.length_append, hr]; simp; omega
 by_cases c3 : z = 3
 ·obtain ⟨m2, a4, s4, e4, p4, q4, hs2, _⟩ := draw_sure c hc a3 s3 6 o_ o_ o_ o_
  obtain ⟨u, a5, s5, e5, p5, q5⟩ := draw_one c hc a4 s4 2 o_ o_
  cases u with
  | true =>
   refine ⟨[], a5, s5, ?_, by omega, by omega, by simp, by simp⟩
   simp only [spec_l1Cur_signs.f, e1, Option.bind_some, wt]
   refine e2.bind ?_
   simp only [e3, Option.bind_some]
   refine n_ c0 (n_ c1 (n_ c2 (y_ c3 (e4.bind ?_))))
   simp only [e5, Option.bind_some]
   exact y_ trivial p_
  | false =>
   refine ⟨m2, a5, s5, ?_, by omega, by omega, by rw [hs2.1]; omega, fun r hr => by rw [hs2.2 r hr]; omega⟩
   simp only [spec_l1Cur_signs.f, e1, Option.bind_some, wt]
   refine e2.bind ?_
   simp only [e3, Option.bind_some]
   refine n_ c0 (n_ c1 (n_ c2 (y_ c3 (e4.bind ?_))))
   simp only [e5, Option.bind_some]
   exact n_ (by simp) p_
 ·refine ⟨m, a3, s3, ?_, by omega, by omega, by omega, fun r hr => by rw [hs.2 r hr]; omega⟩
  simp only [spec_l1Cur_signs.f, e1, Option.bind_some, wt]
  refine e2.bind ?_
  simp only [e3, Option.bind_some]
  exact n_ c0 (n_ c1 (n_ c2 (n_ c3 p_)))
theorem hSame (x y : List Int) (hx : x.length ≤ 17592186044416) : Ans (fun k => laws_hSame.f k x y) (decide (x = y)) := by
 simp only [laws_hSame.f]
 by_cases hl : (x.length : Int) = (y.length : Int)
 ·refine y_ hl ?_
  have key : ∀ (d : Nat) (i : Int), 0 ≤ i → i + d = x.length → Ans (fun k => laws_hSame.l0 k x y (x.length : Int) i) (decide (x.drop i.toNat = y.drop i.toNat)) := by
   intro d
   induction d with
   | zero =>
    intro i h0 h1
    refine Ans.step ?_
    simp only [laws_hSame.l0]
    rw [drop_all x o_, drop_all y o_]
    exact n_ o_ p_
   | succ d ih =>
    intro i h0 h1
    refine Ans.step ?_
    simp only [laws_hSame.l0]
    refine y_ o_ (y_ h0 (y_ o_ (y_ o_ ?_)))
    rw [drop_at x 0 (show i.toNat < x.length by omega), drop_at y 0 (show i.toNat < y.length by omega)]
    by_cases c : rd x i = rd y i
    ·have e := ih (i + 1) o_ o_
     rw [wrap64_in (i + 1) ⟨o_, o_⟩]
     rw [show (i + 1).toNat = i.toNat + 1 by omega] at e
     refine y_ c ?_
     rw [show x.getD i.toNat 0 = y.getD i.toNat 0 from c]
     simpa using e
    ·refine n_ c ?_
     rw [show decide (x.getD i.toNat 0 :: x.drop (i.toNat + 1) = y.getD i.toNat 0 :: y.drop (i.toNat + 1)) = false from decide_eq_false (fun h => c (by injection h))]
     exact Ans.pure _
  exact key x.length 0 o_ o_
 ·refine n_ hl ?_
  rw [decide_eq_false (fun h => hl (by rw [h]))]
  exact Ans.pure _
theorem hRows (x : Tb_) (hx : x.length ≤ 1000000) (hr : ∀ r ∈ x, r.length ≤ 1000000) : Ans (fun k => laws_hRows.f k x x) true := by
 simp only [laws_hRows.f]
 refine y_ trivial ?_
 have key : ∀ (d : Nat) (i : Int), 0 ≤ i → i + d = x.length → Ans (fun k => laws_hRows.l0 k x x (x.length : Int) i) true := by
  intro d
  induction d with
  | zero => intro i h0 h1; exact Ans.step (by simp only [laws_hRows.l0]; exact n_ o_ p_)
  | succ d ih =>
   intro i h0 h1
   have e := hSame (rd_L3 x i) (rd_L3 x i) (by have := hr _ (rd_L1_mem h0 (show i < x.length by omega)); omega)
   rw [decide_eq_true rfl] at e
   refine Ans.step ?_
   simp only [laws_hRows.l0, wrap64_in (i + 1) ⟨o_, o_⟩]
   exact y_ o_ (y_ h0 (y_ o_ (y_ o_ (e.bind (y_ rfl (ih _ o_ o_))))))
 exact key x.length 0 o_ o_
theorem tab_en {r c : Nat} (v : Nat → Nat → Int) {i j : Nat} (hi : i < r) (hj : j < c) : en (tab r c v) i j = v i j := by
 unfold en
 rw [show (tab r c v).getD i [] = (List.range c).map (fun j => v i j) by rw [getD_at _ _ (by simpa [tab] using hi)]; simp [tab]]
 rw [getD_at _ _ (by simpa using hj)]; simp
def co (x : Tb_) (i j : Nat) : Int := S i (fun k => S j (en x k))
theorem co_comm (x : Tb_) (i j : Nat) : co x i j = S j (fun l => S i (fun k => en x k l)) := S_comm _ _ _
theorem co_row (x : Tb_) (i j : Nat) : co x (i + 1) j = co x i j + S j (en x i) := rfl
theorem co_four (x : Tb_) (i j : Nat) : co x (i + 1) (j + 1) - co x i (j + 1) - co x (i + 1) j + co x i j = en x i j := by
 rw [co_row, co_row, S]; omega
theorem S_range {f : Nat → Int} {a b : Int} : ∀ {n : Nat}, (∀ i, i < n → a ≤ f i ∧ f i ≤ b) → a * n ≤ S n f ∧ S n f ≤ b * n
 | 0, _ => by simp [S]
 | n + 1, h => by
  have x := S_range (fun i hi => h i (by omega : i < n + 1)) (n := n)
  have y := h n o_
  rw [S, Int.natCast_add, Int.natCast_one, Int.mul_add, Int.mul_add, Int.mul_one, Int.mul_one]; omega
theorem pre_in {x : Tb_} (s : sign x = true) {n : Nat} (hn : x.length = n) : (∀ k j, k < n → j ≤ n → 0 ≤ S j (en x k) ∧ S j (en x k) ≤ 1) ∧ ∀ i l, i ≤ n → l < n → 0 ≤ S i (fun k => en x k l) ∧ S i (fun k => en x k l) ≤ 1 := by
 obtain ⟨_, _, _, E, R, C⟩ := sign_en s hn
 refine ⟨fun k j hk hj => ?_, fun i l hi hl => ?_⟩
 ·by_cases e : j < n
  ·have := (E k j hk e).2.1; omega
  ·have := R k hk
   rw [show j = n by omega]; omega
 ·by_cases e : i < n
  ·have := (E i l e hl).2.2; omega
  ·have := C l hl
   rw [show i = n by omega]; omega
theorem co_in {x : Tb_} (s : sign x = true) {n : Nat} (hn : x.length = n) {i j : Nat} (hi : i ≤ n) (hj : j ≤ n) : 0 ≤ co x i j ∧ co x i j ≤ i ∧ co x i j ≤ j ∧ (i : Int) + j - n ≤ co x i j := by
 obtain ⟨P, Q⟩ := pre_in s hn
 obtain ⟨_, _, _, _, R, _⟩ := sign_en s hn
 have a := S_range (n := i) (f := fun k => S j (en x k)) (a := 0) (b := 1) (fun k hk => P k j o_ hj)
 have b := S_range (n := j) (f := fun l => S i (fun k => en x k l)) (a := 0) (b := 1) (fun l hl => Q i l hi o_)
 have c := co_comm x i j
 have d : S i (fun k => S n (en x k)) = co x i j + S (n - j) (fun t => S i (fun k => en x k (j + t))) := by
  rw [S_comm (fun t k => en x k (j + t)) i (n - j)]
  unfold co
  rw [← S_add]
  refine S_congr fun k hk => ?_
  have := S_split (en x k) j (n - j)
  rw [show j + (n - j) = n by omega] at this
  exact this
 have e : S i (fun k => S n (en x k)) = (i : Int) := by
  rw [S_congr (g := fun _ => 1) (fun k hk => R k o_)]
  have h := S_range (n := i) (f := fun _ => 1) (a := 1) (b := 1) (fun _ _ => by omega)
  omega
 have f := S_range (n := n - j) (f := fun t => S i (fun k => en x k (j + t))) (a := 0) (b := 1) (fun t ht => Q i (j + t) hi o_)
 rw [e] at d
 unfold co at *
 omega
def hgt (x : Tb_) (i j : Nat) : Int := (i : Int) + j - 2 * co x i j
def HT (x : Tb_) : Tb_ := tab (x.length + 1) (x.length + 1) (hgt x)
theorem hgt_in {x : Tb_} (s : sign x = true) {n : Nat} (hn : x.length = n) {i j : Nat} (hi : i ≤ n) (hj : j ≤ n) : 0 ≤ hgt x i j ∧ hgt x i j ≤ n := by
 have := co_in s hn hi hj
 unfold hgt; omega
def HF (n : Nat) (h : Nat → Nat → Int) : Prop :=
 (∀ j, j ≤ n → h 0 j = j ∧ h j 0 = j ∧ h n j = (n : Int) - j ∧ h j n = (n : Int) - j) ∧
 (∀ i j, i < n → j ≤ n → h (i + 1) j - h i j = 1 ∨ h (i + 1) j - h i j = -1) ∧ (∀ i j, i ≤ n → j < n → h i (j + 1) - h i j = 1 ∨ h i (j + 1) - h i j = -1)
theorem S_one : ∀ m : Nat, S m (fun _ => 1) = (m : Int)
 | 0 => rfl
 | m + 1 => by rw [S, S_one m]; omega
theorem hgt_up (x : Tb_) (i j : Nat) : hgt x (i + 1) j - hgt x i j = 1 - 2 * S j (en x i) := by unfold hgt; rw [co_row]; omega
theorem hgt_right (x : Tb_) (i j : Nat) : hgt x i (j + 1) - hgt x i j = 1 - 2 * S i (fun k => en x k j) := by
 unfold hgt; rw [co_comm x i (j + 1), co_comm x i j, S]; omega
theorem hf_of {x : Tb_} (s : sign x = true) {n : Nat} (hn : x.length = n) : HF n (hgt x) := by
 obtain ⟨P, Q⟩ := pre_in s hn
 obtain ⟨_, _, _, _, R, C⟩ := sign_en s hn
 refine ⟨fun j hj => ?_, fun i j hi hj => ?_, fun i j hi hj => ?_⟩
 ·have a : co x 0 j = 0 := rfl
  have b : co x j 0 = 0 := by rw [co_comm]; rfl
  have c : co x n j = j := by rw [co_comm, S_congr (g := fun _ => 1) (fun l hl => C l o_), S_one]
  have d : co x j n = j := by unfold co; rw [S_congr (g := fun _ => 1) (fun k hk => R k o_), S_one]
  unfold hgt
  omega
 ·have := P i j hi hj
  have := hgt_up x i j
  omega
 ·have := Q i j hi hj
  have := hgt_right x i j
  omega
def mat (n : Nat) (h : Nat → Nat → Int) : Tb_ := tab n n (fun i j => (h i (j + 1) + h (i + 1) j - h (i + 1) (j + 1) - h i j) / 2)
theorem mat_sq (n : Nat) (h : Nat → Nat → Int) : Sq n (mat n h) := tab_sq n _
theorem mat_en {n : Nat} (h : Nat → Nat → Int) {i j : Nat} (hi : i < n) (hj : j < n) : en (mat n h) i j = (h i (j + 1) + h (i + 1) j - h (i + 1) (j + 1) - h i j) / 2 := tab_en _ hi hj
theorem mat_row {n : Nat} {h : Nat → Nat → Int} (H : HF n h) {i : Nat} (hi : i < n) : ∀ j, j ≤ n → 2 * S j (en (mat n h) i) = 1 - (h (i + 1) j - h i j)
 | 0, _ => by
  have a := (H.1 i o_).2.1
  have b := (H.1 (i + 1) o_).2.1
  simp only [S]; omega
 | j + 1, hj => by
  have ih := mat_row H hi j o_
  have a := H.2.1 i j hi o_
  have b := H.2.1 i (j + 1) hi hj
  rw [S, mat_en h hi o_]; omega
theorem mat_col {n : Nat} {h : Nat → Nat → Int} (H : HF n h) {j : Nat} (hj : j < n) : ∀ i, i ≤ n → 2 * S i (fun k => en (mat n h) k j) = 1 - (h i (j + 1) - h i j)
 | 0, _ => by
  have a := (H.1 j o_).1
  have b := (H.1 (j + 1) o_).1
  simp only [S]; omega
 | i + 1, hi => by
  have ih := mat_col H hj i o_
  have a := H.2.2 i j o_ hj
  have b := H.2.2 (i + 1) j hi hj
  rw [S, mat_en h o_ hj]; omega
theorem mat_sign {n : Nat} {h : Nat → Nat → Int} (H : HF n h) (h1 : 1 ≤ n) (h6 : n ≤ 6) : sign (mat n h) = true := by
 have q := mat_sq n h
 refine sign_of q h1 h6 (fun r hr => ?_) (fun j hj => ?_)
 ·obtain ⟨i, hi, rfl⟩ := List.getElem_of_mem hr
  have hi' : i < n := by have := q.1; omega
  have e : (mat n h)[i] = (mat n h).getD i [] := (getD_at _ _ hi).symm
  have rl := q.row hi'
  rw [e]
  refine walk_of _ 0 (fun j hj => ?_) ?_
  ·rw [rl] at hj
   have a := mat_row H hi' j o_
   have b := mat_row H hi' (j + 1) o_
   have c := H.2.1 i j hi' o_
   have d := H.2.1 i (j + 1) hi' o_
   rw [S] at b
   rw [show S (j + 1) (fun k => ((mat n h).getD i []).getD k 0) = S j (en (mat n h) i) + en (mat n h) i j from rfl, show ((mat n h).getD i []).getD j 0 = en (mat n h) i j from rfl]
   omega
  ·rw [rl]
   have a := mat_row H hi' n o_
   have b := (H.1 i o_).2.2.2
   have c := (H.1 (i + 1) o_).2.2.2
   rw [show S n (fun k => ((mat n h).getD i []).getD k 0) = S n (en (mat n h) i) from rfl]
   omega
 ·have cl : (colOf (mat n h) (j : Nat)).length = n := by simp [colOf, q.1]
  have ce : ∀ k, k < n → (colOf (mat n h) (j : Nat)).getD k 0 = en (mat n h) k j := fun k hk => col_at _ _ _ (by rw [q.1]; exact hk)
  refine walk_of _ 0 (fun i hi => ?_) ?_
  ·rw [cl] at hi
   have a := mat_col H hj i o_
   have b := mat_col H hj (i + 1) o_
   have c := H.2.2 i j o_ hj
   have d := H.2.2 (i + 1) j o_ hj
   rw [S] at b
   rw [S_congr (f := fun k => (colOf (mat n h) (j : Nat)).getD k 0) (g := fun k => en (mat n h) k j) (fun k hk => ce k o_), ce i hi, S]
   omega
  ·rw [cl, S_congr (f := fun k => (colOf (mat n h) (j : Nat)).getD k 0) (g := fun k => en (mat n h) k j) (fun k hk => ce k hk)]
   have a := mat_col H hj n o_
   have b := (H.1 j o_).2.2.1
   have c := (H.1 (j + 1) o_).2.2.1
   omega
theorem mat_hgt {n : Nat} {h : Nat → Nat → Int} (H : HF n h) {j : Nat} (hj : j ≤ n) : ∀ i, i ≤ n → hgt (mat n h) i j = h i j
 | 0, _ => by
  have a := (H.1 j hj).1
  have e : co (mat n h) 0 j = 0 := rfl
  unfold hgt; omega
 | i + 1, hi => by
  have ih := mat_hgt H hj i o_
  have u := hgt_up (mat n h) i j
  have r := mat_row H (show i < n by omega) j hj
  omega
theorem mat_of {x : Tb_} (s : sign x = true) {n : Nat} (hn : x.length = n) : mat n (hgt x) = x := by
 obtain ⟨q, _⟩ := sign_en s hn
 refine ext_en (mat_sq n _) q fun i j hi hj => ?_
 rw [mat_en _ hi hj]
 have := co_four x i j
 unfold hgt; omega
theorem hf_parity {n : Nat} {h : Nat → Nat → Int} (H : HF n h) {j : Nat} (hj : j ≤ n) : ∀ i, i ≤ n → (h i j - i - j) % 2 = 0
 | 0, _ => by have := (H.1 j hj).1; omega
 | i + 1, hi => by
  have ih := hf_parity H hj i o_
  have := H.2.1 i j o_ hj
  omega
theorem cornerSum {x : Tb_} (s : sign x = true) {n : Nat} (hn : x.length = n) {i j : Nat} (hi : i ≤ n) (hj : j ≤ n) : Ans (fun k => impl_cornerSum.f k x i j) (co x i j) := by
 obtain ⟨q, _, h6, _⟩ := sign_en s hn
 have tl : (x.take i).length = i := by rw [List.length_take]; omega
 have key : ∀ (d t : Nat), t + d = i → Ans (fun k => impl_cornerSum.l0 k j (co x t j) (x.take i) (i : Int) (t : Int)) (co x i j) := by
  intro d
  induction d with
  | zero =>
   intro t h
   obtain rfl : t = i := by omega
   refine Ans.step ?_
   simp only [impl_cornerSum.l0]
   exact n_ o_ p_
  | succ d ih =>
   intro t h
   have e := ih (t + 1) o_
   rw [show ((t + 1 : Nat) : Int) = (t : Int) + 1 by omega] at e
   have rw_ : rd_L3 (x.take i) (t : Int) = x.getD t [] := by
    unfold rd_L3
    rw [Int.toNat_natCast, getD_at _ _ (by rw [tl]; omega), getD_at _ _ o_, List.getElem_take]
   have rl : (x.getD t []).length = n := q.row o_
   have pr := (pre_in s hn).1 t j o_ hj
   have ci := co_in s hn (show t + 1 ≤ n by omega) hj
   have cr := co_row x t j
   have sm := sumOf ((x.getD t []).take j) (by rw [List.length_take]; omega)
   rw [show ((x.getD t []).take j).length = j by rw [List.length_take]; omega, S_congr (g := en x t) (fun l hl => by
    unfold en
    rw [getD_at _ _ (by rw [List.length_take]; omega), getD_at (x.getD t []) 0 o_, List.getElem_take]), wrap64_in _ ⟨o_, o_⟩] at sm
   refine Ans.step ?_
   simp only [impl_cornerSum.l0, wrap64_up (show (0 : Int) ≤ t by omega) o_, rw_, Int.toNat_natCast]
   refine y_ o_ (y_ o_ (y_ o_ (y_ o_ (y_ o_ (sm.bind ?_)))))
   rw [← cr, wrap64_in _ ⟨o_, o_⟩]
   exact e
 simp only [impl_cornerSum.f, Int.toNat_natCast, Option.bind_some]
 have := key i 0 o_
 rw [tl]
 exact y_ o_ (y_ o_ this)
theorem implHeights {x : Tb_} (s : sign x = true) : Ans (fun k => impl_heights.f k x) (HT x) := by
 obtain ⟨_, _, h6, _⟩ := sign_en s rfl
 simp only [impl_heights.f]
 rw [show wrap64 ((x.length : Int) + 1) = ((x.length + 1 : Nat) : Int) by rw [wrap64_in _ ⟨o_, o_⟩]; omega]
 refine (table2 (x.length + 1) (x.length + 1) o_ o_ (fun k x0_ x1_ => impl_heights_1.f k x0_ x1_ x) (fun i j => hgt x i j) (fun i j hi hj => ?_)).bind p_
 simp only [impl_heights_1.f]
 have c := co_in s rfl (show i ≤ x.length by omega) (show j ≤ x.length by omega)
 refine (cornerSum s rfl (show i ≤ x.length by omega) (show j ≤ x.length by omega)).bind ?_
 rw [wrap64_in ((i : Int) + j) ⟨o_, o_⟩, wrap64_in (2 * co x i j) ⟨o_, o_⟩, wrap64_in _ ⟨o_, o_⟩]
 exact Ans.pure _
theorem at_en (x : Tb_) (i j : Nat) : rd (rd_L3 x (i : Int)) (j : Int) = en x i j := by simp only [rd, rd_L3, Int.toNat_natCast, en]
theorem sgCorners {x : Tb_} (s : sign x = true) {n : Nat} (hn : x.length = n) : Ans (fun k => spec_sgCorners.f k x) (tab n n (fun i j => co x (i + 1) (j + 1))) := by
 obtain ⟨q, _, h6, _⟩ := sign_en s hn
 have inner : ∀ (i : Nat), i < n → ∀ (d j : Nat) (y : Tb_), j + d = n → Sq n y → (∀ a b : Nat, a < n → b < n → (a < i ∨ a = i ∧ b < j) → (y.getD a []).getD b 0 = co x (a + 1) (b + 1)) →
   (∀ y', Sq n y' → (∀ a b : Nat, a < n → b < n → a < i + 1 → (y'.getD a []).getD b 0 = co x (a + 1) (b + 1)) → Ans (fun k => spec_sgCorners.l0 k x y' (n : Int) ((i + 1 : Nat) : Int)) (tab n n (fun i j => co x (i + 1) (j + 1)))) →
   Ans (fun k => spec_sgCorners.l1 k x y (i : Int) (S j (en x i)) (n : Int) (i : Int) (x.getD i []) (n : Int) (j : Int)) (tab n n (fun i j => co x (i + 1) (j + 1))) := by
  intro i hi d
  induction d with
  | zero =>
   intro j y hj hy hv nx
   refine Ans.step ?_
   simp only [spec_sgCorners.l1, wrap64_up (show (0 : Int) ≤ i by omega) o_]
   have := nx y hy (fun a b ha hb hlt => hv a b ha hb o_)
   rw [show ((i + 1 : Nat) : Int) = (i : Int) + 1 by omega] at this
   exact n_ o_ this
  | succ d ih =>
   intro j y hj hy hv nx
   have rx := q.row hi
   have ly := hy.1
   have pr := (pre_in s hn).1 i (j + 1) hi o_
   have sj : S (j + 1) (en x i) = S j (en x i) + en x i j := rfl
   have er : rd (x.getD i []) (j : Int) = en x i j := by simp only [rd, Int.toNat_natCast, en]
   have wa : wrap64 (S j (en x i) + en x i j) = S (j + 1) (en x i) := by rw [← sj]; exact wrap64_in _ ⟨o_, o_⟩
   obtain ⟨q1, q2⟩ := put_sq hy i j hi o_ (S (j + 1) (en x i))
   have ry : (rd_L3 y (i : Int)).length = n := by unfold rd_L3; rw [Int.toNat_natCast]; exact hy.row hi
   refine Ans.step ?_
   simp only [spec_sgCorners.l1, er, wa, wrap64_up (show (0 : Int) ≤ j by omega) o_, Int.toNat_natCast, Option.bind_some]
   refine y_ o_ (y_ o_ (y_ o_ (y_ o_ (y_ o_ (y_ o_ ?_)))))
   rw [show rd_L3 y (i : Int) = y.getD i [] by unfold rd_L3; rw [Int.toNat_natCast]]
   by_cases c : i = 0
   ·have e := ih (j + 1) _ o_ q1 (fun a b ha hb hlt => by
     rw [q2 a b ha hb]
     by_cases c1 : a = i ∧ b = j
     ·rw [if_pos c1, c1.1, c1.2, c, co_row, show co x 0 (j + 1) = 0 from rfl, Int.zero_add]
     ·rw [if_neg c1]; exact hv a b ha hb o_) nx
    rw [show ((j + 1 : Nat) : Int) = (j : Int) + 1 by omega] at e
    exact n_ o_ e
   ·have w1 : wrap64 ((i : Int) - 1) = ((i - 1 : Nat) : Int) := by rw [wrap64_in _ ⟨o_, o_⟩]; omega
    have z1 := q1.row hi
    have z2 := q1.row (show i - 1 < n by omega)
    have ci := co_in s hn (show i + 1 ≤ n by omega) (show j + 1 ≤ n by omega)
    have cr := co_row x i (j + 1)
    have v1 := q2 i j hi o_
    rw [if_pos ⟨rfl, rfl⟩] at v1
    have v2 := q2 (i - 1) j o_ o_
    rw [if_neg o_, hv (i - 1) j o_ o_ (Or.inl o_), show i - 1 + 1 = i by omega] at v2
    obtain ⟨q3, q4⟩ := put_sq q1 i j hi o_ (co x (i + 1) (j + 1))
    have e := ih (j + 1) _ o_ q3 (fun a b ha hb hlt => by
     rw [q4 a b ha hb]
     by_cases c1 : a = i ∧ b = j
     ·rw [if_pos c1, c1.1, c1.2]
     ·rw [if_neg c1, q2 a b ha hb, if_neg c1]; exact hv a b ha hb o_) nx
    rw [show ((j + 1 : Nat) : Int) = (j : Int) + 1 by omega] at e
    rw [w1]
    simp only [rd, rd_L3, Int.toNat_natCast]
    rw [v1, v2, show wrap64 (S (j + 1) (en x i) + co x i (j + 1)) = co x (i + 1) (j + 1) by rw [cr, Int.add_comm]; exact wrap64_in _ ⟨o_, o_⟩]
    exact y_ o_ (y_ o_ (y_ o_ (y_ o_ (y_ o_ e))))
 have key : ∀ (d i : Nat) (y : Tb_), i + d = n → Sq n y → (∀ a b : Nat, a < n → b < n → a < i → (y.getD a []).getD b 0 = co x (a + 1) (b + 1)) → Ans (fun k => spec_sgCorners.l0 k x y (n : Int) (i : Int)) (tab n n (fun i j => co x (i + 1) (j + 1))) := by
  intro d
  induction d with
  | zero =>
   intro i y h1 hy hv
   rw [tab_is hy _ (fun a b ha hb => (hv a b ha hb o_).symm)]
   exact Ans.step (by simp only [spec_sgCorners.l0]; exact n_ o_ p_)
  | succ d ih =>
   intro i y h1 hy hv
   have rx : (rd_L3 x (i : Int)).length = n := by unfold rd_L3; rw [Int.toNat_natCast]; exact q.row o_
   have := inner i o_ n 0 y o_ hy (fun a b ha hb hlt => hv a b ha hb o_) (fun y' hy' hv' => ih (i + 1) y' o_ hy' hv')
   refine Ans.step ?_
   simp only [spec_sgCorners.l0, rx]
   exact y_ o_ (y_ o_ (y_ o_ (by simpa only [rd_L3, Int.toNat_natCast, S, Int.natCast_zero] using this)))
 simp only [spec_sgCorners.f, hn]
 exact (sgZero n o_).bind (by
  have := key n 0 (List.replicate n (List.replicate n 0)) o_ (rep_sq n 0) (fun a b ha hb hlt => by omega)
  simpa using this)
theorem specHeights {x : Tb_} (s : sign x = true) : Ans (fun k => spec_heOf.f k x) (HT x) := by
 obtain ⟨n, hn⟩ : ∃ n, x.length = n := ⟨_, rfl⟩
 obtain ⟨q, _, h6, _⟩ := sign_en s hn
 have cs := tab_sq n (fun i j => co x (i + 1) (j + 1))
 have at_ : ∀ i j : Nat, i ≤ n → j ≤ n → spec_sgAt.f (tab n n (fun i j => co x (i + 1) (j + 1))) ((i : Int) - 1) ((j : Int) - 1) = some (co x i j) := by
  intro i j hi hj
  rw [sgAt cs _ _ o_ o_]
  unfold sgat
  by_cases c : i = 0
  ·rw [if_pos o_, c]; rfl
  ·by_cases d : j = 0
   ·rw [if_neg o_, if_pos o_, d, co_comm]; rfl
   ·rw [if_neg o_, if_neg o_, show (i : Int) - 1 = ((i - 1 : Nat) : Int) by omega, show (j : Int) - 1 = ((j - 1 : Nat) : Int) by omega, at_en, tab_en _ o_ o_, show i - 1 + 1 = i by omega, show j - 1 + 1 = j by omega]
 have inner : ∀ (i : Nat) (y : Tb_), i ≤ n → y.length = i → Ans (fun k => spec_heOf.l0 k x (tab n n (fun i j => co x (i + 1) (j + 1))) (y ++ [(List.range (n + 1)).map fun j => hgt x i j]) ((i + 1 : Nat) : Int)) (HT x) →
   ∀ (d j : Nat), j + d = n + 1 → Ans (fun k => spec_heOf.l1 k x (tab n n (fun i j => co x (i + 1) (j + 1))) y (i : Int) ((List.range j).map fun j => hgt x i j) (j : Int)) (HT x) := by
  intro i y hi hy nx d
  induction d with
  | zero =>
   intro j h
   obtain rfl : j = n + 1 := by omega
   refine Ans.step ?_
   simp only [spec_heOf.l1, hn, wrap64_up (show (0 : Int) ≤ i by omega) o_]
   rw [show ((i + 1 : Nat) : Int) = (i : Int) + 1 by omega] at nx
   exact n_ o_ (y_ o_ nx)
  | succ d ih =>
   intro j h
   have e := ih (j + 1) o_
   have c := co_in s hn hi (show j ≤ n by omega)
   rw [List.range_succ, List.map_append, show ((j + 1 : Nat) : Int) = (j : Int) + 1 by omega] at e
   refine Ans.step ?_
   simp only [spec_heOf.l1, hn, wrap64_up (show (0 : Int) ≤ j by omega) o_, wrap64_in ((i : Int) - 1) ⟨o_, o_⟩, wrap64_in ((j : Int) - 1) ⟨o_, o_⟩, at_ i j hi o_, Option.bind_some]
   rw [wrap64_in ((i : Int) + j) ⟨o_, o_⟩, wrap64_in (2 * co x i j) ⟨o_, o_⟩, wrap64_in ((i : Int) + j - 2 * co x i j) ⟨o_, o_⟩]
   exact y_ o_ (y_ (by rw [List.length_map, List.length_range]; omega) e)
 have key : ∀ (d i : Nat), i + d = n + 1 → Ans (fun k => spec_heOf.l0 k x (tab n n (fun i j => co x (i + 1) (j + 1))) ((List.range i).map fun i => (List.range (n + 1)).map fun j => hgt x i j) (i : Int)) (HT x) := by
  intro d
  induction d with
  | zero =>
   intro i h
   obtain rfl : i = n + 1 := by omega
   refine Ans.step ?_
   simp only [spec_heOf.l0, hn]
   unfold HT tab
   rw [hn]
   exact n_ o_ p_
  | succ d ih =>
   intro i h
   have e := ih (i + 1) o_
   rw [List.range_succ (n := i), List.map_append] at e
   have := inner i ((List.range i).map fun i => (List.range (n + 1)).map fun j => hgt x i j) o_ (by rw [List.length_map, List.length_range]) e (n + 1) 0 o_
   refine Ans.step ?_
   simp only [spec_heOf.l0, hn]
   exact y_ o_ this
 simp only [spec_heOf.f]
 exact (sgCorners s hn).bind (key (n + 1) 0 o_)
def two (x y : Tb_) : Bool := sign x && (sign y && decide (x.length = y.length))
theorem two_iff {x y : Tb_} : two x y = true ↔ sign x = true ∧ sign y = true ∧ x.length = y.length := by unfold two; simp
theorem len_eq (a b : Nat) : ((a : Int) == (b : Int)) = decide (a = b) := by
 by_cases c : a = b
 ·subst c; simp
 ·rw [decide_eq_false c]; exact beq_eq_false_iff_ne.mpr o_
theorem arePair {x y : Tb_} (hx : x.length ≤ 1048576) (hy : y.length ≤ 1048576) : Ans (fun k => impl_arePair.f k x y) (two x y) := by
 simp only [impl_arePair.f, two, len_eq]
 refine (isSign x hx).bind ?_
 by_cases s : sign x = true
 ·refine y_ s ((isSign y hy).bind ?_)
  by_cases t : sign y = true
  ·rw [s, t, Bool.true_and, Bool.true_and]; exact y_ rfl p_
  ·rw [s, Bool.true_and, Bool.eq_false_iff.mpr t, Bool.false_and]; exact n_ (by simp) p_
 ·rw [Bool.eq_false_iff.mpr s, Bool.false_and]; exact n_ (by simp) p_
def allIn (x : List Int) (lo hi : Int) : Bool := x.all fun a => decide (lo ≤ a ∧ a ≤ hi)
theorem l1All (x : List Int) (hx : x.length ≤ 17592186044416) (lo hi : Int) : Ans (fun k => spec_l1All.f k x lo hi) (allIn x lo hi) := by
 have key : ∀ (d : Nat) (i : Int), 0 ≤ i → i + d = x.length → Ans (fun k => spec_l1All.l0 k lo hi x (x.length : Int) i) (allIn (x.drop i.toNat) lo hi) := by
  intro d
  induction d with
  | zero =>
   intro i h0 h1
   rw [List.drop_eq_nil_of_le o_]; refine Ans.step ?_
   simp only [spec_l1All.l0]; exact n_ o_ p_
  | succ d ih =>
   intro i h0 h1
   have hd := drop_at x 0 (show i.toNat < x.length by omega)
   have e := ih (i + 1) o_ o_
   rw [hd, allIn, List.all_cons, show decide (lo ≤ x.getD i.toNat 0 ∧ x.getD i.toNat 0 ≤ hi) = decide (lo ≤ rd x i ∧ rd x i ≤ hi) from rfl]
   refine Ans.step ?_
   simp only [spec_l1All.l0, l1In, Option.bind_some, wrap64_up h0 (by omega : i ≤ 4611686018427387904)]
   refine y_ o_ (y_ h0 (y_ o_ ?_))
   by_cases c : decide (lo ≤ rd x i ∧ rd x i ≤ hi) = true
   ·rw [c, Bool.true_and]; rw [show (i + 1).toNat = i.toNat + 1 by omega] at e; exact y_ rfl e
   ·rw [Bool.eq_false_iff.mpr c, Bool.false_and]; exact n_ (by simp) p_
 exact key x.length 0 o_ o_
def hcor (h : Tb_) (i j : Nat) : Int := wrap64 (Int.tdiv (wrap64 (wrap64 ((i : Int) + j) - en h i j)) 2)
def hmat (n : Nat) (h : Tb_) : Tb_ := tab n n (fun i j => wrap64 (wrap64 (wrap64 (hcor h (i + 1) (j + 1) - hcor h i (j + 1)) - hcor h (i + 1) j) + hcor h i j))
theorem implFromH {n : Nat} {h : Tb_} (q : Sq (n + 1) h) (hn : n ≤ 1000) : Ans (fun k => impl_fromHeights.f k h) (hmat n h) := by
 have corner : ∀ i j : Nat, i ≤ n → j ≤ n → impl_fromHeights_1.f i j h = some (hcor h i j) := fun i j hi hj => by
  have hr : (rd_L3 h (i : Int)).length = n + 1 := by unfold rd_L3; rw [Int.toNat_natCast]; exact q.row o_
  have hl := q.1
  simp only [impl_fromHeights_1.f]
  rw [if_pos o_, if_pos o_, if_pos o_, if_pos o_]
  simp only [hcor, rd, rd_L3, Int.toNat_natCast, en]
 simp only [impl_fromHeights.f, q.1]
 rw [show wrap64 (((n + 1 : Nat) : Int) - 1) = (n : Int) by rw [wrap64_in _ ⟨o_, o_⟩]; omega]
 refine (table n n o_ o_ _ _ (fun i j hi hj => ?_)).bind p_
 simp only [impl_fromHeights_2.f, wrap64_up (show (0 : Int) ≤ i by omega) o_, wrap64_up (show (0 : Int) ≤ j by omega) o_]
 have a := corner (i + 1) (j + 1) o_ o_
 have b := corner i (j + 1) o_ o_
 have c := corner (i + 1) j o_ o_
 have d := corner i j o_ o_
 rw [show ((i + 1 : Nat) : Int) = (i : Int) + 1 by omega] at a c
 rw [show ((j + 1 : Nat) : Int) = (j : Int) + 1 by omega] at a b
 rw [a, b, c, d]; rfl
def scor (h : Tb_) (i j : Nat) : Int := wrap64 (Int.tdiv (wrap64 (wrap64 (wrap64 ((i : Int) + j) + 2) - en h (i + 1) (j + 1))) 2)
def smat (n : Nat) (h : Tb_) : Tb_ := frm (tab n n (scor h))
theorem specFromH {n : Nat} {h : Tb_} (q : Sq (n + 1) h) (hn : n ≤ 1000) : Ans (fun k => spec_heFrom.f k h) (smat n h) := by
 have hl := q.1
 have inner : ∀ (i : Nat), i < n → ∀ (d j : Nat) (y : Tb_), j + d = n → Sq n y → (∀ a b : Nat, a < n → b < n → (a < i ∨ a = i ∧ b < j) → (y.getD a []).getD b 0 = scor h a b) →
   (∀ y', Sq n y' → (∀ a b : Nat, a < n → b < n → a < i + 1 → (y'.getD a []).getD b 0 = scor h a b) → Ans (fun k => spec_heFrom.l0 k h y' (n : Int) ((i + 1 : Nat) : Int)) (smat n h)) →
   Ans (fun k => spec_heFrom.l1 k h y (i : Int) (n : Int) (i : Int) (n : Int) (j : Int)) (smat n h) := by
  intro i hi d
  induction d with
  | zero =>
   intro j y hj hy hv nx
   refine Ans.step ?_
   simp only [spec_heFrom.l1, wrap64_up (show (0 : Int) ≤ i by omega) o_]
   have := nx y hy (fun a b ha hb hlt => hv a b ha hb o_)
   rw [show ((i + 1 : Nat) : Int) = (i : Int) + 1 by omega] at this
   exact n_ o_ this
  | succ d ih =>
   intro j y hj hy hv nx
   have ly := hy.1
   obtain ⟨q1, q2⟩ := put_sq hy i j hi o_ (scor h i j)
   have ry : (rd_L3 y (i : Int)).length = n := by unfold rd_L3; rw [Int.toNat_natCast]; exact hy.row hi
   have rh : (rd_L3 h ((i : Int) + 1)).length = n + 1 := by unfold rd_L3; rw [show ((i : Int) + 1).toNat = i + 1 by omega]; exact q.row o_
   have e := ih (j + 1) _ o_ q1 (fun a b ha hb hlt => by
     rw [q2 a b ha hb]
     by_cases c1 : a = i ∧ b = j
     ·rw [if_pos c1, c1.1, c1.2]
     ·rw [if_neg c1]; exact hv a b ha hb o_) nx
   rw [show ((j + 1 : Nat) : Int) = (j : Int) + 1 by omega] at e
   have ev : rd (rd_L3 h ((i : Int) + 1)) ((j : Int) + 1) = en h (i + 1) (j + 1) := by
    simp only [rd, rd_L3, en]; rw [show ((i : Int) + 1).toNat = i + 1 by omega, show ((j : Int) + 1).toNat = j + 1 by omega]
   refine Ans.step ?_
   simp only [spec_heFrom.l1, wrap64_up (show (0 : Int) ≤ i by omega) o_, wrap64_up (show (0 : Int) ≤ j by omega) o_, Int.toNat_natCast, ev]
   rw [show rd_L3 y (i : Int) = y.getD i [] by unfold rd_L3; rw [Int.toNat_natCast]]
   rw [show rd_L3 y (i : Int) = y.getD i [] by unfold rd_L3; rw [Int.toNat_natCast]] at ry
   exact y_ o_ (y_ o_ (y_ o_ (y_ o_ (y_ o_ (y_ o_ (y_ o_ (y_ o_ (y_ o_ e))))))))
 have key : ∀ (d i : Nat) (y : Tb_), i + d = n → Sq n y → (∀ a b : Nat, a < n → b < n → a < i → (y.getD a []).getD b 0 = scor h a b) → Ans (fun k => spec_heFrom.l0 k h y (n : Int) (i : Int)) (smat n h) := by
  intro d
  induction d with
  | zero =>
   intro i y h1 hy hv
   have e := tab_is hy (scor h) (fun a b ha hb => (hv a b ha hb o_).symm)
   have f := sgFrom n y hy hn
   refine Ans.step ?_
   simp only [spec_heFrom.l0]
   unfold smat
   rw [e]
   exact n_ o_ (f.bind p_)
  | succ d ih =>
   intro i y h1 hy hv
   have ly := hy.1
   refine Ans.step ?_
   simp only [spec_heFrom.l0, ly]
   exact y_ o_ (inner i o_ n 0 y o_ hy (fun a b ha hb hlt => hv a b ha hb o_) (fun y' hy' hv' => ih (i + 1) y' o_ hy' hv'))
 simp only [spec_heFrom.f, hl]
 rw [show wrap64 (((n + 1 : Nat) : Int) - 1) = (n : Int) by rw [wrap64_in _ ⟨o_, o_⟩]; omega]
 refine (sgZero n hn).bind ?_
 simp only [List.length_replicate]
 exact key n 0 _ o_ (rep_sq n 0) (fun a b ha hb hlt => by omega)
theorem hf_in {n : Nat} {h : Nat → Nat → Int} (H : HF n h) {i j : Nat} (hi : i ≤ n) (hj : j ≤ n) : -(n : Int) ≤ h i j ∧ h i j ≤ 2 * n ∧ (h i j - i - j) % 2 = 0 := by
 have p := hf_parity H hj i hi
 have key : ∀ i, i ≤ n → (j : Int) - i ≤ h i j ∧ h i j ≤ j + i := by
  intro i
  induction i with
  | zero => intro _; have := (H.1 j hj).1; omega
  | succ i ih => intro hi; have a := ih o_; have b := H.2.1 i j o_ hj; omega
 have := key i hi
 omega
theorem hcor_of {n : Nat} {h : Nat → Nat → Int} (H : HF n h) (hn : n ≤ 1000) {i j : Nat} (hi : i ≤ n) (hj : j ≤ n) : hcor (tab (n + 1) (n + 1) h) i j = ((i : Int) + j - h i j) / 2 := by
 have a := hf_in H hi hj
 unfold hcor
 rw [tab_en _ o_ o_, wrap64_in ((i : Int) + j) ⟨o_, o_⟩, wrap64_in ((i : Int) + j - h i j) ⟨o_, o_⟩]
 obtain ⟨t, ht⟩ : ∃ t, (i : Int) + j - h i j = 2 * t := ⟨((i : Int) + j - h i j) / 2, by omega⟩
 rw [ht, show Int.tdiv (2 * t) 2 = t by rw [Int.mul_comm]; exact Int.mul_tdiv_cancel t o_, wrap64_in t ⟨o_, o_⟩]; omega
theorem wrap_four (a b c d : Int) (ha : -1000000 ≤ a ∧ a ≤ 1000000) (hb : -1000000 ≤ b ∧ b ≤ 1000000) (hc : -1000000 ≤ c ∧ c ≤ 1000000) (hd : -1000000 ≤ d ∧ d ≤ 1000000) : wrap64 (wrap64 (wrap64 (a - b) - c) + d) = a - b - c + d := by
 rw [wrap64_in (a - b) ⟨o_, o_⟩, wrap64_in (a - b - c) ⟨o_, o_⟩, wrap64_in _ ⟨o_, o_⟩]
theorem hmat_of {n : Nat} {h : Nat → Nat → Int} (H : HF n h) (hn : n ≤ 1000) : hmat n (tab (n + 1) (n + 1) h) = mat n h := by
 refine ext_en (tab_sq n _) (mat_sq n h) fun i j hi hj => ?_
 unfold hmat
 rw [tab_en _ hi hj, mat_en h hi hj, hcor_of H hn o_ o_, hcor_of H hn o_ o_, hcor_of H hn o_ o_, hcor_of H hn o_ o_]
 have a := hf_in H (i := i) (j := j) o_ o_
 have b := hf_in H (i := i) (j := j + 1) o_ o_
 have c := hf_in H (i := i + 1) (j := j) o_ o_
 have d := hf_in H (i := i + 1) (j := j + 1) o_ o_
 rw [wrap_four _ _ _ _ o_ o_ o_ o_]
 omega
theorem scor_of {n : Nat} {h : Nat → Nat → Int} (H : HF n h) (hn : n ≤ 1000) (i j : Nat) (hi : i ≤ n) (hj : j ≤ n) : sgat (tab n n (scor (tab (n + 1) (n + 1) h))) ((i : Int) - 1) ((j : Int) - 1) = ((i : Int) + j - h i j) / 2 := by
 unfold sgat
 by_cases c : i = 0
 ·rw [if_pos o_, c]; have := (H.1 j hj).1; omega
 by_cases d : j = 0
 ·rw [if_neg o_, if_pos o_, d]; have := (H.1 i hi).2.1; omega
 rw [if_neg o_, if_neg o_, show (i : Int) - 1 = ((i - 1 : Nat) : Int) by omega, show (j : Int) - 1 = ((j - 1 : Nat) : Int) by omega, at_en, tab_en _ o_ o_]
 unfold scor
 have a := hf_in H hi hj
 rw [tab_en _ o_ o_, show i - 1 + 1 = i by omega, show j - 1 + 1 = j by omega, wrap64_in (((i - 1 : Nat) : Int) + ((j - 1 : Nat) : Int)) ⟨o_, o_⟩, show ((i - 1 : Nat) : Int) + ((j - 1 : Nat) : Int) + 2 = (i : Int) + j by omega, wrap64_in ((i : Int) + j) ⟨o_, o_⟩, wrap64_in ((i : Int) + j - h i j) ⟨o_, o_⟩]
 obtain ⟨t, ht⟩ : ∃ t, (i : Int) + j - h i j = 2 * t := ⟨((i : Int) + j - h i j) / 2, by omega⟩
 rw [ht, show Int.tdiv (2 * t) 2 = t by rw [Int.mul_comm]; exact Int.mul_tdiv_cancel t o_, wrap64_in t ⟨o_, o_⟩]; omega
theorem smat_of {n : Nat} {h : Nat → Nat → Int} (H : HF n h) (hn : n ≤ 1000) : smat n (tab (n + 1) (n + 1) h) = mat n h := by
 have ts := tab_sq n (scor (tab (n + 1) (n + 1) h))
 refine ext_en (frm_sq ts) (mat_sq n h) fun i j hi hj => ?_
 unfold smat frm
 rw [ts.1, tab_en _ hi hj, mat_en h hi hj]
 unfold diff
 have e1 := scor_of H hn (i + 1) (j + 1) o_ o_
 have e2 := scor_of H hn i (j + 1) o_ o_
 have e3 := scor_of H hn (i + 1) j o_ o_
 have e4 := scor_of H hn i j o_ o_
 rw [show ((i + 1 : Nat) : Int) - 1 = i by omega] at e1 e3
 rw [show ((j + 1 : Nat) : Int) - 1 = j by omega] at e1 e2
 rw [e1, e2, e3, e4]
 have a := hf_in H (i := i) (j := j) o_ o_
 have b := hf_in H (i := i) (j := j + 1) o_ o_
 have c := hf_in H (i := i + 1) (j := j) o_ o_
 have d := hf_in H (i := i + 1) (j := j + 1) o_ o_
 rw [wrap_four _ _ _ _ o_ o_ o_ o_]
 omega
theorem HT_hf {x : Tb_} (s : sign x = true) {n : Nat} (hn : x.length = n) : HT x = tab (n + 1) (n + 1) (hgt x) ∧ HF n (hgt x) ∧ mat n (hgt x) = x := by
 refine ⟨?_, hf_of s hn, mat_of s hn⟩
 unfold HT; rw [hn]
theorem wrap_pred {i : Nat} (h : 1 ≤ i) (h2 : i ≤ 1000000) : wrap64 ((i : Int) - 1) = ((i - 1 : Nat) : Int) := by rw [wrap64_in _ ⟨o_, o_⟩]; omega
theorem wrap_succ {i : Nat} (h2 : i ≤ 1000000) : wrap64 ((i : Int) + 1) = ((i + 1 : Nat) : Int) := by rw [wrap64_in _ ⟨o_, o_⟩]; omega
theorem len_down {n : Nat} (h2 : n ≤ 1000000) : wrap64 (((n + 1 : Nat) : Int) - 1) = (n : Int) := by rw [wrap64_in _ ⟨o_, o_⟩]; omega
def wayH (h : Nat → Nat → Int) (i j : Nat) : Int :=
 if h (i - 1) j = h i j + 1 ∧ h (i + 1) j = h i j + 1 ∧ h i (j - 1) = h i j + 1 ∧ h i (j + 1) = h i j + 1 then 1
 else if h (i - 1) j = h i j - 1 ∧ h (i + 1) j = h i j - 1 ∧ h i (j - 1) = h i j - 1 ∧ h i (j + 1) = h i j - 1 then -1 else 0
theorem wayH_cases (h : Nat → Nat → Int) (i j : Nat) : (wayH h i j = 1 ∧ h (i - 1) j = h i j + 1 ∧ h (i + 1) j = h i j + 1 ∧ h i (j - 1) = h i j + 1 ∧ h i (j + 1) = h i j + 1) ∨
  (wayH h i j = -1 ∧ h (i - 1) j = h i j - 1 ∧ h (i + 1) j = h i j - 1 ∧ h i (j - 1) = h i j - 1 ∧ h i (j + 1) = h i j - 1) ∨ wayH h i j = 0 := by
 unfold wayH
 split
 ·exact .inl ⟨rfl, by assumption⟩
 ·split
  ·exact .inr (.inl ⟨rfl, by assumption⟩)
  ·exact .inr (.inr rfl)
def putH (h : Nat → Nat → Int) (i j : Nat) (v : Int) : Nat → Nat → Int := fun a b => if a = i ∧ b = j then v else h a b
def flipH (h : Nat → Nat → Int) (i j : Nat) : Nat → Nat → Int := putH h i j (h i j + 2 * wayH h i j)
theorem hf_flip {n : Nat} {h : Nat → Nat → Int} (H : HF n h) {i j : Nat} (hi : 1 ≤ i ∧ i < n) (hj : 1 ≤ j ∧ j < n) : HF n (flipH h i j) := by
 have w := wayH_cases h i j
 unfold flipH putH
 refine ⟨fun b hb => ?_, fun a b ha hb => ?_, fun a b ha hb => ?_⟩
 ·have := H.1 b hb
  dsimp only
  rw [if_neg o_, if_neg o_, if_neg o_, if_neg o_]
  exact this
 ·have := H.2.1 a b ha hb
  dsimp only
  by_cases c : a + 1 = i ∧ b = j
  ·obtain ⟨rfl, rfl⟩ := c
   rw [if_pos ⟨rfl, rfl⟩, if_neg o_]
   rw [show a + 1 - 1 = a by omega] at w
   omega
  ·rw [if_neg c]
   by_cases d : a = i ∧ b = j
   ·obtain ⟨rfl, rfl⟩ := d
    rw [if_pos ⟨rfl, rfl⟩]; omega
   ·rw [if_neg d]; exact this
 ·have := H.2.2 a b ha hb
  dsimp only
  by_cases c : a = i ∧ b + 1 = j
  ·obtain ⟨rfl, rfl⟩ := c
   rw [if_pos ⟨rfl, rfl⟩, if_neg o_]
   rw [show b + 1 - 1 = b by omega] at w
   omega
  ·rw [if_neg c]
   by_cases d : a = i ∧ b = j
   ·obtain ⟨rfl, rfl⟩ := d
    rw [if_pos ⟨rfl, rfl⟩]; omega
   ·rw [if_neg d]; exact this
theorem tab_put {m : Nat} (h : Nat → Nat → Int) {i j : Nat} (hi : i < m) (hj : j < m) (v : Int) : (tab m m h).set i (((tab m m h).getD i []).set j v) = tab m m (putH h i j v) := by
 obtain ⟨q1, q2⟩ := put_sq (tab_sq m h) i j hi hj v
 refine ext_en q1 (tab_sq m _) fun a b ha hb => ?_
 have := q2 a b ha hb
 unfold en at *
 rw [this]
 have e1 := tab_en h ha hb
 have e2 := tab_en (putH h i j v) ha hb
 unfold en at e1 e2
 rw [e1, e2]; rfl
def rowF (p : Nat → Nat → Bool) (i : Nat) : Nat → Nat → Tb_
 | 0, _ => []
 | d + 1, j => (if p i j = true then [[(i : Int), (j : Int)]] else []) ++ rowF p i d (j + 1)
def tabF (p : Nat → Nat → Bool) (n : Nat) : Nat → Nat → Tb_
 | 0, _ => []
 | d + 1, i => rowF p i (n - 1) 1 ++ tabF p n d (i + 1)
def cellsF (n : Nat) (p : Nat → Nat → Bool) : Tb_ := tabF p n (n - 1) 1
theorem rowF_len (p : Nat → Nat → Bool) (i : Nat) : ∀ d j, (rowF p i d j).length ≤ d
 | 0, _ => by simp [rowF]
 | d + 1, j => by
  have := rowF_len p i d (j + 1)
  rw [rowF, List.length_append]
  split <;> simp <;> omega
theorem rowF_mem {p : Nat → Nat → Bool} {i : Nat} {c : List Int} : ∀ {d j : Nat}, c ∈ rowF p i d j ↔ ∃ b, j ≤ b ∧ b < j + d ∧ p i b = true ∧ c = [(i : Int), (b : Int)]
 | 0, j => by
  simp only [rowF, List.not_mem_nil, false_iff]
  rintro ⟨b, h1, h2, _⟩; omega
 | d + 1, j => by
  rw [rowF, List.mem_append, rowF_mem]
  constructor
  ·rintro (h | ⟨b, h1, h2, h3⟩)
   ·by_cases q : p i j = true
    ·rw [if_pos q, List.mem_singleton] at h; exact ⟨j, by omega, by omega, q, h⟩
    ·rw [if_neg q] at h; simp at h
   ·exact ⟨b, by omega, by omega, h3⟩
  ·rintro ⟨b, h1, h2, h3, h4⟩
   by_cases e : b = j
   ·subst e; left; rw [if_pos h3, List.mem_singleton]; exact h4
   ·exact .inr ⟨b, by omega, by omega, h3, h4⟩
theorem tabF_mem {p : Nat → Nat → Bool} {n : Nat} {c : List Int} : ∀ {d i : Nat}, c ∈ tabF p n d i ↔ ∃ a b, i ≤ a ∧ a < i + d ∧ 1 ≤ b ∧ b < n ∧ p a b = true ∧ c = [(a : Int), (b : Int)]
 | 0, i => by
  simp only [tabF, List.not_mem_nil, false_iff]
  rintro ⟨a, b, h1, h2, _⟩; omega
 | d + 1, i => by
  rw [tabF, List.mem_append, tabF_mem, rowF_mem]
  constructor
  ·rintro (⟨b, h1, h2, h3, h4⟩ | ⟨a, b, h1, h2, h3⟩)
   ·exact ⟨i, b, by omega, by omega, h1, by omega, h3, h4⟩
   ·exact ⟨a, b, by omega, by omega, h3⟩
  ·rintro ⟨a, b, h1, h2, h3, h4, h5, h6⟩
   by_cases e : a = i
   ·subst e; exact .inl ⟨b, by omega, by omega, h5, h6⟩
   ·exact .inr ⟨a, b, by omega, by omega, h3, h4, h5, h6⟩
theorem cellsF_mem {p : Nat → Nat → Bool} {n : Nat} {c : List Int} : c ∈ cellsF n p ↔ ∃ a b : Nat, 1 ≤ a ∧ a < n ∧ 1 ≤ b ∧ b < n ∧ p a b = true ∧ c = [(a : Int), (b : Int)] := by
 unfold cellsF
 rw [tabF_mem]
 constructor
 ·rintro ⟨a, b, h1, h2, h3⟩; exact ⟨a, b, h1, by omega, h3⟩
 ·rintro ⟨a, b, h1, h2, h3⟩; exact ⟨a, b, h1, by omega, h3⟩
theorem allIn_four (a b c d v : Int) : allIn [a, b, c, d] v v = decide (a = v ∧ b = v ∧ c = v ∧ d = v) := by
 unfold allIn
 rw [Bool.eq_iff_iff]
 simp only [List.all_cons, List.all_nil, Bool.and_true, Bool.and_eq_true, decide_eq_true_eq]
 omega
theorem heWay {n : Nat} (h : Nat → Nat → Int) (hn : n ≤ 1000) (hb : ∀ i j, i ≤ n → j ≤ n → -10000 ≤ h i j ∧ h i j ≤ 10000) {i j : Nat} (hi : 1 ≤ i ∧ i < n) (hj : 1 ≤ j ∧ j < n) : Ans (fun k => spec_heWay.f k (tab (n + 1) (n + 1) h) i j) (wayH h i j) := by
 have q := tab_sq (n + 1) h
 have hl := q.1
 have row : ∀ a : Nat, a ≤ n → (rd_L3 (tab (n + 1) (n + 1) h) (a : Int)).length = n + 1 := fun a ha => by unfold rd_L3; rw [Int.toNat_natCast]; exact q.row o_
 have num : ∀ a b : Nat, a ≤ n → b ≤ n → rd (rd_L3 (tab (n + 1) (n + 1) h) (a : Int)) (b : Int) = h a b := fun a b ha hb' => by rw [at_en, tab_en _ o_ o_]
 have r0 := row i o_
 have r1 := row (i - 1) o_
 have r2 := row (i + 1) o_
 have b0 := hb i j o_ o_
 simp only [spec_heWay.f, wrap_pred (show 1 ≤ i by omega) o_, wrap_pred (show 1 ≤ j by omega) o_, wrap_succ (show i ≤ 1000000 by omega), wrap_succ (show j ≤ 1000000 by omega), Option.bind_some]
 rw [num i j o_ o_, num (i - 1) j o_ o_, num (i + 1) j o_ o_, num i (j - 1) o_ o_, num i (j + 1) o_ o_, wrap64_in (h i j + 1) ⟨o_, o_⟩, wrap64_in (h i j - 1) ⟨o_, o_⟩]
 have u := l1All [h (i - 1) j, h (i + 1) j, h i (j - 1), h i (j + 1)] (by simp) (h i j + 1) (h i j + 1)
 have v := l1All [h (i - 1) j, h (i + 1) j, h i (j - 1), h i (j + 1)] (by simp) (h i j - 1) (h i j - 1)
 rw [allIn_four] at u v
 refine y_ o_ (y_ o_ (y_ o_ (y_ o_ (y_ o_ (y_ o_ (y_ o_ (y_ o_ (y_ o_ (y_ o_ (y_ o_ (y_ o_ (y_ o_ (y_ o_ ?_)))))))))))))
 unfold wayH
 by_cases c : h (i - 1) j = h i j + 1 ∧ h (i + 1) j = h i j + 1 ∧ h i (j - 1) = h i j + 1 ∧ h i (j + 1) = h i j + 1
 ·rw [if_pos c]; exact u.bind (y_ (decide_eq_true c) p_)
 ·rw [if_neg c]
  refine u.bind (n_ (by simpa using c) (v.bind ?_))
  by_cases d : h (i - 1) j = h i j - 1 ∧ h (i + 1) j = h i j - 1 ∧ h i (j - 1) = h i j - 1 ∧ h i (j + 1) = h i j - 1
  ·rw [if_pos d]; exact y_ (decide_eq_true d) p_
  ·rw [if_neg d]; exact n_ (by simpa using d) p_
theorem hgt_bound {x : Tb_} (s : sign x = true) {n : Nat} (hn : x.length = n) : ∀ i j, i ≤ n → j ≤ n → -10000 ≤ hgt x i j ∧ hgt x i j ≤ 10000 := fun i j hi hj => by
 have a := hgt_in s hn hi hj
 have b := (sign_en s hn).2.2.1
 omega
theorem S_even {f : Nat → Int} : ∀ {n : Nat}, (∀ i, i < n → f i % 2 = 0) → S n f % 2 = 0
 | 0, _ => by simp [S]
 | n + 1, h => by
  have a := S_even (fun i hi => h i (by omega : i < n + 1)) (n := n)
  have b := h n o_
  rw [S]; omega
theorem S_change {f f' : Nat → Int} {i : Nat} : ∀ {n : Nat}, i < n → (∀ k, k < n → k ≠ i → f' k = f k) → S n f' = S n f + (f' i - f i)
 | 0, hi, _ => by omega
 | n + 1, hi, h => by
  rw [S, S]
  by_cases c : i = n
  ·subst c
   rw [S_congr (fun k hk => h k o_ o_)]; omega
  ·have a := S_change (n := n) (show i < n by omega) (fun k hk hn => h k o_ hn)
   have b := h n o_ o_
   omega
def dst (n : Nat) (h g : Nat → Nat → Int) : Int := S (n + 1) (fun i => S (n + 1) (fun j => max (h i j - g i j) (g i j - h i j)))
theorem dst_same {n : Nat} {h g : Nat → Nat → Int} (e : ∀ i j, i ≤ n → j ≤ n → h i j = g i j) : dst n h g = 0 := by
 unfold dst
 rw [S_congr (g := fun _ => 0) (fun i hi => (S_congr (g := fun _ => 0) (fun j hj => by have := e i j o_ o_; omega)).trans (S_zero _)), S_zero]
theorem dst_even {n : Nat} {h g : Nat → Nat → Int} (H : HF n h) (G : HF n g) : dst n h g % 2 = 0 := by
 refine S_even fun i hi => S_even fun j hj => ?_
 have a := hf_parity H (show j ≤ n by omega) i o_
 have b := hf_parity G (show j ≤ n by omega) i o_
 omega
theorem dst_flip {n : Nat} {h g : Nat → Nat → Int} (H : HF n h) (G : HF n g) {i j : Nat} (hi : i ≤ n) (hj : j ≤ n) (c : (h i j < g i j ∧ wayH h i j = 1) ∨ (g i j < h i j ∧ wayH h i j = -1)) : dst n (flipH h i j) g = dst n h g - 2 := by
 have p := hf_parity H hj i hi
 have q := hf_parity G hj i hi
 have row : S (n + 1) (fun b => max (flipH h i j i b - g i b) (g i b - flipH h i j i b)) = S (n + 1) (fun b => max (h i b - g i b) (g i b - h i b)) + ((max (flipH h i j i j - g i j) (g i j - flipH h i j i j)) - max (h i j - g i j) (g i j - h i j)) := by
  refine S_change (show j < n + 1 by omega) fun k hk kn => ?_
  rw [show flipH h i j i k = h i k from if_neg o_]
 have all := S_change (f := fun a => S (n + 1) (fun b => max (h a b - g a b) (g a b - h a b))) (f' := fun a => S (n + 1) (fun b => max (flipH h i j a b - g a b) (g a b - flipH h i j a b))) (show i < n + 1 by omega) (fun k hk kn => S_congr fun b _ => by
  rw [show flipH h i j k b = h k b from if_neg o_])
 have e : flipH h i j i j = h i j + 2 * wayH h i j := if_pos ⟨rfl, rfl⟩
 unfold dst
 rw [all, row, e]
 omega
def cI (c : List Int) : Nat := (c.getD 0 0).toNat
def cJ (c : List Int) : Nat := (c.getD 1 0).toNat
theorem way_flip {h : Nat → Nat → Int} {i j : Nat} (hi : 1 ≤ i) (hj : 1 ≤ j) : wayH (flipH h i j) i j = - wayH h i j := by
 have e : flipH h i j i j = h i j + 2 * wayH h i j := if_pos ⟨rfl, rfl⟩
 have a : flipH h i j (i - 1) j = h (i - 1) j := if_neg o_
 have b : flipH h i j (i + 1) j = h (i + 1) j := if_neg o_
 have c : flipH h i j i (j - 1) = h i (j - 1) := if_neg o_
 have d : flipH h i j i (j + 1) = h i (j + 1) := if_neg o_
 rcases wayH_cases h i j with ⟨w, x⟩ | ⟨w, x⟩ | w
 ·rw [w] at e ⊢
  unfold wayH
  rw [a, b, c, d, e, if_neg o_, if_pos o_]
 ·rw [w] at e ⊢
  unfold wayH
  rw [a, b, c, d, e, if_pos o_]; rfl
 ·have : flipH h i j = h := by
   funext p q
   unfold flipH putH
   rw [w]
   by_cases z : p = i ∧ q = j
   ·rw [if_pos z, z.1, z.2]; omega
   ·rw [if_neg z]
  rw [this, w]; rfl
theorem flip_flip {h : Nat → Nat → Int} {i j : Nat} (hi : 1 ≤ i) (hj : 1 ≤ j) : flipH (flipH h i j) i j = h := by
 have w := way_flip (h := h) hi hj
 have e : flipH h i j i j = h i j + 2 * wayH h i j := if_pos ⟨rfl, rfl⟩
 funext p q
 rw [show flipH (flipH h i j) i j p q = if p = i ∧ q = j then flipH h i j i j + 2 * wayH (flipH h i j) i j else flipH h i j p q from rfl, w, e]
 by_cases z : p = i ∧ q = j
 ·rw [if_pos z, z.1, z.2]; omega
 ·rw [if_neg z]; exact if_neg z
def foll (h : Nat → Nat → Int) (p : Tb_) : Nat → Nat → Int := p.foldl (fun h c => flipH h (cI c) (cJ c)) h
theorem cI_of (i j : Nat) : cI [(i : Int), (j : Int)] = i := by simp [cI]
theorem cJ_of (i j : Nat) : cJ [(i : Int), (j : Int)] = j := by simp [cJ]
def mnL : Int → List Int → Int
 | m, [] => m
 | m, x :: l => if x < m then mnL x l else mnL m l
def mxL : Int → List Int → Int
 | m, [] => m
 | m, x :: l => if m < x then mxL x l else mxL m l
theorem minAns (l : List Int) (hl : l.length ≤ 1000) : ∀ (d i : Nat) (m : Int), i + d = l.length → Ans (fun k => slices_Min_int_int.l0 k l m (i : Int)) (mnL m (l.drop i)) := by
 intro d
 induction d with
 | zero =>
  intro i m h
  rw [drop_all _ o_]
  exact Ans.step (by simp only [slices_Min_int_int.l0]; exact n_ o_ p_)
 | succ d ih =>
  intro i m h
  rw [drop_at l 0 o_, mnL]
  refine Ans.step ?_
  simp only [slices_Min_int_int.l0, wrap64_up (show (0 : Int) ≤ i by omega) o_, rd, Int.toNat_natCast]
  refine y_ o_ (y_ o_ ?_)
  by_cases c : l.getD i 0 < m
  ·have e := ih (i + 1) (l.getD i 0) o_
   rw [show ((i + 1 : Nat) : Int) = (i : Int) + 1 by omega] at e
   rw [if_pos c]; exact y_ c e
  ·have e := ih (i + 1) m o_
   rw [show ((i + 1 : Nat) : Int) = (i : Int) + 1 by omega] at e
   rw [if_neg c]; exact n_ c e
theorem maxAns (l : List Int) (hl : l.length ≤ 1000) : ∀ (d i : Nat) (m : Int), i + d = l.length → Ans (fun k => slices_Max_int_int.l0 k l m (i : Int)) (mxL m (l.drop i)) := by
 intro d
 induction d with
 | zero =>
  intro i m h
  rw [drop_all _ o_]
  exact Ans.step (by simp only [slices_Max_int_int.l0]; exact n_ o_ p_)
 | succ d ih =>
  intro i m h
  rw [drop_at l 0 o_, mxL]
  refine Ans.step ?_
  simp only [slices_Max_int_int.l0, wrap64_up (show (0 : Int) ≤ i by omega) o_, rd, Int.toNat_natCast]
  refine y_ o_ (y_ o_ ?_)
  by_cases c : m < l.getD i 0
  ·have e := ih (i + 1) (l.getD i 0) o_
   rw [show ((i + 1 : Nat) : Int) = (i : Int) + 1 by omega] at e
   rw [if_pos c]; exact y_ c e
  ·have e := ih (i + 1) m o_
   rw [show ((i + 1 : Nat) : Int) = (i : Int) + 1 by omega] at e
   rw [if_neg c]; exact n_ c e
theorem mn4 (a b c d : Int) : mnL a [b, c, d] ≤ a ∧ mnL a [b, c, d] ≤ b ∧ mnL a [b, c, d] ≤ c ∧ mnL a [b, c, d] ≤ d ∧ (mnL a [b, c, d] = a ∨ mnL a [b, c, d] = b ∨ mnL a [b, c, d] = c ∨ mnL a [b, c, d] = d) := by
 simp only [mnL]
 repeat' split
 all_goals omega
theorem mx4 (a b c d : Int) : a ≤ mxL a [b, c, d] ∧ b ≤ mxL a [b, c, d] ∧ c ≤ mxL a [b, c, d] ∧ d ≤ mxL a [b, c, d] ∧ (mxL a [b, c, d] = a ∨ mxL a [b, c, d] = b ∨ mxL a [b, c, d] = c ∨ mxL a [b, c, d] = d) := by
 simp only [mxL]
 repeat' split
 all_goals omega
theorem implWay {n : Nat} {h : Nat → Nat → Int} (H : HF n h) (hn : n ≤ 1000) {i j : Nat} (hi : 1 ≤ i ∧ i < n) (hj : 1 ≤ j ∧ j < n) : Ans (fun k => impl_way.f k (tab (n + 1) (n + 1) h) i j) (2 * wayH h i j) := by
 have q := tab_sq (n + 1) h
 have hl := q.1
 have row : ∀ a : Nat, a ≤ n → (rd_L3 (tab (n + 1) (n + 1) h) (a : Int)).length = n + 1 := fun a ha => by unfold rd_L3; rw [Int.toNat_natCast]; exact q.row o_
 have num : ∀ a b : Nat, a ≤ n → b ≤ n → rd (rd_L3 (tab (n + 1) (n + 1) h) (a : Int)) (b : Int) = h a b := fun a b ha hb' => by rw [at_en, tab_en _ o_ o_]
 have r0 := row i o_
 have r1 := row (i - 1) o_
 have r2 := row (i + 1) o_
 have b0 := hf_in H (show i ≤ n by omega) (show j ≤ n by omega)
 have u := H.2.1 (i - 1) j o_ o_
 have d := H.2.1 i j o_ o_
 have l := H.2.2 i (j - 1) o_ o_
 have r := H.2.2 i j o_ o_
 rw [show i - 1 + 1 = i by omega] at u
 rw [show j - 1 + 1 = j by omega] at l
 simp only [impl_way.f, wrap_pred (show 1 ≤ i by omega) o_, wrap_pred (show 1 ≤ j by omega) o_, wrap_succ (show i ≤ 1000000 by omega), wrap_succ (show j ≤ 1000000 by omega), Option.bind_some]
 rw [num i j o_ o_, num (i - 1) j o_ o_, num (i + 1) j o_ o_, num i (j - 1) o_ o_, num i (j + 1) o_ o_]
 have m1 := minAns [h (i - 1) j, h i (j + 1), h (i + 1) j, h i (j - 1)] (by simp) 3 1 (h (i - 1) j) rfl
 have m2 := maxAns [h (i - 1) j, h i (j + 1), h (i + 1) j, h i (j - 1)] (by simp) 3 1 (h (i - 1) j) rfl
 rw [show [h (i - 1) j, h i (j + 1), h (i + 1) j, h i (j - 1)].drop 1 = [h i (j + 1), h (i + 1) j, h i (j - 1)] from rfl] at m1 m2
 have p1 := mn4 (h (i - 1) j) (h i (j + 1)) (h (i + 1) j) (h i (j - 1))
 have p2 := mx4 (h (i - 1) j) (h i (j + 1)) (h (i + 1) j) (h i (j - 1))
 have M1 : Ans (fun k => slices_Min_int_int.f k [h (i - 1) j, h i (j + 1), h (i + 1) j, h i (j - 1)]) (mnL (h (i - 1) j) [h i (j + 1), h (i + 1) j, h i (j - 1)]) := by
  simp only [slices_Min_int_int.f]
  exact y_ (by simp) m1
 have M2 : Ans (fun k => slices_Max_int_int.f k [h (i - 1) j, h i (j + 1), h (i + 1) j, h i (j - 1)]) (mxL (h (i - 1) j) [h i (j + 1), h (i + 1) j, h i (j - 1)]) := by
  simp only [slices_Max_int_int.f]
  exact y_ (by simp) m2
 clear m1 m2
 generalize mnL (h (i - 1) j) [h i (j + 1), h (i + 1) j, h i (j - 1)] = lo at *
 generalize mxL (h (i - 1) j) [h i (j + 1), h (i + 1) j, h i (j - 1)] = up at *
 refine y_ o_ (y_ o_ (y_ o_ (y_ o_ (y_ o_ (y_ o_ (y_ o_ (y_ o_ (y_ o_ (y_ o_ (y_ o_ (y_ o_ (y_ o_ (M1.bind (M2.bind ?_))))))))))))))
 by_cases c : lo = up
 ·have w : 2 * wayH h i j = 2 * (lo - h i j) := by
   unfold wayH
   by_cases e : lo = h i j + 1
   ·rw [if_pos o_]; omega
   ·rw [if_neg o_, if_pos o_]; omega
  rw [wrap64_in (lo - h i j) ⟨o_, o_⟩, wrap64_in (2 * (lo - h i j)) ⟨o_, o_⟩, w]
  exact y_ c (y_ o_ p_)
 ·have w : wayH h i j = 0 := by
   unfold wayH
   rw [if_neg o_, if_neg o_]
  rw [w]
  exact n_ c p_
theorem cells2 (n : Nat) (hn : n ≤ 1000) (g : Nat → Int → Int → Option Bool) (p : Nat → Nat → Bool) (hp : ∀ i j : Nat, 1 ≤ i ∧ i < n → 1 ≤ j ∧ j < n → Ans (fun q => g q i j) (p i j)) : Ans (fun k => impl_cells.f k n (g k)) (cellsF n p) := by
 have inner : ∀ (R : Tb_) (i : Nat), 1 ≤ i ∧ i < n → ∀ (d j : Nat) (y : Tb_), j + d = n → 1 ≤ j → y.length + d ≤ 2000000 →
   Ans2 (fun k q => impl_cells.l0 k n (g q) (y ++ rowF p i d j) ((i + 1 : Nat) : Int)) R → Ans2 (fun k q => impl_cells.l1 k n (g q) y (i : Int) (j : Int)) R := by
  intro R i hi d
  induction d with
  | zero =>
   intro j y h1 h2 h3 nx
   rw [rowF, List.append_nil, show ((i + 1 : Nat) : Int) = (i : Int) + 1 by omega] at nx
   refine Ans2.step ?_
   simp only [impl_cells.l1, wrap64_up (show (0 : Int) ≤ i by omega) o_]
   exact Ans2.not o_ nx
  | succ d ih =>
   intro j y h1 h2 h3 nx
   have wy := hp i j hi (show 1 ≤ j ∧ j < n by omega)
   rw [rowF, ← List.append_assoc] at nx
   refine Ans2.step ?_
   simp only [impl_cells.l1, wrap64_up (show (0 : Int) ≤ j by omega) o_]
   refine Ans2.yes o_ ((Ans2.two wy).bind ?_)
   by_cases c : p i j = true
   ·rw [if_pos c] at nx
    have := ih (j + 1) (y ++ [[(i : Int), (j : Int)]]) o_ o_ (by simp; omega) nx
    rw [show ((j + 1 : Nat) : Int) = (j : Int) + 1 by omega] at this
    exact Ans2.yes c (Ans2.yes o_ this)
   ·rw [if_neg c, List.append_nil] at nx
    have := ih (j + 1) y o_ o_ o_ nx
    rw [show ((j + 1 : Nat) : Int) = (j : Int) + 1 by omega] at this
    exact Ans2.not c this
 have key : ∀ (d i : Nat) (y : Tb_), i + d = n → 1 ≤ i → y.length ≤ 1000 * i → Ans2 (fun k q => impl_cells.l0 k n (g q) y (i : Int)) (y ++ tabF p n d i) := by
  intro d
  induction d with
  | zero =>
   intro i y h1 h2 h3
   refine Ans2.step ?_
   simp only [impl_cells.l0, tabF, List.append_nil]
   exact Ans2.not o_ (Ans2.pure _)
  | succ d ih =>
   intro i y h1 h2 h3
   have rl := rowF_len p i (n - 1) 1
   have e := ih (i + 1) (y ++ rowF p i (n - 1) 1) o_ o_ (by rw [List.length_append]; omega)
   rw [List.append_assoc] at e
   rw [tabF]
   refine Ans2.step ?_
   simp only [impl_cells.l0]
   exact Ans2.yes o_ (inner _ i o_ (n - 1) 1 y o_ o_ o_ e)
 simp only [impl_cells.f]
 by_cases c : 1 ≤ n
 ·have := (key (n - 1) 1 [] o_ o_ (by simp)).join
  rw [List.nil_append] at this
  exact this
 ·have z : cellsF n p = [] := by unfold cellsF; rw [show n - 1 = 0 by omega]; rfl
  rw [z]
  refine Ans.step ?_
  simp only [impl_cells.l0]
  exact n_ o_ p_
def cellB (n : Nat) (c : List Int) : Bool := decide (c.length = 2) && (decide (1 ≤ rd c 0 ∧ rd c 0 < n) && decide (1 ≤ rd c 1 ∧ rd c 1 < n))
theorem cellB_of {n : Nat} {c : List Int} (h : cellB n c = true) : c.length = 2 ∧ ∃ i j : Nat, rd c 0 = i ∧ rd c 1 = j ∧ cI c = i ∧ cJ c = j ∧ (1 ≤ i ∧ i < n) ∧ (1 ≤ j ∧ j < n) := by
 unfold cellB at h
 simp only [Bool.and_eq_true, decide_eq_true_eq] at h
 obtain ⟨a, b, c'⟩ := h
 exact ⟨a, (rd c 0).toNat, (rd c 1).toNat, by omega, by omega, rfl, rfl, by omega, by omega⟩
def folO (n : Nat) : (Nat → Nat → Int) → Tb_ → Option (Nat → Nat → Int)
 | h, [] => some h
 | h, c :: p => if cellB n c = true then (if wayH h (cI c) (cJ c) = 0 then none else folO n (flipH h (cI c) (cJ c)) p) else none
def resO (n : Nat) : Option (Nat → Nat → Int) → Tb_ × Bool
 | some h => (mat n h, true)
 | none => ([], false)
theorem folO_all {n : Nat} : ∀ (p : Tb_) (h : Nat → Nat → Int), (p.all (cellB n)) = false → folO n h p = none
 | [], h, e => by simp at e
 | c :: p, h, e => by
  rw [folO]
  by_cases b : cellB n c = true
  ·rw [if_pos b]
   split
   ·rfl
   ·exact folO_all p _ (by simpa [b] using e)
  ·rw [if_neg b]
theorem specCell (n : Nat) (hn : n ≤ 1000) (a b : Int) : spec_heCell.f (n : Int) a b = some (decide (1 ≤ a ∧ a < n) && decide (1 ≤ b ∧ b < n)) := by
 simp only [spec_heCell.f, l1In, Option.bind_some]
 rw [show wrap64 ((n : Int) - 1) = (n : Int) - 1 from wrap64_in _ ⟨o_, o_⟩]
 by_cases c : 1 ≤ a ∧ a < n
 ·rw [if_pos (by rw [decide_eq_true_eq]; omega), decide_eq_true c, Bool.true_and]; congr 1; rw [decide_eq_decide]; omega
 ·rw [if_neg (by rw [decide_eq_true_eq]; omega), decide_eq_false c, Bool.false_and]
theorem implCell (n : Nat) (hn : n ≤ 1000) (a b : Int) : impl_isCell.f (n : Int) a b = some (decide (1 ≤ a ∧ a < n) && decide (1 ≤ b ∧ b < n)) := by
 simp only [impl_isCell.f, within, Option.bind_some]
 rw [show wrap64 ((n : Int) - 1) = (n : Int) - 1 from wrap64_in _ ⟨o_, o_⟩]
 by_cases c : 1 ≤ a ∧ a < n
 ·rw [if_pos (by rw [decide_eq_true_eq]; omega), decide_eq_true c, Bool.true_and]; congr 1; rw [decide_eq_decide]; omega
 ·rw [if_neg (by rw [decide_eq_true_eq]; omega), decide_eq_false c, Bool.false_and]
theorem areCells (n : Nat) (hn : n ≤ 1000) (p : Tb_) (hp : p.length ≤ 1000000) : Ans (fun k => impl_areCells.f k n p) (decide (p.length ≤ 200) && p.all (cellB n)) := by
 have one : ∀ a : List Int, impl_areCells_1.f a (n : Int) = some (!cellB n a) := fun a => by
  simp only [impl_areCells_1.f, implCell n hn, Option.bind_some, cellB]
  by_cases c : a.length = 2
  ·rw [if_pos o_, if_pos o_, if_pos o_, decide_eq_true c, Bool.true_and]
  ·rw [if_neg o_, decide_eq_false c, Bool.false_and]; rfl
 have e := containsL p o_ (fun x0_ => impl_areCells_1.f x0_ (n : Int)) (fun a => !cellB n a) one
 simp only [impl_areCells.f]
 by_cases c : p.length ≤ 200
 ·rw [decide_eq_true c, Bool.true_and]
  refine y_ o_ (e.bind ?_)
  rw [show p.all (cellB n) = !(p.any fun a => !cellB n a) by rw [List.not_any_eq_all_not]; simp]
  exact Ans.pure _
 ·rw [decide_eq_false c, Bool.false_and]; exact n_ o_ p_
theorem flip_put {n : Nat} {h : Nat → Nat → Int} {i j : Nat} (hi : i < n + 1) (hj : j < n + 1) {v : Int} (e : v = h i j + 2 * wayH h i j) : (tab (n + 1) (n + 1) h).set i ((rd_L3 (tab (n + 1) (n + 1) h) (i : Int)).set j v) = tab (n + 1) (n + 1) (flipH h i j) := by
 rw [show rd_L3 (tab (n + 1) (n + 1) h) (i : Int) = (tab (n + 1) (n + 1) h).getD i [] by unfold rd_L3; rw [Int.toNat_natCast], e]
 exact tab_put h hi hj _
theorem way_b (h : Nat → Nat → Int) (i j : Nat) : -1 ≤ wayH h i j ∧ wayH h i j ≤ 1 := by
 rcases wayH_cases h i j with ⟨w, _⟩ | ⟨w, _⟩ | w <;> omega
theorem implFollow {n : Nat} (hn : n ≤ 100) {p : Tb_} (hp : p.length ≤ 1000000) (ok : p.all (cellB n) = true) : ∀ (d i : Nat) (h : Nat → Nat → Int), i + d = p.length → HF n h → Ans (fun k => impl_FollowFlips.l0 k (tab (n + 1) (n + 1) h) p (p.length : Int) (i : Int)) (resO n (folO n h (p.drop i))) := by
 intro d
 induction d with
 | zero =>
  intro i h e H
  rw [drop_all _ o_, folO, resO]
  have F := implFromH (tab_sq (n + 1) h) o_
  rw [hmat_of H o_] at F
  refine Ans.step ?_
  simp only [impl_FollowFlips.l0]
  exact n_ o_ (F.bind p_)
 | succ d ih =>
  intro i h e H
  have cb := List.all_eq_true.mp ok _ (getD_mem (x := p) [] (show i < p.length by omega))
  obtain ⟨cl, a, b, ea, eb, ia, jb, ha, hb⟩ := cellB_of cb
  have w := implWay H o_ ha hb
  have wb := way_b h a b
  have q := tab_sq (n + 1) h
  have ql := q.1
  have rl : (rd_L3 (tab (n + 1) (n + 1) h) (a : Int)).length = n + 1 := by unfold rd_L3; rw [Int.toNat_natCast]; exact q.row o_
  have er : rd_L3 p (i : Int) = p.getD i [] := by unfold rd_L3; rw [Int.toNat_natCast]
  have hb0 := hf_in H (show a ≤ n by omega) (show b ≤ n by omega)
  rw [drop_at p [] o_, folO, if_pos cb, ia, jb]
  refine Ans.step ?_
  simp only [impl_FollowFlips.l0, er, ea, eb, Int.toNat_natCast, wrap64_up (show (0 : Int) ≤ i by omega) o_]
  refine y_ o_ (y_ o_ (y_ o_ (y_ o_ (y_ o_ (w.bind ?_)))))
  by_cases z : wayH h a b = 0
  ·rw [if_pos z]; exact y_ o_ p_
  ·rw [if_neg z]
   have e1 := ih (i + 1) (flipH h a b) o_ (hf_flip H ha hb)
   rw [show ((i + 1 : Nat) : Int) = (i : Int) + 1 by omega] at e1
   rw [flip_put (n := n) (h := h) (i := a) (j := b) o_ o_ (by rw [at_en, tab_en _ o_ o_]; exact wrap64_in _ ⟨o_, o_⟩)]
   exact n_ o_ (y_ o_ (y_ o_ (y_ o_ (y_ o_ e1))))
def foRes (x : Tb_) (p : Tb_) : Tb_ × Bool := if sign x = true then (if p.length ≤ 200 then resO x.length (folO x.length (hgt x) p) else ([], false)) else ([], false)
theorem cellB_two (n : Nat) (i j : Int) : cellB n [i, j] = (decide (1 ≤ i ∧ i < n) && decide (1 ≤ j ∧ j < n)) := by
 unfold cellB
 rw [show rd [i, j] 0 = i from rfl, show rd [i, j] 1 = j from rfl]; rfl
theorem mx_eq (a b : Int) : mx a b = max a b := by unfold mx; split <;> omega
theorem rowSum_in {n : Nat} {f g : Nat → Nat → Int} (hn : n ≤ 6) {i c : Nat} (hi : i ≤ n) (hc : c ≤ n + 1) (F : ∀ i j, i ≤ n → j ≤ n → 0 ≤ f i j ∧ f i j ≤ n) (G : ∀ i j, i ≤ n → j ≤ n → 0 ≤ g i j ∧ g i j ≤ n) : 0 ≤ S c (fun j => max (f i j - g i j) (g i j - f i j)) ∧ S c (fun j => max (f i j - g i j) (g i j - f i j)) ≤ 100 := by
 have := S_range (n := c) (f := fun j => max (f i j - g i j) (g i j - f i j)) (a := 0) (b := 6) (fun j hj => by
  have a := F i j hi o_; have b := G i j hi o_; omega)
 omega
theorem tabSum_in {n : Nat} {f g : Nat → Nat → Int} (hn : n ≤ 6) {r : Nat} (hr : r ≤ n + 1) (F : ∀ i j, i ≤ n → j ≤ n → 0 ≤ f i j ∧ f i j ≤ n) (G : ∀ i j, i ≤ n → j ≤ n → 0 ≤ g i j ∧ g i j ≤ n) : 0 ≤ S r (fun i => S (n + 1) (fun j => max (f i j - g i j) (g i j - f i j))) ∧ S r (fun i => S (n + 1) (fun j => max (f i j - g i j) (g i j - f i j))) ≤ 1000 := by
 have := S_range (n := r) (f := fun i => S (n + 1) (fun j => max (f i j - g i j) (g i j - f i j))) (a := 0) (b := 100) (fun i hi => rowSum_in hn o_ (Nat.le_refl _) F G)
 omega
theorem half (d : Int) (h : d % 2 = 0) (h0 : 0 ≤ d ∧ d ≤ 1000) : wrap64 (Int.tdiv d 2) = d / 2 := by
 obtain ⟨t, ht⟩ : ∃ t, d = 2 * t := ⟨d / 2, by omega⟩
 rw [ht, show Int.tdiv (2 * t) 2 = t by rw [Int.mul_comm]; exact Int.mul_tdiv_cancel t o_, wrap64_in t ⟨o_, o_⟩]; omega
theorem distI {n : Nat} {f g : Nat → Nat → Int} (hn : n ≤ 6) (HFf : HF n f) (HFg : HF n g) (F : ∀ i j, i ≤ n → j ≤ n → 0 ≤ f i j ∧ f i j ≤ n) (G : ∀ i j, i ≤ n → j ≤ n → 0 ≤ g i j ∧ g i j ≤ n) :
  Ans (fun k => impl_distance.l0 k (tab (n + 1) (n + 1) g) 0 (tab (n + 1) (n + 1) f) ((n + 1 : Nat) : Int) 0) (dst n f g / 2) := by
 have qf := tab_sq (n + 1) f
 have qg := tab_sq (n + 1) g
 have lf := qf.1
 have lg := qg.1
 have rowf : ∀ a : Nat, a ≤ n → (rd_L3 (tab (n + 1) (n + 1) f) (a : Int)).length = n + 1 := fun a ha => by unfold rd_L3; rw [Int.toNat_natCast]; exact qf.row o_
 have rowg : ∀ a : Nat, a ≤ n → (rd_L3 (tab (n + 1) (n + 1) g) (a : Int)).length = n + 1 := fun a ha => by unfold rd_L3; rw [Int.toNat_natCast]; exact qg.row o_
 have numf : ∀ a b : Nat, a ≤ n → b ≤ n → rd (rd_L3 (tab (n + 1) (n + 1) f) (a : Int)) (b : Int) = f a b := fun a b ha hb' => by rw [at_en, tab_en _ o_ o_]
 have numg : ∀ a b : Nat, a ≤ n → b ≤ n → rd (rd_L3 (tab (n + 1) (n + 1) g) (a : Int)) (b : Int) = g a b := fun a b ha hb' => by rw [at_en, tab_en _ o_ o_]
 have all := tabSum_in hn (Nat.le_refl (n + 1)) F G
 have ev := dst_even HFf HFg
 have inner : ∀ (R T : Int) (i : Nat), i ≤ n → 0 ≤ T → T ≤ 1000 → Ans (fun k => impl_distance.l0 k (tab (n + 1) (n + 1) g) (T + S (n + 1) (fun j => max (f i j - g i j) (g i j - f i j))) (tab (n + 1) (n + 1) f) ((n + 1 : Nat) : Int) ((i : Int) + 1)) R → ∀ (d j : Nat), j + d = n + 1 →
   Ans (fun k => impl_distance.l1 k (tab (n + 1) (n + 1) g) (T + S j (fun j => max (f i j - g i j) (g i j - f i j))) (i : Int) (tab (n + 1) (n + 1) f) ((n + 1 : Nat) : Int) (i : Int) (rd_L3 (tab (n + 1) (n + 1) f) (i : Int)) ((n + 1 : Nat) : Int) (j : Int)) R := by
  intro R T i hi t0 t1 nx d
  induction d with
  | zero =>
   intro j h
   obtain rfl : j = n + 1 := by omega
   refine Ans.step ?_
   simp only [impl_distance.l1, wrap64_up (show (0 : Int) ≤ i by omega) o_]
   exact n_ o_ nx
  | succ d ih =>
   intro j h
   have e := ih (j + 1) o_
   rw [show ((j + 1 : Nat) : Int) = (j : Int) + 1 by omega] at e
   have rf := rowf i hi
   have rg := rowg i hi
   have a := F i j hi o_
   have b := G i j hi o_
   have s1 := rowSum_in hn hi (show j + 1 ≤ n + 1 by omega) F G
   have es : S (j + 1) (fun j => max (f i j - g i j) (g i j - f i j)) = S j (fun j => max (f i j - g i j) (g i j - f i j)) + max (f i j - g i j) (g i j - f i j) := rfl
   refine Ans.step ?_
   simp only [impl_distance.l1, wrap64_up (show (0 : Int) ≤ j by omega) o_]
   rw [numf i j hi o_, numg i j hi o_, wrap64_in (f i j - g i j) ⟨o_, o_⟩, wrap64_in (g i j - f i j) ⟨o_, o_⟩, mx_eq, wrap64_in (T + S j (fun j => max (f i j - g i j) (g i j - f i j)) + max (f i j - g i j) (g i j - f i j)) ⟨o_, o_⟩, Int.add_assoc, ← es]
   exact y_ o_ (y_ o_ (y_ o_ (y_ o_ (y_ o_ (y_ o_ e)))))
 have key : ∀ (d i : Nat), i + d = n + 1 → Ans (fun k => impl_distance.l0 k (tab (n + 1) (n + 1) g) (S i (fun i => S (n + 1) (fun j => max (f i j - g i j) (g i j - f i j)))) (tab (n + 1) (n + 1) f) ((n + 1 : Nat) : Int) (i : Int)) (dst n f g / 2) := by
  intro d
  induction d with
  | zero =>
   intro i h
   obtain rfl : i = n + 1 := by omega
   refine Ans.step ?_
   simp only [impl_distance.l0]
   rw [half (S (n + 1) (fun i => S (n + 1) (fun j => max (f i j - g i j) (g i j - f i j)))) ev all]
   exact n_ o_ p_
  | succ d ih =>
   intro i h
   have e := ih (i + 1) o_
   rw [show ((i + 1 : Nat) : Int) = (i : Int) + 1 by omega] at e
   have t := tabSum_in hn (show i ≤ n + 1 by omega) F G
   have := inner _ _ i o_ t.1 t.2 e (n + 1) 0 o_
   rw [show S 0 (fun j => max (f i j - g i j) (g i j - f i j)) = 0 from rfl, Int.add_zero] at this
   refine Ans.step ?_
   simp only [impl_distance.l0, rowf i o_]
   exact y_ o_ (y_ o_ (y_ o_ this))
 exact key (n + 1) 0 o_
theorem implDist {x y : Tb_} (s : sign x = true) (t : sign y = true) {n : Nat} (hn : x.length = n) (hm : y.length = n) : Ans (fun k => impl_distance.f k x y) (dst n (hgt x) (hgt y) / 2) := by
 obtain ⟨ex, Hx, _⟩ := HT_hf s hn
 obtain ⟨ey, Hy, _⟩ := HT_hf t hm
 have h1 := implHeights s
 have h2 := implHeights t
 rw [ex] at h1
 rw [ey] at h2
 have D := (distI (sign_en s hn).2.2.1 Hx Hy (fun i j hi hj => hgt_in s hn hi hj) (fun i j hi hj => hgt_in t hm hi hj))
 simp only [impl_distance.f]
 refine h1.bind (h2.bind ?_)
 rw [(tab_sq (n + 1) (hgt x)).1]
 exact D
def parH (h : Nat → Nat → Int) (P : Nat → Nat → Bool) : Nat → Nat → Int := fun a b => if P a b = true then h a b + 2 * wayH h a b else h a b
def colC (c : Nat) (q : List Int) : Prop := ∃ i j : Nat, q = [(i : Int), (j : Int)] ∧ 1 ≤ i ∧ 1 ≤ j ∧ (i + j) % 2 = c
theorem flip_at (h : Nat → Nat → Int) (i j : Nat) : flipH h i j i j = h i j + 2 * wayH h i j := by unfold flipH putH; rw [if_pos ⟨rfl, rfl⟩]
theorem flip_far (h : Nat → Nat → Int) {i j a b : Nat} (d : ¬ (a = i ∧ b = j)) : flipH h i j a b = h a b := by unfold flipH putH; rw [if_neg d]
theorem way_congr {h g : Nat → Nat → Int} {a b : Nat} (e0 : g a b = h a b) (e1 : g (a - 1) b = h (a - 1) b) (e2 : g (a + 1) b = h (a + 1) b) (e3 : g a (b - 1) = h a (b - 1)) (e4 : g a (b + 1) = h a (b + 1)) : wayH g a b = wayH h a b := by
 unfold wayH; rw [e0, e1, e2, e3, e4]
theorem way_neg {h g : Nat → Nat → Int} {a b : Nat} (e0 : g a b = h a b + 2 * wayH h a b) (e1 : g (a - 1) b = h (a - 1) b) (e2 : g (a + 1) b = h (a + 1) b) (e3 : g a (b - 1) = h a (b - 1)) (e4 : g a (b + 1) = h a (b + 1)) : wayH g a b = - wayH h a b := by
 rcases wayH_cases h a b with ⟨w, p1, p2, p3, p4⟩ | ⟨w, p1, p2, p3, p4⟩ | w
 ·rw [w] at e0 ⊢
  unfold wayH
  rw [e0, e1, e2, e3, e4, if_neg o_, if_pos o_]
 ·rw [w] at e0 ⊢
  unfold wayH
  rw [e0, e1, e2, e3, e4, if_pos o_]; rfl
 ·rw [w] at e0 ⊢
  rw [way_congr o_ e1 e2 e3 e4, w]; rfl
theorem foll_cons (h : Nat → Nat → Int) (i j : Nat) (p : Tb_) : foll h ([(i : Int), (j : Int)] :: p) = foll (flipH h i j) p := by
 show foll (flipH h (cI _) (cJ _)) p = _
 rw [cI_of, cJ_of]
theorem cell_inj {a b i j : Nat} (e : [(a : Int), (b : Int)] = [(i : Int), (j : Int)]) : a = i ∧ b = j := by
 simp only [List.cons.injEq, and_true] at e; omega
theorem foll_par (c : Nat) : ∀ (p : Tb_) (h : Nat → Nat → Int), (∀ q ∈ p, colC c q) → p.Nodup → foll h p = parH h (fun a b => decide ([(a : Int), (b : Int)] ∈ p))
 | [], h, _, _ => by funext a b; simp [foll, parH]
 | q :: p, h, hq, nd => by
  obtain ⟨i, j, rfl, hi, hj, hc⟩ := hq q (by simp)
  rw [List.nodup_cons] at nd
  rw [foll_cons, foll_par c p _ (fun q hq' => hq q (by simp [hq'])) nd.2]
  funext a b
  unfold parH
  by_cases m : [(a : Int), (b : Int)] ∈ p
  ·obtain ⟨a', b', e, ha, hb, hc'⟩ := hq _ (List.mem_cons_of_mem _ m)
   obtain ⟨rfl, rfl⟩ := cell_inj e
   have ne : ¬ (a = i ∧ b = j) := fun e => by rw [e.1, e.2] at m; exact nd.1 m
   rw [if_pos (by simpa using m), if_pos (by simp [m]), flip_far h ne, way_congr (flip_far h ne) (flip_far h o_) (flip_far h o_) (flip_far h o_) (flip_far h o_)]
  ·rw [if_neg (by simpa using m)]
   by_cases e : a = i ∧ b = j
   ·obtain ⟨rfl, rfl⟩ := e
    rw [if_pos (by simp), flip_at]
   ·rw [if_neg (by simp only [decide_eq_true_eq, List.mem_cons, not_or]; exact ⟨fun e' => e (cell_inj e'), m⟩), flip_far h e]
theorem par_par (c : Nat) {P : Nat → Nat → Bool} (hP : ∀ a b, P a b = true → 1 ≤ a ∧ 1 ≤ b ∧ (a + b) % 2 = c) (h : Nat → Nat → Int) : parH (parH h P) P = h := by
 funext a b
 by_cases m : P a b = true
 ·have far : ∀ x y, (x + y) % 2 ≠ c → parH h P x y = h x y := fun x y d => if_neg (fun m' => d (hP x y m').2.2)
  have i := hP a b m
  have e0 : parH h P a b = h a b + 2 * wayH h a b := if_pos m
  have w := way_neg (h := h) (g := parH h P) (a := a) (b := b) e0 (far _ _ o_) (far _ _ o_) (far _ _ o_) (far _ _ o_)
  show (if P a b = true then parH h P a b + 2 * wayH (parH h P) a b else parH h P a b) = h a b
  rw [if_pos m, w, e0]; omega
 ·show (if P a b = true then parH h P a b + 2 * wayH (parH h P) a b else parH h P a b) = h a b
  rw [if_neg m]; exact if_neg m
theorem way_par (c : Nat) {P : Nat → Nat → Bool} (hP : ∀ a b, P a b = true → 1 ≤ a ∧ 1 ≤ b ∧ (a + b) % 2 = c) (h : Nat → Nat → Int) {a b : Nat} (m : P a b = true) : wayH (parH h P) a b = - wayH h a b := by
 have far : ∀ x y, (x + y) % 2 ≠ c → parH h P x y = h x y := fun x y d => if_neg (fun m' => d (hP x y m').2.2)
 have i := hP a b m
 exact way_neg (if_pos m) (far _ _ o_) (far _ _ o_) (far _ _ o_) (far _ _ o_)
theorem rowF_nodup (p : Nat → Nat → Bool) (i : Nat) : ∀ d j, (rowF p i d j).Nodup
 | 0, _ => by simp [rowF]
 | d + 1, j => by
  rw [rowF]
  have ih := rowF_nodup p i d (j + 1)
  split
  ·rw [List.singleton_append, List.nodup_cons]
   refine ⟨fun m => ?_, ih⟩
   obtain ⟨b, h1, _, _, e⟩ := rowF_mem.mp m
   have := (cell_inj e).2; omega
  ·simpa using ih
theorem tabF_nodup (p : Nat → Nat → Bool) (n : Nat) : ∀ d i, (tabF p n d i).Nodup
 | 0, _ => by simp [tabF]
 | d + 1, i => by
  rw [tabF, List.nodup_append]
  refine ⟨rowF_nodup p i _ _, tabF_nodup p n d (i + 1), fun x hx y hy e => ?_⟩
  subst e
  obtain ⟨b, _, _, _, e1⟩ := rowF_mem.mp hx
  obtain ⟨a, b', h1, _, _, _, _, e2⟩ := tabF_mem.mp hy
  have := (cell_inj (e1.symm.trans e2)).1; omega
theorem cellsF_nodup (n : Nat) (p : Nat → Nat → Bool) : (cellsF n p).Nodup := tabF_nodup p n _ _
theorem rowF_filter (p : Nat → Nat → Bool) (i : Nat) (q : List Int → Bool) : ∀ d j, (rowF p i d j).filter q = rowF (fun a b => p a b && q [(a : Int), (b : Int)]) i d j
 | 0, _ => rfl
 | d + 1, j => by
  rw [rowF, rowF, List.filter_append, rowF_filter p i q d (j + 1)]
  congr 1
  cases h1 : p i j <;> cases h2 : q [(i : Int), (j : Int)] <;> simp [h2]
theorem tabF_filter (p : Nat → Nat → Bool) (n : Nat) (q : List Int → Bool) : ∀ d i, (tabF p n d i).filter q = tabF (fun a b => p a b && q [(a : Int), (b : Int)]) n d i
 | 0, _ => rfl
 | d + 1, i => by rw [tabF, tabF, List.filter_append, rowF_filter, tabF_filter p n q d (i + 1)]
theorem cellsF_filter (n : Nat) (p : Nat → Nat → Bool) (q : List Int → Bool) : (cellsF n p).filter q = cellsF n (fun a b => p a b && q [(a : Int), (b : Int)]) := tabF_filter p n q _ _
theorem rowF_congr {p q : Nat → Nat → Bool} {i : Nat} : ∀ d j, (∀ b, j ≤ b → b < j + d → p i b = q i b) → rowF p i d j = rowF q i d j
 | 0, _, _ => rfl
 | d + 1, j, h => by rw [rowF, rowF, h j o_ o_, rowF_congr d (j + 1) (fun b h1 h2 => h b o_ o_)]
theorem tabF_congr {p q : Nat → Nat → Bool} {n : Nat} : ∀ d i, (∀ a b, i ≤ a → a < i + d → 1 ≤ b → b < n → p a b = q a b) → tabF p n d i = tabF q n d i
 | 0, _, _ => rfl
 | d + 1, i, h => by rw [tabF, tabF, rowF_congr (n - 1) 1 (fun b h1 h2 => h i b o_ o_ h1 o_), tabF_congr d (i + 1) (fun a b h1 h2 h3 h4 => h a b o_ o_ h3 h4)]
theorem cellsF_congr {n : Nat} {p q : Nat → Nat → Bool} (h : ∀ a b, 1 ≤ a → a < n → 1 ≤ b → b < n → p a b = q a b) : cellsF n p = cellsF n q := tabF_congr _ _ (fun a b h1 h2 h3 h4 => h a b h1 o_ h3 h4)
def colL (n c : Nat) : Tb_ := cellsF n (fun i j => decide ((i + j) % 2 = c))
def flipL (n c : Nat) (h : Nat → Nat → Int) : Tb_ := cellsF n (fun i j => decide ((i + j) % 2 = c) && decide (wayH h i j ≠ 0))
theorem colL_col (n c : Nat) : ∀ q ∈ colL n c, colC c q := fun q hq => by
 obtain ⟨a, b, h1, h2, h3, h4, h5, e⟩ := cellsF_mem.mp hq
 exact ⟨a, b, e, h1, h3, by simpa using h5⟩
theorem flipL_col (n c : Nat) (h : Nat → Nat → Int) : ∀ q ∈ flipL n c h, colC c q ∧ ∃ i j : Nat, q = [(i : Int), (j : Int)] ∧ (1 ≤ i ∧ i < n) ∧ (1 ≤ j ∧ j < n) ∧ wayH h i j ≠ 0 := fun q hq => by
 obtain ⟨a, b, h1, h2, h3, h4, h5, e⟩ := cellsF_mem.mp hq
 simp only [Bool.and_eq_true, decide_eq_true_eq] at h5
 exact ⟨⟨a, b, e, h1, h3, h5.1⟩, a, b, e, ⟨h1, h2⟩, ⟨h3, h4⟩, h5.2⟩
def flipC (n c : Nat) (h : Nat → Nat → Int) : Nat → Nat → Int := foll h (colL n c)
theorem flipC_par (n c : Nat) (h : Nat → Nat → Int) : flipC n c h = parH h (fun a b => decide ([(a : Int), (b : Int)] ∈ colL n c)) := foll_par c _ h (colL_col n c) (cellsF_nodup _ _)
theorem flipC_flip (n c : Nat) (h : Nat → Nat → Int) : foll h (flipL n c h).reverse = flipC n c h := by
 rw [flipC_par, foll_par c _ h (fun q hq => (flipL_col n c h q (List.mem_reverse.mp hq)).1) (List.pairwise_reverse.mpr ((cellsF_nodup _ _).imp fun h => Ne.symm h))]
 funext a b
 unfold parH
 by_cases m : [(a : Int), (b : Int)] ∈ (flipL n c h).reverse
 ·rw [if_pos (by simpa using m)]
  obtain ⟨a', b', h1, h2, h3, h4, h5, e⟩ := cellsF_mem.mp (List.mem_reverse.mp m)
  obtain ⟨rfl, rfl⟩ := cell_inj e
  simp only [Bool.and_eq_true] at h5
  rw [if_pos (by rw [decide_eq_true_eq]; exact cellsF_mem.mpr ⟨a, b, h1, h2, h3, h4, h5.1, rfl⟩)]
 ·rw [if_neg (by simpa using m)]
  by_cases m2 : [(a : Int), (b : Int)] ∈ colL n c
  ·rw [if_pos (by simpa using m2)]
   obtain ⟨a', b', h1, h2, h3, h4, h5, e⟩ := cellsF_mem.mp m2
   obtain ⟨rfl, rfl⟩ := cell_inj e
   have : wayH h a b = 0 := Decidable.byContradiction fun z => m (List.mem_reverse.mpr (cellsF_mem.mpr ⟨a, b, h1, h2, h3, h4, by simp only [Bool.and_eq_true]; exact ⟨h5, decide_eq_true z⟩, rfl⟩))
   rw [this]; omega
  ·rw [if_neg (by simpa using m2)]
theorem colP (n c : Nat) : ∀ a b : Nat, decide ([(a : Int), (b : Int)] ∈ colL n c) = true → 1 ≤ a ∧ 1 ≤ b ∧ (a + b) % 2 = c := fun a b m => by
 obtain ⟨i, j, e, h1, h2, h3⟩ := colL_col n c _ (by simpa using m)
 obtain ⟨rfl, rfl⟩ := cell_inj e
 exact ⟨h1, h2, h3⟩
theorem flipC_twice (n c : Nat) (h : Nat → Nat → Int) : flipC n c (flipC n c h) = h := by
 rw [flipC_par n c (flipC n c h), flipC_par n c h]
 exact par_par c (colP n c) h
theorem flipL_flip (n c : Nat) (h : Nat → Nat → Int) : flipL n c (flipC n c h) = flipL n c h := by
 refine cellsF_congr fun a b h1 h2 h3 h4 => ?_
 by_cases e : (a + b) % 2 = c
 ·have m : decide ([(a : Int), (b : Int)] ∈ colL n c) = true := decide_eq_true (cellsF_mem.mpr ⟨a, b, h1, h2, h3, h4, decide_eq_true e, rfl⟩)
  rw [flipC_par, way_par c (colP n c) h m]
  congr 1
  exact decide_eq_decide.mpr ⟨fun z z2 => z o_, fun z z2 => z o_⟩
 ·rw [decide_eq_false e, Bool.false_and, Bool.false_and]
theorem hf_foll {n : Nat} : ∀ (p : Tb_) {h : Nat → Nat → Int}, HF n h → (∀ q ∈ p, ∃ i j : Nat, q = [(i : Int), (j : Int)] ∧ (1 ≤ i ∧ i < n) ∧ (1 ≤ j ∧ j < n)) → HF n (foll h p)
 | [], h, H, _ => H
 | q :: p, h, H, hq => by
  obtain ⟨i, j, rfl, hi, hj⟩ := hq q (by simp)
  rw [foll_cons]
  exact hf_foll p (hf_flip H hi hj) (fun q hq' => hq q (by simp [hq']))
theorem flip_congr {n : Nat} {h g : Nat → Nat → Int} (e : ∀ a b, a ≤ n → b ≤ n → g a b = h a b) {i j : Nat} (hi : 1 ≤ i ∧ i < n) (hj : 1 ≤ j ∧ j < n) : ∀ a b, a ≤ n → b ≤ n → flipH g i j a b = flipH h i j a b := fun a b ha hb => by
 by_cases d : a = i ∧ b = j
 ·obtain ⟨rfl, rfl⟩ := d
  rw [flip_at, flip_at, e a b ha hb, way_congr (e _ _ o_ o_) (e _ _ o_ o_) (e _ _ o_ o_) (e _ _ o_ o_) (e _ _ o_ o_)]
 ·rw [flip_far g d, flip_far h d, e a b ha hb]
theorem foll_congr {n : Nat} : ∀ (p : Tb_) {h g : Nat → Nat → Int}, (∀ q ∈ p, ∃ i j : Nat, q = [(i : Int), (j : Int)] ∧ (1 ≤ i ∧ i < n) ∧ (1 ≤ j ∧ j < n)) → (∀ a b, a ≤ n → b ≤ n → g a b = h a b) → ∀ a b, a ≤ n → b ≤ n → foll g p a b = foll h p a b
 | [], h, g, _, e => e
 | q :: p, h, g, hq, e => by
  obtain ⟨i, j, rfl, hi, hj⟩ := hq q (by simp)
  rw [foll_cons, foll_cons]
  exact foll_congr p (fun q hq' => hq q (by simp [hq'])) (flip_congr e hi hj)
theorem mat_congr {n : Nat} {h g : Nat → Nat → Int} (e : ∀ a b, a ≤ n → b ≤ n → g a b = h a b) : mat n g = mat n h := by
 refine ext_en (mat_sq n g) (mat_sq n h) fun i j hi hj => ?_
 rw [mat_en g hi hj, mat_en h hi hj, e _ _ o_ o_, e _ _ o_ o_, e _ _ o_ o_, e _ _ o_ o_]
theorem foll_back : ∀ (p : Tb_) (h : Nat → Nat → Int), (∀ q ∈ p, ∃ i j : Nat, q = [(i : Int), (j : Int)] ∧ 1 ≤ i ∧ 1 ≤ j) → foll (foll h p) p.reverse = h
 | [], h, _ => rfl
 | q :: p, h, hq => by
  obtain ⟨i, j, rfl, hi, hj⟩ := hq q (by simp)
  rw [foll_cons, List.reverse_cons]
  have := foll_back p (flipH h i j) (fun q hq' => hq q (by simp [hq']))
  rw [show foll (foll (flipH h i j) p) (p.reverse ++ [[(i : Int), (j : Int)]]) = foll (foll (foll (flipH h i j) p) p.reverse) [[(i : Int), (j : Int)]] from List.foldl_append, this, foll_cons]
  exact flip_flip hi hj
theorem flips_dst {n : Nat} (c : Nat) : ∀ (p : Tb_) {h : Nat → Nat → Int}, HF n h → (∀ q ∈ p, colC c q ∧ ∃ i j : Nat, q = [(i : Int), (j : Int)] ∧ (1 ≤ i ∧ i < n) ∧ (1 ≤ j ∧ j < n) ∧ wayH h i j ≠ 0) → p.Nodup → dst n h (foll h p) = 2 * (p.length : Int)
 | [], h, H, _, _ => by rw [show foll h [] = h from rfl, dst_same (fun _ _ _ _ => rfl)]; rfl
 | q :: p, h, H, hq, nd => by
  obtain ⟨⟨i', j', e', _, _, hc⟩, i, j, rfl, hi, hj, hw⟩ := hq q (by simp)
  obtain ⟨rfl, rfl⟩ := cell_inj e'
  rw [List.nodup_cons] at nd
  have hp : ∀ q ∈ p, colC c q ∧ ∃ a b : Nat, q = [(a : Int), (b : Int)] ∧ (1 ≤ a ∧ a < n) ∧ (1 ≤ b ∧ b < n) ∧ wayH (flipH h i j) a b ≠ 0 := fun q hq' => by
   obtain ⟨cc, a, b, rfl, ha, hb, w⟩ := hq q (by simp [hq'])
   obtain ⟨a', b', e', _, _, hc'⟩ := cc
   obtain ⟨rfl, rfl⟩ := cell_inj e'
   have ne : ¬ (a = i ∧ b = j) := fun e => by rw [e.1, e.2] at hq'; exact nd.1 hq'
   refine ⟨⟨a, b, rfl, ha.1, hb.1, hc'⟩, a, b, rfl, ha, hb, ?_⟩
   rwa [way_congr (flip_far h ne) (flip_far h o_) (flip_far h o_) (flip_far h o_) (flip_far h o_)]
  have ih := flips_dst c p (hf_flip H hi hj) hp nd.2
  rw [foll_cons]
  have G := hf_foll p (hf_flip H hi hj) (fun q hq' => by obtain ⟨_, a, b, e, ha, hb, _⟩ := hp q hq'; exact ⟨a, b, e, ha, hb⟩)
  have at_ : foll (flipH h i j) p i j = h i j + 2 * wayH h i j := by
   rw [foll_par c p _ (fun q hq' => (hp q hq').1) nd.2]
   unfold parH
   rw [if_neg (by simpa using nd.1), flip_at]
  have wc := wayH_cases h i j
  have := dst_flip H G (i := i) (j := j) o_ o_ (by rw [at_]; rcases wc with ⟨w, _⟩ | ⟨w, _⟩ | w <;> omega)
  rw [List.length_cons]
  omega
theorem foll_step (h : Nat → Nat → Int) (c : List Int) (p : Tb_) : foll h (c :: p) = foll (flipH h (cI c) (cJ c)) p := rfl
theorem implToggle {n : Nat} (hn : n ≤ 100) {p : Tb_} (hp : p.length ≤ 1000000) (ok : p.all (cellB n) = true) : ∀ (d i : Nat) (h : Nat → Nat → Int), i + d = p.length → HF n h → Ans (fun k => impl_toggled.l0 k (tab (n + 1) (n + 1) h) p (p.length : Int) (i : Int)) (mat n (foll h (p.drop i))) := by
 intro d
 induction d with
 | zero =>
  intro i h e H
  rw [drop_all _ o_]
  have F := implFromH (tab_sq (n + 1) h) o_
  rw [hmat_of H o_] at F
  refine Ans.step ?_
  simp only [impl_toggled.l0]
  exact n_ o_ (F.bind p_)
 | succ d ih =>
  intro i h e H
  have cb := List.all_eq_true.mp ok _ (getD_mem (x := p) [] (show i < p.length by omega))
  obtain ⟨cl, a, b, ea, eb, ia, jb, ha, hb⟩ := cellB_of cb
  have w := implWay H o_ ha hb
  have wb := way_b h a b
  have q := tab_sq (n + 1) h
  have ql := q.1
  have rl : (rd_L3 (tab (n + 1) (n + 1) h) (a : Int)).length = n + 1 := by unfold rd_L3; rw [Int.toNat_natCast]; exact q.row o_
  have er : rd_L3 p (i : Int) = p.getD i [] := by unfold rd_L3; rw [Int.toNat_natCast]
  have hb0 := hf_in H (show a ≤ n by omega) (show b ≤ n by omega)
  rw [drop_at p [] o_, foll_step, ia, jb]
  have e1 := ih (i + 1) (flipH h a b) o_ (hf_flip H ha hb)
  rw [show ((i + 1 : Nat) : Int) = (i : Int) + 1 by omega] at e1
  refine Ans.step ?_
  simp only [impl_toggled.l0, er, ea, eb, Int.toNat_natCast, wrap64_up (show (0 : Int) ≤ i by omega) o_]
  refine y_ o_ (y_ o_ (y_ o_ (y_ o_ (y_ o_ (y_ o_ (y_ o_ (y_ o_ (y_ o_ (w.bind ?_)))))))))
  rw [flip_put (n := n) (h := h) (i := a) (j := b) o_ o_ (by rw [at_en, tab_en _ o_ o_]; exact wrap64_in _ ⟨o_, o_⟩)]
  exact e1
theorem implTog {x : Tb_} (s : sign x = true) {n : Nat} (hn : x.length = n) {p : Tb_} (hp : p.length ≤ 1000000) (ok : p.all (cellB n) = true) : Ans (fun k => impl_toggled.f k x p) (mat n (foll (hgt x) p)) := by
 obtain ⟨e, H, _⟩ := HT_hf s hn
 have h6 := (sign_en s hn).2.2.1
 have h1 := implHeights s
 rw [e] at h1
 simp only [impl_toggled.f]
 have := implToggle (n := n) o_ hp ok p.length 0 (hgt x) o_ H
 rw [List.drop_zero] at this
 exact h1.bind this
theorem specTog {n : Nat} (hn : n ≤ 100) {h : Nat → Nat → Int} (H : HF n h) {a b : Nat} (ha : 1 ≤ a ∧ a < n) (hb : 1 ≤ b ∧ b < n) : Ans (fun k => spec_gyToggle.f k (tab (n + 1) (n + 1) h) (a : Int) (b : Int)) (tab (n + 1) (n + 1) (flipH h a b)) := by
 have w := heWay h o_ (fun i j hi hj => by have := hf_in H hi hj; omega) ha hb
 have wb := way_b h a b
 have q := tab_sq (n + 1) h
 have ql := q.1
 have rl : (rd_L3 (tab (n + 1) (n + 1) h) (a : Int)).length = n + 1 := by unfold rd_L3; rw [Int.toNat_natCast]; exact q.row o_
 have hb0 := hf_in H (show a ≤ n by omega) (show b ≤ n by omega)
 simp only [spec_gyToggle.f, Int.toNat_natCast]
 refine w.bind (y_ o_ (y_ o_ (y_ o_ (y_ o_ ?_))))
 rw [flip_put (n := n) (h := h) (i := a) (j := b) o_ o_ (by
  rw [at_en, tab_en _ o_ o_, wrap64_in (2 * wayH h a b) ⟨o_, o_⟩]; exact wrap64_in _ ⟨o_, o_⟩)]
 exact Ans.pure _
theorem parity (i j c : Nat) (hi : i ≤ 1000) (hj : j ≤ 1000) : (Int.tmod (wrap64 ((i : Int) + j)) 2 = (c : Int)) ↔ (i + j) % 2 = c := by
 rw [wrap64_in ((i : Int) + j) ⟨o_, o_⟩, show ((i : Int) + j) = ((i + j : Nat) : Int) by omega, Int.tmod_eq_emod_of_nonneg o_]
 omega
theorem foll_app (h : Nat → Nat → Int) (p q : Tb_) : foll h (p ++ q) = foll (foll h p) q := List.foldl_append
theorem inRow {p : Nat → Nat → Bool} {n i d j : Nat} (hi : 1 ≤ i ∧ i < n) (hj : 1 ≤ j) (e : j + d = n) : ∀ q ∈ rowF p i d j, ∃ a b : Nat, q = [(a : Int), (b : Int)] ∧ (1 ≤ a ∧ a < n) ∧ (1 ≤ b ∧ b < n) := fun q hq => by
 obtain ⟨b, h1, h2, _, e'⟩ := rowF_mem.mp hq
 exact ⟨i, b, e', hi, by omega, by omega⟩
theorem specRow {n : Nat} (hn : n ≤ 100) (p : Nat → Nat → Bool) (g : Nat → Tb_ → Int → Int → Option Tb_) (i : Nat) (hi : 1 ≤ i ∧ i < n)
  (hyes : ∀ (j : Nat) (h : Nat → Nat → Int) (r : Tb_), 1 ≤ j ∧ j < n → HF n h → p i j = true → Ans (fun k => g k (tab (n + 1) (n + 1) (flipH h i j)) (i : Int) ((j : Int) + 1)) r → Ans (fun k => g k (tab (n + 1) (n + 1) h) (i : Int) (j : Int)) r)
  (hno : ∀ (j : Nat) (h : Nat → Nat → Int) (r : Tb_), 1 ≤ j ∧ j < n → HF n h → p i j = false → Ans (fun k => g k (tab (n + 1) (n + 1) h) (i : Int) ((j : Int) + 1)) r → Ans (fun k => g k (tab (n + 1) (n + 1) h) (i : Int) (j : Int)) r)
  (hend : ∀ (h : Nat → Nat → Int), Ans (fun k => g k (tab (n + 1) (n + 1) h) (i : Int) (n : Int)) (tab (n + 1) (n + 1) h)) :
  ∀ (d j : Nat) (h : Nat → Nat → Int), j + d = n → 1 ≤ j → HF n h → Ans (fun k => g k (tab (n + 1) (n + 1) h) (i : Int) (j : Int)) (tab (n + 1) (n + 1) (foll h (rowF p i d j))) := by
 intro d
 induction d with
 | zero =>
  intro j h e _ _
  obtain rfl : j = n := by omega
  exact hend h
 | succ d ih =>
  intro j h e hj H
  rw [rowF]
  have nx := fun (h' : Nat → Nat → Int) (H' : HF n h') => ih (j + 1) h' o_ o_ H'
  rw [show ((j + 1 : Nat) : Int) = (j : Int) + 1 by omega] at nx
  by_cases c : p i j = true
  ·rw [if_pos c, List.singleton_append, foll_cons]
   exact hyes j h _ o_ H c (nx _ (hf_flip H hi o_))
  ·rw [if_neg c, List.nil_append]
   exact hno j h _ o_ H (Bool.eq_false_iff.mpr c) (nx h H)
theorem specAll {n : Nat} (hn1 : 1 ≤ n) (hn : n ≤ 100) (p : Nat → Nat → Bool) (g : Nat → Tb_ → Int → Option Tb_) (row : Nat → Tb_ → Int → Int → Option Tb_)
  (hrow : ∀ (i : Nat) (h : Nat → Nat → Int), 1 ≤ i ∧ i < n → HF n h → Ans (fun k => row k (tab (n + 1) (n + 1) h) (i : Int) 1) (tab (n + 1) (n + 1) (foll h (rowF p i (n - 1) 1))))
  (hstep : ∀ (i : Nat) (x y r : Tb_), 1 ≤ i ∧ i < n → Ans (fun k => row k x (i : Int) 1) y → Ans (fun k => g k y ((i : Int) + 1)) r → Ans (fun k => g k x (i : Int)) r)
  (hend : ∀ x, Ans (fun k => g k x (n : Int)) x) :
  ∀ (d i : Nat) (h : Nat → Nat → Int), i + d = n → 1 ≤ i → HF n h → Ans (fun k => g k (tab (n + 1) (n + 1) h) (i : Int)) (tab (n + 1) (n + 1) (foll h (tabF p n d i))) := by
 intro d
 induction d with
 | zero =>
  intro i h e _ _
  obtain rfl : i = n := by omega
  exact hend _
 | succ d ih =>
  intro i h e hi H
  rw [tabF, foll_app]
  have nx := ih (i + 1) (foll h (rowF p i (n - 1) 1)) o_ o_ (hf_foll _ H (inRow o_ o_ o_))
  rw [show ((i + 1 : Nat) : Int) = (i : Int) + 1 by omega] at nx
  exact hstep i _ _ _ o_ (hrow i h o_ H) nx
theorem specColour {n : Nat} (hn1 : 1 ≤ n) (hn : n ≤ 100) {h : Nat → Nat → Int} (H : HF n h) (c : Nat) : Ans (fun k => spec_gyColour.f k (tab (n + 1) (n + 1) h) (c : Int)) (tab (n + 1) (n + 1) (flipC n c h)) := by
 have q := (tab_sq (n + 1) h).1
 simp only [spec_gyColour.f, q]
 have ld := len_down (show n ≤ 1000000 by omega)
 have row : ∀ (i : Nat) (h : Nat → Nat → Int), 1 ≤ i ∧ i < n → HF n h → Ans (fun k => spec_gyColour.l1 k (c : Int) ((n + 1 : Nat) : Int) (tab (n + 1) (n + 1) h) (i : Int) 1) (tab (n + 1) (n + 1) (foll h (rowF (fun i j => decide ((i + j) % 2 = c)) i (n - 1) 1))) := by
  intro i h hi H
  refine specRow hn (fun i j => decide ((i + j) % 2 = c)) (fun k x a b => spec_gyColour.l1 k (c : Int) ((n + 1 : Nat) : Int) x a b) i hi ?_ ?_ ?_ (n - 1) 1 h o_ o_ H
  ·intro j h r hj H pc nx
   have t := specTog hn H hi hj
   refine Ans.step ?_
   simp only [spec_gyColour.l1, ld, wrap64_up (show (0 : Int) ≤ j by omega) o_]
   exact y_ o_ (y_ ((parity i j c o_ o_).mpr (by simpa using pc)) (t.bind nx))
  ·intro j h r hj H pc nx
   refine Ans.step ?_
   simp only [spec_gyColour.l1, ld, wrap64_up (show (0 : Int) ≤ j by omega) o_]
   exact y_ o_ (n_ (fun e => by simp at pc; exact pc ((parity i j c o_ o_).mp e)) nx)
  ·intro h
   refine Ans.step ?_
   simp only [spec_gyColour.l1, ld]
   exact n_ o_ p_
 refine specAll hn1 hn (fun i j => decide ((i + j) % 2 = c)) (fun k x a => spec_gyColour.l0 k (c : Int) ((n + 1 : Nat) : Int) x a) (fun k x a b => spec_gyColour.l1 k (c : Int) ((n + 1 : Nat) : Int) x a b) row ?_ ?_ (n - 1) 1 h o_ o_ H
 ·intro i x y r hi e nx
  refine Ans.step ?_
  simp only [spec_gyColour.l0, ld, wrap64_up (show (0 : Int) ≤ i by omega) o_]
  exact y_ o_ (e.bind nx)
 ·intro x
  refine Ans.step ?_
  simp only [spec_gyColour.l0, ld]
  exact n_ o_ p_
theorem cells_all {n : Nat} (p : Nat → Nat → Bool) : (cellsF n p).all (cellB n) = true := by
 rw [List.all_eq_true]
 intro q hq
 obtain ⟨a, b, h1, h2, h3, h4, _, rfl⟩ := cellsF_mem.mp hq
 rw [cellB_two]
 simp only [Bool.and_eq_true, decide_eq_true_eq]
 omega
theorem tabF_len (p : Nat → Nat → Bool) (n : Nat) : ∀ d i, (tabF p n d i).length ≤ d * (n - 1)
 | 0, _ => by simp [tabF]
 | d + 1, i => by
  have a := rowF_len p i (n - 1) 1
  have b := tabF_len p n d (i + 1)
  rw [tabF, List.length_append, Nat.succ_mul]; omega
theorem cellsF_len {n : Nat} (p : Nat → Nat → Bool) (hn : n ≤ 6) : (cellsF n p).length ≤ 25 := by
 have := tabF_len p n (n - 1) 1
 have : (n - 1) * (n - 1) ≤ 5 * 5 := Nat.mul_le_mul o_ o_
 unfold cellsF; omega
theorem isColour (c : Int) : impl_isColour.f c = some (decide (0 ≤ c ∧ c ≤ 1)) := by
 simp only [impl_isColour.f, within, Option.bind_some]
theorem specIn01 (c : Int) : spec_l1In.f c 0 1 = some (decide (0 ≤ c ∧ c ≤ 1)) := l1In c 0 1
theorem coloured (n c : Nat) (hn : n ≤ 1000) : Ans (fun k => impl_coloured.f k (n : Int) (c : Int)) (colL n c) := by
 simp only [impl_coloured.f]
 refine (cells2 n hn (fun _ x0_ x1_ => impl_coloured_1.f x0_ x1_ (c : Int)) (fun i j => decide ((i + j) % 2 = c)) (fun i j hi hj => ?_)).bind p_
 simp only [impl_coloured_1.f]
 rw [show (Int.tmod (wrap64 ((i : Int) + j)) 2 == (c : Int)) = decide ((i + j) % 2 = c) by
  rw [Bool.eq_iff_iff, beq_iff_eq, decide_eq_true_eq]; exact parity i j c o_ o_]
 exact Ans.pure _
def fcRes (x : Tb_) (c : Int) : Tb_ × Bool := if sign x = true ∧ (0 ≤ c ∧ c ≤ 1) then (mat x.length (flipC x.length c.toNat (hgt x)), true) else ([], false)
def fdCells (x : Tb_) (c : Int) : Tb_ × Bool := if sign x = true ∧ (0 ≤ c ∧ c ≤ 1) then (flipL x.length c.toNat (hgt x), true) else ([], false)
theorem flipColour (x : Tb_) (hx : x.length ≤ 1000) (c : Int) : Ans (fun k => impl_FlipColour.f k x c) (fcRes x c) ∧ Ans (fun k => spec_FlipColour.f k x c) (fcRes x c) := by
 have s1 := isSign x o_
 have s2 := sgGood x o_
 simp only [impl_FlipColour.f, spec_FlipColour.f, fcRes, isColour, specIn01, Option.bind_some]
 by_cases s : sign x = true
 case neg =>
  rw [if_neg (fun h => s h.1)]
  rw [Bool.eq_false_iff.mpr s] at s1 s2
  exact ⟨s1.bind (n_ (by simp) p_), s2.bind (n_ (by simp) p_)⟩
 rw [s] at s1 s2
 by_cases hc : 0 ≤ c ∧ c ≤ 1
 case neg =>
  rw [if_neg (fun h => hc h.2)]
  exact ⟨s1.bind (y_ rfl (n_ (by simpa using hc) p_)), s2.bind (y_ rfl (n_ (by simpa using hc) p_))⟩
 rw [if_pos ⟨s, hc⟩]
 obtain ⟨a, rfl⟩ : ∃ a : Nat, c = a := ⟨c.toNat, by omega⟩
 rw [Int.toNat_natCast]
 obtain ⟨n, hn⟩ : ∃ n, x.length = n := ⟨_, rfl⟩
 obtain ⟨_, n1, n6, _⟩ := sign_en s hn
 obtain ⟨e, H, _⟩ := HT_hf s hn
 rw [hn]
 have T := implTog s hn (p := colL n a) (by have := cellsF_len (n := n) (fun i j => decide ((i + j) % 2 = a)) n6; unfold colL; omega) (cells_all _)
 have C := coloured n a o_
 have ho := specHeights s
 rw [e] at ho
 have G := specColour n1 o_ H a
 have F := specFromH (tab_sq (n + 1) (flipC n a (hgt x))) o_
 have HF' : HF n (flipC n a (hgt x)) := hf_foll _ H (fun q hq => by obtain ⟨i, j, h1, h2, h3, h4, _, e⟩ := cellsF_mem.mp hq; exact ⟨i, j, e, ⟨h1, h2⟩, h3, h4⟩)
 rw [smat_of HF' o_] at F
 constructor
 ·refine s1.bind (y_ rfl (y_ (decide_eq_true o_) (Ans.bind (a := mat n (flipC n a (hgt x))) ?_ p_)))
  simp only [impl_flipped.f]
  refine Ans.step ?_
  simp only [impl_flipped.l0, show rd [(a : Int)] 0 = (a : Int) from rfl, hn]
  refine y_ (by simp) (y_ o_ (y_ (by simp) (C.bind (T.bind (Ans.step ?_)))))
  simp only [impl_flipped.l0]
  exact n_ (by rw [wrap64_in (0 + 1) ⟨o_, o_⟩]; simp) p_
 ·refine s2.bind (y_ rfl (y_ (decide_eq_true o_) (Ans.bind (a := mat n (flipC n a (hgt x))) ?_ p_)))
  simp only [spec_gyFlip.f]
  exact ho.bind (G.bind F)
theorem take_snoc' {α : Type} [Inhabited α] (l : List (List α)) {i : Nat} (h : i < l.length) : l.take (i + 1) = l.take i ++ [l.getD i []] := by
 rw [List.take_add_one, List.getElem?_eq_getElem h, List.getD_eq_getElem?_getD, List.getElem?_eq_getElem h]; rfl
theorem indexL (x : Tb_) (hx : x.length ≤ 17592186044416) (g : Nat → List Int → Option Bool) (p : List Int → Bool) (hg : ∀ a ∈ x, Ans (fun k => g k a) (p a)) :
  (Ans2 (fun k q => slices_IndexFunc_int_int.f k x (g q)) (-1) ∧ x.filter (fun a => !p a) = x) ∨ ∃ i : Nat, i < x.length ∧ Ans2 (fun k q => slices_IndexFunc_int_int.f k x (g q)) (i : Int) ∧ (∀ a ∈ x.take i, p a = false) ∧ p (x.getD i []) = true := by
 have key : ∀ (d : Nat) (i : Nat), i + d = x.length → (∀ a ∈ x.take i, p a = false) → (Ans2 (fun k q => slices_IndexFunc_int_int.l0 k x (g q) (x.length : Int) (i : Int)) (-1) ∧ (∀ a ∈ x, p a = false)) ∨ ∃ i' : Nat, i' < x.length ∧ Ans2 (fun k q => slices_IndexFunc_int_int.l0 k x (g q) (x.length : Int) (i : Int)) (i' : Int) ∧ (∀ a ∈ x.take i', p a = false) ∧ p (x.getD i' []) = true := by
  intro d
  induction d with
  | zero =>
   intro i h ht
   refine .inl ⟨Ans2.step ?_, fun a ha => ht a (by rw [List.take_of_length_le o_]; exact ha)⟩
   simp only [slices_IndexFunc_int_int.l0]
   exact Ans2.not o_ (Ans2.pure _)
  | succ d ih =>
   intro i h ht
   have hi : i < x.length := by omega
   have ga := hg _ (getD_mem (x := x) [] hi)
   have er : rd_L3 x (i : Int) = x.getD i [] := by unfold rd_L3; rw [Int.toNat_natCast]
   by_cases c : p (x.getD i []) = true
   ·refine .inr ⟨i, hi, Ans2.step ?_, ht, c⟩
    simp only [slices_IndexFunc_int_int.l0, er]
    exact Ans2.yes o_ (Ans2.yes o_ (Ans2.yes o_ ((Ans2.two ga).bind (Ans2.yes c (Ans2.pure _)))))
   ·have ht' : ∀ a ∈ x.take (i + 1), p a = false := fun a ha => by
     rw [take_snoc' x hi] at ha
     rcases List.mem_append.mp ha with h1 | h1
     ·exact ht a h1
     ·rw [List.mem_singleton.mp h1]; exact Bool.eq_false_iff.mpr c
    have st : ∀ z : Int, Ans2 (fun k q => slices_IndexFunc_int_int.l0 k x (g q) (x.length : Int) ((i + 1 : Nat) : Int)) z → Ans2 (fun k q => slices_IndexFunc_int_int.l0 k x (g q) (x.length : Int) (i : Int)) z := fun z e => by
     rw [show ((i + 1 : Nat) : Int) = (i : Int) + 1 by omega] at e
     refine Ans2.step ?_
     simp only [slices_IndexFunc_int_int.l0, er, wrap64_up (show (0 : Int) ≤ i by omega) o_]
     exact Ans2.yes o_ (Ans2.yes o_ (Ans2.yes o_ ((Ans2.two ga).bind (Ans2.not c e))))
    rcases ih (i + 1) o_ ht' with ⟨e, r⟩ | ⟨i', h1, e, r⟩
    ·exact .inl ⟨st _ e, r⟩
    ·exact .inr ⟨i', h1, st _ e, r⟩
 simp only [slices_IndexFunc_int_int.f]
 rcases key x.length 0 o_ (by simp) with ⟨e, r⟩ | h
 ·exact .inl ⟨e, List.filter_eq_self.mpr fun a ha => by rw [r a ha]; rfl⟩
 ·exact .inr h
theorem deleteL (x : Tb_) (hx : x.length ≤ 1000000) (g : Nat → List Int → Option Bool) (p : List Int → Bool) (hg : ∀ a ∈ x, Ans (fun k => g k a) (p a)) : Ans (fun k => slices_DeleteFunc_int_int.f k x (g k)) (x.filter (fun a => !p a)) := by
 have loop : ∀ (d j : Nat) (acc : Tb_), j + d = x.length → Ans2 (fun k q => slices_DeleteFunc_int_int.l0 k (g q) x acc (j : Int)) (acc ++ (x.drop j).filter (fun a => !p a)) := by
  intro d
  induction d with
  | zero =>
   intro j acc h
   rw [drop_all _ o_, List.filter_nil, List.append_nil]
   refine Ans2.step ?_
   simp only [slices_DeleteFunc_int_int.l0]
   exact Ans2.not o_ (Ans2.pure _)
  | succ d ih =>
   intro j acc h
   have hj : j < x.length := by omega
   have ga := hg _ (getD_mem (x := x) [] hj)
   rw [drop_at x [] hj, List.filter_cons]
   refine Ans2.step ?_
   simp only [slices_DeleteFunc_int_int.l0, Int.toNat_natCast]
   refine Ans2.yes o_ ((Ans2.two ga).bind ?_)
   by_cases c : p (x.getD j []) = true
   ·rw [c, if_neg (by simp)]
    have := ih (j + 1) acc o_
    rw [show ((j + 1 : Nat) : Int) = (j : Int) + 1 by omega] at this
    exact Ans2.yes rfl this
   ·rw [Bool.eq_false_iff.mpr c, if_pos (show (!false) = true from rfl)]
    have := ih (j + 1) (acc ++ [x.getD j []]) o_
    rw [show ((j + 1 : Nat) : Int) = (j : Int) + 1 by omega, List.append_assoc, List.singleton_append] at this
    exact Ans2.not (by simp) this
 refine Ans2.join (g := fun k q => slices_DeleteFunc_int_int.f k x (g q)) ?_
 simp only [slices_DeleteFunc_int_int.f]
 rcases indexL x o_ g p hg with ⟨e, r⟩ | ⟨i, hi, e, r1, r2⟩
 ·rw [r]; exact e.bind (Ans2.yes rfl (Ans2.pure _))
 ·refine e.bind (Ans2.not o_ (Ans2.yes o_ (Ans2.yes o_ ?_)))
  have := loop (x.length - (i + 1)) (i + 1) (x.take i) o_
  rw [show ((i + 1 : Nat) : Int) = (i : Int) + 1 by omega] at this
  rw [Int.toNat_natCast]
  have v : x.filter (fun a => !p a) = x.take i ++ (x.drop (i + 1)).filter (fun a => !p a) := by
   conv => lhs; rw [← List.take_append_drop i x, drop_at x [] hi, List.filter_append, List.filter_cons, r2, if_neg (by simp)]
   rw [List.filter_eq_self.mpr fun a ha => by rw [r1 a ha]; rfl]
  rw [v]; exact this
theorem flippedI (x : Tb_) (hx : x.length ≤ 1000) (c : Int) : Ans (fun k => impl_FlippedCells.f k x c) (fdCells x c) := by
 have s1 := isSign x o_
 simp only [impl_FlippedCells.f, fdCells, isColour, Option.bind_some]
 by_cases s : sign x = true
 case neg =>
  rw [if_neg (fun h => s h.1)]
  rw [Bool.eq_false_iff.mpr s] at s1
  exact s1.bind (n_ (by simp) p_)
 rw [s] at s1
 by_cases hc : 0 ≤ c ∧ c ≤ 1
 case neg =>
  rw [if_neg (fun h => hc h.2)]
  exact s1.bind (y_ rfl (n_ (by simpa using hc) p_))
 rw [if_pos ⟨s, hc⟩]
 obtain ⟨a, rfl⟩ : ∃ a : Nat, c = a := ⟨c.toNat, by omega⟩
 rw [Int.toNat_natCast]
 obtain ⟨n, hn⟩ : ∃ n, x.length = n := ⟨_, rfl⟩
 obtain ⟨_, n1, n6, _⟩ := sign_en s hn
 obtain ⟨e, H, _⟩ := HT_hf s hn
 rw [hn]
 have h1 := implHeights s
 rw [e] at h1
 have C := coloured n a o_
 have D := deleteL (colL n a) (by have := cellsF_len (n := n) (fun i j => decide ((i + j) % 2 = a)) n6; unfold colL; omega) (fun k x0 => impl_FlippedCells_1.f k x0 (tab (n + 1) (n + 1) (hgt x))) (fun q => decide (wayH (hgt x) (cI q) (cJ q) = 0)) (fun q hq => by
  obtain ⟨i, j, p1, p2, p3, p4, _, rfl⟩ := cellsF_mem.mp hq
  have w := implWay H o_ ⟨p1, p2⟩ ⟨p3, p4⟩
  simp only [impl_FlippedCells_1.f, show rd [(i : Int), (j : Int)] 0 = (i : Int) from rfl, show rd [(i : Int), (j : Int)] 1 = (j : Int) from rfl, cI_of, cJ_of]
  refine y_ (by simp) (y_ (by simp) (w.bind ?_))
  rw [show (2 * wayH (hgt x) i j == 0) = decide (wayH (hgt x) i j = 0) by rw [Bool.eq_iff_iff, beq_iff_eq, decide_eq_true_eq]; omega]
  exact Ans.pure _)
 rw [show (colL n a).filter (fun q => !decide (wayH (hgt x) (cI q) (cJ q) = 0)) = flipL n a (hgt x) by
  unfold colL flipL
  rw [cellsF_filter]
  refine cellsF_congr fun i j _ _ _ _ => ?_
  rw [cI_of, cJ_of, ← decide_not]] at D
 exact s1.bind (y_ rfl (y_ (decide_eq_true o_) (h1.bind (C.bind (D.bind p_)))))
theorem flippedS (x : Tb_) (hx : x.length ≤ 1000) (c : Int) : Ans (fun k => spec_FlippedCells.f k x c) (fdCells x c) := by
 have s2 := sgGood x o_
 have no : Ans (fun k => spec_FlippedCells.j0 k x c true) ([], false) := Ans.step (by simp only [spec_FlippedCells.j0]; exact y_ trivial p_)
 simp only [spec_FlippedCells.f, fdCells, specIn01, Option.bind_some]
 by_cases s : sign x = true
 case neg =>
  rw [if_neg (fun h => s h.1)]
  rw [Bool.eq_false_iff.mpr s] at s2
  exact s2.bind (n_ (by simp) no)
 rw [s] at s2
 by_cases hc : 0 ≤ c ∧ c ≤ 1
 case neg =>
  rw [if_neg (fun h => hc h.2), decide_eq_false hc]
  exact s2.bind (y_ rfl no)
 rw [if_pos ⟨s, hc⟩, decide_eq_true hc]
 obtain ⟨a, rfl⟩ : ∃ a : Nat, c = a := ⟨c.toNat, by omega⟩
 rw [Int.toNat_natCast]
 obtain ⟨n, hn⟩ : ∃ n, x.length = n := ⟨_, rfl⟩
 obtain ⟨_, n1, n6, _⟩ := sign_en s hn
 obtain ⟨e, H, _⟩ := HT_hf s hn
 have ho := specHeights s
 rw [e] at ho
 rw [hn]
 have inner : ∀ (R : Tb_ × Bool) (i : Nat), 1 ≤ i ∧ i < n → ∀ (d j : Nat) (y : Tb_), j + d = n → 1 ≤ j → y.length + d ≤ 20000 →
   Ans (fun k => spec_FlippedCells.l0 k x (a : Int) (tab (n + 1) (n + 1) (hgt x)) (y ++ rowF (fun i j => decide ((i + j) % 2 = a) && decide (wayH (hgt x) i j ≠ 0)) i d j) ((i + 1 : Nat) : Int)) R → Ans (fun k => spec_FlippedCells.l1 k x (a : Int) (tab (n + 1) (n + 1) (hgt x)) y (i : Int) (j : Int)) R := by
  intro R i hi d
  induction d with
  | zero =>
   intro j y h1 h2 h3 nx
   rw [rowF, List.append_nil, show ((i + 1 : Nat) : Int) = (i : Int) + 1 by omega] at nx
   refine Ans.step ?_
   simp only [spec_FlippedCells.l1, hn, wrap64_up (show (0 : Int) ≤ i by omega) o_]
   exact n_ o_ nx
  | succ d ih =>
   intro j y h1 h2 h3 nx
   have wy := heWay (hgt x) o_ (hgt_bound s hn) hi (show 1 ≤ j ∧ j < n by omega)
   rw [rowF, ← List.append_assoc] at nx
   have skip : Ans (fun k => spec_FlippedCells.l0 k x (a : Int) (tab (n + 1) (n + 1) (hgt x)) (y ++ rowF (fun i j => decide ((i + j) % 2 = a) && decide (wayH (hgt x) i j ≠ 0)) i d (j + 1)) ((i + 1 : Nat) : Int)) R → Ans (fun k => spec_FlippedCells.l1 k x (a : Int) (tab (n + 1) (n + 1) (hgt x)) y (i : Int) ((j : Int) + 1)) R := fun nx => by
    have := ih (j + 1) y o_ o_ o_ nx
    rwa [show ((j + 1 : Nat) : Int) = (j : Int) + 1 by omega] at this
   refine Ans.step ?_
   simp only [spec_FlippedCells.l1, hn, wrap64_up (show (0 : Int) ≤ j by omega) o_]
   refine y_ o_ ?_
   by_cases cp : (i + j) % 2 = a
   ·refine y_ ((parity i j a o_ o_).mpr cp) (wy.bind ?_)
    by_cases cw : wayH (hgt x) i j = 0
    ·rw [decide_eq_false (by simp [cw] : ¬ wayH (hgt x) i j ≠ 0), Bool.and_false, if_neg (by simp), List.append_nil] at nx
     exact y_ cw (skip nx)
    ·rw [decide_eq_true cp, decide_eq_true (show wayH (hgt x) i j ≠ 0 from cw), if_pos (by rfl)] at nx
     have := ih (j + 1) (y ++ [[(i : Int), (j : Int)]]) o_ o_ (by simp; omega) nx
     rw [show ((j + 1 : Nat) : Int) = (j : Int) + 1 by omega] at this
     exact n_ cw (y_ o_ this)
   ·rw [decide_eq_false cp, Bool.false_and, if_neg (by simp), List.append_nil] at nx
    exact n_ (fun e => cp ((parity i j a o_ o_).mp e)) (skip nx)
 have key : ∀ (d i : Nat) (y : Tb_), i + d = n → 1 ≤ i → y.length ≤ 100 * i → Ans (fun k => spec_FlippedCells.l0 k x (a : Int) (tab (n + 1) (n + 1) (hgt x)) y (i : Int)) (y ++ tabF (fun i j => decide ((i + j) % 2 = a) && decide (wayH (hgt x) i j ≠ 0)) n d i, true) := by
  intro d
  induction d with
  | zero =>
   intro i y h1 h2 h3
   refine Ans.step ?_
   simp only [spec_FlippedCells.l0, hn, tabF, List.append_nil]
   exact n_ o_ p_
  | succ d ih =>
   intro i y h1 h2 h3
   have rl := rowF_len (fun i j => decide ((i + j) % 2 = a) && decide (wayH (hgt x) i j ≠ 0)) i (n - 1) 1
   have e := ih (i + 1) (y ++ rowF (fun i j => decide ((i + j) % 2 = a) && decide (wayH (hgt x) i j ≠ 0)) i (n - 1) 1) o_ o_ (by rw [List.length_append]; omega)
   rw [List.append_assoc] at e
   rw [tabF]
   refine Ans.step ?_
   simp only [spec_FlippedCells.l0, hn]
   exact y_ o_ (inner _ i o_ (n - 1) 1 y o_ o_ o_ e)
 refine s2.bind (y_ rfl (Ans.step ?_))
 simp only [spec_FlippedCells.j0]
 have := key (n - 1) 1 [] o_ o_ (by simp)
 rw [List.nil_append] at this
 exact n_ (by simp) (ho.bind this)
theorem two_of {q : List Int} (h : q.length = 2) : ∃ u v, q = [u, v] := match q, h with
 | [u, v], _ => ⟨u, v, rfl⟩
def tcRes (x p : Tb_) : Tb_ × Bool := if sign x = true ∧ (p.length ≤ 200 ∧ p.all (cellB x.length) = true) then (mat x.length (foll (hgt x) p), true) else ([], false)
theorem implTC (x : Tb_) (hx : x.length ≤ 1000) (p : Tb_) (hp : p.length ≤ 1000000) : Ans (fun k => impl_ToggleCells.f k x p) (tcRes x p) := by
 have s1 := isSign x o_
 simp only [impl_ToggleCells.f, tcRes]
 by_cases s : sign x = true
 case neg =>
  rw [if_neg (fun h => s h.1)]
  rw [Bool.eq_false_iff.mpr s] at s1
  exact s1.bind (n_ (by simp) p_)
 rw [s] at s1
 obtain ⟨n, hn⟩ : ∃ n, x.length = n := ⟨_, rfl⟩
 have h6 := (sign_en s hn).2.2.1
 have ac := areCells n o_ p hp
 rw [hn]
 by_cases c : p.length ≤ 200 ∧ p.all (cellB n) = true
 ·rw [if_pos ⟨s, c⟩]
  rw [decide_eq_true c.1, c.2] at ac
  exact s1.bind (y_ rfl (ac.bind (y_ rfl ((implTog s hn hp c.2).bind p_))))
 ·rw [if_neg (fun h => c h.2)]
  rw [show (decide (p.length ≤ 200) && p.all (cellB n)) = false by
   rw [Bool.eq_false_iff]; intro h; rw [Bool.and_eq_true, decide_eq_true_eq] at h; exact c h] at ac
  exact s1.bind (y_ rfl (ac.bind (n_ (by simp) p_)))
theorem specTC (x : Tb_) (hx : x.length ≤ 1000) (p : Tb_) (hp : p.length ≤ 1000000) : Ans (fun k => spec_ToggleCells.f k x p) (tcRes x p) := by
 have s2 := sgGood x o_
 simp only [spec_ToggleCells.f, tcRes]
 by_cases s : sign x = true
 case neg =>
  rw [if_neg (fun h => s h.1)]
  rw [Bool.eq_false_iff.mpr s] at s2
  exact s2.bind (n_ (by simp) p_)
 rw [s] at s2
 obtain ⟨n, hn⟩ : ∃ n, x.length = n := ⟨_, rfl⟩
 obtain ⟨_, n1, h6, _⟩ := sign_en s hn
 obtain ⟨e, H, _⟩ := HT_hf s hn
 have ho := specHeights s
 rw [e] at ho
 rw [hn]
 by_cases c : p.length ≤ 200
 case neg =>
  rw [if_neg (fun h => c h.2.1)]
  exact s2.bind (y_ rfl (y_ o_ p_))
 have chk : ∀ (d i : Nat), i + d = p.length → Ans (fun k => spec_ToggleCells.l0 k (n : Int) p (i : Int)) ((p.drop i).all (cellB n)) := by
  intro d
  induction d with
  | zero =>
   intro i h
   rw [drop_all _ o_]
   refine Ans.step ?_
   simp only [spec_ToggleCells.l0]
   exact n_ o_ p_
  | succ d ih =>
   intro i h
   have er : rd_L3 p (i : Int) = p.getD i [] := by unfold rd_L3; rw [Int.toNat_natCast]
   have e1 := ih (i + 1) o_
   rw [show ((i + 1 : Nat) : Int) = (i : Int) + 1 by omega] at e1
   rw [drop_at p [] o_, List.all_cons]
   refine Ans.step ?_
   simp only [spec_ToggleCells.l0, er, specCell n o_, Option.bind_some, wrap64_up (show (0 : Int) ≤ i by omega) o_]
   refine y_ o_ (y_ o_ ?_)
   unfold cellB
   by_cases cl : (p.getD i []).length = 2
   ·rw [decide_eq_true cl, Bool.true_and]
    refine y_ o_ ?_
    by_cases cb : (decide (1 ≤ rd (p.getD i []) 0 ∧ rd (p.getD i []) 0 < (n : Int)) && decide (1 ≤ rd (p.getD i []) 1 ∧ rd (p.getD i []) 1 < (n : Int))) = true
    ·rw [cb, Bool.true_and]; exact y_ rfl e1
    ·rw [Bool.eq_false_iff.mpr cb, Bool.false_and]; exact n_ (by simp) p_
   ·rw [decide_eq_false cl, Bool.false_and, Bool.false_and]
    exact n_ o_ p_
 have ck := chk p.length 0 o_
 rw [List.drop_zero] at ck
 refine s2.bind (y_ rfl (n_ o_ (ck.bind ?_)))
 by_cases ok : p.all (cellB n) = true
 case neg =>
  rw [if_neg (fun h => ok h.2.2)]
  exact n_ ok p_
 rw [if_pos ⟨s, c, ok⟩]
 have tog : ∀ (d i : Nat) (h : Nat → Nat → Int), i + d = p.length → HF n h → Ans (fun k => spec_ToggleCells.l1 k p (tab (n + 1) (n + 1) h) (i : Int)) (tab (n + 1) (n + 1) (foll h (p.drop i))) := by
  intro d
  induction d with
  | zero =>
   intro i h e H
   rw [drop_all _ o_]
   refine Ans.step ?_
   simp only [spec_ToggleCells.l1]
   exact n_ o_ p_
  | succ d ih =>
   intro i h e H
   have cb := List.all_eq_true.mp ok _ (getD_mem (x := p) [] (show i < p.length by omega))
   obtain ⟨cl, a, b, ea, eb, ia, jb, ha, hb⟩ := cellB_of cb
   have er : rd_L3 p (i : Int) = p.getD i [] := by unfold rd_L3; rw [Int.toNat_natCast]
   have t := specTog (n := n) o_ H ha hb
   have e1 := ih (i + 1) (flipH h a b) o_ (hf_flip H ha hb)
   rw [show ((i + 1 : Nat) : Int) = (i : Int) + 1 by omega] at e1
   rw [drop_at p [] o_, foll_step, ia, jb]
   refine Ans.step ?_
   simp only [spec_ToggleCells.l1, er, ea, eb, wrap64_up (show (0 : Int) ≤ i by omega) o_]
   exact y_ o_ (y_ o_ (y_ o_ (t.bind e1)))
 have tg := tog p.length 0 (hgt x) o_ H
 rw [List.drop_zero] at tg
 have HP : HF n (foll (hgt x) p) := by
  refine hf_foll p H fun q hq => ?_
  obtain ⟨cl, a, b, ea, eb, _, _, ha, hb⟩ := cellB_of (List.all_eq_true.mp ok q hq)
  refine ⟨a, b, ?_, ha, hb⟩
  obtain ⟨u, v, rfl⟩ := two_of cl
  rw [show rd [u, v] 0 = u from rfl] at ea
  rw [show rd [u, v] 1 = v from rfl] at eb
  rw [ea, eb]
 have F := specFromH (tab_sq (n + 1) (foll (hgt x) p)) o_
 rw [smat_of HP o_] at F
 exact y_ ok (ho.bind (tg.bind (F.bind p_)))
def allC (n : Nat) : Tb_ := cellsF n (fun _ _ => true)
def rwRes (x : Tb_) : Tb_ × Bool := if sign x = true then (mat x.length (foll (hgt x) (allC x.length)), true) else ([], false)
theorem changedR {x : Tb_} (hx : x.length ≤ 1048576) (p : Nat → Tb_ → Option Tb_) (y : Tb_) (h : sign x = true → Ans (fun k => p k x) y) : Ans (fun k => impl_changed.f k x (p k)) (if sign x = true then (y, true) else ([], false)) := by
 simp only [impl_changed.f]
 refine (isSign x hx).bind ?_
 by_cases s : sign x = true
 ·rw [if_pos s]; exact y_ s ((h s).bind p_)
 ·rw [if_neg s]; exact n_ s p_
theorem implRW (x : Tb_) (hx : x.length ≤ 1000) : Ans (fun k => impl_RowWave.f k x) (rwRes x) := by
 simp only [impl_RowWave.f, rwRes]
 refine changedR o_ (fun k x => impl_RowWave_1.f k x) _ fun s => ?_
 obtain ⟨n, hn⟩ : ∃ n, x.length = n := ⟨_, rfl⟩
 obtain ⟨_, n1, h6, _⟩ := sign_en s hn
 have T := implTog s hn (p := allC n) (by have := cellsF_len (n := n) (fun _ _ => true) h6; unfold allC; omega) (cells_all _)
 simp only [impl_RowWave_1.f, hn]
 exact (cells2 n o_ (fun _ x0_ x1_ => impl_RowWave_1_1.f x0_ x1_) (fun _ _ => true) (fun _ _ _ _ => by simp only [impl_RowWave_1_1.f]; exact Ans.pure _)).bind (T.bind p_)
theorem specRW (x : Tb_) (hx : x.length ≤ 1000) : Ans (fun k => spec_RowWave.f k x) (rwRes x) := by
 have s2 := sgGood x o_
 simp only [spec_RowWave.f, rwRes]
 by_cases s : sign x = true
 case neg =>
  rw [if_neg s]
  rw [Bool.eq_false_iff.mpr s] at s2
  exact s2.bind (n_ (by simp) p_)
 rw [s] at s2
 rw [if_pos s]
 obtain ⟨n, hn⟩ : ∃ n, x.length = n := ⟨_, rfl⟩
 obtain ⟨_, n1, h6, _⟩ := sign_en s hn
 obtain ⟨e, H, _⟩ := HT_hf s hn
 have ho := specHeights s
 rw [e] at ho
 rw [hn]
 have row : ∀ (i : Nat) (h : Nat → Nat → Int), 1 ≤ i ∧ i < n → HF n h → Ans (fun k => spec_RowWave.l1 k (n : Int) (tab (n + 1) (n + 1) h) (i : Int) 1) (tab (n + 1) (n + 1) (foll h (rowF (fun _ _ => true) i (n - 1) 1))) := by
  intro i h hi H
  refine specRow o_ (fun _ _ => true) (fun k x a b => spec_RowWave.l1 k (n : Int) x a b) i hi ?_ ?_ ?_ (n - 1) 1 h o_ o_ H
  ·intro j h r hj H _ nx
   have t := specTog (n := n) o_ H hi hj
   refine Ans.step ?_
   simp only [spec_RowWave.l1, wrap64_up (show (0 : Int) ≤ j by omega) o_]
   exact y_ o_ (t.bind nx)
  ·intro j h r hj H pc nx; cases pc
  ·intro h
   refine Ans.step ?_
   simp only [spec_RowWave.l1]
   exact n_ o_ p_
 have A := specAll n1 (show n ≤ 100 by omega) (fun _ _ => true) (fun k x a => spec_RowWave.l0 k (n : Int) x a) (fun k x a b => spec_RowWave.l1 k (n : Int) x a b) row (by
  intro i x y r hi e nx
  refine Ans.step ?_
  simp only [spec_RowWave.l0, wrap64_up (show (0 : Int) ≤ i by omega) o_]
  exact y_ o_ (e.bind nx)) (by
  intro x
  refine Ans.step ?_
  simp only [spec_RowWave.l0]
  exact n_ o_ p_) (n - 1) 1 (hgt x) o_ o_ H
 have HP : HF n (foll (hgt x) (tabF (fun _ _ => true) n (n - 1) 1)) := hf_foll _ H (fun q hq => by obtain ⟨i, j, h1, h2, h3, h4, _, e⟩ := cellsF_mem.mp (show q ∈ cellsF n (fun _ _ => true) from hq); exact ⟨i, j, e, ⟨h1, h2⟩, h3, h4⟩)
 have F := specFromH (tab_sq (n + 1) (foll (hgt x) (tabF (fun _ _ => true) n (n - 1) 1))) o_
 rw [smat_of HP o_] at F
 exact s2.bind (y_ rfl (ho.bind (A.bind (F.bind p_))))
theorem followI (x : Tb_) (hx : x.length ≤ 1000) (p : Tb_) (hp : p.length ≤ 1000000) : Ans (fun k => impl_FollowFlips.f k x p) (foRes x p) := by
 have s1 := isSign x o_
 have n1 : Ans (fun k => impl_FollowFlips.j0 k x p true) ([], false) := Ans.step (by simp only [impl_FollowFlips.j0]; exact y_ trivial p_)
 simp only [impl_FollowFlips.f, foRes]
 by_cases s : sign x = true
 case neg =>
  rw [if_neg s]
  rw [Bool.eq_false_iff.mpr s] at s1
  exact s1.bind (n_ (by simp) n1)
 rw [if_pos s]
 rw [s] at s1
 obtain ⟨n, hn⟩ : ∃ n, x.length = n := ⟨_, rfl⟩
 obtain ⟨e, H, _⟩ := HT_hf s hn
 have h6 := (sign_en s hn).2.2.1
 have ac := areCells n o_ p hp
 have h1 := implHeights s
 rw [e] at h1
 rw [hn]
 by_cases c : p.length ≤ 200
 case neg =>
  rw [if_neg c]
  rw [decide_eq_false c, Bool.false_and] at ac
  exact s1.bind (y_ rfl (ac.bind n1))
 rw [if_pos c]
 rw [decide_eq_true c, Bool.true_and] at ac
 refine s1.bind (y_ rfl (ac.bind ?_))
 cases ok : p.all (cellB n) with
 | false => rw [folO_all p _ ok]; exact n1
 | true =>
  refine Ans.step ?_
  simp only [impl_FollowFlips.j0]
  have := implFollow (n := n) o_ hp ok p.length 0 (hgt x) o_ H
  rw [List.drop_zero] at this
  exact n_ (by simp) (h1.bind this)
theorem distanceI {x y : Tb_} (s : sign x = true) (t : sign y = true) {n : Nat} (hn : x.length = n) (hm : y.length = n) : Ans (fun k => impl_FlipDistance.f k x y) (dst n (hgt x) (hgt y) / 2, true) := by
 have h1 := (sign_sq s).1
 have h2 := (sign_sq t).1
 simp only [impl_FlipDistance.f]
 refine (arePair (by have := (sign_en s hn).2.2.1; omega) (by have := (sign_en t hm).2.2.1; omega)).bind (y_ (two_iff.mpr ⟨s, t, by omega⟩) ((implDist s t hn hm).bind p_))
theorem big_ans (c m : List Int) : ∃ b, laws_big.f c m = some b := by
 simp only [laws_big.f]
 split
 ·exact ⟨_, rfl⟩
 ·exact ⟨_, rfl⟩
theorem drawFC (c : List Int) (hc : ∀ x ∈ c, (Lit.int .u8 x).wf = true) : ∃ x v, Ans (fun k => spec_DrawFlipColour.f k c) (x, v) ∧ x.length ≤ 7 := by
 obtain ⟨m, a, s, f, a0, a1, h1, h2⟩ := draw_signs c hc 0 0 5 o_ o_ o_ o_
 obtain ⟨v, a', s', e, _, _, _⟩ := draw_among c hc a s [0, 1, 0, 1, 2, (-1)] (by simp) o_ o_
 refine ⟨m, v, ?_, h1⟩
 simp only [spec_DrawFlipColour.f]
 refine f.bind ?_
 simp only [e, Option.bind_some]
 exact Ans.pure _
theorem drawRW (c : List Int) (hc : ∀ x ∈ c, (Lit.int .u8 x).wf = true) : ∃ x, Ans (fun k => spec_DrawRowWave.f k c) x ∧ x.length ≤ 7 := by
 obtain ⟨m, a, s, f, _, _, h1, h2⟩ := draw_signs c hc 0 0 5 o_ o_ o_ o_
 refine ⟨m, ?_, h1⟩
 simp only [spec_DrawRowWave.f, spec_DrawIsSignMatrix.f]
 exact (f.bind (h := fun _ bt => some bt.1) p_).bind p_
theorem most1 (b : Int) : ∃ t, spec_l1Most.f 1 b = some t := by
 simp only [spec_l1Most.f]
 split
 ·exact ⟨_, rfl⟩
 ·exact ⟨_, rfl⟩
theorem drawTC (c : List Int) (hc : ∀ x ∈ c, (Lit.int .u8 x).wf = true) : ∃ x p, Ans (fun k => spec_DrawToggleCells.f k c) (x, p) ∧ x.length ≤ 7 ∧ p.length ≤ 20 := by
 obtain ⟨m, a, s, f, a0, a1, h1, h2⟩ := draw_signs c hc 0 0 5 o_ o_ o_ o_
 obtain ⟨v, b, s2, e, b0, b1, hv⟩ := draw_among c hc a s [0, 1, 3, 8] (by simp) o_ o_
 have key : ∀ (d : Nat) (p : Tb_) (a s : Int), p.length + d ≤ 10 → 0 ≤ a → a + 4 * d ≤ 1000000 → ∃ p', Ans (fun k => spec_DrawToggleCells.l0 k m p (d : Int) c a s) (m, p') ∧ p'.length ≤ 20 := by
  intro d
  induction d with
  | zero =>
   intro p a s hp h0 h1
   obtain ⟨v, a1, s1, e1, p1, q1⟩ := draw_one c hc a s 15 h0 o_
   cases v with
   | true =>
    obtain ⟨u, a2, s2, e2, p2, q2, _⟩ := draw_among c hc a1 s1 [0, (-1), 6] (by simp) o_ o_
    obtain ⟨w, a3, s3, e3, p3, q3⟩ := draw_one c hc a2 s2 20 o_ o_
    cases w with
    | true =>
     refine ⟨(p ++ [[u, 1]]) ++ [[1]], Ans.step ?_, by simp; omega⟩
     simp only [spec_DrawToggleCells.l0, e1, e2, e3, Option.bind_some]
     exact n_ o_ (y_ trivial (y_ o_ (y_ trivial (y_ (by simp; omega) p_))))
    | false =>
     refine ⟨p ++ [[u, 1]], Ans.step ?_, by simp; omega⟩
     simp only [spec_DrawToggleCells.l0, e1, e2, e3, Option.bind_some]
     exact n_ o_ (y_ trivial (y_ o_ (n_ (by simp) p_)))
   | false =>
    obtain ⟨w, a3, s3, e3, p3, q3⟩ := draw_one c hc a1 s1 20 o_ o_
    cases w with
    | true =>
     refine ⟨p ++ [[1]], Ans.step ?_, by simp; omega⟩
     simp only [spec_DrawToggleCells.l0, e1, e3, Option.bind_some]
     exact n_ o_ (n_ (by simp) (y_ trivial (y_ o_ p_)))
    | false =>
     refine ⟨p, Ans.step ?_, by omega⟩
     simp only [spec_DrawToggleCells.l0, e1, e3, Option.bind_some]
     exact n_ o_ (n_ (by simp) (n_ (by simp) p_))
  | succ d ih =>
   intro p a s hp h0 h1
   obtain ⟨t, ht⟩ := most1 (wrap64 ((m.length : Int) - 1))
   obtain ⟨i, a1, s1, e1, p1, q1, _⟩ := draw_pick c hc a s t h0 o_
   obtain ⟨j, a2, s2, e2, p2, q2, _⟩ := draw_pick c hc a1 s1 t o_ o_
   obtain ⟨p', e3, l⟩ := ih (p ++ [[wrap64 (1 + i), wrap64 (1 + j)]]) a2 s2 (by simp; omega) o_ o_
   refine ⟨p', Ans.step ?_, l⟩
   have w : wrap64 (((d + 1 : Nat) : Int) - 1) = (d : Int) := by rw [wrap64_in _ ⟨o_, o_⟩]; omega
   simp only [spec_DrawToggleCells.l0, ht, e1, e2, Option.bind_some, w]
   exact y_ o_ (y_ o_ e3)
 simp only [List.mem_cons, List.mem_nil_iff, or_false] at hv
 obtain ⟨p', g, l⟩ := key v.toNat [] b s2 (by simp; omega) o_ o_
 rw [Int.toNat_of_nonneg o_] at g
 refine ⟨m, p', ?_, h1, l⟩
 simp only [spec_DrawToggleCells.f]
 refine f.bind ?_
 simp only [e, Option.bind_some]
 exact g
theorem sameS {x : Tb_} (s : sign x = true) : Ans (fun k => laws_hRows.f k x x) true := by
 obtain ⟨q, h⟩ := sign_sq s
 exact hRows x o_ (fun r hr => by rw [q.2 r hr]; omega)
theorem sameN : Ans (fun k => laws_hRows.f k [] []) true := hRows [] (by simp) (by simp)
theorem after {x : Tb_} (s : sign x = true) {n : Nat} (hn : x.length = n) {p : Tb_} (hp : ∀ q ∈ p, ∃ i j : Nat, q = [(i : Int), (j : Int)] ∧ (1 ≤ i ∧ i < n) ∧ (1 ≤ j ∧ j < n)) :
  sign (mat n (foll (hgt x) p)) = true ∧ (mat n (foll (hgt x) p)).length = n ∧ ∀ a b, a ≤ n → b ≤ n → hgt (mat n (foll (hgt x) p)) a b = foll (hgt x) p a b := by
 obtain ⟨_, n1, h6, _⟩ := sign_en s hn
 have H := hf_foll p (HT_hf s hn).2.1 hp
 exact ⟨mat_sign H n1 h6, (mat_sq n _).1, fun a b ha hb => mat_hgt H hb a ha⟩
theorem folO_par {n : Nat} (c : Nat) : ∀ (p : Tb_) {h : Nat → Nat → Int}, (∀ q ∈ p, colC c q ∧ ∃ i j : Nat, q = [(i : Int), (j : Int)] ∧ (1 ≤ i ∧ i < n) ∧ (1 ≤ j ∧ j < n) ∧ wayH h i j ≠ 0) → p.Nodup → folO n h p = some (foll h p)
 | [], h, _, _ => rfl
 | q :: p, h, hq, nd => by
  obtain ⟨⟨i', j', e', _, _, hc⟩, i, j, rfl, hi, hj, hw⟩ := hq q (by simp)
  obtain ⟨rfl, rfl⟩ := cell_inj e'
  rw [List.nodup_cons] at nd
  have hp : ∀ q ∈ p, colC c q ∧ ∃ a b : Nat, q = [(a : Int), (b : Int)] ∧ (1 ≤ a ∧ a < n) ∧ (1 ≤ b ∧ b < n) ∧ wayH (flipH h i j) a b ≠ 0 := fun q hq' => by
   obtain ⟨cc, a, b, rfl, ha, hb, w⟩ := hq q (by simp [hq'])
   obtain ⟨a', b', e', _, _, hc'⟩ := cc
   obtain ⟨rfl, rfl⟩ := cell_inj e'
   have ne : ¬ (a = i ∧ b = j) := fun e => by rw [e.1, e.2] at hq'; exact nd.1 hq'
   refine ⟨⟨a, b, rfl, ha.1, hb.1, hc'⟩, a, b, rfl, ha, hb, ?_⟩
   rwa [way_congr (flip_far h ne) (flip_far h o_) (flip_far h o_) (flip_far h o_) (flip_far h o_)]
  rw [folO, if_pos (by rw [cellB_two]; simp only [Bool.and_eq_true, decide_eq_true_eq]; omega), cI_of, cJ_of, if_neg hw, folO_par c p hp nd.2, foll_cons]
theorem rev_step {x : Tb_} {d : Nat} (h : d < x.length) (acc : Tb_) : (acc ++ [x.getD d []]) ++ (x.take d).reverse = acc ++ (x.take (d + 1)).reverse := by
 rw [take_snoc' x h, List.reverse_append, List.append_assoc]; rfl
theorem law_j5 (c : List Int) (hc : ∀ x ∈ c, (Lit.int .u8 x).wf = true) : Ans (fun k => laws_FnColoursFlip.j5 k c) true := by
 obtain ⟨x, D, hx⟩ := drawRW c hc
 have I := implRW x o_
 have J := specRW x o_
 refine Ans.step ?_
 simp only [laws_FnColoursFlip.j5]
 refine D.bind (I.bind (J.bind (n_ (by simp) ?_)))
 by_cases s : sign x = true
 case neg =>
  rw [show rwRes x = ([], false) from if_neg s]
  refine sameN.bind (Ans.step ?_)
  simp only [laws_FnColoursFlip.j6]
  exact n_ (by simp) (n_ (by simp) p_)
 obtain ⟨n, hn⟩ : ∃ n, x.length = n := ⟨_, rfl⟩
 obtain ⟨_, n1, h6, _⟩ := sign_en s hn
 have inC : ∀ q ∈ allC n, ∃ i j : Nat, q = [(i : Int), (j : Int)] ∧ (1 ≤ i ∧ i < n) ∧ (1 ≤ j ∧ j < n) := fun q hq => by
  obtain ⟨i, j, h1, h2, h3, h4, _, e⟩ := cellsF_mem.mp hq; exact ⟨i, j, e, ⟨h1, h2⟩, h3, h4⟩
 obtain ⟨sk, lk, ek⟩ := after s hn inC
 have la : (allC n).length ≤ 25 := cellsF_len _ h6
 have T := implTC x o_ (allC n) o_
 rw [show tcRes x (allC n) = (mat n (foll (hgt x) (allC n)), true) by unfold tcRes; rw [hn, if_pos ⟨s, by omega, cells_all _⟩]] at T
 rw [show rwRes x = (mat n (foll (hgt x) (allC n)), true) by unfold rwRes; rw [if_pos s, hn]]
 generalize mat n (foll (hgt x) (allC n)) = y at *
 have inner : ∀ (i : Nat), 1 ≤ i ∧ i < n → ∀ (d j : Nat) (z : Tb_), j + d = n → 1 ≤ j → z.length + d ≤ 20000 →
   Ans (fun k => laws_FnColoursFlip.l2 k x y (z ++ rowF (fun _ _ => true) i d j) ((i + 1 : Nat) : Int)) true → Ans (fun k => laws_FnColoursFlip.l3 k x y z (i : Int) (j : Int)) true := by
  intro i hi d
  induction d with
  | zero =>
   intro j z h1 h2 h3 nx
   rw [rowF, List.append_nil, show ((i + 1 : Nat) : Int) = (i : Int) + 1 by omega] at nx
   refine Ans.step ?_
   simp only [laws_FnColoursFlip.l3, hn, wrap64_up (show (0 : Int) ≤ i by omega) o_]
   exact n_ o_ nx
  | succ d ih =>
   intro j z h1 h2 h3 nx
   rw [rowF, if_pos rfl, ← List.append_assoc] at nx
   have := ih (j + 1) (z ++ [[(i : Int), (j : Int)]]) o_ o_ (by simp; omega) nx
   rw [show ((j + 1 : Nat) : Int) = (j : Int) + 1 by omega] at this
   refine Ans.step ?_
   simp only [laws_FnColoursFlip.l3, hn, wrap64_up (show (0 : Int) ≤ j by omega) o_]
   exact y_ o_ (y_ o_ this)
 have key : ∀ (d i : Nat) (z : Tb_), i + d = n → 1 ≤ i → z.length ≤ 100 * i → z ++ tabF (fun _ _ => true) n d i = allC n → Ans (fun k => laws_FnColoursFlip.l2 k x y z (i : Int)) true := by
  intro d
  induction d with
  | zero =>
   intro i z h1 h2 h3 e
   rw [tabF, List.append_nil] at e
   subst e
   refine Ans.step ?_
   simp only [laws_FnColoursFlip.l2, hn]
   exact n_ o_ (T.bind (y_ rfl ((sameS sk).bind p_)))
  | succ d ih =>
   intro i z h1 h2 h3 e
   have rl := rowF_len (fun _ _ => true) i (n - 1) 1
   rw [tabF, ← List.append_assoc] at e
   have nx := ih (i + 1) (z ++ rowF (fun _ _ => true) i (n - 1) 1) o_ o_ (by rw [List.length_append]; omega) e
   refine Ans.step ?_
   simp only [laws_FnColoursFlip.l2, hn]
   exact y_ o_ (inner i o_ (n - 1) 1 z o_ o_ o_ nx)
 refine (sameS sk).bind (Ans.step ?_)
 simp only [laws_FnColoursFlip.j6]
 exact n_ (by simp) (y_ trivial (key (n - 1) 1 [] o_ o_ (by simp) rfl))
theorem law_j2 (c : List Int) (hc : ∀ x ∈ c, (Lit.int .u8 x).wf = true) : Ans (fun k => laws_FnColoursFlip.j2 k c) true := by
 obtain ⟨x, p, D, hx, hp⟩ := drawTC c hc
 have J5 := law_j5 c hc
 have I := implTC x o_ p o_
 have J := specTC x o_ p o_
 refine Ans.step ?_
 simp only [laws_FnColoursFlip.j2]
 refine D.bind (I.bind (J.bind (n_ (by simp) ?_)))
 by_cases v : sign x = true ∧ (p.length ≤ 200 ∧ p.all (cellB x.length) = true)
 case neg =>
  rw [show tcRes x p = ([], false) from if_neg v]
  refine sameN.bind (Ans.step ?_)
  simp only [laws_FnColoursFlip.j3]
  exact n_ (by simp) (n_ (by simp) J5)
 obtain ⟨s, _, ok⟩ := v
 obtain ⟨n, hn⟩ : ∃ n, x.length = n := ⟨_, rfl⟩
 rw [hn] at ok
 have inC : ∀ q ∈ p, ∃ i j : Nat, q = [(i : Int), (j : Int)] ∧ (1 ≤ i ∧ i < n) ∧ (1 ≤ j ∧ j < n) := fun q hq => by
  obtain ⟨cl, a, b, ea, eb, _, _, ha, hb⟩ := cellB_of (List.all_eq_true.mp ok q hq)
  refine ⟨a, b, ?_, ha, hb⟩
  obtain ⟨u, v, rfl⟩ := two_of cl
  rw [show rd [u, v] 0 = u from rfl] at ea
  rw [show rd [u, v] 1 = v from rfl] at eb
  rw [ea, eb]
 obtain ⟨sk, lk, ek⟩ := after s hn inC
 have T := implTC (mat n (foll (hgt x) p)) o_ p.reverse (by rw [List.length_reverse]; omega)
 have back : mat n (foll (hgt (mat n (foll (hgt x) p))) p.reverse) = x := by
  rw [mat_congr (foll_congr p.reverse (fun q hq => inC q (List.mem_reverse.mp hq)) ek), foll_back p (hgt x) (fun q hq => by obtain ⟨i, j, e, hi, hj⟩ := inC q hq; exact ⟨i, j, e, hi.1, hj.1⟩)]
  exact mat_of s hn
 rw [show tcRes (mat n (foll (hgt x) p)) p.reverse = (x, true) by
  unfold tcRes
  rw [lk, if_pos ⟨sk, by rw [List.length_reverse]; omega, by rw [List.all_reverse]; exact ok⟩, back]] at T
 rw [show tcRes x p = (mat n (foll (hgt x) p), true) by unfold tcRes; rw [hn, if_pos ⟨s, by omega, ok⟩]]
 generalize mat n (foll (hgt x) p) = y at *
 have loop : ∀ (d : Nat) (acc : Tb_), d ≤ p.length → acc.length + d ≤ 1000 → acc ++ (p.take d).reverse = p.reverse → Ans (fun k => laws_FnColoursFlip.l1 k c x p y acc ((d : Int) - 1)) true := by
  intro d
  induction d with
  | zero =>
   intro acc h1 h2 e
   rw [List.take_zero, List.reverse_nil, List.append_nil] at e
   subst e
   refine Ans.step ?_
   simp only [laws_FnColoursFlip.l1]
   exact n_ o_ (T.bind (y_ rfl ((sameS s).bind (y_ rfl J5))))
  | succ d ih =>
   intro acc h1 h2 e
   have := ih (acc ++ [p.getD d []]) o_ (by simp; omega) (by rw [rev_step o_]; exact e)
   have er : rd_L3 p (d : Int) = p.getD d [] := by unfold rd_L3; rw [Int.toNat_natCast]
   refine Ans.step ?_
   simp only [laws_FnColoursFlip.l1]
   rw [show ((d + 1 : Nat) : Int) - 1 = (d : Int) by omega, er, wrap64_in ((d : Int) - 1) ⟨o_, o_⟩]
   exact y_ o_ (y_ o_ (y_ o_ (y_ o_ this)))
 refine (sameS sk).bind (Ans.step ?_)
 simp only [laws_FnColoursFlip.j3]
 rw [wrap64_in ((p.length : Int) - 1) ⟨o_, o_⟩]
 exact n_ (by simp) (y_ trivial (loop p.length [] o_ (by simp; omega) (by rw [List.take_length]; rfl)))
theorem law_j0 (x : Tb_) (hx : x.length ≤ 7) (a : Int) (c : List Int) (hc : ∀ x ∈ c, (Lit.int .u8 x).wf = true) : Ans (fun k => laws_FnColoursFlip.j0 k c x a (fcRes x a).1 (fcRes x a).2 (fdCells x a).1 false) true := by
 have J2 := law_j2 c hc
 refine Ans.step ?_
 simp only [laws_FnColoursFlip.j0]
 refine n_ (by simp) ?_
 by_cases v : sign x = true ∧ (0 ≤ a ∧ a ≤ 1)
 case neg => rw [show fcRes x a = ([], false) from if_neg v]; exact n_ (by simp) J2
 obtain ⟨s, ha⟩ := v
 obtain ⟨b, rfl⟩ : ∃ b : Nat, a = b := ⟨a.toNat, by omega⟩
 obtain ⟨n, hn⟩ : ∃ n, x.length = n := ⟨_, rfl⟩
 obtain ⟨_, n1, h6, _⟩ := sign_en s hn
 obtain ⟨_, H, _⟩ := HT_hf s hn
 have inC : ∀ q ∈ colL n b, ∃ i j : Nat, q = [(i : Int), (j : Int)] ∧ (1 ≤ i ∧ i < n) ∧ (1 ≤ j ∧ j < n) := fun q hq => by
  obtain ⟨i, j, h1, h2, h3, h4, _, e⟩ := cellsF_mem.mp hq; exact ⟨i, j, e, ⟨h1, h2⟩, h3, h4⟩
 obtain ⟨sk, lk, ek⟩ := after s hn inC
 have ek' : ∀ i j, i ≤ n → j ≤ n → hgt (mat n (flipC n b (hgt x))) i j = flipC n b (hgt x) i j := ek
 replace sk : sign (mat n (flipC n b (hgt x))) = true := sk
 replace lk : (mat n (flipC n b (hgt x))).length = n := lk
 have MC : mat n (flipC n b (hgt (mat n (flipC n b (hgt x))))) = mat n (flipC n b (flipC n b (hgt x))) := mat_congr (foll_congr (colL n b) inC ek')
 rw [show fcRes x (b : Int) = (mat n (flipC n b (hgt x)), true) by unfold fcRes; rw [if_pos ⟨s, ha⟩, Int.toNat_natCast, hn], show fdCells x (b : Int) = (flipL n b (hgt x), true) by unfold fdCells; rw [if_pos ⟨s, ha⟩, Int.toNat_natCast, hn]]
 have F1 := (flipColour (mat n (flipC n b (hgt x))) (by rw [show (mat n (flipC n b (hgt x))).length = n from lk]; omega) (b : Int)).1
 rw [show fcRes (mat n (flipC n b (hgt x))) (b : Int) = (x, true) by
  unfold fcRes
  rw [if_pos ⟨sk, ha⟩, Int.toNat_natCast, show (mat n (flipC n b (hgt x))).length = n from lk, MC, flipC_twice, mat_of s hn]] at F1
 have F2 := flippedI (mat n (flipC n b (hgt x))) (by rw [show (mat n (flipC n b (hgt x))).length = n from lk]; omega) (b : Int)
 rw [show fdCells (mat n (flipC n b (hgt x))) (b : Int) = (flipL n b (hgt x), true) by
  unfold fdCells
  rw [if_pos ⟨sk, ha⟩, Int.toNat_natCast, show (mat n (flipC n b (hgt x))).length = n from lk, show flipL n b (hgt (mat n (flipC n b (hgt x)))) = flipL n b (flipC n b (hgt x)) from cellsF_congr fun i j p1 p2 p3 p4 => by
   rw [way_congr (ek' i j o_ o_) (ek' _ _ o_ o_) (ek' _ _ o_ o_) (ek' _ _ o_ o_) (ek' _ _ o_ o_)], flipL_flip]] at F2
 have DI := distanceI s sk hn (show (mat n (flipC n b (hgt x))).length = n from lk)
 have good : ∀ q ∈ (flipL n b (hgt x)).reverse, colC b q ∧ ∃ i j : Nat, q = [(i : Int), (j : Int)] ∧ (1 ≤ i ∧ i < n) ∧ (1 ≤ j ∧ j < n) ∧ wayH (hgt x) i j ≠ 0 := fun q hq => flipL_col n b (hgt x) q (List.mem_reverse.mp hq)
 have nd : (flipL n b (hgt x)).reverse.Nodup := List.pairwise_reverse.mpr ((cellsF_nodup _ _).imp fun h => Ne.symm h)
 have DD : dst n (hgt x) (hgt (mat n (flipC n b (hgt x)))) / 2 = ((flipL n b (hgt x)).length : Int) := by
  have := flips_dst (n := n) b _ H good nd
  rw [flipC_flip, List.length_reverse] at this
  rw [show dst n (hgt x) (hgt (mat n (flipC n b (hgt x)))) = dst n (hgt x) (flipC n b (hgt x)) from S_congr fun i hi => S_congr fun j hj => by rw [ek' i j o_ o_], this]
  omega
 rw [DD] at DI
 have ll : (flipL n b (hgt x)).length ≤ 25 := cellsF_len _ h6
 have FO := followI x o_ (flipL n b (hgt x)).reverse (by rw [List.length_reverse]; omega)
 rw [show foRes x (flipL n b (hgt x)).reverse = (mat n (flipC n b (hgt x)), true) by
  unfold foRes
  rw [if_pos s, if_pos (by rw [List.length_reverse]; omega), hn, folO_par b _ good nd, flipC_flip]; rfl] at FO
 have smL : ∀ r ∈ flipL n b (hgt x), r.length ≤ 1000000 := fun r hr => by
  obtain ⟨_, i, j, e, _⟩ := flipL_col n b (hgt x) r hr
  rw [e]; simp
 have RL := hRows (flipL n b (hgt x)) o_ (fun r hr => by have := smL r hr; omega)
 have SK := sameS sk
 generalize hK : mat n (flipC n b (hgt x)) = K at *
 generalize flipL n b (hgt x) = L at *
 have loop : ∀ (d : Nat) (acc : Tb_), d ≤ L.length → acc.length + d ≤ 1000 → acc ++ (L.take d).reverse = L.reverse → Ans (fun k => laws_FnColoursFlip.l0 k c x (b : Int) K L x true (L.length : Int) true acc ((d : Int) - 1)) true := by
  intro d
  induction d with
  | zero =>
   intro acc h1 h2 e
   rw [List.take_zero, List.reverse_nil, List.append_nil] at e
   subst e
   refine Ans.step ?_
   simp only [laws_FnColoursFlip.l0]
   exact n_ o_ (FO.bind (F2.bind (y_ trivial ((sameS s).bind (y_ rfl (y_ trivial (y_ trivial (y_ rfl (SK.bind (y_ rfl (y_ rfl (RL.bind (y_ rfl J2)))))))))))))
  | succ d ih =>
   intro acc h1 h2 e
   have := ih (acc ++ [L.getD d []]) o_ (by simp; omega) (by rw [rev_step o_]; exact e)
   have er : rd_L3 L (d : Int) = L.getD d [] := by unfold rd_L3; rw [Int.toNat_natCast]
   refine Ans.step ?_
   simp only [laws_FnColoursFlip.l0]
   rw [show ((d + 1 : Nat) : Int) - 1 = (d : Int) by omega, er, wrap64_in ((d : Int) - 1) ⟨o_, o_⟩]
   exact y_ o_ (y_ o_ (y_ o_ (y_ o_ this)))
 refine y_ rfl (F1.bind (DI.bind ?_))
 rw [wrap64_in ((L.length : Int) - 1) ⟨o_, o_⟩]
 exact loop L.length [] o_ (by simp; omega) (by rw [List.take_length]; rfl)
theorem FnColoursFlip : laws_FnColoursFlip.Pure := by
 intro c m _ _ hc _ _ hm
 refine Ans.at (g := fun k => laws_FnColoursFlip.f k c m) ?_
 simp only [laws_FnColoursFlip.f]
 obtain ⟨b, hb⟩ := big_ans c m
 simp only [hb, Option.bind_some]
 cases b with
 | true => exact y_ rfl p_
 | false =>
  refine n_ (by simp) ?_
  obtain ⟨x, a, D, hx⟩ := drawFC c hc
  obtain ⟨I1, J1⟩ := flipColour x o_ a
  have I2 := flippedI x o_ a
  have J2 := flippedS x o_ a
  have R1 : Ans (fun k => laws_hRows.f k (fcRes x a).1 (fcRes x a).1) true := by
   unfold fcRes
   by_cases v : sign x = true ∧ (0 ≤ a ∧ a ≤ 1)
   ·rw [if_pos v]
    obtain ⟨_, n1, h6, _⟩ := sign_en v.1 rfl
    have q := mat_sq x.length (flipC x.length a.toNat (hgt x))
    exact hRows _ (by rw [q.1]; omega) (fun r hr => by rw [q.2 r hr]; omega)
   ·rw [if_neg v]; exact sameN
  have R2 : Ans (fun k => laws_hRows.f k (fdCells x a).1 (fdCells x a).1) true := by
   unfold fdCells
   by_cases v : sign x = true ∧ (0 ≤ a ∧ a ≤ 1)
   ·rw [if_pos v]
    obtain ⟨_, n1, h6, _⟩ := sign_en v.1 rfl
    have := cellsF_len (n := x.length) (fun i j => decide ((i + j) % 2 = a.toNat) && decide (wayH (hgt x) i j ≠ 0)) h6
    exact hRows _ (by show (flipL _ _ _).length ≤ _; unfold flipL; omega) (fun r hr => by
     obtain ⟨_, i, j, e, _⟩ := flipL_col x.length a.toNat (hgt x) r hr
     rw [e]; simp)
   ·rw [if_neg v]; exact sameN
  refine D.bind (I1.bind (J1.bind (I2.bind (J2.bind (n_ (by simp) (R1.bind (y_ rfl (n_ (by simp) (R2.bind (y_ rfl ?_))))))))))
  rw [show ((fdCells x a).2 != (fcRes x a).2) = false by unfold fdCells fcRes; split <;> rfl]
  exact law_j0 x hx a m hm
end Go.Proofs.Ytgmeijbomnijiaa.Pure
