
import Derived.Test.YtgpmlfggfhkifaaGreatCFnSignLatticex8
import Derived.Test.YtgpmlfggfhkifaaGreatQTwo
import Derived.Test.YtgpmlfggfhkifaaGreatQByte
import Derived.Test.YtgpmlfggfhkifaaGreatQByte
namespace Go.Proofs.YtgpmlfggfhkifaaGreat.Pure
open Go.RowKit Go.Proofs.YtgpmlfggfhkifaaGreat.X Go.Proofs.YtgpmlfggfhkifaaGreatW.PrintWords Go.Proofs.YtgpmlfggfhkifaaGreatW.PrintLast Go.Proofs.YtgpmlfggfhkifaaGreat.Q
set_option linter.unusedVariables false
set_option linter.unusedSimpArgs false
theorem o_ {p : Prop} (h : p := by omega) : p := h
theorem y_ {α : Type} {c : Prop} [Decidable c] {a b : Nat → Option α} {r : α} (hc : c) (x : Ans a r) : Ans (fun k => if c then a k else b k) r := Ans.yes hc x
theorem n_ {α : Type} {c : Prop} [Decidable c] {a b : Nat → Option α} {r : α} (hc : ¬ c) (x : Ans b r) : Ans (fun k => if c then a k else b k) r := Ans.not hc x
theorem p_ {α : Type} {r : α} : Ans (fun _ => some r) r := Ans.pure r
theorem rd_L1_mem {x : Tb_} {i : Int} (h0 : 0 ≤ i) (h1 : i < x.length) : rd_L3 x i ∈ x := by unfold rd_L3; exact getD_mem _ o_
theorem LeO.far {α : Type} {g : Nat → Option α} {r : α} (h : ∀ k, LeO (g k) (g (k + 1))) (m : Nat) (e : g m = some r) : Ans g r :=
 ⟨m, fun k hk => by
  obtain ⟨j, rfl⟩ : ∃ j, k = m + j := ⟨k - m, by omega⟩
  clear hk
  induction j with
  | zero => exact e
  | succ j ih => exact h _ r ih⟩
theorem l1In (a b c : Int) : spec_l1In.f a b c = some (decide (b ≤ a ∧ a ≤ c)) := by
 unfold spec_l1In.f
 by_cases h : a ≥ b
 ·rw [if_pos h]; refine congrArg some (decide_eq_decide.mpr ⟨fun q => ⟨h, q⟩, fun q => q.2⟩)
 ·rw [if_neg h, decide_eq_false o_]
theorem within (a b c : Int) : impl_within.f a b c = some (decide (b ≤ a ∧ a ≤ c)) := by
 unfold impl_within.f
 by_cases h : b ≤ a
 ·rw [if_pos h]; refine congrArg some (decide_eq_decide.mpr ⟨fun q => ⟨h, q⟩, fun q => q.2⟩)
 ·rw [if_neg h, decide_eq_false o_]
theorem containsL (x : Tb_) (hx : x.length ≤ 17592186044416) (g : List Int → Option Bool) (p : List Int → Bool) (hg : ∀ a, g a = some (p a)) : Ans (fun k => slices_ContainsFunc_int_int.f k x g) (x.any p) := by
 have key : ∀ (d : Nat) (i : Int), 0 ≤ i → i + d = x.length → ∃ z : Int, Ans (fun k => slices_IndexFunc_int_int.l0 k x g (x.length : Int) i) z ∧ decide (z ≥ 0) = (x.drop i.toNat).any p := by
  intro d
  induction d with
  | zero =>
   intro i h0 h1
   refine ⟨-1, Ans.step ?_, by rw [List.drop_eq_nil_of_le o_]; rfl⟩
   simp only [slices_IndexFunc_int_int.l0]; exact n_ o_ p_
  | succ d ih =>
   intro i h0 h1
   have hd := drop_at x [] (show i.toNat < x.length by omega)
   by_cases c : p (rd_L3 x i) = true
   ·refine ⟨i, Ans.step ?_, by rw [hd, List.any_cons, show p (x.getD i.toNat []) = true from c]; simp [h0]⟩
    simp only [slices_IndexFunc_int_int.l0, hg, Option.bind_some]
    exact y_ o_ (y_ h0 (y_ o_ (y_ c p_)))
   ·obtain ⟨z, e, hz⟩ := ih (i + 1) o_ o_
    refine ⟨z, Ans.step ?_, by rw [hz, hd, List.any_cons, show p (x.getD i.toNat []) = false from Bool.eq_false_iff.mpr c, show (i + 1).toNat = i.toNat + 1 by omega]; simp⟩
    simp only [slices_IndexFunc_int_int.l0, hg, Option.bind_some, wrap64_up h0 (by omega : i ≤ 4611686018427387904)]
    exact y_ o_ (y_ h0 (y_ o_ (n_ c e)))
 obtain ⟨z, e, hz⟩ := key x.length 0 o_ o_
 simp only [slices_ContainsFunc_int_int.f, slices_IndexFunc_int_int.f]
 have := e.bind (h := fun _ t => some (decide (t ≥ 0))) (Ans.pure (decide (z ≥ 0)))
 rwa [hz] at this
theorem isSquare (x : Tb_) (hx : x.length ≤ 17592186044416) : Ans (fun k => impl_isSquare.f k x) (x.all fun r => decide (r.length = x.length)) := by
 have e := containsL x hx (fun x0_ => impl_isSquare_1.f x0_ x) (fun r => (r.length : Int) != (x.length : Int)) (fun a => rfl)
 have := e.bind (h := fun _ t => some (!t)) p_
 rw [List.not_any_eq_all_not] at this
 rwa [show (fun r : List Int => !((r.length : Int) != (x.length : Int))) = fun r => decide (r.length = x.length) from funext fun r => by by_cases h : r.length = x.length <;> simp [bne, h]; omega] at this
def colOf (x : Tb_) (j : Int) : List Int := x.map fun r => rd r j
theorem range_drop {n i : Nat} (h : i < n) : (List.range n).drop i = i :: (List.range n).drop (i + 1) := by
 rw [drop_at (List.range n) 0 (by simpa using h), getD_at _ _ (by simpa using h), List.getElem_range]
theorem sgTurn (x : Tb_) (h : x.length ≤ 1048576) (hr : ∀ r ∈ x, r.length = x.length) : Ans (fun k => spec_sgTurn.f k x) ((List.range x.length).map fun (j : Nat) => colOf x j) := by
 have inner : ∀ (out : Tb_) (j : Int) (R : Tb_), 0 ≤ j → j < x.length → out.length ≤ 1048576 → ∀ (d : Nat) (i : Int) (acc : List Int), 0 ≤ i → i + d = x.length → acc.length + d ≤ 1048576 →
   Ans (fun k => spec_sgTurn.l0 k x (out ++ [acc ++ colOf (x.drop i.toNat) j]) (x.length : Int) (j + 1)) R → Ans (fun k => spec_sgTurn.l1 k x out j acc (x.length : Int) j x (x.length : Int) i) R := by
  intro out j R hj hj' ho d
  induction d with
  | zero =>
   intro i acc h0 h1 h2 e
   rw [List.drop_eq_nil_of_le o_, colOf, List.map_nil, List.append_nil] at e; refine Ans.step ?_
   simp only [spec_sgTurn.l1, wrap64_up hj (by omega : j ≤ 4611686018427387904)]; exact n_ o_ (y_ o_ e)
  | succ d ih =>
   intro i acc h0 h1 h2 e
   have hm := rd_L1_mem h0 (show i < x.length by omega)
   rw [drop_at x [] (show i.toNat < x.length by omega), show x.getD i.toNat [] = rd_L3 x i from rfl] at e
   refine Ans.step ?_
   simp only [spec_sgTurn.l1, wrap64_up h0 (by omega : i ≤ 4611686018427387904)]
   refine y_ o_ (y_ h0 (y_ o_ (y_ hj (y_ (by have := hr _ hm; omega) (y_ o_ (ih (i + 1) _ o_ o_ (by simp only [List.length_append, List.length_singleton]; omega) ?_))))))
   rw [show (i + 1).toNat = i.toNat + 1 by omega, List.append_assoc, List.singleton_append]
   exact e
 have key : ∀ (d : Nat) (j : Int) (out : Tb_), 0 ≤ j → j + d = x.length → out.length + d ≤ 1048576 → Ans (fun k => spec_sgTurn.l0 k x out (x.length : Int) j) (out ++ ((List.range x.length).drop j.toNat).map fun (j : Nat) => colOf x j) := by
  intro d
  induction d with
  | zero =>
   intro j out h0 h1 h2
   rw [List.drop_eq_nil_of_le (by simp only [List.length_range]; omega), List.map_nil, List.append_nil]; refine Ans.step ?_
   simp only [spec_sgTurn.l0]; exact n_ o_ p_
  | succ d ih =>
   intro j out h0 h1 h2
   have e := ih (j + 1) (out ++ [colOf x j]) o_ o_ (by simp only [List.length_append, List.length_singleton]; omega)
   rw [show (j + 1).toNat = j.toNat + 1 by omega, List.append_assoc, List.singleton_append] at e
   rw [range_drop (show j.toNat < x.length by omega), List.map_cons, show ((j.toNat : Nat) : Int) = j by omega]
   refine Ans.step ?_
   simp only [spec_sgTurn.l0]
   exact y_ o_ (inner out j _ h0 o_ o_ x.length 0 [] o_ o_ (by simp only [List.length_nil]; omega) e)
 exact key x.length 0 [] o_ o_ (by simp only [List.length_nil]; omega)
def walkOk : Int → List Int → Bool
 | s, [] => s == 1
 | s, a :: x => decide (-1 ≤ a ∧ a ≤ 1) && (decide (0 ≤ s + a ∧ s + a ≤ 1) && walkOk (s + a) x)
theorem alternate (x : List Int) (hx : x.length ≤ 17592186044416) : Ans (fun k => impl_alternate.f k x) (walkOk 0 x) := by
 have key : ∀ (d : Nat) (i s : Int), 0 ≤ i → i + d = x.length → 0 ≤ s → s ≤ 1 → Ans (fun k => impl_alternate.l0 k s x (x.length : Int) i) (walkOk s (x.drop i.toNat)) := by
  intro d
  induction d with
  | zero =>
   intro i s h0 h1 s0 s1
   rw [List.drop_eq_nil_of_le o_]; refine Ans.step ?_
   simp only [impl_alternate.l0]; exact n_ o_ p_
  | succ d ih =>
   intro i s h0 h1 s0 s1
   rw [drop_at x 0 (show i.toNat < x.length by omega), show x.getD i.toNat 0 = rd x i from rfl, walkOk]
   refine Ans.step ?_
   simp only [impl_alternate.l0, within, Option.bind_some, wrap64_up h0 (by omega : i ≤ 4611686018427387904)]
   refine y_ o_ (y_ h0 (y_ o_ ?_))
   by_cases c1 : decide (-1 ≤ rd x i ∧ rd x i ≤ 1) = true
   ·have b1 := of_decide_eq_true c1
    have hw : wrap64 (s + rd x i) = s + rd x i := wrap64_in _ ⟨o_, o_⟩
    simp only [hw]
    rw [c1, Bool.true_and]
    refine y_ rfl ?_
    by_cases c2 : decide (0 ≤ s + rd x i ∧ s + rd x i ≤ 1) = true
    ·have b2 := of_decide_eq_true c2
     have e := ih (i + 1) (s + rd x i) o_ o_ b2.1 b2.2
     rw [show (i + 1).toNat = i.toNat + 1 by omega] at e
     rw [c2, Bool.true_and]; exact y_ rfl e
    ·rw [Bool.eq_false_iff.mpr c2, Bool.false_and]; exact n_ (by simp) p_
   ·rw [Bool.eq_false_iff.mpr c1, Bool.false_and]; exact n_ (by simp) p_
 exact key x.length 0 0 o_ o_ o_ o_
theorem sgRows (x : Tb_) (hx : x.length ≤ 17592186044416) (hr : ∀ r ∈ x, r.length ≤ 17592186044416) : Ans (fun k => spec_sgRows.f k x) (x.all (walkOk 0)) := by
 have inner : ∀ (row : List Int) (m : Int) (R : Bool), row.length ≤ 17592186044416 → 0 ≤ m → m ≤ 17592186044416 → Ans (fun k => spec_sgRows.l0 k x (x.length : Int) (m + 1)) R →
   ∀ (d : Nat) (i s : Int), 0 ≤ i → i + d = row.length → 0 ≤ s → s ≤ 1 → Ans (fun k => spec_sgRows.l1 k s x (x.length : Int) m row (row.length : Int) i) (walkOk s (row.drop i.toNat) && R) := by
  intro row m R hrow hm hm' e d
  induction d with
  | zero =>
   intro i s h0 h1 s0 s1
   rw [List.drop_eq_nil_of_le o_, walkOk]; refine Ans.step ?_
   simp only [spec_sgRows.l1, wrap64_up hm (by omega : m ≤ 4611686018427387904)]
   refine n_ o_ ?_
   by_cases c : s = 1
   ·rw [show (s == 1) = true by simp [c], Bool.true_and]; exact y_ c e
   ·rw [show (s == 1) = false by simp [c], Bool.false_and]; exact n_ c p_
  | succ d ih =>
   intro i s h0 h1 s0 s1
   rw [drop_at row 0 (show i.toNat < row.length by omega), show row.getD i.toNat 0 = rd row i from rfl, walkOk]
   refine Ans.step ?_
   simp only [spec_sgRows.l1, l1In, Option.bind_some, wrap64_up h0 (by omega : i ≤ 4611686018427387904)]
   refine y_ o_ (y_ h0 (y_ o_ ?_))
   by_cases c1 : decide (-1 ≤ rd row i ∧ rd row i ≤ 1) = true
   ·have b1 := of_decide_eq_true c1
    have hw : wrap64 (s + rd row i) = s + rd row i := wrap64_in _ ⟨o_, o_⟩
    simp only [hw]
    rw [c1, Bool.true_and]
    refine y_ rfl ?_
    by_cases c2 : decide (0 ≤ s + rd row i ∧ s + rd row i ≤ 1) = true
    ·have b2 := of_decide_eq_true c2
     have e := ih (i + 1) (s + rd row i) o_ o_ b2.1 b2.2
     rw [show (i + 1).toNat = i.toNat + 1 by omega] at e
     rw [c2, Bool.true_and]; exact y_ rfl e
    ·rw [Bool.eq_false_iff.mpr c2, Bool.false_and, Bool.false_and]; exact n_ (by simp) p_
   ·rw [Bool.eq_false_iff.mpr c1, Bool.false_and, Bool.false_and]; exact n_ (by simp) p_
 have key : ∀ (d : Nat) (i : Int), 0 ≤ i → i + d = x.length → Ans (fun k => spec_sgRows.l0 k x (x.length : Int) i) ((x.drop i.toNat).all (walkOk 0)) := by
  intro d
  induction d with
  | zero =>
   intro i h0 h1
   rw [List.drop_eq_nil_of_le o_]; refine Ans.step ?_
   simp only [spec_sgRows.l0]; exact n_ o_ p_
  | succ d ih =>
   intro i h0 h1
   have hm := rd_L1_mem h0 (show i < x.length by omega)
   rw [drop_at x [] (show i.toNat < x.length by omega), show x.getD i.toNat [] = rd_L3 x i from rfl, List.all_cons]
   have e := ih (i + 1) o_ o_
   rw [show (i + 1).toNat = i.toNat + 1 by omega] at e
   refine Ans.step ?_
   simp only [spec_sgRows.l0]
   exact y_ o_ (y_ h0 (y_ o_ (inner _ i _ (hr _ hm) h0 o_ e _ 0 0 o_ (show (0 : Int) + ((rd_L3 x i).length : Nat) = _ by omega) o_ o_)))
 exact key x.length 0 o_ o_
theorem column (x : Tb_) (j : Int) (h : x.length ≤ 1048576) (hj : 0 ≤ j) (hr : ∀ r ∈ x, j < r.length) : Ans (fun k => impl_column.f k x j) (colOf x j) := by
 have key : ∀ (d : Nat) (i : Int) (acc : List Int), 0 ≤ i → i + d = x.length → acc.length + d ≤ 1048576 → Ans (fun k => impl_column.l0 k j acc x (x.length : Int) i) (acc ++ colOf (x.drop i.toNat) j) := by
  intro d
  induction d with
  | zero =>
   intro i acc h0 h1 h2
   rw [List.drop_eq_nil_of_le o_, colOf, List.map_nil, List.append_nil]; refine Ans.step ?_
   simp only [impl_column.l0]; exact n_ o_ p_
  | succ d ih =>
   intro i acc h0 h1 h2
   have hm := rd_L1_mem h0 (show i < x.length by omega)
   have e := ih (i + 1) (acc ++ [rd (rd_L3 x i) j]) o_ o_ (by simp only [List.length_append, List.length_singleton]; omega)
   rw [show (i + 1).toNat = i.toNat + 1 by omega, List.append_assoc, List.singleton_append] at e
   rw [drop_at x [] (show i.toNat < x.length by omega), show x.getD i.toNat [] = rd_L3 x i from rfl]
   refine Ans.step ?_
   simp only [impl_column.l0, wrap64_up h0 (by omega : i ≤ 4611686018427387904)]
   exact y_ o_ (y_ h0 (y_ o_ (y_ hj (y_ (hr _ hm) (y_ o_ e)))))
 exact key x.length 0 [] o_ o_ (by simp only [List.length_nil]; omega)
theorem sgSquare (x : Tb_) (h : x.length ≤ 1048576) : Ans (fun k => spec_sgSquare.f k x) (decide (1 ≤ x.length ∧ x.length ≤ 6) && x.all fun r => decide (r.length = x.length)) := by
 have key : ∀ (d : Nat) (i : Int), 0 ≤ i → i + d = x.length → Ans (fun k => spec_sgSquare.l0 k x x (x.length : Int) i) ((x.drop i.toNat).all fun r => decide (r.length = x.length)) := by
  intro d
  induction d with
  | zero =>
   intro i h0 h1
   rw [List.drop_eq_nil_of_le o_]; refine Ans.step ?_
   simp only [spec_sgSquare.l0]; exact n_ o_ p_
  | succ d ih =>
   intro i h0 h1
   rw [drop_at x [] (show i.toNat < x.length by omega), show x.getD i.toNat [] = rd_L3 x i from rfl, List.all_cons]
   have e := ih (i + 1) o_ o_
   rw [show (i + 1).toNat = i.toNat + 1 by omega] at e
   refine Ans.step ?_
   simp only [spec_sgSquare.l0, wrap64_up h0 (by omega : i ≤ 4611686018427387904)]
   refine y_ o_ (y_ h0 (y_ o_ ?_))
   by_cases c : (rd_L3 x i).length = x.length
   ·rw [decide_eq_true c, Bool.true_and]; exact y_ o_ e
   ·rw [decide_eq_false c, Bool.false_and]; exact n_ o_ p_
 simp only [spec_sgSquare.f, l1In, Option.bind_some]
 by_cases c : decide ((1 : Int) ≤ (x.length : Int) ∧ (x.length : Int) ≤ 6) = true
 ·have b := of_decide_eq_true c
  rw [show decide (1 ≤ x.length ∧ x.length ≤ 6) = true from decide_eq_true ⟨o_, o_⟩, Bool.true_and]
  exact y_ c (key x.length 0 o_ o_)
 ·have b : ¬ ((1 : Int) ≤ (x.length : Int) ∧ (x.length : Int) ≤ 6) := fun h => c (decide_eq_true h)
  rw [show decide (1 ≤ x.length ∧ x.length ≤ 6) = false from decide_eq_false o_, Bool.false_and]
  exact n_ c p_
def sign (x : Tb_) : Bool :=
 (decide (1 ≤ x.length ∧ x.length ≤ 6) && x.all fun r => decide (r.length = x.length)) && (x.all (walkOk 0) && (List.range x.length).all fun (j : Nat) => walkOk 0 (colOf x j))
theorem square_of {x : Tb_} (h : (decide (1 ≤ x.length ∧ x.length ≤ 6) && x.all fun r => decide (r.length = x.length)) = true) : 1 ≤ x.length ∧ x.length ≤ 6 ∧ ∀ r ∈ x, r.length = x.length := by
 rw [Bool.and_eq_true] at h
 have b := of_decide_eq_true h.1
 exact ⟨b.1, b.2, fun r hr => of_decide_eq_true (List.all_eq_true.mp h.2 r hr)⟩
theorem sgGood (x : Tb_) (h : x.length ≤ 1048576) : Ans (fun k => spec_sgGood.f k x) (sign x) := by
 simp only [spec_sgGood.f]
 refine (sgSquare x h).bind ?_
 unfold sign
 by_cases c : (decide (1 ≤ x.length ∧ x.length ≤ 6) && x.all fun r => decide (r.length = x.length)) = true
 ·obtain ⟨b1, b2, b3⟩ := square_of c
  rw [c, Bool.true_and]
  refine y_ rfl ((sgRows x o_ (fun r hr => by have := b3 r hr; omega)).bind ?_)
  by_cases c2 : x.all (walkOk 0) = true
  ·rw [c2, Bool.true_and]
   have e := sgRows ((List.range x.length).map fun (j : Nat) => colOf x j) (by simp only [List.length_map, List.length_range]; omega) (fun r hr => by
    obtain ⟨j, _, rfl⟩ := List.mem_map.1 hr
    simp only [colOf, List.length_map]; omega)
   rw [List.all_map] at e
   exact y_ rfl ((sgTurn x h b3).bind (e.bind p_))
  ·rw [Bool.eq_false_iff.mpr c2, Bool.false_and]; exact n_ (by simp) p_
 ·rw [Bool.eq_false_iff.mpr c, Bool.false_and]; exact n_ (by simp) p_
theorem isSign (x : Tb_) (h : x.length ≤ 1048576) : Ans (fun k => impl_IsSignMatrix.f k x) (sign x) := by
 have no : Ans (fun k => impl_IsSignMatrix.j0 k x true) false := by
  refine Ans.step ?_; simp only [impl_IsSignMatrix.j0]; exact y_ (by simp) p_
 simp only [impl_IsSignMatrix.f, impl_isSide.f, within, Option.bind_some]
 by_cases c : decide ((1 : Int) ≤ (x.length : Int) ∧ (x.length : Int) ≤ 6) = true
 ·have b := of_decide_eq_true c
  refine y_ c ((isSquare x o_).bind ?_)
  unfold sign
  rw [show decide (1 ≤ x.length ∧ x.length ≤ 6) = true from decide_eq_true ⟨o_, o_⟩, Bool.true_and]
  by_cases c2 : (x.all fun r => decide (r.length = x.length)) = true
  ·rw [c2, Bool.true_and]
   have b3 : ∀ r ∈ x, r.length = x.length := fun r hr => of_decide_eq_true (List.all_eq_true.mp c2 r hr)
   have key : ∀ (d : Nat) (i : Int), 0 ≤ i → i + d = x.length → Ans (fun k => impl_IsSignMatrix.l0 k x (x.length : Int) i) ((x.drop i.toNat).all (walkOk 0) && ((List.range x.length).drop i.toNat).all fun (j : Nat) => walkOk 0 (colOf x j)) := by
    intro d
    induction d with
    | zero =>
     intro i h0 h1
     rw [List.drop_eq_nil_of_le o_, List.drop_eq_nil_of_le (by simp only [List.length_range]; omega)]; refine Ans.step ?_
     simp only [impl_IsSignMatrix.l0]; exact n_ o_ p_
    | succ d ih =>
     intro i h0 h1
     have hm := rd_L1_mem h0 (show i < x.length by omega)
     have e := ih (i + 1) o_ o_
     rw [show (i + 1).toNat = i.toNat + 1 by omega] at e
     rw [drop_at x [] (show i.toNat < x.length by omega), show x.getD i.toNat [] = rd_L3 x i from rfl, range_drop (show i.toNat < x.length by omega), List.all_cons, List.all_cons, show ((i.toNat : Nat) : Int) = i by omega]
     refine Ans.step ?_
     simp only [impl_IsSignMatrix.l0, wrap64_up h0 (by omega : i ≤ 4611686018427387904)]
     refine y_ o_ (y_ h0 (y_ o_ ((alternate _ (by have := b3 _ hm; omega)).bind ?_)))
     by_cases q1 : walkOk 0 (rd_L3 x i) = true
     ·rw [q1, Bool.true_and]
      refine y_ rfl ((column x i h h0 (fun r hr => by have := b3 r hr; omega)).bind ((alternate _ (by simp only [colOf, List.length_map]; omega)).bind ?_))
      by_cases q2 : walkOk 0 (colOf x i) = true
      ·rw [q2, Bool.true_and]; exact y_ rfl e
      ·rw [Bool.eq_false_iff.mpr q2, Bool.false_and, Bool.and_false]; exact n_ (by simp) p_
     ·rw [Bool.eq_false_iff.mpr q1, Bool.false_and, Bool.false_and]; exact n_ (by simp) p_
   refine Ans.step ?_
   simp only [impl_IsSignMatrix.j0]
   exact n_ (by simp) (key x.length 0 o_ o_)
  ·rw [Bool.eq_false_iff.mpr c2, Bool.false_and]; exact no
 ·have b : ¬ ((1 : Int) ≤ (x.length : Int) ∧ (x.length : Int) ≤ 6) := fun h => c (decide_eq_true h)
  unfold sign
  rw [show decide (1 ≤ x.length ∧ x.length ≤ 6) = false from decide_eq_false o_, Bool.false_and, Bool.false_and]
  exact n_ c no
def tab (r c : Nat) (v : Nat → Nat → Int) : Tb_ := (List.range r).map fun i => (List.range c).map fun j => v i j
theorem table_row (c : Nat) (hc : c ≤ 1048576) (g : Int → Int → Option Int) (v : Nat → Int) (n : Int) (i : Nat) (hi : i ≤ 1048576) (hg : ∀ j : Nat, j < c → g i j = some (v j)) {R : Tb_} :
  ∀ (d j : Nat) (y : Tb_), j + d = c → i < y.length → (y.getD i []).length = c → Ans (fun k => impl_table.l0 k c g (y.set i ((y.getD i []).take j ++ ((List.range c).drop j).map v)) n ((i + 1 : Nat) : Int)) R →
   Ans (fun k => impl_table.l1 k c g y i n i (c : Int) j) R := by
 intro d
 induction d with
 | zero =>
  intro j y h1 h2 h3 e
  rw [List.drop_eq_nil_of_le (by simp only [List.length_range]; omega), List.map_nil, List.append_nil, List.take_of_length_le o_, set_same y [] i h2] at e
  refine Ans.step ?_
  simp only [impl_table.l1, wrap64_up (show (0 : Int) ≤ (i : Int) by omega) (by omega : (i : Int) ≤ 4611686018427387904)]
  refine n_ o_ ?_
  rw [show ((i + 1 : Nat) : Int) = (i : Int) + 1 by omega] at e
  exact e
 | succ d ih =>
  intro j y h1 h2 h3 e
  have hrow : rd_L3 y (i : Int) = y.getD i [] := by unfold rd_L3; rw [Int.toNat_natCast]
  refine Ans.step ?_
  simp only [impl_table.l1, hg j o_, Option.bind_some, wrap64_up (show (0 : Int) ≤ (j : Int) by omega) (by omega : (j : Int) ≤ 4611686018427387904), hrow, Int.toNat_natCast]
  refine y_ o_ (y_ o_ (y_ o_ (y_ o_ (y_ o_ ?_))))
  have hj : j < (y.getD i []).length := by omega
  obtain ⟨t1, _⟩ := take_set_drop (y.getD i []) j (v j) hj
  have hget : (y.set i ((y.getD i []).set j (v j))).getD i [] = (y.getD i []).set j (v j) := by
   rw [getD_at _ _ (by simpa using h2)]; simp
  have := ih (j + 1) (y.set i ((y.getD i []).set j (v j))) o_ (by simpa using h2) (by rw [hget]; simpa using h3) (by
   rw [hget, List.set_set, t1, List.append_assoc]
   rw [range_drop (show j < c by omega), List.map_cons] at e
   exact e)
  rwa [show ((j + 1 : Nat) : Int) = (j : Int) + 1 by omega] at this
theorem table (r c : Nat) (hr : r ≤ 1048576) (hc : c ≤ 1048576) (g : Int → Int → Option Int) (v : Nat → Nat → Int) (hg : ∀ i j : Nat, i < r → j < c → g i j = some (v i j)) : Ans (fun k => impl_table.f k r c g) (tab r c v) := by
 have key : ∀ (d i : Nat) (y : Tb_), i + d = r → y.length = r → Ans (fun k => impl_table.l0 k c g y (r : Int) i) (y.take i ++ ((List.range r).drop i).map fun i => (List.range c).map fun j => v i j) := by
  intro d
  induction d with
  | zero =>
   intro i y h1 h2
   rw [List.drop_eq_nil_of_le (by simp only [List.length_range]; omega), List.map_nil, List.append_nil, List.take_of_length_le o_]; refine Ans.step ?_
   simp only [impl_table.l0]; exact n_ o_ p_
  | succ d ih =>
   intro i y h1 h2
   have hi : i < y.length := by omega
   have hget : (y.set i (List.replicate c 0)).getD i [] = List.replicate c 0 := by rw [getD_at _ _ (by simpa using hi)]; simp
   obtain ⟨t1, _⟩ := take_set_drop y i ((List.range c).map fun j => v i j) hi
   have e := ih (i + 1) (y.set i ((List.range c).map fun j => v i j)) o_ (by simpa using h2)
   rw [t1, List.append_assoc, List.singleton_append] at e
   rw [range_drop (show i < r by omega), List.map_cons]
   have hrow : rd_L3 (y.set i (List.replicate c 0)) (i : Int) = List.replicate c 0 := by unfold rd_L3; rw [Int.toNat_natCast]; exact hget
   refine Ans.step ?_
   simp only [impl_table.l0, Option.bind_some, Int.toNat_natCast, hrow, List.length_replicate]
   refine y_ o_ (y_ o_ (y_ o_ (y_ o_ (y_ o_ ?_))))
   have := table_row c hc g (v i) (r : Int) i o_ (fun j hj => hg i j o_ hj) c 0 (y.set i (List.replicate c 0)) o_ (by simpa using hi) (by rw [hget]; simp) (by
    rw [List.set_set, List.take_zero, List.drop_zero, List.nil_append]; exact e)
   exact this
 simp only [impl_table.f, Option.bind_some, Int.toNat_natCast, List.length_replicate]
 refine y_ o_ (y_ o_ ?_)
 have := key r 0 (List.replicate r []) o_ (by simp)
 simpa [tab] using this
theorem table_row2 (c : Nat) (hc : c ≤ 1048576) (g : Nat → Int → Int → Option Int) (v : Nat → Int) (n : Int) (i : Nat) (hi : i ≤ 1048576) (hg : ∀ j : Nat, j < c → Ans (fun q => g q i j) (v j)) {R : Tb_} :
  ∀ (d j : Nat) (y : Tb_), j + d = c → i < y.length → (y.getD i []).length = c → Ans2 (fun k q => impl_table.l0 k c (g q) (y.set i ((y.getD i []).take j ++ ((List.range c).drop j).map v)) n ((i + 1 : Nat) : Int)) R →
   Ans2 (fun k q => impl_table.l1 k c (g q) y i n i (c : Int) j) R := by
 intro d
 induction d with
 | zero =>
  intro j y h1 h2 h3 e
  rw [List.drop_eq_nil_of_le (by simp only [List.length_range]; omega), List.map_nil, List.append_nil, List.take_of_length_le o_, set_same y [] i h2] at e
  refine Ans2.step ?_
  simp only [impl_table.l1, wrap64_up (show (0 : Int) ≤ (i : Int) by omega) (by omega : (i : Int) ≤ 4611686018427387904)]
  refine Ans2.not o_ ?_
  rw [show ((i + 1 : Nat) : Int) = (i : Int) + 1 by omega] at e
  exact e
 | succ d ih =>
  intro j y h1 h2 h3 e
  have hrow : rd_L3 y (i : Int) = y.getD i [] := by unfold rd_L3; rw [Int.toNat_natCast]
  refine Ans2.step ?_
  simp only [impl_table.l1, wrap64_up (show (0 : Int) ≤ (j : Int) by omega) (by omega : (j : Int) ≤ 4611686018427387904), hrow, Int.toNat_natCast]
  refine Ans2.yes o_ (Ans2.yes o_ (Ans2.yes o_ ((Ans2.two (hg j o_)).bind (Ans2.yes o_ (Ans2.yes o_ ?_)))))
  have hj : j < (y.getD i []).length := by omega
  obtain ⟨t1, _⟩ := take_set_drop (y.getD i []) j (v j) hj
  have hget : (y.set i ((y.getD i []).set j (v j))).getD i [] = (y.getD i []).set j (v j) := by
   rw [getD_at _ _ (by simpa using h2)]; simp
  have := ih (j + 1) (y.set i ((y.getD i []).set j (v j))) o_ (by simpa using h2) (by rw [hget]; simpa using h3) (by
   rw [hget, List.set_set, t1, List.append_assoc]
   rw [range_drop (show j < c by omega), List.map_cons] at e
   exact e)
  rwa [show ((j + 1 : Nat) : Int) = (j : Int) + 1 by omega] at this
theorem table2 (r c : Nat) (hr : r ≤ 1048576) (hc : c ≤ 1048576) (g : Nat → Int → Int → Option Int) (v : Nat → Nat → Int) (hg : ∀ i j : Nat, i < r → j < c → Ans (fun q => g q i j) (v i j)) : Ans (fun k => impl_table.f k r c (g k)) (tab r c v) := by
 have key : ∀ (d i : Nat) (y : Tb_), i + d = r → y.length = r → Ans2 (fun k q => impl_table.l0 k c (g q) y (r : Int) i) (y.take i ++ ((List.range r).drop i).map fun i => (List.range c).map fun j => v i j) := by
  intro d
  induction d with
  | zero =>
   intro i y h1 h2
   rw [List.drop_eq_nil_of_le (by simp only [List.length_range]; omega), List.map_nil, List.append_nil, List.take_of_length_le o_]; refine Ans2.step ?_
   simp only [impl_table.l0]; exact Ans2.not o_ (Ans2.pure _)
  | succ d ih =>
   intro i y h1 h2
   have hi : i < y.length := by omega
   have hget : (y.set i (List.replicate c 0)).getD i [] = List.replicate c 0 := by rw [getD_at _ _ (by simpa using hi)]; simp
   obtain ⟨t1, _⟩ := take_set_drop y i ((List.range c).map fun j => v i j) hi
   have e := ih (i + 1) (y.set i ((List.range c).map fun j => v i j)) o_ (by simpa using h2)
   rw [t1, List.append_assoc, List.singleton_append] at e
   rw [range_drop (show i < r by omega), List.map_cons]
   have hrow : rd_L3 (y.set i (List.replicate c 0)) (i : Int) = List.replicate c 0 := by unfold rd_L3; rw [Int.toNat_natCast]; exact hget
   refine Ans2.step ?_
   simp only [impl_table.l0, Option.bind_some, Int.toNat_natCast, hrow, List.length_replicate]
   refine Ans2.yes o_ (Ans2.yes o_ (Ans2.yes o_ (Ans2.yes o_ (Ans2.yes o_ ?_))))
   have := table_row2 c hc g (v i) (r : Int) i o_ (fun j hj => hg i j o_ hj) c 0 (y.set i (List.replicate c 0)) o_ (by simpa using hi) (by rw [hget]; simp) (by
    rw [List.set_set, List.take_zero, List.drop_zero, List.nil_append]; exact e)
   exact this
 simp only [impl_table.f, Option.bind_some, Int.toNat_natCast, List.length_replicate]
 refine y_ o_ (y_ o_ ?_)
 have := (key r 0 (List.replicate r []) o_ (by simp)).join
 simpa [tab] using this
def Sq (n : Nat) (x : Tb_) : Prop := x.length = n ∧ ∀ r ∈ x, r.length = n
theorem Sq.row {n : Nat} {x : Tb_} (h : Sq n x) {i : Nat} (hi : i < n) : (x.getD i []).length = n := h.2 _ (getD_mem [] (by rw [h.1]; exact hi))
theorem tab_is {n : Nat} {y : Tb_} (h : Sq n y) (v : Nat → Nat → Int) (hv : ∀ i j : Nat, i < n → j < n → v i j = (y.getD i []).getD j 0) : tab n n v = y := by
 refine List.ext_getElem (by simp [tab, h.1]) fun i h1 h2 => ?_
 have hi : i < n := by rw [← h.1]; exact h2
 have hr := h.row hi
 rw [show (tab n n v)[i] = (List.range n).map (fun j => v i j) by simp [tab], ← getD_at y [] h2]
 refine List.ext_getElem (by simp only [List.length_map, List.length_range]; exact hr.symm) fun j g1 g2 => ?_
 rw [List.getElem_map, List.getElem_range, hv i j hi (by rw [← hr]; exact g2), getD_at _ _ g2]
theorem ext_sq {n : Nat} {x y : Tb_} (hx : Sq n x) (hy : Sq n y) (h : ∀ i j : Nat, i < n → j < n → (x.getD i []).getD j 0 = (y.getD i []).getD j 0) : x = y := by
 rw [← tab_is hx (fun i j => (x.getD i []).getD j 0) (fun _ _ _ _ => rfl), tab_is hy _ h]
def mir (x : Tb_) : Tb_ := x.map List.reverse
def tr (x : Tb_) : Tb_ := (List.range x.length).map fun (j : Nat) => colOf x j
def cw (x : Tb_) : Tb_ := mir (tr x)
theorem mir_sq {n : Nat} {x : Tb_} (h : Sq n x) : Sq n (mir x) := ⟨by simp [mir, h.1], fun r hr => by obtain ⟨a, ha, rfl⟩ := List.mem_map.1 hr; rw [List.length_reverse]; exact h.2 a ha⟩
theorem rev_at (x : List Int) {n j : Nat} (hl : x.length = n) (h : j < n) : x.reverse.getD j 0 = x.getD (n - 1 - j) 0 := by
 rw [getD_at _ _ (by simp; omega), getD_at _ _ o_, List.getElem_reverse]; congr 1; omega
theorem mir_at {n : Nat} {x : Tb_} (h : Sq n x) {i j : Nat} (hi : i < n) (hj : j < n) : ((mir x).getD i []).getD j 0 = (x.getD i []).getD (n - 1 - j) 0 := by
 rw [show (mir x).getD i [] = (x.getD i []).reverse by rw [getD_at _ _ (by simp [mir, h.1]; exact hi), getD_at _ _ (by rw [h.1]; exact hi)]; simp [mir], rev_at _ (h.row hi) hj]
theorem mirrored (n : Nat) (x : Tb_) (h : Sq n x) (hn : n ≤ 1048576) : Ans (fun k => impl_mirrored.f k x) (mir x) := by
 simp only [impl_mirrored.f, h.1]
 have hg : ∀ i j : Nat, i < n → j < n → impl_mirrored_1.f i j x (n : Int) = some ((x.getD i []).getD (n - 1 - j) 0) := by
  intro i j hi hj
  have w1 : wrap64 ((n : Int) - 1) = (n : Int) - 1 := wrap64_in _ ⟨o_, o_⟩
  have w2 : wrap64 ((n : Int) - 1 - (j : Int)) = ((n - 1 - j : Nat) : Int) := by rw [wrap64_in _ ⟨o_, o_⟩]; omega
  have hr : (rd_L3 x (i : Int)).length = n := h.2 _ (rd_L1_mem o_ (by rw [h.1]; omega))
  have hl := h.1
  simp only [impl_mirrored_1.f, w1, w2]
  rw [if_pos o_, if_pos o_, if_pos o_, if_pos o_]
  simp only [rd, rd_L3, Int.toNat_natCast]
 have e := table n n hn hn (fun x0_ x1_ => impl_mirrored_1.f x0_ x1_ x (n : Int)) _ hg
 rw [tab_is (mir_sq h) _ (fun i j hi hj => by rw [mir_at h hi hj])] at e
 exact e.bind p_
theorem sign_sq {x : Tb_} (s : sign x = true) : Sq x.length x ∧ x.length ≤ 6 := by
 unfold sign at s
 rw [Bool.and_eq_true] at s
 obtain ⟨b1, b2, b3⟩ := square_of s.1
 exact ⟨⟨rfl, b3⟩, b2⟩
def S : Nat → (Nat → Int) → Int
 | 0, _ => 0
 | n + 1, f => S n f + f n
theorem S_congr {f g : Nat → Int} : ∀ {n : Nat}, (∀ i, i < n → f i = g i) → S n f = S n g
 | 0, _ => rfl
 | n + 1, h => by rw [S, S, S_congr (fun i hi => h i o_), h n o_]
theorem S_add (f g : Nat → Int) : ∀ n, S n (fun i => f i + g i) = S n f + S n g
 | 0 => rfl
 | n + 1 => by rw [S, S, S, S_add f g n]; omega
theorem S_zero : ∀ n, S n (fun _ => 0) = 0
 | 0 => rfl
 | n + 1 => by rw [S, S_zero n]; rfl
theorem S_comm (F : Nat → Nat → Int) (m : Nat) : ∀ n, S n (fun i => S m (fun j => F i j)) = S m (fun j => S n (fun i => F i j))
 | 0 => by simp only [S]; rw [S_zero]
 | n + 1 => by rw [S, S_comm F m n, ← S_add]; rfl
theorem S_front (f : Nat → Int) : ∀ n, S (n + 1) f = f 0 + S n (fun i => f (i + 1))
 | 0 => by simp [S]
 | n + 1 => by rw [S, S_front f n, S]; omega
def T (n : Nat) (F : Nat → Nat → Int) : Int := S n (fun i => S i (fun k => F i k))
theorem S_rev (f : Nat → Int) : ∀ n, S n (fun j => f (n - 1 - j)) = S n f
 | 0 => rfl
 | n + 1 => by
  rw [S_front, S, Nat.add_sub_cancel, Nat.sub_zero, ← S_rev f n, S_congr (f := fun i => f (n - (i + 1))) (g := fun j => f (n - 1 - j)) (fun i hi => by rw [show n - (i + 1) = n - 1 - i by omega])]
  omega
theorem S_bound {f : Nat → Int} {B : Int} : ∀ {n : Nat}, (∀ i, i < n → -B ≤ f i ∧ f i ≤ B) → -(B * n) ≤ S n f ∧ S n f ≤ B * n
 | 0, _ => by simp [S]
 | n + 1, h => by
  have a := S_bound (fun i hi => h i (by omega : i < n + 1)) (n := n)
  have b := h n o_
  rw [S, Int.natCast_add, Int.natCast_one, Int.mul_add, Int.mul_one]; omega
def en (x : Tb_) (i j : Nat) : Int := (x.getD i []).getD j 0
theorem mir_en {n : Nat} {x : Tb_} (h : Sq n x) {i j : Nat} (hi : i < n) (hj : j < n) : en (mir x) i j = en x i (n - 1 - j) := mir_at h hi hj
theorem walk_pre : ∀ (c : List Int) (s : Int), 0 ≤ s → s ≤ 1 → walkOk s c = true → (∀ i, i < c.length → (-1 ≤ c.getD i 0 ∧ c.getD i 0 ≤ 1) ∧ 0 ≤ s + S i (fun k => c.getD k 0) ∧ s + S i (fun k => c.getD k 0) ≤ 1 ∧ 0 ≤ s + S i (fun k => c.getD k 0) + c.getD i 0 ∧ s + S i (fun k => c.getD k 0) + c.getD i 0 ≤ 1) ∧ s + S c.length (fun k => c.getD k 0) = 1
 | [], s, _, _, h => ⟨fun i hi => absurd hi (by simp), by simp only [walkOk, beq_iff_eq] at h; simp [S, h]⟩
 | a :: c, s, h0, h1, h => by
  simp only [walkOk, Bool.and_eq_true, decide_eq_true_eq] at h
  obtain ⟨b1, b2, b3⟩ := h
  have ih := walk_pre c (s + a) b2.1 b2.2 b3
  have fr : ∀ m, S (m + 1) (fun k => (a :: c).getD k 0) = a + S m (fun k => c.getD k 0) := fun m => S_front _ m
  refine ⟨fun i hi => ?_, by rw [List.length_cons, fr]; omega⟩
  cases i with
  | zero => simp only [S, List.getD_cons_zero]; omega
  | succ i =>
   have := ih.1 i (by simpa using hi)
   rw [fr, List.getD_cons_succ]; omega
theorem sign_en {x : Tb_} (s : sign x = true) {n : Nat} (hn : x.length = n) : Sq n x ∧ 1 ≤ n ∧ n ≤ 6 ∧
  (∀ i j, i < n → j < n → (-1 ≤ en x i j ∧ en x i j ≤ 1) ∧ (0 ≤ S j (en x i) ∧ S j (en x i) ≤ 1 ∧ 0 ≤ S j (en x i) + en x i j ∧ S j (en x i) + en x i j ≤ 1) ∧ (0 ≤ S i (fun k => en x k j) ∧ S i (fun k => en x k j) ≤ 1 ∧ 0 ≤ S i (fun k => en x k j) + en x i j ∧ S i (fun k => en x k j) + en x i j ≤ 1)) ∧
  (∀ i, i < n → S n (en x i) = 1) ∧ ∀ j, j < n → S n (fun k => en x k j) = 1 := by
 subst hn
 have s' := s
 unfold sign at s'
 simp only [Bool.and_eq_true] at s'
 obtain ⟨h1, h2, q⟩ := square_of (show (decide (1 ≤ x.length ∧ x.length ≤ 6) && x.all fun r => decide (r.length = x.length)) = true by simp only [Bool.and_eq_true]; exact s'.1)
 have sq : Sq x.length x := ⟨rfl, q⟩
 have R : ∀ i, i < x.length → walkOk 0 (x.getD i []) = true := fun i hi => List.all_eq_true.mp s'.2.1 _ (getD_mem [] hi)
 have C : ∀ j, j < x.length → walkOk 0 (colOf x j) = true := fun j hj => List.all_eq_true.mp s'.2.2 j (List.mem_range.mpr hj)
 have ce : ∀ i j, i < x.length → (colOf x (j : Nat)).getD i 0 = en x i j := fun i j hi => by
  rw [getD_at _ _ (by simpa [colOf] using hi)]
  simp only [colOf, List.getElem_map, rd, Int.toNat_natCast, en]
  rw [getD_at x [] hi]
 have cl : ∀ j : Nat, (colOf x j).length = x.length := fun j => by simp [colOf]
 refine ⟨sq, h1, h2, fun i j hi hj => ?_, fun i hi => ?_, fun j hj => ?_⟩
 ·have a := (walk_pre _ 0 o_ o_ (R i hi)).1 j (by rw [sq.row hi]; exact hj)
  have b := (walk_pre _ 0 o_ o_ (C j hj)).1 i (by rw [cl]; exact hi)
  rw [S_congr (fun k hk => ce k j (by omega : k < x.length)), ce i j hi] at b
  have e : S j (en x i) = S j (fun k => (x.getD i []).getD k 0) := rfl
  rw [e]
  have e2 : en x i j = (x.getD i []).getD j 0 := rfl
  rw [← e2] at a
  omega
 ·have a := (walk_pre _ 0 o_ o_ (R i hi)).2
  rw [sq.row hi] at a
  have e : S x.length (en x i) = S x.length (fun k => (x.getD i []).getD k 0) := rfl
  omega
 ·have b := (walk_pre _ 0 o_ o_ (C j hj)).2
  rw [cl, S_congr (fun k hk => ce k j hk)] at b
  omega
theorem ext_en {n : Nat} {x y : Tb_} (hx : Sq n x) (hy : Sq n y) (h : ∀ i j : Nat, i < n → j < n → en x i j = en y i j) : x = y := ext_sq hx hy h
theorem S_split (f : Nat → Int) (a : Nat) : ∀ b, S (a + b) f = S a f + S b (fun t => f (a + t))
 | 0 => by simp [S]
 | b + 1 => by rw [← Nat.add_assoc, S, S_split f a b, S]; omega
theorem walk_of : ∀ (c : List Int) (s : Int), (∀ i, i < c.length → (-1 ≤ c.getD i 0 ∧ c.getD i 0 ≤ 1) ∧ 0 ≤ s + S (i + 1) (fun k => c.getD k 0) ∧ s + S (i + 1) (fun k => c.getD k 0) ≤ 1) → s + S c.length (fun k => c.getD k 0) = 1 → walkOk s c = true
 | [], s, _, h => by simp only [List.length_nil, S] at h; simp only [walkOk, beq_iff_eq]; omega
 | a :: c, s, h, t => by
  have fr : ∀ m, S (m + 1) (fun k => (a :: c).getD k 0) = a + S m (fun k => c.getD k 0) := fun m => S_front _ m
  have h0 := h 0 (by simp)
  rw [fr] at h0
  simp only [S, List.getD_cons_zero] at h0
  simp only [walkOk, Bool.and_eq_true, decide_eq_true_eq]
  refine ⟨h0.1, by omega, walk_of c (s + a) (fun i hi => ?_) (by rw [List.length_cons, fr] at t; omega)⟩
  have := h (i + 1) (by simpa using hi)
  rw [fr, List.getD_cons_succ] at this
  omega
theorem walk_rev {c : List Int} (h : walkOk 0 c = true) : walkOk 0 c.reverse = true := by
 obtain ⟨a, b⟩ := walk_pre c 0 o_ o_ h
 have rv : ∀ k, k < c.length → c.reverse.getD k 0 = c.getD (c.length - 1 - k) 0 := fun k hk => rev_at c rfl hk
 have pr : ∀ i, i ≤ c.length → S i (fun k => c.reverse.getD k 0) = S c.length (fun k => c.getD k 0) - S (c.length - i) (fun k => c.getD k 0) := fun i hi => by
  have e := S_split (fun k => c.getD k 0) (c.length - i) i
  rw [show c.length - i + i = c.length by omega, ← S_rev (fun t => c.getD (c.length - i + t) 0) i] at e
  rw [S_congr (g := fun j => c.getD (c.length - i + (i - 1 - j)) 0) (fun k hk => by rw [rv k o_]; congr 1; omega)]
  omega
 refine walk_of _ 0 (fun i hi => ?_) ?_
 ·rw [List.length_reverse] at hi
  have h1 := a (c.length - 1 - i) o_
  rw [rv i hi, pr (i + 1) o_, show c.length - (i + 1) = c.length - 1 - i by omega]
  omega
 ·rw [List.length_reverse, pr c.length (Nat.le_refl _), Nat.sub_self]; simp only [S]; omega
theorem sign_of {n : Nat} {x : Tb_} (h : Sq n x) (h1 : 1 ≤ n) (h2 : n ≤ 6) (R : ∀ r ∈ x, walkOk 0 r = true) (C : ∀ j : Nat, j < n → walkOk 0 (colOf x j) = true) : sign x = true := by
 have hl := h.1
 unfold sign
 simp only [Bool.and_eq_true, decide_eq_true_eq, List.all_eq_true, List.mem_range]
 exact ⟨⟨by omega, fun r hr => by rw [h.2 r hr, hl]⟩, R, fun j hj => C j o_⟩
theorem sign_parts {x : Tb_} (s : sign x = true) {n : Nat} (hn : x.length = n) : Sq n x ∧ 1 ≤ n ∧ n ≤ 6 ∧ (∀ r ∈ x, walkOk 0 r = true) ∧ ∀ j : Nat, j < n → walkOk 0 (colOf x j) = true := by
 subst hn
 obtain ⟨q, h1, h2, _⟩ := sign_en s rfl
 unfold sign at s
 simp only [Bool.and_eq_true, List.all_eq_true, List.mem_range] at s
 exact ⟨q, h1, h2, s.2.1, s.2.2⟩
theorem col_at (x : Tb_) (j i : Nat) (hi : i < x.length) : (colOf x (j : Nat)).getD i 0 = en x i j := by
 rw [getD_at _ _ (by simpa [colOf] using hi)]
 simp only [colOf, List.getElem_map, rd, Int.toNat_natCast, en]
 rw [getD_at x [] hi]
theorem list_ext {a b : List Int} {n : Nat} (ha : a.length = n) (hb : b.length = n) (h : ∀ i, i < n → a.getD i 0 = b.getD i 0) : a = b :=
 List.ext_getElem o_ fun i h1 h2 => by have := h i o_; rwa [getD_at _ _ h1, getD_at _ _ h2] at this
theorem sign_mir {x : Tb_} (s : sign x = true) : sign (mir x) = true := by
 obtain ⟨q, h1, h2, R, C⟩ := sign_parts s rfl
 refine sign_of (mir_sq q) h1 h2 (fun r hr => ?_) (fun j hj => ?_)
 ·obtain ⟨a, ha, rfl⟩ := List.mem_map.1 hr
  exact walk_rev (R a ha)
 ·have : colOf (mir x) (j : Nat) = colOf x ((x.length - 1 - j : Nat) : Int) := list_ext (n := x.length) (by simp [colOf, mir]) (by simp [colOf]) fun i hi => by
   rw [col_at _ _ _ (by simpa [mir] using hi), col_at _ _ _ hi, mir_en q hi hj]
  rw [this]; exact C _ o_
theorem wrap_add (a b : Int) : wrap64 (wrap64 a + b) = wrap64 (a + b) := by unfold wrap64; omega
theorem sumOf (r : List Int) (hr : r.length ≤ 1048576) : Ans (fun k => impl_sum.f k r) (wrap64 (S r.length (fun t => r.getD t 0))) := by
 have key : ∀ (d i : Nat) (a : Int), i + d = r.length → Ans (fun k => impl_sum.l0 k (wrap64 a) r (r.length : Int) (i : Int)) (wrap64 (a + S d (fun t => r.getD (i + t) 0))) := by
  intro d
  induction d with
  | zero =>
   intro i a h
   refine Ans.step ?_
   simp only [impl_sum.l0, S, Int.add_zero]
   exact n_ o_ p_
  | succ d ih =>
   intro i a h
   have e := ih (i + 1) (a + r.getD i 0) o_
   rw [S_front, Nat.add_zero, ← Int.add_assoc, S_congr (f := fun t => r.getD (i + (t + 1)) 0) (g := fun t => r.getD (i + 1 + t) 0) (fun t _ => by congr 1; omega)]
   rw [show ((i + 1 : Nat) : Int) = (i : Int) + 1 by omega] at e
   refine Ans.step ?_
   simp only [impl_sum.l0, wrap64_up (show (0 : Int) ≤ i by omega) o_]
   refine y_ o_ (y_ o_ (y_ o_ ?_))
   rw [show rd r (i : Int) = r.getD i 0 by simp only [rd, Int.toNat_natCast], wrap_add]
   exact e
 have := key r.length 0 0 o_
 rw [show wrap64 0 = 0 from wrap64_in 0 ⟨o_, o_⟩, Int.zero_add, S_congr (g := fun t => r.getD t 0) (fun t _ => by rw [Nat.zero_add])] at this
 exact this
theorem draw_next (c : List Int) (hc : ∀ x ∈ c, (Lit.int .u8 x).wf = true) (a s : Int) (h0 : 0 ≤ a) (h1 : a ≤ 2305843009213693952) : ∃ b s', spec_l1Cur_next.f c a s = some (b, a + 1, s') ∧ 0 ≤ b ∧ b ≤ 255 := by
 have hw : wrap64 (a + 1) = a + 1 := wrap64_in _ ⟨o_, o_⟩
 simp only [spec_l1Cur_next.f, hw]
 by_cases c1 : a < (c.length : Int)
 ·have hr := byte_wf (hc (rd c a) (getD_mem 0 o_))
  have hw2 : wrap64 (rd c a) = rd c a := wrap64_in _ ⟨o_, o_⟩
  rw [if_pos c1, if_pos h0, if_pos o_]
  exact ⟨_, _, rfl, by rw [hw2]; exact hr.1, by rw [hw2]; exact hr.2⟩
 ·rw [if_neg c1, if_neg o_]
  exact ⟨_, _, rfl, (byte_and _).1, (byte_and _).2⟩
theorem tmod_in {x n : Int} (h : 0 ≤ x) (hn : 1 < n) : 0 ≤ Int.tmod x n ∧ Int.tmod x n < n := ⟨Int.tmod_nonneg _ h, Int.tmod_lt_of_pos _ o_⟩
theorem draw_pick (c : List Int) (hc : ∀ x ∈ c, (Lit.int .u8 x).wf = true) (a s n : Int) (h0 : 0 ≤ a) (h1 : a ≤ 1152921504606846976) : ∃ v a' s', spec_l1Cur_pick.f c a s n = some (v, a', s') ∧ a ≤ a' ∧ a' ≤ a + 2 ∧ 0 ≤ v ∧ (v < n ∨ v = 0) := by
 simp only [spec_l1Cur_pick.f]
 by_cases c1 : n ≤ 1
 ·rw [if_pos c1]; exact ⟨_, _, _, rfl, by omega, by omega, by omega, by omega⟩
 ·rw [if_neg c1]
  obtain ⟨b, s1, e1, b0, b1⟩ := draw_next c hc a s h0 o_
  rw [e1]; simp only [Option.bind_some]
  by_cases c2 : n > 200
  ·rw [if_pos c2]
   obtain ⟨b', s2, e2, b0', b1'⟩ := draw_next c hc (a + 1) s1 o_ o_
   rw [e2]; simp only [Option.bind_some]
   rw [if_neg o_, wrap64_in (b * 256) ⟨o_, o_⟩, wrap64_in (b * 256 + b') ⟨o_, o_⟩]
   have := tmod_in (x := b * 256 + b') (n := n) o_ o_
   exact ⟨_, _, _, rfl, by omega, by omega, this.1, .inl this.2⟩
  ·rw [if_neg c2, if_neg o_]
   have := tmod_in (x := b) (n := n) o_ o_
   exact ⟨_, _, _, rfl, by omega, by omega, this.1, .inl this.2⟩
theorem draw_one (c : List Int) (hc : ∀ x ∈ c, (Lit.int .u8 x).wf = true) (a s n : Int) (h0 : 0 ≤ a) (h1 : a ≤ 1152921504606846976) : ∃ v a' s', spec_l1Cur_one.f c a s n = some (v, a', s') ∧ a ≤ a' ∧ a' ≤ a + 2 := by
 obtain ⟨v, a', s', e, h2, h3, _⟩ := draw_pick c hc a s n h0 h1
 simp only [spec_l1Cur_one.f, e, Option.bind_some]
 exact ⟨_, _, _, rfl, h2, h3⟩
theorem draw_among (c : List Int) (hc : ∀ x ∈ c, (Lit.int .u8 x).wf = true) (a s : Int) (l : List Int) (hl : 0 < l.length) (h0 : 0 ≤ a) (h1 : a ≤ 1152921504606846976) : ∃ v a' s', spec_l1Cur_among.f c a s l = some (v, a', s') ∧ a ≤ a' ∧ a' ≤ a + 2 ∧ v ∈ l := by
 obtain ⟨v, a', s', e, h2, h3, h4, h5⟩ := draw_pick c hc a s (l.length : Int) h0 h1
 simp only [spec_l1Cur_among.f, e, Option.bind_some]
 rw [if_pos h4, if_pos o_]
 exact ⟨_, _, _, rfl, h2, h3, getD_mem 0 o_⟩
theorem put_sq {n : Nat} {y : Tb_} (h : Sq n y) (i j : Nat) (hi : i < n) (hj : j < n) (v : Int) : Sq n (y.set i ((y.getD i []).set j v)) ∧
  ∀ a b : Nat, a < n → b < n → ((y.set i ((y.getD i []).set j v)).getD a []).getD b 0 = if a = i ∧ b = j then v else (y.getD a []).getD b 0 := by
 have hr := h.row hi
 refine ⟨⟨by rw [List.length_set]; exact h.1, fun r hr' => ?_⟩, fun a b ha hb => ?_⟩
 ·rcases List.mem_or_eq_of_mem_set hr' with h1 | h1
  ·exact h.2 r h1
  ·rw [h1, List.length_set]; exact hr
 ·have ra := h.row ha
  by_cases e : i = a
  ·subst e
   rw [show (y.set i ((y.getD i []).set j v)).getD i [] = (y.getD i []).set j v from by rw [getD_at (y.set i _) [] (by rw [List.length_set, h.1]; exact hi), List.getElem_set_self]]
   by_cases e2 : j = b
   ·subst e2; rw [if_pos ⟨rfl, rfl⟩, getD_at _ _ (by rw [List.length_set, hr]; exact hj), List.getElem_set_self]
   ·rw [if_neg (fun h => e2 h.2.symm), getD_at _ _ (by rw [List.length_set, hr]; exact hb), List.getElem_set_ne e2, ← getD_at _ 0 (by rw [hr]; exact hb)]
  ·rw [if_neg (fun h => e h.1.symm), getD_at _ [] (by rw [List.length_set, h.1]; exact ha), List.getElem_set_ne e, ← getD_at y [] (by rw [h.1]; exact ha)]
theorem rep_sq (n : Nat) (v : Int) : Sq n (List.replicate n (List.replicate n v)) := ⟨by simp, fun r hr => by rw [List.eq_of_mem_replicate hr]; simp⟩
theorem sgZero (n : Nat) (hn : n ≤ 1000) : Ans (fun k => spec_sgZero.f k n) (List.replicate n (List.replicate n 0)) := by
 have key : ∀ (d i : Nat), i + d = n → Ans (fun k => spec_sgZero.l0 k n (List.replicate i (List.replicate n 0)) (i : Int)) (List.replicate n (List.replicate n 0)) := by
  intro d
  induction d with
  | zero =>
   intro i h
   obtain rfl : i = n := by omega
   exact Ans.step (by simp only [spec_sgZero.l0]; exact n_ o_ p_)
  | succ d ih =>
   intro i h
   have e := ih (i + 1) o_
   refine Ans.step ?_
   simp only [spec_sgZero.l0, wrap64_up (show (0 : Int) ≤ i by omega) o_, Int.toNat_natCast]
   rw [List.replicate_succ', show ((i + 1 : Nat) : Int) = (i : Int) + 1 by omega] at e
   exact y_ o_ (y_ o_ (y_ o_ (y_ (by rw [List.length_replicate]; omega) e)))
 exact key n 0 o_
def sgat (x : Tb_) (i j : Int) : Int := if i < 0 then 0 else if j < 0 then 0 else rd (rd_L3 x i) j
theorem sgAt {n : Nat} {x : Tb_} (h : Sq n x) (i j : Int) (hi : i < n) (hj : j < n) : spec_sgAt.f x i j = some (sgat x i j) := by
 simp only [spec_sgAt.f, sgat]
 by_cases c1 : i < 0
 ·rw [if_pos c1, if_pos c1]
 ·by_cases c2 : j < 0
  ·rw [if_neg c1, if_neg c1, if_pos c2, if_pos c2]
  ·have hr : (rd_L3 x i).length = n := h.row o_
   rw [if_neg c1, if_neg c1, if_neg c2, if_neg c2, if_pos o_, if_pos (by have := h.1; omega), if_pos o_, if_pos o_]
def diff (x : Tb_) (i j : Int) : Int := wrap64 (wrap64 (wrap64 (sgat x i j - sgat x (i - 1) j) - sgat x i (j - 1)) + sgat x (i - 1) (j - 1))
def frm (x : Tb_) : Tb_ := tab x.length x.length (fun i j => diff x i j)
theorem tab_sq (n : Nat) (v : Nat → Nat → Int) : Sq n (tab n n v) := ⟨by simp [tab], fun r hr => by obtain ⟨a, _, rfl⟩ := List.mem_map.1 hr; simp⟩
theorem sgFrom (n : Nat) (x : Tb_) (h : Sq n x) (hn : n ≤ 1000) : Ans (fun k => spec_sgFrom.f k x) (frm x) := by
 have hx := h.1
 have inner : ∀ (i : Nat), i < n → ∀ (d j : Nat) (y : Tb_), j + d = n → Sq n y → (∀ a b : Nat, a < n → b < n → (a < i ∨ a = i ∧ b < j) → (y.getD a []).getD b 0 = diff x a b) →
   (∀ y', Sq n y' → (∀ a b : Nat, a < n → b < n → a < i + 1 → (y'.getD a []).getD b 0 = diff x a b) → Ans (fun k => spec_sgFrom.l0 k x y' (n : Int) ((i + 1 : Nat) : Int)) (frm x)) →
   Ans (fun k => spec_sgFrom.l1 k x y (i : Int) (n : Int) (i : Int) (n : Int) (j : Int)) (frm x) := by
  intro i hi d
  induction d with
  | zero =>
   intro j y hj hy hv nx
   refine Ans.step ?_
   simp only [spec_sgFrom.l1, wrap64_up (show (0 : Int) ≤ i by omega) o_]
   have := nx y hy (fun a b ha hb hlt => hv a b ha hb o_)
   rw [show ((i + 1 : Nat) : Int) = (i : Int) + 1 by omega] at this
   exact n_ o_ this
  | succ d ih =>
   intro j y hj hy hv nx
   obtain ⟨q1, q2⟩ := put_sq hy i j hi o_ (diff x i j)
   have e := ih (j + 1) _ o_ q1 (fun a b ha hb hlt => by
    rw [q2 a b ha hb]
    by_cases c : a = i ∧ b = j
    ·rw [if_pos c, c.1, c.2]
    ·rw [if_neg c]; exact hv a b ha hb o_) nx
   have hr : (rd_L3 y (i : Int)).length = n := by unfold rd_L3; rw [Int.toNat_natCast]; exact hy.row hi
   have w1 : wrap64 ((i : Int) - 1) = (i : Int) - 1 := wrap64_in _ ⟨o_, o_⟩
   have w2 : wrap64 ((j : Int) - 1) = (j : Int) - 1 := wrap64_in _ ⟨o_, o_⟩
   refine Ans.step ?_
   simp only [spec_sgFrom.l1, w1, w2, wrap64_up (show (0 : Int) ≤ j by omega) o_, sgAt h i j o_ o_, sgAt h ((i : Int) - 1) j o_ o_, sgAt h i ((j : Int) - 1) o_ o_, sgAt h ((i : Int) - 1) ((j : Int) - 1) o_ o_, Option.bind_some, Int.toNat_natCast]
   rw [show ((j + 1 : Nat) : Int) = (j : Int) + 1 by omega] at e
   exact y_ o_ (y_ o_ (y_ (by have := hy.1; omega) (y_ o_ (y_ o_ e))))
 have key : ∀ (d i : Nat) (y : Tb_), i + d = n → Sq n y → (∀ a b : Nat, a < n → b < n → a < i → (y.getD a []).getD b 0 = diff x a b) → Ans (fun k => spec_sgFrom.l0 k x y (n : Int) (i : Int)) (frm x) := by
  intro d
  induction d with
  | zero =>
   intro i y h1 hy hv
   have : y = frm x := by unfold frm; rw [hx]; exact (tab_is hy _ (fun a b ha hb => (hv a b ha hb o_).symm)).symm
   rw [this]
   exact Ans.step (by simp only [spec_sgFrom.l0]; exact n_ o_ p_)
  | succ d ih =>
   intro i y h1 hy hv
   refine Ans.step ?_
   simp only [spec_sgFrom.l0, hx]
   exact y_ o_ (inner i o_ n 0 y o_ hy (fun a b ha hb hlt => hv a b ha hb o_) (fun y' hy' hv' => ih (i + 1) y' o_ hy' hv'))
 simp only [spec_sgFrom.f, hx]
 exact (sgZero n hn).bind (by
  have := key n 0 (List.replicate n (List.replicate n 0)) o_ (rep_sq n 0) (fun a b ha hb hlt => by omega)
  simpa [rep_sq] using this)
theorem frm_sq {n : Nat} {x : Tb_} (h : Sq n x) : Sq n (frm x) := by unfold frm; rw [h.1]; exact tab_sq n _
def corn (n : Nat) : Tb_ := tab n n (fun i j => ((min i j : Nat) : Int) + 1)
theorem corn_sign : ∀ n : Nat, 1 ≤ n → n ≤ 6 → sign (frm (corn n)) = true := by
 intro n h1 h2
 rcases (show n = 1 ∨ n = 2 ∨ n = 3 ∨ n = 4 ∨ n = 5 ∨ n = 6 by omega) with rfl | rfl | rfl | rfl | rfl | rfl
 all_goals decide +kernel
def InZ (x : Tb_) : Prop := ∀ r ∈ x, ∀ v ∈ r, -9223372036854775808 ≤ v ∧ v ≤ 9223372036854775807
theorem wrap64_range (n : Int) : -9223372036854775808 ≤ wrap64 n ∧ wrap64 n ≤ 9223372036854775807 := by unfold wrap64; omega
theorem InZ.put {x : Tb_} (h : InZ x) (i j : Nat) (hi : i < x.length) (n : Int) : InZ (x.set i ((x.getD i []).set j (wrap64 n))) := by
 intro r hr v hv
 rcases List.mem_or_eq_of_mem_set hr with h1 | h1
 ·exact h r h1 v hv
 ·subst h1
  rcases List.mem_or_eq_of_mem_set hv with h2 | h2
  ·exact h _ (getD_mem [] hi) v h2
  ·rw [h2]; exact wrap64_range n
theorem draw_sure (c : List Int) (hc : ∀ x ∈ c, (Lit.int .u8 x).wf = true) (a s : Int) (n : Nat) (hn : 1 ≤ n) (hn2 : n ≤ 6) (h0 : 0 ≤ a) (h1 : a ≤ 1000000000000) :
  ∃ m a' s', Ans (fun k => spec_l1Cur_sure.f k c a s n) (m, a', s') ∧ a ≤ a' ∧ a' ≤ a + 1000 ∧ Sq n m ∧ sign m = true := by

 have flips : ∀ (d : Nat) (x : Tb_) (a s : Int), Sq n x → InZ x → sign (frm x) = true → 0 ≤ a → a + 6 * d ≤ 1000000002000 →
   ∃ m a' s', Ans (fun k => spec_l1Cur_sure.l2 k n x (d : Int) c a s) (m, a', s') ∧ a ≤ a' ∧ a' ≤ a + 6 * d ∧ Sq n m ∧ sign m = true := by
  intro d
  induction d with
  | zero =>
   intro x a s hx hz hs h0 h1
   refine ⟨frm x, a, s, Ans.step ?_, by omega, by omega, frm_sq hx, hs⟩
   simp only [spec_l1Cur_sure.l2]
   refine n_ o_ (Ans.step ?_)
   simp only [spec_l1Cur_sure.j3]
   exact n_ (by simp) ((sgFrom n x hx o_).bind p_)
  | succ d ih =>
   intro x a s hx hz hs h0 h1
   by_cases c1 : (n : Int) > 1
   ·have wn : wrap64 ((n : Int) - 1) = (n : Int) - 1 := wrap64_in _ ⟨o_, o_⟩
    obtain ⟨i, a1, s1, e1, p1, q1, i0, i1⟩ := draw_pick c hc a s ((n : Int) - 1) h0 o_
    obtain ⟨j, a2, s2, e2, p2, q2, j0, j1⟩ := draw_pick c hc a1 s1 ((n : Int) - 1) o_ o_
    obtain ⟨v, a3, s3, e3, p3, q3, v0, v1⟩ := draw_pick c hc a2 s2 2 o_ o_
    have hr : (rd_L3 x i).length = n := hx.row o_
    have hl := hx.1
    obtain ⟨y, hy⟩ : ∃ y, y = x.set i.toNat ((rd_L3 x i).set j.toNat (wrap64 ((rd (rd_L3 x i) j) + (wrap64 ((wrap64 (2 * v)) - 1))))) := ⟨_, rfl⟩
    have ys : Sq n y := by rw [hy]; exact (put_sq hx i.toNat j.toNat o_ o_ _).1
    have yz : InZ y := by rw [hy]; exact hz.put i.toNat j.toNat o_ _
    have wd : wrap64 (((d + 1 : Nat) : Int) - 1) = d := by rw [wrap64_in _ ⟨o_, o_⟩]; omega
    by_cases c2 : sign (frm y) = true
    ·obtain ⟨m, a', s', e, g1, g2, g3, g4⟩ := ih y a3 s3 ys yz c2 o_ o_
     refine ⟨m, a', s', Ans.step ?_, by omega, by omega, g3, g4⟩
     simp only [spec_l1Cur_sure.l2]
     refine y_ o_ (Ans.step ?_)
     simp only [spec_l1Cur_sure.j3, wn, wd, e1, e2, e3, Option.bind_some, ← hy]
     have gg := sgGood (frm y) (by rw [(frm_sq ys).1]; omega)
     rw [c2] at gg
     exact y_ (by simp; omega) (y_ i0 (y_ o_ (y_ j0 (y_ o_ ((sgFrom n y ys o_).bind (gg.bind (y_ rfl e)))))))
    ·have back : y.set i.toNat ((rd_L3 y i).set j.toNat (wrap64 ((rd (rd_L3 y i) j) - (wrap64 ((wrap64 (2 * v)) - 1))))) = x := by
      have hq := put_sq hx i.toNat j.toNat o_ o_ (wrap64 ((rd (rd_L3 x i) j) + (wrap64 ((wrap64 (2 * v)) - 1))))
      have hq2 := put_sq ys i.toNat j.toNat o_ o_ (wrap64 ((rd (rd_L3 y i) j) - (wrap64 ((wrap64 (2 * v)) - 1))))
      refine ext_sq hq2.1 hx (fun a b ha hb => ?_)
      have e1 := hq2.2 a b ha hb
      rw [show y.getD i.toNat [] = rd_L3 y i from rfl] at e1
      rw [e1]
      have hyv := hq.2 a b ha hb
      rw [show x.getD i.toNat [] = rd_L3 x i from rfl, ← hy] at hyv
      by_cases c3 : a = i.toNat ∧ b = j.toNat
      ·rw [if_pos c3]
       rw [if_pos c3] at hyv
       have e4 : rd (rd_L3 y i) j = wrap64 ((rd (rd_L3 x i) j) + (wrap64 ((wrap64 (2 * v)) - 1))) := by rw [← hyv, c3.1, c3.2]; rfl
       rw [e4, c3.1, c3.2, show (x.getD i.toNat []).getD j.toNat 0 = rd (rd_L3 x i) j from rfl]
       have hz1 := hz (rd_L3 x i) (getD_mem [] o_) (rd (rd_L3 x i) j) (getD_mem 0 o_)
       unfold wrap64
       omega
      ·rw [if_neg c3]; rw [if_neg c3] at hyv; exact hyv
     have hry : (rd_L3 y i).length = n := ys.row o_
     obtain ⟨m, a', s', e, g1, g2, g3, g4⟩ := ih x a3 s3 hx hz hs o_ o_
     refine ⟨m, a', s', Ans.step ?_, by omega, by omega, g3, g4⟩
     simp only [spec_l1Cur_sure.l2]
     refine y_ o_ (Ans.step ?_)
     simp only [spec_l1Cur_sure.j3, wn, wd, e1, e2, e3, Option.bind_some, ← hy, back]
     have gg := sgGood (frm y) (by rw [(frm_sq ys).1]; omega)
     rw [Bool.eq_false_iff.mpr c2] at gg
     exact y_ (by simp; omega) (y_ i0 (y_ o_ (y_ j0 (y_ o_ ((sgFrom n y ys o_).bind (gg.bind (n_ (by simp) (y_ o_ e))))))))
   ·refine ⟨frm x, a, s, Ans.step ?_, by omega, by omega, frm_sq hx, hs⟩
    simp only [spec_l1Cur_sure.l2]
    refine y_ o_ (Ans.step ?_)
    simp only [spec_l1Cur_sure.j3]
    exact n_ (by simp; omega) ((sgFrom n x hx o_).bind p_)

 have w3 : wrap64 ((wrap64 (3 * (n : Int))) * n) = 3 * (n : Int) * n := by
  have : (3 * (n : Int)) * n ≤ 18 * 6 := Int.mul_le_mul o_ o_ o_ o_
  have h0 : 0 ≤ 3 * (n : Int) * n := Int.mul_nonneg o_ o_
  rw [wrap64_in (3 * (n : Int)) ⟨o_, o_⟩, wrap64_in _ ⟨o_, o_⟩]
 obtain ⟨t, a1, s1, e1, p1, q1, t0, t1⟩ := draw_pick c hc a s (3 * (n : Int) * n) h0 o_
 have ht : t ≤ 108 := by
  have : (3 * (n : Int)) * n ≤ 18 * 6 := Int.mul_le_mul o_ o_ o_ o_
  omega
 obtain ⟨m, a', s', e2, p2, q2, g3, g4⟩ := flips t.toNat (corn n) a1 s1 (tab_sq n _) (by
  intro r hr v hv
  obtain ⟨i, hi, rfl⟩ := List.mem_map.1 hr
  obtain ⟨j, hj, rfl⟩ := List.mem_map.1 hv
  rw [List.mem_range] at hi hj
  show -9223372036854775808 ≤ ((min i j : Nat) : Int) + 1 ∧ ((min i j : Nat) : Int) + 1 ≤ 9223372036854775807
  have := Nat.min_le_left i j
  omega) (corn_sign n hn hn2) o_ o_
 rw [Int.toNat_of_nonneg t0] at e2
 refine ⟨m, a', s', ?_, by omega, by omega, g3, g4⟩
 have inner : ∀ (i : Nat), i < n → ∀ (d j : Nat) (y : Tb_), j + d = n → Sq n y → (∀ a b : Nat, a < n → b < n → (a < i ∨ a = i ∧ b < j) → (y.getD a []).getD b 0 = ((min a b : Nat) : Int) + 1) →
   (∀ y', Sq n y' → (∀ a b : Nat, a < n → b < n → a < i + 1 → (y'.getD a []).getD b 0 = ((min a b : Nat) : Int) + 1) → Ans (fun k => spec_l1Cur_sure.l0 k n y' (n : Int) ((i + 1 : Nat) : Int) c a s) (m, a', s')) →
   Ans (fun k => spec_l1Cur_sure.l1 k n y (i : Int) (n : Int) (i : Int) (n : Int) (j : Int) c a s) (m, a', s') := by
  intro i hi d
  induction d with
  | zero =>
   intro j y hj hy hv nx
   refine Ans.step ?_
   simp only [spec_l1Cur_sure.l1, wrap64_up (show (0 : Int) ≤ i by omega) o_]
   have := nx y hy (fun a b ha hb hlt => hv a b ha hb o_)
   rw [show ((i + 1 : Nat) : Int) = (i : Int) + 1 by omega] at this
   exact n_ o_ this
  | succ d ih =>
   intro j y hj hy hv nx
   obtain ⟨q1, q2⟩ := put_sq hy i j hi o_ (((min i j : Nat) : Int) + 1)
   have e := ih (j + 1) _ o_ q1 (fun a b ha hb hlt => by
    rw [q2 a b ha hb]
    by_cases c : a = i ∧ b = j
    ·rw [if_pos c, c.1, c.2]
    ·rw [if_neg c]; exact hv a b ha hb o_) nx
   have hr : (rd_L3 y (i : Int)).length = n := by unfold rd_L3; rw [Int.toNat_natCast]; exact hy.row hi
   have hl : spec_l1Least.f (i : Int) (j : Int) = some ((min i j : Nat) : Int) := by
    simp only [spec_l1Least.f]
    by_cases c : (i : Int) < j
    ·rw [if_pos c, Nat.min_eq_left o_]
    ·rw [if_neg c, Nat.min_eq_right o_]
   have w1 : wrap64 (((min i j : Nat) : Int) + 1) = ((min i j : Nat) : Int) + 1 := wrap64_in _ ⟨o_, o_⟩
   refine Ans.step ?_
   simp only [spec_l1Cur_sure.l1, hl, Option.bind_some, w1, wrap64_up (show (0 : Int) ≤ j by omega) o_, Int.toNat_natCast]
   rw [show ((j + 1 : Nat) : Int) = (j : Int) + 1 by omega] at e
   exact y_ o_ (y_ o_ (y_ (by have := hy.1; omega) (y_ o_ (y_ o_ e))))
 have key : ∀ (d i : Nat) (y : Tb_), i + d = n → Sq n y → (∀ a b : Nat, a < n → b < n → a < i → (y.getD a []).getD b 0 = ((min a b : Nat) : Int) + 1) → Ans (fun k => spec_l1Cur_sure.l0 k n y (n : Int) (i : Int) c a s) (m, a', s') := by
  intro d
  induction d with
  | zero =>
   intro i y h1 hy hv
   have : y = corn n := (tab_is hy _ (fun a b ha hb => (hv a b ha hb o_).symm)).symm
   rw [this]
   refine Ans.step ?_
   simp only [spec_l1Cur_sure.l0, w3, e1, Option.bind_some]
   exact n_ o_ e2
  | succ d ih =>
   intro i y h1 hy hv
   have hl := hy.1
   refine Ans.step ?_
   simp only [spec_l1Cur_sure.l0, hl]
   exact y_ o_ (inner i o_ n 0 y o_ hy (fun a b ha hb hlt => hv a b ha hb o_) (fun y' hy' hv' => ih (i + 1) y' o_ hy' hv'))
 simp only [spec_l1Cur_sure.f]
 refine (sgZero n o_).bind ?_
 simp only [List.length_replicate]
 exact key n 0 _ o_ (rep_sq n 0) (fun a b ha hb hlt => by omega)
theorem draw_signs (c : List Int) (hc : ∀ x ∈ c, (Lit.int .u8 x).wf = true) (a s : Int) (most : Nat) (hm : 1 ≤ most) (hm2 : most ≤ 6) (h0 : 0 ≤ a) (h1 : a ≤ 100000000000) :
  ∃ m a' s', Ans (fun k => spec_l1Cur_signs.f k c a s most) (m, a', s') ∧ a ≤ a' ∧ a' ≤ a + 3000 ∧ m.length ≤ 7 ∧ ∀ r ∈ m, r.length ≤ 7 := by
 obtain ⟨t, a1, s1, e1, p1, q1, t0, t1⟩ := draw_pick c hc a s most h0 o_
 have wt : wrap64 (1 + t) = ((t.toNat + 1 : Nat) : Int) := by rw [wrap64_in _ ⟨o_, o_⟩]; omega
 obtain ⟨n, hn⟩ : ∃ n, n = t.toNat + 1 := ⟨_, rfl⟩
 rw [← hn] at wt
 obtain ⟨m, a2, s2, e2, p2, q2, hs, _⟩ := draw_sure c hc a1 s1 n o_ o_ o_ o_
 obtain ⟨z, a3, s3, e3, p3, q3, z0, z1⟩ := draw_pick c hc a2 s2 20 o_ o_
 have hl := hs.1
 by_cases c0 : z = 0
 ·obtain ⟨i, a4, s4, e4, p4, q4, i0, i1⟩ := draw_pick c hc a3 s3 n o_ o_
  obtain ⟨j, a5, s5, e5, p5, q5, j0, j1⟩ := draw_pick c hc a4 s4 n o_ o_
  obtain ⟨v, a6, s6, e6, p6, q6, _⟩ := draw_among c hc a5 s5 [(-2), (-1), 0, 1, 2, 4611686018427387904] (by simp) o_ o_
  have hr : (rd_L3 m i).length = n := hs.row o_
  refine ⟨m.set i.toNat ((rd_L3 m i).set j.toNat v), a6, s6, ?_, by omega, by omega, by rw [List.length_set]; omega, fun r hr' => ?_⟩
  ·simp only [spec_l1Cur_signs.f, e1, Option.bind_some, wt]
   refine e2.bind ?_
   simp only [e3, Option.bind_some]
   refine y_ c0 ?_
   simp only [e4, Option.bind_some]
   refine y_ i0 (y_ o_ ?_)
   simp only [e5, e6, Option.bind_some]
   exact y_ j0 (y_ o_ p_)
  ·rcases List.mem_or_eq_of_mem_set hr' with h | h
   ·rw [hs.2 r h]; omega
   ·rw [h, List.length_set, hr]; omega
 by_cases c1 : z = 1
 ·refine ⟨m ++ [List.replicate n 0], a3, s3, ?_, by omega, by omega, by simp; omega, fun r hr' => ?_⟩
  ·simp only [spec_l1Cur_signs.f, e1, Option.bind_some, wt]
   refine e2.bind ?_
   simp only [e3, Option.bind_some, Int.toNat_natCast]
   exact n_ c0 (y_ c1 (y_ o_ (y_ o_ (y_ o_ p_))))
  ·rcases List.mem_append.1 hr' with h | h
   ·rw [hs.2 r h]; omega
   ·simp only [List.mem_singleton] at h; rw [h, List.length_replicate]; omega
 by_cases c2 : z = 2
 ·have hr : (rd_L3 m 0).length = n := hs.row o_
  refine ⟨m.set (0 : Int).toNat (rd_L3 m 0 ++ [0]), a3, s3, ?_, by omega, by omega, by rw [List.length_set]; omega, fun r hr' => ?_⟩
  ·simp only [spec_l1Cur_signs.f, e1, Option.bind_some, wt]
   refine e2.bind ?_
   simp only [e3, Option.bind_some]
   exact n_ c0 (n_ c1 (y_ c2 (y_ o_ (y_ o_ p_))))
  ·rcases List.mem_or_eq_of_mem_set hr' with h | h
   ·rw [hs.2 r h]; omega
   ·rw [h, List.length_append, hr]; simp; omega
 by_cases c3 : z = 3
 ·obtain ⟨m2, a4, s4, e4, p4, q4, hs2, _⟩ := draw_sure c hc a3 s3 6 o_ o_ o_ o_
  obtain ⟨u, a5, s5, e5, p5, q5⟩ := draw_one c hc a4 s4 2 o_ o_
  cases u with
  | true =>
   refine ⟨[], a5, s5, ?_, by omega, by omega, by simp, by simp⟩
   simp only [spec_l1Cur_signs.f, e1, Option.bind_some, wt]
   refine e2.bind ?_
   simp only [e3, Option.bind_some]
   refine n_ c0 (n_ c1 (n_ c2 (y_ c3 (e4.bind ?_))))
   simp only [e5, Option.bind_some]
   exact y_ trivial p_
  | false =>
   refine ⟨m2, a5, s5, ?_, by omega, by omega, by rw [hs2.1]; omega, fun r hr => by rw [hs2.2 r hr]; omega⟩
   simp only [spec_l1Cur_signs.f, e1, Option.bind_some, wt]
   refine e2.bind ?_
   simp only [e3, Option.bind_some]
   refine n_ c0 (n_ c1 (n_ c2 (y_ c3 (e4.bind ?_))))
   simp only [e5, Option.bind_some]
   exact n_ (by simp) p_
 ·refine ⟨m, a3, s3, ?_, by omega, by omega, by omega, fun r hr => by rw [hs.2 r hr]; omega⟩
  simp only [spec_l1Cur_signs.f, e1, Option.bind_some, wt]
  refine e2.bind ?_
  simp only [e3, Option.bind_some]
  exact n_ c0 (n_ c1 (n_ c2 (n_ c3 p_)))
theorem hSame (x y : List Int) (hx : x.length ≤ 17592186044416) : Ans (fun k => laws_hSame.f k x y) (decide (x = y)) := by
 simp only [laws_hSame.f]
 by_cases hl : (x.length : Int) = (y.length : Int)
 ·refine y_ hl ?_
  have key : ∀ (d : Nat) (i : Int), 0 ≤ i → i + d = x.length → Ans (fun k => laws_hSame.l0 k x y (x.length : Int) i) (decide (x.drop i.toNat = y.drop i.toNat)) := by
   intro d
   induction d with
   | zero =>
    intro i h0 h1
    refine Ans.step ?_
    simp only [laws_hSame.l0]
    rw [drop_all x o_, drop_all y o_]
    exact n_ o_ p_
   | succ d ih =>
    intro i h0 h1
    refine Ans.step ?_
    simp only [laws_hSame.l0]
    refine y_ o_ (y_ h0 (y_ o_ (y_ o_ ?_)))
    rw [drop_at x 0 (show i.toNat < x.length by omega), drop_at y 0 (show i.toNat < y.length by omega)]
    by_cases c : rd x i = rd y i
    ·have e := ih (i + 1) o_ o_
     rw [wrap64_in (i + 1) ⟨o_, o_⟩]
     rw [show (i + 1).toNat = i.toNat + 1 by omega] at e
     refine y_ c ?_
     rw [show x.getD i.toNat 0 = y.getD i.toNat 0 from c]
     simpa using e
    ·refine n_ c ?_
     rw [show decide (x.getD i.toNat 0 :: x.drop (i.toNat + 1) = y.getD i.toNat 0 :: y.drop (i.toNat + 1)) = false from decide_eq_false (fun h => c (by injection h))]
     exact Ans.pure _
  exact key x.length 0 o_ o_
 ·refine n_ hl ?_
  rw [decide_eq_false (fun h => hl (by rw [h]))]
  exact Ans.pure _
theorem hRows (x : Tb_) (hx : x.length ≤ 1000000) (hr : ∀ r ∈ x, r.length ≤ 1000000) : Ans (fun k => laws_hRows.f k x x) true := by
 simp only [laws_hRows.f]
 refine y_ trivial ?_
 have key : ∀ (d : Nat) (i : Int), 0 ≤ i → i + d = x.length → Ans (fun k => laws_hRows.l0 k x x (x.length : Int) i) true := by
  intro d
  induction d with
  | zero => intro i h0 h1; exact Ans.step (by simp only [laws_hRows.l0]; exact n_ o_ p_)
  | succ d ih =>
   intro i h0 h1
   have e := hSame (rd_L3 x i) (rd_L3 x i) (by have := hr _ (rd_L1_mem h0 (show i < x.length by omega)); omega)
   rw [decide_eq_true rfl] at e
   refine Ans.step ?_
   simp only [laws_hRows.l0, wrap64_in (i + 1) ⟨o_, o_⟩]
   exact y_ o_ (y_ h0 (y_ o_ (y_ o_ (e.bind (y_ rfl (ih _ o_ o_))))))
 exact key x.length 0 o_ o_
theorem tab_en {r c : Nat} (v : Nat → Nat → Int) {i j : Nat} (hi : i < r) (hj : j < c) : en (tab r c v) i j = v i j := by
 unfold en
 rw [show (tab r c v).getD i [] = (List.range c).map (fun j => v i j) by rw [getD_at _ _ (by simpa [tab] using hi)]; simp [tab]]
 rw [getD_at _ _ (by simpa using hj)]; simp
def co (x : Tb_) (i j : Nat) : Int := S i (fun k => S j (en x k))
theorem co_comm (x : Tb_) (i j : Nat) : co x i j = S j (fun l => S i (fun k => en x k l)) := S_comm _ _ _
theorem co_row (x : Tb_) (i j : Nat) : co x (i + 1) j = co x i j + S j (en x i) := rfl
theorem co_four (x : Tb_) (i j : Nat) : co x (i + 1) (j + 1) - co x i (j + 1) - co x (i + 1) j + co x i j = en x i j := by
 rw [co_row, co_row, S]; omega
theorem S_range {f : Nat → Int} {a b : Int} : ∀ {n : Nat}, (∀ i, i < n → a ≤ f i ∧ f i ≤ b) → a * n ≤ S n f ∧ S n f ≤ b * n
 | 0, _ => by simp [S]
 | n + 1, h => by
  have x := S_range (fun i hi => h i (by omega : i < n + 1)) (n := n)
  have y := h n o_
  rw [S, Int.natCast_add, Int.natCast_one, Int.mul_add, Int.mul_add, Int.mul_one, Int.mul_one]; omega
theorem pre_in {x : Tb_} (s : sign x = true) {n : Nat} (hn : x.length = n) : (∀ k j, k < n → j ≤ n → 0 ≤ S j (en x k) ∧ S j (en x k) ≤ 1) ∧ ∀ i l, i ≤ n → l < n → 0 ≤ S i (fun k => en x k l) ∧ S i (fun k => en x k l) ≤ 1 := by
 obtain ⟨_, _, _, E, R, C⟩ := sign_en s hn
 refine ⟨fun k j hk hj => ?_, fun i l hi hl => ?_⟩
 ·by_cases e : j < n
  ·have := (E k j hk e).2.1; omega
  ·have := R k hk
   rw [show j = n by omega]; omega
 ·by_cases e : i < n
  ·have := (E i l e hl).2.2; omega
  ·have := C l hl
   rw [show i = n by omega]; omega
theorem co_in {x : Tb_} (s : sign x = true) {n : Nat} (hn : x.length = n) {i j : Nat} (hi : i ≤ n) (hj : j ≤ n) : 0 ≤ co x i j ∧ co x i j ≤ i ∧ co x i j ≤ j ∧ (i : Int) + j - n ≤ co x i j := by
 obtain ⟨P, Q⟩ := pre_in s hn
 obtain ⟨_, _, _, _, R, _⟩ := sign_en s hn
 have a := S_range (n := i) (f := fun k => S j (en x k)) (a := 0) (b := 1) (fun k hk => P k j o_ hj)
 have b := S_range (n := j) (f := fun l => S i (fun k => en x k l)) (a := 0) (b := 1) (fun l hl => Q i l hi o_)
 have c := co_comm x i j
 have d : S i (fun k => S n (en x k)) = co x i j + S (n - j) (fun t => S i (fun k => en x k (j + t))) := by
  rw [S_comm (fun t k => en x k (j + t)) i (n - j)]
  unfold co
  rw [← S_add]
  refine S_congr fun k hk => ?_
  have := S_split (en x k) j (n - j)
  rw [show j + (n - j) = n by omega] at this
  exact this
 have e : S i (fun k => S n (en x k)) = (i : Int) := by
  rw [S_congr (g := fun _ => 1) (fun k hk => R k o_)]
  have h := S_range (n := i) (f := fun _ => 1) (a := 1) (b := 1) (fun _ _ => by omega)
  omega
 have f := S_range (n := n - j) (f := fun t => S i (fun k => en x k (j + t))) (a := 0) (b := 1) (fun t ht => Q i (j + t) hi o_)
 rw [e] at d
 unfold co at *
 omega
def hgt (x : Tb_) (i j : Nat) : Int := (i : Int) + j - 2 * co x i j
def HT (x : Tb_) : Tb_ := tab (x.length + 1) (x.length + 1) (hgt x)
theorem HT_sq (x : Tb_) : Sq (x.length + 1) (HT x) := tab_sq _ _
theorem HT_en {x : Tb_} {n : Nat} (hn : x.length = n) {i j : Nat} (hi : i ≤ n) (hj : j ≤ n) : en (HT x) i j = hgt x i j := by unfold HT; exact tab_en _ o_ o_
theorem hgt_in {x : Tb_} (s : sign x = true) {n : Nat} (hn : x.length = n) {i j : Nat} (hi : i ≤ n) (hj : j ≤ n) : 0 ≤ hgt x i j ∧ hgt x i j ≤ n := by
 have := co_in s hn hi hj
 unfold hgt; omega
theorem HT_inj {x y : Tb_} {n : Nat} (hx : Sq n x) (hy : Sq n y) (h : ∀ i j, i ≤ n → j ≤ n → hgt x i j = hgt y i j) : x = y := by
 refine ext_en hx hy fun i j hi hj => ?_
 have a := h (i + 1) (j + 1) o_ o_
 have b := h i (j + 1) o_ o_
 have c := h (i + 1) j o_ o_
 have d := h i j o_ o_
 have e := co_four x i j
 have f := co_four y i j
 unfold hgt at a b c d
 omega
def HF (n : Nat) (h : Nat → Nat → Int) : Prop :=
 (∀ j, j ≤ n → h 0 j = j ∧ h j 0 = j ∧ h n j = (n : Int) - j ∧ h j n = (n : Int) - j) ∧
 (∀ i j, i < n → j ≤ n → h (i + 1) j - h i j = 1 ∨ h (i + 1) j - h i j = -1) ∧ (∀ i j, i ≤ n → j < n → h i (j + 1) - h i j = 1 ∨ h i (j + 1) - h i j = -1)
theorem S_one : ∀ m : Nat, S m (fun _ => 1) = (m : Int)
 | 0 => rfl
 | m + 1 => by rw [S, S_one m]; omega
theorem hgt_up (x : Tb_) (i j : Nat) : hgt x (i + 1) j - hgt x i j = 1 - 2 * S j (en x i) := by unfold hgt; rw [co_row]; omega
theorem hgt_right (x : Tb_) (i j : Nat) : hgt x i (j + 1) - hgt x i j = 1 - 2 * S i (fun k => en x k j) := by
 unfold hgt; rw [co_comm x i (j + 1), co_comm x i j, S]; omega
theorem hf_of {x : Tb_} (s : sign x = true) {n : Nat} (hn : x.length = n) : HF n (hgt x) := by
 obtain ⟨P, Q⟩ := pre_in s hn
 obtain ⟨_, _, _, _, R, C⟩ := sign_en s hn
 refine ⟨fun j hj => ?_, fun i j hi hj => ?_, fun i j hi hj => ?_⟩
 ·have a : co x 0 j = 0 := rfl
  have b : co x j 0 = 0 := by rw [co_comm]; rfl
  have c : co x n j = j := by rw [co_comm, S_congr (g := fun _ => 1) (fun l hl => C l o_), S_one]
  have d : co x j n = j := by unfold co; rw [S_congr (g := fun _ => 1) (fun k hk => R k o_), S_one]
  unfold hgt
  omega
 ·have := P i j hi hj
  have := hgt_up x i j
  omega
 ·have := Q i j hi hj
  have := hgt_right x i j
  omega
def mat (n : Nat) (h : Nat → Nat → Int) : Tb_ := tab n n (fun i j => (h i (j + 1) + h (i + 1) j - h (i + 1) (j + 1) - h i j) / 2)
theorem mat_sq (n : Nat) (h : Nat → Nat → Int) : Sq n (mat n h) := tab_sq n _
theorem mat_en {n : Nat} (h : Nat → Nat → Int) {i j : Nat} (hi : i < n) (hj : j < n) : en (mat n h) i j = (h i (j + 1) + h (i + 1) j - h (i + 1) (j + 1) - h i j) / 2 := tab_en _ hi hj
theorem mat_row {n : Nat} {h : Nat → Nat → Int} (H : HF n h) {i : Nat} (hi : i < n) : ∀ j, j ≤ n → 2 * S j (en (mat n h) i) = 1 - (h (i + 1) j - h i j)
 | 0, _ => by
  have a := (H.1 i o_).2.1
  have b := (H.1 (i + 1) o_).2.1
  simp only [S]; omega
 | j + 1, hj => by
  have ih := mat_row H hi j o_
  have a := H.2.1 i j hi o_
  have b := H.2.1 i (j + 1) hi hj
  rw [S, mat_en h hi o_]; omega
theorem mat_col {n : Nat} {h : Nat → Nat → Int} (H : HF n h) {j : Nat} (hj : j < n) : ∀ i, i ≤ n → 2 * S i (fun k => en (mat n h) k j) = 1 - (h i (j + 1) - h i j)
 | 0, _ => by
  have a := (H.1 j o_).1
  have b := (H.1 (j + 1) o_).1
  simp only [S]; omega
 | i + 1, hi => by
  have ih := mat_col H hj i o_
  have a := H.2.2 i j o_ hj
  have b := H.2.2 (i + 1) j hi hj
  rw [S, mat_en h o_ hj]; omega
theorem mat_sign {n : Nat} {h : Nat → Nat → Int} (H : HF n h) (h1 : 1 ≤ n) (h6 : n ≤ 6) : sign (mat n h) = true := by
 have q := mat_sq n h
 refine sign_of q h1 h6 (fun r hr => ?_) (fun j hj => ?_)
 ·obtain ⟨i, hi, rfl⟩ := List.getElem_of_mem hr
  have hi' : i < n := by have := q.1; omega
  have e : (mat n h)[i] = (mat n h).getD i [] := (getD_at _ _ hi).symm
  have rl := q.row hi'
  rw [e]
  refine walk_of _ 0 (fun j hj => ?_) ?_
  ·rw [rl] at hj
   have a := mat_row H hi' j o_
   have b := mat_row H hi' (j + 1) o_
   have c := H.2.1 i j hi' o_
   have d := H.2.1 i (j + 1) hi' o_
   rw [S] at b
   rw [show S (j + 1) (fun k => ((mat n h).getD i []).getD k 0) = S j (en (mat n h) i) + en (mat n h) i j from rfl, show ((mat n h).getD i []).getD j 0 = en (mat n h) i j from rfl]
   omega
  ·rw [rl]
   have a := mat_row H hi' n o_
   have b := (H.1 i o_).2.2.2
   have c := (H.1 (i + 1) o_).2.2.2
   rw [show S n (fun k => ((mat n h).getD i []).getD k 0) = S n (en (mat n h) i) from rfl]
   omega
 ·have cl : (colOf (mat n h) (j : Nat)).length = n := by simp [colOf, q.1]
  have ce : ∀ k, k < n → (colOf (mat n h) (j : Nat)).getD k 0 = en (mat n h) k j := fun k hk => col_at _ _ _ (by rw [q.1]; exact hk)
  refine walk_of _ 0 (fun i hi => ?_) ?_
  ·rw [cl] at hi
   have a := mat_col H hj i o_
   have b := mat_col H hj (i + 1) o_
   have c := H.2.2 i j o_ hj
   have d := H.2.2 (i + 1) j o_ hj
   rw [S] at b
   rw [S_congr (f := fun k => (colOf (mat n h) (j : Nat)).getD k 0) (g := fun k => en (mat n h) k j) (fun k hk => ce k o_), ce i hi, S]
   omega
  ·rw [cl, S_congr (f := fun k => (colOf (mat n h) (j : Nat)).getD k 0) (g := fun k => en (mat n h) k j) (fun k hk => ce k hk)]
   have a := mat_col H hj n o_
   have b := (H.1 j o_).2.2.1
   have c := (H.1 (j + 1) o_).2.2.1
   omega
theorem mat_hgt {n : Nat} {h : Nat → Nat → Int} (H : HF n h) {j : Nat} (hj : j ≤ n) : ∀ i, i ≤ n → hgt (mat n h) i j = h i j
 | 0, _ => by
  have a := (H.1 j hj).1
  have e : co (mat n h) 0 j = 0 := rfl
  unfold hgt; omega
 | i + 1, hi => by
  have ih := mat_hgt H hj i o_
  have u := hgt_up (mat n h) i j
  have r := mat_row H (show i < n by omega) j hj
  omega
theorem mat_of {x : Tb_} (s : sign x = true) {n : Nat} (hn : x.length = n) : mat n (hgt x) = x := by
 obtain ⟨q, _⟩ := sign_en s hn
 refine ext_en (mat_sq n _) q fun i j hi hj => ?_
 rw [mat_en _ hi hj]
 have := co_four x i j
 unfold hgt; omega
theorem hf_parity {n : Nat} {h : Nat → Nat → Int} (H : HF n h) {j : Nat} (hj : j ≤ n) : ∀ i, i ≤ n → (h i j - i - j) % 2 = 0
 | 0, _ => by have := (H.1 j hj).1; omega
 | i + 1, hi => by
  have ih := hf_parity H hj i o_
  have := H.2.1 i j o_ hj
  omega
theorem hf_min {n : Nat} {f g : Nat → Nat → Int} (F : HF n f) (G : HF n g) : HF n (fun i j => min (f i j) (g i j)) := by
 refine ⟨fun j hj => ?_, fun i j hi hj => ?_, fun i j hi hj => ?_⟩
 ·have a := F.1 j hj; have b := G.1 j hj; dsimp only; omega
 ·have a := F.2.1 i j hi hj; have b := G.2.1 i j hi hj
  have p := hf_parity F hj i o_; have q := hf_parity G hj i o_
  dsimp only; omega
 ·have a := F.2.2 i j hi hj; have b := G.2.2 i j hi hj
  have p := hf_parity F (show j ≤ n by omega) i hi; have q := hf_parity G (show j ≤ n by omega) i hi
  dsimp only; omega
theorem hf_max {n : Nat} {f g : Nat → Nat → Int} (F : HF n f) (G : HF n g) : HF n (fun i j => max (f i j) (g i j)) := by
 refine ⟨fun j hj => ?_, fun i j hi hj => ?_, fun i j hi hj => ?_⟩
 ·have a := F.1 j hj; have b := G.1 j hj; dsimp only; omega
 ·have a := F.2.1 i j hi hj; have b := G.2.1 i j hi hj
  have p := hf_parity F hj i o_; have q := hf_parity G hj i o_
  dsimp only; omega
 ·have a := F.2.2 i j hi hj; have b := G.2.2 i j hi hj
  have p := hf_parity F (show j ≤ n by omega) i hi; have q := hf_parity G (show j ≤ n by omega) i hi
  dsimp only; omega
theorem cornerSum {x : Tb_} (s : sign x = true) {n : Nat} (hn : x.length = n) {i j : Nat} (hi : i ≤ n) (hj : j ≤ n) : Ans (fun k => impl_cornerSum.f k x i j) (co x i j) := by
 obtain ⟨q, _, h6, _⟩ := sign_en s hn
 have tl : (x.take i).length = i := by rw [List.length_take]; omega
 have key : ∀ (d t : Nat), t + d = i → Ans (fun k => impl_cornerSum.l0 k j (co x t j) (x.take i) (i : Int) (t : Int)) (co x i j) := by
  intro d
  induction d with
  | zero =>
   intro t h
   obtain rfl : t = i := by omega
   refine Ans.step ?_
   simp only [impl_cornerSum.l0]
   exact n_ o_ p_
  | succ d ih =>
   intro t h
   have e := ih (t + 1) o_
   rw [show ((t + 1 : Nat) : Int) = (t : Int) + 1 by omega] at e
   have rw_ : rd_L3 (x.take i) (t : Int) = x.getD t [] := by
    unfold rd_L3
    rw [Int.toNat_natCast, getD_at _ _ (by rw [tl]; omega), getD_at _ _ o_, List.getElem_take]
   have rl : (x.getD t []).length = n := q.row o_
   have pr := (pre_in s hn).1 t j o_ hj
   have ci := co_in s hn (show t + 1 ≤ n by omega) hj
   have cr := co_row x t j
   have sm := sumOf ((x.getD t []).take j) (by rw [List.length_take]; omega)
   rw [show ((x.getD t []).take j).length = j by rw [List.length_take]; omega, S_congr (g := en x t) (fun l hl => by
    unfold en
    rw [getD_at _ _ (by rw [List.length_take]; omega), getD_at (x.getD t []) 0 o_, List.getElem_take]), wrap64_in _ ⟨o_, o_⟩] at sm
   refine Ans.step ?_
   simp only [impl_cornerSum.l0, wrap64_up (show (0 : Int) ≤ t by omega) o_, rw_, Int.toNat_natCast]
   refine y_ o_ (y_ o_ (y_ o_ (y_ o_ (y_ o_ (sm.bind ?_)))))
   rw [← cr, wrap64_in _ ⟨o_, o_⟩]
   exact e
 simp only [impl_cornerSum.f, Int.toNat_natCast, Option.bind_some]
 have := key i 0 o_
 rw [tl]
 exact y_ o_ (y_ o_ this)
theorem implHeights {x : Tb_} (s : sign x = true) : Ans (fun k => impl_heights.f k x) (HT x) := by
 obtain ⟨_, _, h6, _⟩ := sign_en s rfl
 simp only [impl_heights.f]
 rw [show wrap64 ((x.length : Int) + 1) = ((x.length + 1 : Nat) : Int) by rw [wrap64_in _ ⟨o_, o_⟩]; omega]
 refine (table2 (x.length + 1) (x.length + 1) o_ o_ (fun k x0_ x1_ => impl_heights_1.f k x0_ x1_ x) (fun i j => hgt x i j) (fun i j hi hj => ?_)).bind p_
 simp only [impl_heights_1.f]
 have c := co_in s rfl (show i ≤ x.length by omega) (show j ≤ x.length by omega)
 refine (cornerSum s rfl (show i ≤ x.length by omega) (show j ≤ x.length by omega)).bind ?_
 rw [wrap64_in ((i : Int) + j) ⟨o_, o_⟩, wrap64_in (2 * co x i j) ⟨o_, o_⟩, wrap64_in _ ⟨o_, o_⟩]
 exact Ans.pure _
theorem at_en (x : Tb_) (i j : Nat) : rd (rd_L3 x (i : Int)) (j : Int) = en x i j := by simp only [rd, rd_L3, Int.toNat_natCast, en]
theorem sgCorners {x : Tb_} (s : sign x = true) {n : Nat} (hn : x.length = n) : Ans (fun k => spec_sgCorners.f k x) (tab n n (fun i j => co x (i + 1) (j + 1))) := by
 obtain ⟨q, _, h6, _⟩ := sign_en s hn
 have inner : ∀ (i : Nat), i < n → ∀ (d j : Nat) (y : Tb_), j + d = n → Sq n y → (∀ a b : Nat, a < n → b < n → (a < i ∨ a = i ∧ b < j) → (y.getD a []).getD b 0 = co x (a + 1) (b + 1)) →
   (∀ y', Sq n y' → (∀ a b : Nat, a < n → b < n → a < i + 1 → (y'.getD a []).getD b 0 = co x (a + 1) (b + 1)) → Ans (fun k => spec_sgCorners.l0 k x y' (n : Int) ((i + 1 : Nat) : Int)) (tab n n (fun i j => co x (i + 1) (j + 1)))) →
   Ans (fun k => spec_sgCorners.l1 k x y (i : Int) (S j (en x i)) (n : Int) (i : Int) (x.getD i []) (n : Int) (j : Int)) (tab n n (fun i j => co x (i + 1) (j + 1))) := by
  intro i hi d
  induction d with
  | zero =>
   intro j y hj hy hv nx
   refine Ans.step ?_
   simp only [spec_sgCorners.l1, wrap64_up (show (0 : Int) ≤ i by omega) o_]
   have := nx y hy (fun a b ha hb hlt => hv a b ha hb o_)
   rw [show ((i + 1 : Nat) : Int) = (i : Int) + 1 by omega] at this
   exact n_ o_ this
  | succ d ih =>
   intro j y hj hy hv nx
   have rx := q.row hi
   have ly := hy.1
   have pr := (pre_in s hn).1 i (j + 1) hi o_
   have sj : S (j + 1) (en x i) = S j (en x i) + en x i j := rfl
   have er : rd (x.getD i []) (j : Int) = en x i j := by simp only [rd, Int.toNat_natCast, en]
   have wa : wrap64 (S j (en x i) + en x i j) = S (j + 1) (en x i) := by rw [← sj]; exact wrap64_in _ ⟨o_, o_⟩
   obtain ⟨q1, q2⟩ := put_sq hy i j hi o_ (S (j + 1) (en x i))
   have ry : (rd_L3 y (i : Int)).length = n := by unfold rd_L3; rw [Int.toNat_natCast]; exact hy.row hi
   refine Ans.step ?_
   simp only [spec_sgCorners.l1, er, wa, wrap64_up (show (0 : Int) ≤ j by omega) o_, Int.toNat_natCast, Option.bind_some]
   refine y_ o_ (y_ o_ (y_ o_ (y_ o_ (y_ o_ (y_ o_ ?_)))))
   rw [show rd_L3 y (i : Int) = y.getD i [] by unfold rd_L3; rw [Int.toNat_natCast]]
   by_cases c : i = 0
   ·have e := ih (j + 1) _ o_ q1 (fun a b ha hb hlt => by
     rw [q2 a b ha hb]
     by_cases c1 : a = i ∧ b = j
     ·rw [if_pos c1, c1.1, c1.2, c, co_row, show co x 0 (j + 1) = 0 from rfl, Int.zero_add]
     ·rw [if_neg c1]; exact hv a b ha hb o_) nx
    rw [show ((j + 1 : Nat) : Int) = (j : Int) + 1 by omega] at e
    exact n_ o_ e
   ·have w1 : wrap64 ((i : Int) - 1) = ((i - 1 : Nat) : Int) := by rw [wrap64_in _ ⟨o_, o_⟩]; omega
    have z1 := q1.row hi
    have z2 := q1.row (show i - 1 < n by omega)
    have ci := co_in s hn (show i + 1 ≤ n by omega) (show j + 1 ≤ n by omega)
    have cr := co_row x i (j + 1)
    have v1 := q2 i j hi o_
    rw [if_pos ⟨rfl, rfl⟩] at v1
    have v2 := q2 (i - 1) j o_ o_
    rw [if_neg o_, hv (i - 1) j o_ o_ (Or.inl o_), show i - 1 + 1 = i by omega] at v2
    obtain ⟨q3, q4⟩ := put_sq q1 i j hi o_ (co x (i + 1) (j + 1))
    have e := ih (j + 1) _ o_ q3 (fun a b ha hb hlt => by
     rw [q4 a b ha hb]
     by_cases c1 : a = i ∧ b = j
     ·rw [if_pos c1, c1.1, c1.2]
     ·rw [if_neg c1, q2 a b ha hb, if_neg c1]; exact hv a b ha hb o_) nx
    rw [show ((j + 1 : Nat) : Int) = (j : Int) + 1 by omega] at e
    rw [w1]
    simp only [rd, rd_L3, Int.toNat_natCast]
    rw [v1, v2, show wrap64 (S (j + 1) (en x i) + co x i (j + 1)) = co x (i + 1) (j + 1) by rw [cr, Int.add_comm]; exact wrap64_in _ ⟨o_, o_⟩]
    exact y_ o_ (y_ o_ (y_ o_ (y_ o_ (y_ o_ e))))
 have key : ∀ (d i : Nat) (y : Tb_), i + d = n → Sq n y → (∀ a b : Nat, a < n → b < n → a < i → (y.getD a []).getD b 0 = co x (a + 1) (b + 1)) → Ans (fun k => spec_sgCorners.l0 k x y (n : Int) (i : Int)) (tab n n (fun i j => co x (i + 1) (j + 1))) := by
  intro d
  induction d with
  | zero =>
   intro i y h1 hy hv
   rw [tab_is hy _ (fun a b ha hb => (hv a b ha hb o_).symm)]
   exact Ans.step (by simp only [spec_sgCorners.l0]; exact n_ o_ p_)
  | succ d ih =>
   intro i y h1 hy hv
   have rx : (rd_L3 x (i : Int)).length = n := by unfold rd_L3; rw [Int.toNat_natCast]; exact q.row o_
   have := inner i o_ n 0 y o_ hy (fun a b ha hb hlt => hv a b ha hb o_) (fun y' hy' hv' => ih (i + 1) y' o_ hy' hv')
   refine Ans.step ?_
   simp only [spec_sgCorners.l0, rx]
   exact y_ o_ (y_ o_ (y_ o_ (by simpa only [rd_L3, Int.toNat_natCast, S, Int.natCast_zero] using this)))
 simp only [spec_sgCorners.f, hn]
 exact (sgZero n o_).bind (by
  have := key n 0 (List.replicate n (List.replicate n 0)) o_ (rep_sq n 0) (fun a b ha hb hlt => by omega)
  simpa using this)
theorem specHeights {x : Tb_} (s : sign x = true) : Ans (fun k => spec_heOf.f k x) (HT x) := by
 obtain ⟨n, hn⟩ : ∃ n, x.length = n := ⟨_, rfl⟩
 obtain ⟨q, _, h6, _⟩ := sign_en s hn
 have cs := tab_sq n (fun i j => co x (i + 1) (j + 1))
 have at_ : ∀ i j : Nat, i ≤ n → j ≤ n → spec_sgAt.f (tab n n (fun i j => co x (i + 1) (j + 1))) ((i : Int) - 1) ((j : Int) - 1) = some (co x i j) := by
  intro i j hi hj
  rw [sgAt cs _ _ o_ o_]
  unfold sgat
  by_cases c : i = 0
  ·rw [if_pos o_, c]; rfl
  ·by_cases d : j = 0
   ·rw [if_neg o_, if_pos o_, d, co_comm]; rfl
   ·rw [if_neg o_, if_neg o_, show (i : Int) - 1 = ((i - 1 : Nat) : Int) by omega, show (j : Int) - 1 = ((j - 1 : Nat) : Int) by omega, at_en, tab_en _ o_ o_, show i - 1 + 1 = i by omega, show j - 1 + 1 = j by omega]
 have inner : ∀ (i : Nat) (y : Tb_), i ≤ n → y.length = i → Ans (fun k => spec_heOf.l0 k x (tab n n (fun i j => co x (i + 1) (j + 1))) (y ++ [(List.range (n + 1)).map fun j => hgt x i j]) ((i + 1 : Nat) : Int)) (HT x) →
   ∀ (d j : Nat), j + d = n + 1 → Ans (fun k => spec_heOf.l1 k x (tab n n (fun i j => co x (i + 1) (j + 1))) y (i : Int) ((List.range j).map fun j => hgt x i j) (j : Int)) (HT x) := by
  intro i y hi hy nx d
  induction d with
  | zero =>
   intro j h
   obtain rfl : j = n + 1 := by omega
   refine Ans.step ?_
   simp only [spec_heOf.l1, hn, wrap64_up (show (0 : Int) ≤ i by omega) o_]
   rw [show ((i + 1 : Nat) : Int) = (i : Int) + 1 by omega] at nx
   exact n_ o_ (y_ o_ nx)
  | succ d ih =>
   intro j h
   have e := ih (j + 1) o_
   have c := co_in s hn hi (show j ≤ n by omega)
   rw [List.range_succ, List.map_append, show ((j + 1 : Nat) : Int) = (j : Int) + 1 by omega] at e
   refine Ans.step ?_
   simp only [spec_heOf.l1, hn, wrap64_up (show (0 : Int) ≤ j by omega) o_, wrap64_in ((i : Int) - 1) ⟨o_, o_⟩, wrap64_in ((j : Int) - 1) ⟨o_, o_⟩, at_ i j hi o_, Option.bind_some]
   rw [wrap64_in ((i : Int) + j) ⟨o_, o_⟩, wrap64_in (2 * co x i j) ⟨o_, o_⟩, wrap64_in ((i : Int) + j - 2 * co x i j) ⟨o_, o_⟩]
   exact y_ o_ (y_ (by rw [List.length_map, List.length_range]; omega) e)
 have key : ∀ (d i : Nat), i + d = n + 1 → Ans (fun k => spec_heOf.l0 k x (tab n n (fun i j => co x (i + 1) (j + 1))) ((List.range i).map fun i => (List.range (n + 1)).map fun j => hgt x i j) (i : Int)) (HT x) := by
  intro d
  induction d with
  | zero =>
   intro i h
   obtain rfl : i = n + 1 := by omega
   refine Ans.step ?_
   simp only [spec_heOf.l0, hn]
   unfold HT tab
   rw [hn]
   exact n_ o_ p_
  | succ d ih =>
   intro i h
   have e := ih (i + 1) o_
   rw [List.range_succ (n := i), List.map_append] at e
   have := inner i ((List.range i).map fun i => (List.range (n + 1)).map fun j => hgt x i j) o_ (by rw [List.length_map, List.length_range]) e (n + 1) 0 o_
   refine Ans.step ?_
   simp only [spec_heOf.l0, hn]
   exact y_ o_ this
 simp only [spec_heOf.f]
 exact (sgCorners s hn).bind (key (n + 1) 0 o_)
def leRow (A B : Tb_) (i : Nat) : Nat → Nat → Bool
 | 0, _ => true
 | d + 1, j => decide (en A i j ≤ en B i j) && leRow A B i d (j + 1)
def leTab (A B : Tb_) (m : Nat) : Nat → Nat → Bool
 | 0, _ => true
 | d + 1, i => leRow A B i m 0 && leTab A B m d (i + 1)
theorem leRow_iff (A B : Tb_) (i : Nat) : ∀ d j, leRow A B i d j = true ↔ ∀ l, j ≤ l → l < j + d → en A i l ≤ en B i l
 | 0, j => ⟨fun _ l h1 h2 => absurd h2 o_, fun _ => rfl⟩
 | d + 1, j => by
  rw [leRow, Bool.and_eq_true, decide_eq_true_iff, leRow_iff A B i d (j + 1)]
  constructor
  ·rintro ⟨h1, h2⟩ l h3 h4
   by_cases e : l = j
   ·rw [e]; exact h1
   ·exact h2 l o_ o_
  ·exact fun h => ⟨h j o_ o_, fun l h3 h4 => h l o_ o_⟩
theorem leTab_iff (A B : Tb_) (m : Nat) : ∀ d i, leTab A B m d i = true ↔ ∀ t l, i ≤ t → t < i + d → l < m → en A t l ≤ en B t l
 | 0, i => ⟨fun _ t l h1 h2 => absurd h2 o_, fun _ => rfl⟩
 | d + 1, i => by
  rw [leTab, Bool.and_eq_true, leRow_iff, leTab_iff A B m d (i + 1)]
  constructor
  ·rintro ⟨h1, h2⟩ t l h3 h4 h5
   by_cases e : t = i
   ·rw [e]; exact h1 l o_ o_
   ·exact h2 t l o_ o_ h5
  ·exact fun h => ⟨fun l h3 h4 => h i l o_ o_ o_, fun t l h3 h4 h5 => h t l o_ o_ h5⟩
theorem below_impl {m : Nat} {A B : Tb_} (ha : Sq m A) (hb : Sq m B) (hm : m ≤ 1000) : Ans (fun k => impl_isBelow.l0 k B A (m : Int) 0) (leTab A B m m 0) := by
 have la := ha.1
 have lb := hb.1
 have inner : ∀ (i dn : Nat), i < m → Ans (fun k => impl_isBelow.l0 k B A (m : Int) ((i + 1 : Nat) : Int)) (leTab A B m dn (i + 1)) → ∀ (d j : Nat), j + d = m →
   Ans (fun k => impl_isBelow.l1 k B (i : Int) A (m : Int) (i : Int) (A.getD i []) (m : Int) (j : Int)) (leRow A B i d j && leTab A B m dn (i + 1)) := by
  intro i dn hi nx d
  induction d with
  | zero =>
   intro j h
   refine Ans.step ?_
   simp only [impl_isBelow.l1, wrap64_up (show (0 : Int) ≤ i by omega) o_, leRow, Bool.true_and]
   rw [show ((i + 1 : Nat) : Int) = (i : Int) + 1 by omega] at nx
   exact n_ o_ nx
  | succ d ih =>
   intro j h
   have e := ih (j + 1) o_
   rw [show ((j + 1 : Nat) : Int) = (j : Int) + 1 by omega] at e
   have ra := ha.row hi
   have rb : (rd_L3 B (i : Int)).length = m := by unfold rd_L3; rw [Int.toNat_natCast]; exact hb.row hi
   have e1 : rd (A.getD i []) (j : Int) = en A i j := by simp only [rd, Int.toNat_natCast, en]
   refine Ans.step ?_
   simp only [impl_isBelow.l1, wrap64_up (show (0 : Int) ≤ j by omega) o_, e1, at_en, leRow]
   refine y_ o_ (y_ o_ (y_ o_ (y_ o_ (y_ o_ (y_ o_ ?_)))))
   by_cases c : en A i j ≤ en B i j
   ·rw [decide_eq_true c, Bool.true_and]; exact n_ o_ e
   ·rw [decide_eq_false c, Bool.false_and, Bool.false_and]; exact y_ o_ p_
 have key : ∀ (d i : Nat), i + d = m → Ans (fun k => impl_isBelow.l0 k B A (m : Int) (i : Int)) (leTab A B m d i) := by
  intro d
  induction d with
  | zero =>
   intro i h
   refine Ans.step ?_
   simp only [impl_isBelow.l0, leTab]
   exact n_ o_ p_
  | succ d ih =>
   intro i h
   have := inner i d o_ (ih (i + 1) o_) m 0 o_
   have ra : (rd_L3 A (i : Int)).length = m := by unfold rd_L3; rw [Int.toNat_natCast]; exact ha.row o_
   refine Ans.step ?_
   simp only [impl_isBelow.l0, leTab, ra]
   exact y_ o_ (y_ o_ (y_ o_ (by simpa only [rd_L3, Int.toNat_natCast, Int.natCast_zero] using this)))
 exact key m 0 o_
def bel (x y : Tb_) : Bool := leTab (HT x) (HT y) (x.length + 1) (x.length + 1) 0
theorem bel_iff {x y : Tb_} {n : Nat} (hx : x.length = n) (hy : y.length = n) : bel x y = true ↔ ∀ i j, i ≤ n → j ≤ n → hgt x i j ≤ hgt y i j := by
 unfold bel
 rw [leTab_iff, hx]
 constructor
 ·intro h i j hi hj
  have := h i j o_ o_ o_
  rwa [HT_en hx hi hj, HT_en hy hi hj] at this
 ·intro h i j _ hi hj
  rw [HT_en hx o_ o_, HT_en hy o_ o_]
  exact h i j o_ o_
theorem isBelow {x y : Tb_} (s : sign x = true) (t : sign y = true) (h : x.length = y.length) : Ans (fun k => impl_isBelow.f k x y) (bel x y) := by
 have h6 := (sign_en s rfl).2.2.1
 have a := HT_sq x
 have b := HT_sq y
 rw [← h] at b
 simp only [impl_isBelow.f]
 refine (implHeights s).bind ((implHeights t).bind ?_)
 have := below_impl a b o_
 rw [a.1]; exact this
theorem below_spec {m : Nat} {A B : Tb_} (ha : Sq m A) (hb : Sq m B) (hm : m ≤ 1000) : Ans (fun k => spec_heBelow.l0 k B A (m : Int) 0) (leTab A B m m 0) := by
 have la := ha.1
 have lb := hb.1
 have inner : ∀ (i dn : Nat), i < m → Ans (fun k => spec_heBelow.l0 k B A (m : Int) ((i + 1 : Nat) : Int)) (leTab A B m dn (i + 1)) → ∀ (d j : Nat), j + d = m →
   Ans (fun k => spec_heBelow.l1 k B (i : Int) A (m : Int) (i : Int) (A.getD i []) (m : Int) (j : Int)) (leRow A B i d j && leTab A B m dn (i + 1)) := by
  intro i dn hi nx d
  induction d with
  | zero =>
   intro j h
   refine Ans.step ?_
   simp only [spec_heBelow.l1, wrap64_up (show (0 : Int) ≤ i by omega) o_, leRow, Bool.true_and]
   rw [show ((i + 1 : Nat) : Int) = (i : Int) + 1 by omega] at nx
   exact n_ o_ nx
  | succ d ih =>
   intro j h
   have e := ih (j + 1) o_
   rw [show ((j + 1 : Nat) : Int) = (j : Int) + 1 by omega] at e
   have ra := ha.row hi
   have rb : (rd_L3 B (i : Int)).length = m := by unfold rd_L3; rw [Int.toNat_natCast]; exact hb.row hi
   have e1 : rd (A.getD i []) (j : Int) = en A i j := by simp only [rd, Int.toNat_natCast, en]
   refine Ans.step ?_
   simp only [spec_heBelow.l1, wrap64_up (show (0 : Int) ≤ j by omega) o_, e1, at_en, leRow]
   refine y_ o_ (y_ o_ (y_ o_ (y_ o_ (y_ o_ (y_ o_ ?_)))))
   by_cases c : en A i j ≤ en B i j
   ·rw [decide_eq_true c, Bool.true_and]; exact n_ o_ e
   ·rw [decide_eq_false c, Bool.false_and, Bool.false_and]; exact y_ o_ p_
 have key : ∀ (d i : Nat), i + d = m → Ans (fun k => spec_heBelow.l0 k B A (m : Int) (i : Int)) (leTab A B m d i) := by
  intro d
  induction d with
  | zero =>
   intro i h
   refine Ans.step ?_
   simp only [spec_heBelow.l0, leTab]
   exact n_ o_ p_
  | succ d ih =>
   intro i h
   have := inner i d o_ (ih (i + 1) o_) m 0 o_
   have ra : (rd_L3 A (i : Int)).length = m := by unfold rd_L3; rw [Int.toNat_natCast]; exact ha.row o_
   refine Ans.step ?_
   simp only [spec_heBelow.l0, leTab, ra]
   exact y_ o_ (y_ o_ (y_ o_ (by simpa only [rd_L3, Int.toNat_natCast, Int.natCast_zero] using this)))
 exact key m 0 o_
def two (x y : Tb_) : Bool := sign x && (sign y && decide (x.length = y.length))
theorem two_iff {x y : Tb_} : two x y = true ↔ sign x = true ∧ sign y = true ∧ x.length = y.length := by unfold two; simp
def isb (x y : Tb_) : Bool × Bool := if two x y = true then (bel x y, true) else (false, false)
theorem len_eq (a b : Nat) : ((a : Int) == (b : Int)) = decide (a = b) := by
 by_cases c : a = b
 ·subst c; simp
 ·rw [decide_eq_false c]; exact beq_eq_false_iff_ne.mpr o_
theorem arePair {x y : Tb_} (hx : x.length ≤ 1048576) (hy : y.length ≤ 1048576) : Ans (fun k => impl_arePair.f k x y) (two x y) := by
 simp only [impl_arePair.f, two, len_eq]
 refine (isSign x hx).bind ?_
 by_cases s : sign x = true
 ·refine y_ s ((isSign y hy).bind ?_)
  by_cases t : sign y = true
  ·rw [s, t, Bool.true_and, Bool.true_and]; exact y_ rfl p_
  ·rw [s, Bool.true_and, Bool.eq_false_iff.mpr t, Bool.false_and]; exact n_ (by simp) p_
 ·rw [Bool.eq_false_iff.mpr s, Bool.false_and]; exact n_ (by simp) p_
theorem hePair {x y : Tb_} (hx : x.length ≤ 1048576) (hy : y.length ≤ 1048576) : Ans (fun k => spec_hePair.f k x y) (two x y) := by
 simp only [spec_hePair.f, two, len_eq]
 refine (sgGood x hx).bind ?_
 by_cases s : sign x = true
 ·refine y_ s ((sgGood y hy).bind ?_)
  by_cases t : sign y = true
  ·rw [s, t, Bool.true_and, Bool.true_and]; exact y_ rfl p_
  ·rw [s, Bool.true_and, Bool.eq_false_iff.mpr t, Bool.false_and]; exact n_ (by simp) p_
 ·rw [Bool.eq_false_iff.mpr s, Bool.false_and]; exact n_ (by simp) p_
theorem implBelow {x y : Tb_} (hx : x.length ≤ 1048576) (hy : y.length ≤ 1048576) : Ans (fun k => impl_IsBelow.f k x y) (isb x y) := by
 simp only [impl_IsBelow.f, isb]
 refine (arePair hx hy).bind ?_
 by_cases c : two x y = true
 ·obtain ⟨s, t, h⟩ := two_iff.mp c
  rw [if_pos c]; exact y_ c ((isBelow s t h).bind p_)
 ·rw [if_neg c]; exact n_ c p_
theorem bel_anti {x y : Tb_} (s : sign x = true) (t : sign y = true) (h : x.length = y.length) : (bel x y = true ∧ bel y x = true) ↔ x = y := by
 obtain ⟨n, hn⟩ : ∃ n, x.length = n := ⟨_, rfl⟩
 have hm : y.length = n := by omega
 rw [bel_iff hn hm, bel_iff hm hn]
 constructor
 ·rintro ⟨a, b⟩
  exact HT_inj (sign_en s hn).1 (sign_en t hm).1 fun i j hi hj => Int.le_antisymm (a i j hi hj) (b i j hi hj)
 ·rintro rfl; exact ⟨fun _ _ _ _ => Int.le_refl _, fun _ _ _ _ => Int.le_refl _⟩
def lea (n : Nat) : Tb_ := tab n n (fun i j => if i = j then 1 else 0)
theorem lea_sign : ∀ n : Nat, 1 ≤ n → n ≤ 6 → sign (lea n) = true := by
 intro n h1 h2
 rcases (show n = 1 ∨ n = 2 ∨ n = 3 ∨ n = 4 ∨ n = 5 ∨ n = 6 by omega) with rfl | rfl | rfl | rfl | rfl | rfl
 all_goals decide +kernel
theorem lea_co : ∀ n : Nat, n ≤ 6 → ∀ i, i ≤ n → ∀ j, j ≤ n → co (lea n) i j = (min i j : Nat) := by decide +kernel
theorem bel_lea {x : Tb_} (s : sign x = true) : bel (lea x.length) x = true := by
 obtain ⟨n, hn⟩ : ∃ n, x.length = n := ⟨_, rfl⟩
 rw [hn, bel_iff (show (lea n).length = n from (tab_sq n _).1) hn]
 intro i j hi hj
 have c := co_in s hn hi hj
 have l := lea_co n (sign_en s hn).2.2.1 i hi j hj
 unfold hgt
 rw [l]; omega
theorem implLea (n : Nat) (hn : n ≤ 6) : Ans (fun k => impl_least.f k n) (lea n) := by
 simp only [impl_least.f]
 refine (table n n o_ o_ (fun x0_ x1_ => impl_least_1.f x0_ x1_) (fun i j => if i = j then 1 else 0) (fun i j hi hj => ?_)).bind p_
 simp only [impl_least_1.f, impl_bit.f, len_eq]
 by_cases c : i = j
 ·simp [c]
 ·simp [c]
theorem hRowsD {x y : Tb_} (hx : x.length ≤ 1000000) (hr : ∀ r ∈ x, r.length ≤ 1000000) : Ans (fun k => laws_hRows.f k x y) (decide (x = y)) := by
 simp only [laws_hRows.f]
 by_cases hl : x.length = y.length
 ·have key : ∀ (d i : Nat), i + d = x.length → Ans (fun k => laws_hRows.l0 k x y (x.length : Int) (i : Int)) (decide (x.drop i = y.drop i)) := by
   intro d
   induction d with
   | zero =>
    intro i h
    rw [List.drop_eq_nil_of_le (show x.length ≤ i by omega), List.drop_eq_nil_of_le (show y.length ≤ i by omega)]
    refine Ans.step ?_
    simp only [laws_hRows.l0]
    exact n_ o_ p_
   | succ d ih =>
    intro i h
    have e := ih (i + 1) o_
    rw [show ((i + 1 : Nat) : Int) = (i : Int) + 1 by omega] at e
    have s := hSame (x.getD i []) (y.getD i []) (by have := hr _ (getD_mem (x := x) [] (show i < x.length by omega)); omega)
    rw [drop_at x [] (show i < x.length by omega), drop_at y [] (show i < y.length by omega)]
    refine Ans.step ?_
    simp only [laws_hRows.l0, rd_L3, Int.toNat_natCast, wrap64_up (show (0 : Int) ≤ i by omega) o_]
    refine y_ o_ (y_ o_ (y_ o_ (y_ o_ (s.bind ?_))))
    by_cases c : x.getD i [] = y.getD i []
    ·rw [c, show decide (y.getD i [] :: x.drop (i + 1) = y.getD i [] :: y.drop (i + 1)) = decide (x.drop (i + 1) = y.drop (i + 1)) by simp]
     exact y_ (by simp) e
    ·rw [show decide (x.getD i [] :: x.drop (i + 1) = y.getD i [] :: y.drop (i + 1)) = false by simp only [decide_eq_false_iff_not]; intro h; exact c (List.cons.inj h).1]
     exact n_ (by simpa using c) p_
  refine y_ o_ ?_
  have := key x.length 0 o_
  rwa [List.drop_zero, List.drop_zero] at this
 ·rw [decide_eq_false (fun h => hl (by rw [h]))]
  exact n_ o_ p_
def allIn (x : List Int) (lo hi : Int) : Bool := x.all fun a => decide (lo ≤ a ∧ a ≤ hi)
theorem l1All (x : List Int) (hx : x.length ≤ 17592186044416) (lo hi : Int) : Ans (fun k => spec_l1All.f k x lo hi) (allIn x lo hi) := by
 have key : ∀ (d : Nat) (i : Int), 0 ≤ i → i + d = x.length → Ans (fun k => spec_l1All.l0 k lo hi x (x.length : Int) i) (allIn (x.drop i.toNat) lo hi) := by
  intro d
  induction d with
  | zero =>
   intro i h0 h1
   rw [List.drop_eq_nil_of_le o_]; refine Ans.step ?_
   simp only [spec_l1All.l0]; exact n_ o_ p_
  | succ d ih =>
   intro i h0 h1
   have hd := drop_at x 0 (show i.toNat < x.length by omega)
   have e := ih (i + 1) o_ o_
   rw [hd, allIn, List.all_cons, show decide (lo ≤ x.getD i.toNat 0 ∧ x.getD i.toNat 0 ≤ hi) = decide (lo ≤ rd x i ∧ rd x i ≤ hi) from rfl]
   refine Ans.step ?_
   simp only [spec_l1All.l0, l1In, Option.bind_some, wrap64_up h0 (by omega : i ≤ 4611686018427387904)]
   refine y_ o_ (y_ h0 (y_ o_ ?_))
   by_cases c : decide (lo ≤ rd x i ∧ rd x i ≤ hi) = true
   ·rw [c, Bool.true_and]; rw [show (i + 1).toNat = i.toNat + 1 by omega] at e; exact y_ rfl e
   ·rw [Bool.eq_false_iff.mpr c, Bool.false_and]; exact n_ (by simp) p_
 exact key x.length 0 o_ o_
def hcor (h : Tb_) (i j : Nat) : Int := wrap64 (Int.tdiv (wrap64 (wrap64 ((i : Int) + j) - en h i j)) 2)
def hmat (n : Nat) (h : Tb_) : Tb_ := tab n n (fun i j => wrap64 (wrap64 (wrap64 (hcor h (i + 1) (j + 1) - hcor h i (j + 1)) - hcor h (i + 1) j) + hcor h i j))
theorem implFromH {n : Nat} {h : Tb_} (q : Sq (n + 1) h) (hn : n ≤ 1000) : Ans (fun k => impl_fromHeights.f k h) (hmat n h) := by
 have corner : ∀ i j : Nat, i ≤ n → j ≤ n → impl_fromHeights_1.f i j h = some (hcor h i j) := fun i j hi hj => by
  have hr : (rd_L3 h (i : Int)).length = n + 1 := by unfold rd_L3; rw [Int.toNat_natCast]; exact q.row o_
  have hl := q.1
  simp only [impl_fromHeights_1.f]
  rw [if_pos o_, if_pos o_, if_pos o_, if_pos o_]
  simp only [hcor, rd, rd_L3, Int.toNat_natCast, en]
 simp only [impl_fromHeights.f, q.1]
 rw [show wrap64 (((n + 1 : Nat) : Int) - 1) = (n : Int) by rw [wrap64_in _ ⟨o_, o_⟩]; omega]
 refine (table n n o_ o_ _ _ (fun i j hi hj => ?_)).bind p_
 simp only [impl_fromHeights_2.f, wrap64_up (show (0 : Int) ≤ i by omega) o_, wrap64_up (show (0 : Int) ≤ j by omega) o_]
 have a := corner (i + 1) (j + 1) o_ o_
 have b := corner i (j + 1) o_ o_
 have c := corner (i + 1) j o_ o_
 have d := corner i j o_ o_
 rw [show ((i + 1 : Nat) : Int) = (i : Int) + 1 by omega] at a c
 rw [show ((j + 1 : Nat) : Int) = (j : Int) + 1 by omega] at a b
 rw [a, b, c, d]; rfl
def scor (h : Tb_) (i j : Nat) : Int := wrap64 (Int.tdiv (wrap64 (wrap64 (wrap64 ((i : Int) + j) + 2) - en h (i + 1) (j + 1))) 2)
def smat (n : Nat) (h : Tb_) : Tb_ := frm (tab n n (scor h))
theorem specFromH {n : Nat} {h : Tb_} (q : Sq (n + 1) h) (hn : n ≤ 1000) : Ans (fun k => spec_heFrom.f k h) (smat n h) := by
 have hl := q.1
 have inner : ∀ (i : Nat), i < n → ∀ (d j : Nat) (y : Tb_), j + d = n → Sq n y → (∀ a b : Nat, a < n → b < n → (a < i ∨ a = i ∧ b < j) → (y.getD a []).getD b 0 = scor h a b) →
   (∀ y', Sq n y' → (∀ a b : Nat, a < n → b < n → a < i + 1 → (y'.getD a []).getD b 0 = scor h a b) → Ans (fun k => spec_heFrom.l0 k h y' (n : Int) ((i + 1 : Nat) : Int)) (smat n h)) →
   Ans (fun k => spec_heFrom.l1 k h y (i : Int) (n : Int) (i : Int) (n : Int) (j : Int)) (smat n h) := by
  intro i hi d
  induction d with
  | zero =>
   intro j y hj hy hv nx
   refine Ans.step ?_
   simp only [spec_heFrom.l1, wrap64_up (show (0 : Int) ≤ i by omega) o_]
   have := nx y hy (fun a b ha hb hlt => hv a b ha hb o_)
   rw [show ((i + 1 : Nat) : Int) = (i : Int) + 1 by omega] at this
   exact n_ o_ this
  | succ d ih =>
   intro j y hj hy hv nx
   have ly := hy.1
   obtain ⟨q1, q2⟩ := put_sq hy i j hi o_ (scor h i j)
   have ry : (rd_L3 y (i : Int)).length = n := by unfold rd_L3; rw [Int.toNat_natCast]; exact hy.row hi
   have rh : (rd_L3 h ((i : Int) + 1)).length = n + 1 := by unfold rd_L3; rw [show ((i : Int) + 1).toNat = i + 1 by omega]; exact q.row o_
   have e := ih (j + 1) _ o_ q1 (fun a b ha hb hlt => by
     rw [q2 a b ha hb]
     by_cases c1 : a = i ∧ b = j
     ·rw [if_pos c1, c1.1, c1.2]
     ·rw [if_neg c1]; exact hv a b ha hb o_) nx
   rw [show ((j + 1 : Nat) : Int) = (j : Int) + 1 by omega] at e
   have ev : rd (rd_L3 h ((i : Int) + 1)) ((j : Int) + 1) = en h (i + 1) (j + 1) := by
    simp only [rd, rd_L3, en]; rw [show ((i : Int) + 1).toNat = i + 1 by omega, show ((j : Int) + 1).toNat = j + 1 by omega]
   refine Ans.step ?_
   simp only [spec_heFrom.l1, wrap64_up (show (0 : Int) ≤ i by omega) o_, wrap64_up (show (0 : Int) ≤ j by omega) o_, Int.toNat_natCast, ev]
   rw [show rd_L3 y (i : Int) = y.getD i [] by unfold rd_L3; rw [Int.toNat_natCast]]
   rw [show rd_L3 y (i : Int) = y.getD i [] by unfold rd_L3; rw [Int.toNat_natCast]] at ry
   exact y_ o_ (y_ o_ (y_ o_ (y_ o_ (y_ o_ (y_ o_ (y_ o_ (y_ o_ (y_ o_ e))))))))
 have key : ∀ (d i : Nat) (y : Tb_), i + d = n → Sq n y → (∀ a b : Nat, a < n → b < n → a < i → (y.getD a []).getD b 0 = scor h a b) → Ans (fun k => spec_heFrom.l0 k h y (n : Int) (i : Int)) (smat n h) := by
  intro d
  induction d with
  | zero =>
   intro i y h1 hy hv
   have e := tab_is hy (scor h) (fun a b ha hb => (hv a b ha hb o_).symm)
   have f := sgFrom n y hy hn
   refine Ans.step ?_
   simp only [spec_heFrom.l0]
   unfold smat
   rw [e]
   exact n_ o_ (f.bind p_)
  | succ d ih =>
   intro i y h1 hy hv
   have ly := hy.1
   refine Ans.step ?_
   simp only [spec_heFrom.l0, ly]
   exact y_ o_ (inner i o_ n 0 y o_ hy (fun a b ha hb hlt => hv a b ha hb o_) (fun y' hy' hv' => ih (i + 1) y' o_ hy' hv'))
 simp only [spec_heFrom.f, hl]
 rw [show wrap64 (((n + 1 : Nat) : Int) - 1) = (n : Int) by rw [wrap64_in _ ⟨o_, o_⟩]; omega]
 refine (sgZero n hn).bind ?_
 simp only [List.length_replicate]
 exact key n 0 _ o_ (rep_sq n 0) (fun a b ha hb hlt => by omega)
theorem hf_in {n : Nat} {h : Nat → Nat → Int} (H : HF n h) {i j : Nat} (hi : i ≤ n) (hj : j ≤ n) : -(n : Int) ≤ h i j ∧ h i j ≤ 2 * n ∧ (h i j - i - j) % 2 = 0 := by
 have p := hf_parity H hj i hi
 have key : ∀ i, i ≤ n → (j : Int) - i ≤ h i j ∧ h i j ≤ j + i := by
  intro i
  induction i with
  | zero => intro _; have := (H.1 j hj).1; omega
  | succ i ih => intro hi; have a := ih o_; have b := H.2.1 i j o_ hj; omega
 have := key i hi
 omega
theorem hcor_of {n : Nat} {h : Nat → Nat → Int} (H : HF n h) (hn : n ≤ 1000) {i j : Nat} (hi : i ≤ n) (hj : j ≤ n) : hcor (tab (n + 1) (n + 1) h) i j = ((i : Int) + j - h i j) / 2 := by
 have a := hf_in H hi hj
 unfold hcor
 rw [tab_en _ o_ o_, wrap64_in ((i : Int) + j) ⟨o_, o_⟩, wrap64_in ((i : Int) + j - h i j) ⟨o_, o_⟩]
 obtain ⟨t, ht⟩ : ∃ t, (i : Int) + j - h i j = 2 * t := ⟨((i : Int) + j - h i j) / 2, by omega⟩
 rw [ht, show Int.tdiv (2 * t) 2 = t by rw [Int.mul_comm]; exact Int.mul_tdiv_cancel t o_, wrap64_in t ⟨o_, o_⟩]; omega
theorem wrap_four (a b c d : Int) (ha : -1000000 ≤ a ∧ a ≤ 1000000) (hb : -1000000 ≤ b ∧ b ≤ 1000000) (hc : -1000000 ≤ c ∧ c ≤ 1000000) (hd : -1000000 ≤ d ∧ d ≤ 1000000) : wrap64 (wrap64 (wrap64 (a - b) - c) + d) = a - b - c + d := by
 rw [wrap64_in (a - b) ⟨o_, o_⟩, wrap64_in (a - b - c) ⟨o_, o_⟩, wrap64_in _ ⟨o_, o_⟩]
theorem hmat_of {n : Nat} {h : Nat → Nat → Int} (H : HF n h) (hn : n ≤ 1000) : hmat n (tab (n + 1) (n + 1) h) = mat n h := by
 refine ext_en (tab_sq n _) (mat_sq n h) fun i j hi hj => ?_
 unfold hmat
 rw [tab_en _ hi hj, mat_en h hi hj, hcor_of H hn o_ o_, hcor_of H hn o_ o_, hcor_of H hn o_ o_, hcor_of H hn o_ o_]
 have a := hf_in H (i := i) (j := j) o_ o_
 have b := hf_in H (i := i) (j := j + 1) o_ o_
 have c := hf_in H (i := i + 1) (j := j) o_ o_
 have d := hf_in H (i := i + 1) (j := j + 1) o_ o_
 rw [wrap_four _ _ _ _ o_ o_ o_ o_]
 omega
theorem scor_of {n : Nat} {h : Nat → Nat → Int} (H : HF n h) (hn : n ≤ 1000) (i j : Nat) (hi : i ≤ n) (hj : j ≤ n) : sgat (tab n n (scor (tab (n + 1) (n + 1) h))) ((i : Int) - 1) ((j : Int) - 1) = ((i : Int) + j - h i j) / 2 := by
 unfold sgat
 by_cases c : i = 0
 ·rw [if_pos o_, c]; have := (H.1 j hj).1; omega
 by_cases d : j = 0
 ·rw [if_neg o_, if_pos o_, d]; have := (H.1 i hi).2.1; omega
 rw [if_neg o_, if_neg o_, show (i : Int) - 1 = ((i - 1 : Nat) : Int) by omega, show (j : Int) - 1 = ((j - 1 : Nat) : Int) by omega, at_en, tab_en _ o_ o_]
 unfold scor
 have a := hf_in H hi hj
 rw [tab_en _ o_ o_, show i - 1 + 1 = i by omega, show j - 1 + 1 = j by omega, wrap64_in (((i - 1 : Nat) : Int) + ((j - 1 : Nat) : Int)) ⟨o_, o_⟩, show ((i - 1 : Nat) : Int) + ((j - 1 : Nat) : Int) + 2 = (i : Int) + j by omega, wrap64_in ((i : Int) + j) ⟨o_, o_⟩, wrap64_in ((i : Int) + j - h i j) ⟨o_, o_⟩]
 obtain ⟨t, ht⟩ : ∃ t, (i : Int) + j - h i j = 2 * t := ⟨((i : Int) + j - h i j) / 2, by omega⟩
 rw [ht, show Int.tdiv (2 * t) 2 = t by rw [Int.mul_comm]; exact Int.mul_tdiv_cancel t o_, wrap64_in t ⟨o_, o_⟩]; omega
theorem smat_of {n : Nat} {h : Nat → Nat → Int} (H : HF n h) (hn : n ≤ 1000) : smat n (tab (n + 1) (n + 1) h) = mat n h := by
 have ts := tab_sq n (scor (tab (n + 1) (n + 1) h))
 refine ext_en (frm_sq ts) (mat_sq n h) fun i j hi hj => ?_
 unfold smat frm
 rw [ts.1, tab_en _ hi hj, mat_en h hi hj]
 unfold diff
 have e1 := scor_of H hn (i + 1) (j + 1) o_ o_
 have e2 := scor_of H hn i (j + 1) o_ o_
 have e3 := scor_of H hn (i + 1) j o_ o_
 have e4 := scor_of H hn i j o_ o_
 rw [show ((i + 1 : Nat) : Int) - 1 = i by omega] at e1 e3
 rw [show ((j + 1 : Nat) : Int) - 1 = j by omega] at e1 e2
 rw [e1, e2, e3, e4]
 have a := hf_in H (i := i) (j := j) o_ o_
 have b := hf_in H (i := i) (j := j + 1) o_ o_
 have c := hf_in H (i := i + 1) (j := j) o_ o_
 have d := hf_in H (i := i + 1) (j := j + 1) o_ o_
 rw [wrap_four _ _ _ _ o_ o_ o_ o_]
 omega
theorem HT_hf {x : Tb_} (s : sign x = true) {n : Nat} (hn : x.length = n) : HT x = tab (n + 1) (n + 1) (hgt x) ∧ HF n (hgt x) ∧ mat n (hgt x) = x := by
 refine ⟨?_, hf_of s hn, mat_of s hn⟩
 unfold HT; rw [hn]
theorem wrap_pred {i : Nat} (h : 1 ≤ i) (h2 : i ≤ 1000000) : wrap64 ((i : Int) - 1) = ((i - 1 : Nat) : Int) := by rw [wrap64_in _ ⟨o_, o_⟩]; omega
theorem wrap_succ {i : Nat} (h2 : i ≤ 1000000) : wrap64 ((i : Int) + 1) = ((i + 1 : Nat) : Int) := by rw [wrap64_in _ ⟨o_, o_⟩]; omega
theorem len_down {n : Nat} (h2 : n ≤ 1000000) : wrap64 (((n + 1 : Nat) : Int) - 1) = (n : Int) := by rw [wrap64_in _ ⟨o_, o_⟩]; omega
def wayH (h : Nat → Nat → Int) (i j : Nat) : Int :=
 if h (i - 1) j = h i j + 1 ∧ h (i + 1) j = h i j + 1 ∧ h i (j - 1) = h i j + 1 ∧ h i (j + 1) = h i j + 1 then 1
 else if h (i - 1) j = h i j - 1 ∧ h (i + 1) j = h i j - 1 ∧ h i (j - 1) = h i j - 1 ∧ h i (j + 1) = h i j - 1 then -1 else 0
theorem wayH_cases (h : Nat → Nat → Int) (i j : Nat) : (wayH h i j = 1 ∧ h (i - 1) j = h i j + 1 ∧ h (i + 1) j = h i j + 1 ∧ h i (j - 1) = h i j + 1 ∧ h i (j + 1) = h i j + 1) ∨
  (wayH h i j = -1 ∧ h (i - 1) j = h i j - 1 ∧ h (i + 1) j = h i j - 1 ∧ h i (j - 1) = h i j - 1 ∧ h i (j + 1) = h i j - 1) ∨ wayH h i j = 0 := by
 unfold wayH
 split
 ·exact .inl ⟨rfl, by assumption⟩
 ·split
  ·exact .inr (.inl ⟨rfl, by assumption⟩)
  ·exact .inr (.inr rfl)
def putH (h : Nat → Nat → Int) (i j : Nat) (v : Int) : Nat → Nat → Int := fun a b => if a = i ∧ b = j then v else h a b
def flipH (h : Nat → Nat → Int) (i j : Nat) : Nat → Nat → Int := putH h i j (h i j + 2 * wayH h i j)
theorem hf_flip {n : Nat} {h : Nat → Nat → Int} (H : HF n h) {i j : Nat} (hi : 1 ≤ i ∧ i < n) (hj : 1 ≤ j ∧ j < n) : HF n (flipH h i j) := by
 have w := wayH_cases h i j
 unfold flipH putH
 refine ⟨fun b hb => ?_, fun a b ha hb => ?_, fun a b ha hb => ?_⟩
 ·have := H.1 b hb
  dsimp only
  rw [if_neg o_, if_neg o_, if_neg o_, if_neg o_]
  exact this
 ·have := H.2.1 a b ha hb
  dsimp only
  by_cases c : a + 1 = i ∧ b = j
  ·obtain ⟨rfl, rfl⟩ := c
   rw [if_pos ⟨rfl, rfl⟩, if_neg o_]
   rw [show a + 1 - 1 = a by omega] at w
   omega
  ·rw [if_neg c]
   by_cases d : a = i ∧ b = j
   ·obtain ⟨rfl, rfl⟩ := d
    rw [if_pos ⟨rfl, rfl⟩]; omega
   ·rw [if_neg d]; exact this
 ·have := H.2.2 a b ha hb
  dsimp only
  by_cases c : a = i ∧ b + 1 = j
  ·obtain ⟨rfl, rfl⟩ := c
   rw [if_pos ⟨rfl, rfl⟩, if_neg o_]
   rw [show b + 1 - 1 = b by omega] at w
   omega
  ·rw [if_neg c]
   by_cases d : a = i ∧ b = j
   ·obtain ⟨rfl, rfl⟩ := d
    rw [if_pos ⟨rfl, rfl⟩]; omega
   ·rw [if_neg d]; exact this
theorem tab_put {m : Nat} (h : Nat → Nat → Int) {i j : Nat} (hi : i < m) (hj : j < m) (v : Int) : (tab m m h).set i (((tab m m h).getD i []).set j v) = tab m m (putH h i j v) := by
 obtain ⟨q1, q2⟩ := put_sq (tab_sq m h) i j hi hj v
 refine ext_en q1 (tab_sq m _) fun a b ha hb => ?_
 have := q2 a b ha hb
 unfold en at *
 rw [this]
 have e1 := tab_en h ha hb
 have e2 := tab_en (putH h i j v) ha hb
 unfold en at e1 e2
 rw [e1, e2]; rfl
def rowF (p : Nat → Nat → Bool) (i : Nat) : Nat → Nat → Tb_
 | 0, _ => []
 | d + 1, j => (if p i j = true then [[(i : Int), (j : Int)]] else []) ++ rowF p i d (j + 1)
def tabF (p : Nat → Nat → Bool) (n : Nat) : Nat → Nat → Tb_
 | 0, _ => []
 | d + 1, i => rowF p i (n - 1) 1 ++ tabF p n d (i + 1)
def cellsF (n : Nat) (p : Nat → Nat → Bool) : Tb_ := tabF p n (n - 1) 1
theorem rowF_len (p : Nat → Nat → Bool) (i : Nat) : ∀ d j, (rowF p i d j).length ≤ d
 | 0, _ => by simp [rowF]
 | d + 1, j => by
  have := rowF_len p i d (j + 1)
  rw [rowF, List.length_append]
  split <;> simp <;> omega
theorem rowF_mem {p : Nat → Nat → Bool} {i : Nat} {c : List Int} : ∀ {d j : Nat}, c ∈ rowF p i d j ↔ ∃ b, j ≤ b ∧ b < j + d ∧ p i b = true ∧ c = [(i : Int), (b : Int)]
 | 0, j => by
  simp only [rowF, List.not_mem_nil, false_iff]
  rintro ⟨b, h1, h2, _⟩; omega
 | d + 1, j => by
  rw [rowF, List.mem_append, rowF_mem]
  constructor
  ·rintro (h | ⟨b, h1, h2, h3⟩)
   ·by_cases q : p i j = true
    ·rw [if_pos q, List.mem_singleton] at h; exact ⟨j, by omega, by omega, q, h⟩
    ·rw [if_neg q] at h; simp at h
   ·exact ⟨b, by omega, by omega, h3⟩
  ·rintro ⟨b, h1, h2, h3, h4⟩
   by_cases e : b = j
   ·subst e; left; rw [if_pos h3, List.mem_singleton]; exact h4
   ·exact .inr ⟨b, by omega, by omega, h3, h4⟩
theorem tabF_mem {p : Nat → Nat → Bool} {n : Nat} {c : List Int} : ∀ {d i : Nat}, c ∈ tabF p n d i ↔ ∃ a b, i ≤ a ∧ a < i + d ∧ 1 ≤ b ∧ b < n ∧ p a b = true ∧ c = [(a : Int), (b : Int)]
 | 0, i => by
  simp only [tabF, List.not_mem_nil, false_iff]
  rintro ⟨a, b, h1, h2, _⟩; omega
 | d + 1, i => by
  rw [tabF, List.mem_append, tabF_mem, rowF_mem]
  constructor
  ·rintro (⟨b, h1, h2, h3, h4⟩ | ⟨a, b, h1, h2, h3⟩)
   ·exact ⟨i, b, by omega, by omega, h1, by omega, h3, h4⟩
   ·exact ⟨a, b, by omega, by omega, h3⟩
  ·rintro ⟨a, b, h1, h2, h3, h4, h5, h6⟩
   by_cases e : a = i
   ·subst e; exact .inl ⟨b, by omega, by omega, h5, h6⟩
   ·exact .inr ⟨a, b, by omega, by omega, h3, h4, h5, h6⟩
theorem cellsF_mem {p : Nat → Nat → Bool} {n : Nat} {c : List Int} : c ∈ cellsF n p ↔ ∃ a b : Nat, 1 ≤ a ∧ a < n ∧ 1 ≤ b ∧ b < n ∧ p a b = true ∧ c = [(a : Int), (b : Int)] := by
 unfold cellsF
 rw [tabF_mem]
 constructor
 ·rintro ⟨a, b, h1, h2, h3⟩; exact ⟨a, b, h1, by omega, h3⟩
 ·rintro ⟨a, b, h1, h2, h3⟩; exact ⟨a, b, h1, by omega, h3⟩
theorem allIn_four (a b c d v : Int) : allIn [a, b, c, d] v v = decide (a = v ∧ b = v ∧ c = v ∧ d = v) := by
 unfold allIn
 rw [Bool.eq_iff_iff]
 simp only [List.all_cons, List.all_nil, Bool.and_true, Bool.and_eq_true, decide_eq_true_eq]
 omega
theorem heWay {n : Nat} (h : Nat → Nat → Int) (hn : n ≤ 1000) (hb : ∀ i j, i ≤ n → j ≤ n → -10000 ≤ h i j ∧ h i j ≤ 10000) {i j : Nat} (hi : 1 ≤ i ∧ i < n) (hj : 1 ≤ j ∧ j < n) : Ans (fun k => spec_heWay.f k (tab (n + 1) (n + 1) h) i j) (wayH h i j) := by
 have q := tab_sq (n + 1) h
 have hl := q.1
 have row : ∀ a : Nat, a ≤ n → (rd_L3 (tab (n + 1) (n + 1) h) (a : Int)).length = n + 1 := fun a ha => by unfold rd_L3; rw [Int.toNat_natCast]; exact q.row o_
 have num : ∀ a b : Nat, a ≤ n → b ≤ n → rd (rd_L3 (tab (n + 1) (n + 1) h) (a : Int)) (b : Int) = h a b := fun a b ha hb' => by rw [at_en, tab_en _ o_ o_]
 have r0 := row i o_
 have r1 := row (i - 1) o_
 have r2 := row (i + 1) o_
 have b0 := hb i j o_ o_
 simp only [spec_heWay.f, wrap_pred (show 1 ≤ i by omega) o_, wrap_pred (show 1 ≤ j by omega) o_, wrap_succ (show i ≤ 1000000 by omega), wrap_succ (show j ≤ 1000000 by omega), Option.bind_some]
 rw [num i j o_ o_, num (i - 1) j o_ o_, num (i + 1) j o_ o_, num i (j - 1) o_ o_, num i (j + 1) o_ o_, wrap64_in (h i j + 1) ⟨o_, o_⟩, wrap64_in (h i j - 1) ⟨o_, o_⟩]
 have u := l1All [h (i - 1) j, h (i + 1) j, h i (j - 1), h i (j + 1)] (by simp) (h i j + 1) (h i j + 1)
 have v := l1All [h (i - 1) j, h (i + 1) j, h i (j - 1), h i (j + 1)] (by simp) (h i j - 1) (h i j - 1)
 rw [allIn_four] at u v
 refine y_ o_ (y_ o_ (y_ o_ (y_ o_ (y_ o_ (y_ o_ (y_ o_ (y_ o_ (y_ o_ (y_ o_ (y_ o_ (y_ o_ (y_ o_ (y_ o_ ?_)))))))))))))
 unfold wayH
 by_cases c : h (i - 1) j = h i j + 1 ∧ h (i + 1) j = h i j + 1 ∧ h i (j - 1) = h i j + 1 ∧ h i (j + 1) = h i j + 1
 ·rw [if_pos c]; exact u.bind (y_ (decide_eq_true c) p_)
 ·rw [if_neg c]
  refine u.bind (n_ (by simpa using c) (v.bind ?_))
  by_cases d : h (i - 1) j = h i j - 1 ∧ h (i + 1) j = h i j - 1 ∧ h i (j - 1) = h i j - 1 ∧ h i (j + 1) = h i j - 1
  ·rw [if_pos d]; exact y_ (decide_eq_true d) p_
  ·rw [if_neg d]; exact n_ (by simpa using d) p_
theorem heFlips {n : Nat} (h : Nat → Nat → Int) (hn : n ≤ 100) (hb : ∀ i j, i ≤ n → j ≤ n → -10000 ≤ h i j ∧ h i j ≤ 10000) (w : Int) : Ans (fun k => spec_heFlips.f k (tab (n + 1) (n + 1) h) w) (cellsF n (fun i j => decide (wayH h i j = w))) := by
 have q := tab_sq (n + 1) h
 have inner : ∀ (R : Tb_) (i : Nat), 1 ≤ i ∧ i < n → ∀ (d j : Nat) (y : Tb_), j + d = n → 1 ≤ j → y.length + d ≤ 20000 →
   Ans (fun k => spec_heFlips.l0 k (tab (n + 1) (n + 1) h) w (y ++ rowF (fun i j => decide (wayH h i j = w)) i d j) ((i + 1 : Nat) : Int)) R → Ans (fun k => spec_heFlips.l1 k (tab (n + 1) (n + 1) h) w y (i : Int) (j : Int)) R := by
  intro R i hi d
  induction d with
  | zero =>
   intro j y h1 h2 h3 nx
   rw [rowF, List.append_nil, show ((i + 1 : Nat) : Int) = (i : Int) + 1 by omega] at nx
   refine Ans.step ?_
   simp only [spec_heFlips.l1, q.1, len_down (show n ≤ 1000000 by omega), wrap64_up (show (0 : Int) ≤ i by omega) o_]
   exact n_ o_ nx
  | succ d ih =>
   intro j y h1 h2 h3 nx
   have wy := heWay h o_ hb hi (show 1 ≤ j ∧ j < n by omega)
   rw [rowF, ← List.append_assoc] at nx
   refine Ans.step ?_
   simp only [spec_heFlips.l1, q.1, len_down (show n ≤ 1000000 by omega), wrap64_up (show (0 : Int) ≤ j by omega) o_]
   refine y_ o_ (wy.bind ?_)
   by_cases c : wayH h i j = w
   ·rw [if_pos (decide_eq_true c)] at nx
    have := ih (j + 1) (y ++ [[(i : Int), (j : Int)]]) o_ o_ (by simp; omega) nx
    rw [show ((j + 1 : Nat) : Int) = (j : Int) + 1 by omega] at this
    exact y_ c (y_ o_ this)
   ·rw [if_neg (by simpa using c), List.append_nil] at nx
    have := ih (j + 1) y o_ o_ o_ nx
    rw [show ((j + 1 : Nat) : Int) = (j : Int) + 1 by omega] at this
    exact n_ c this
 have key : ∀ (d i : Nat) (y : Tb_), i + d = n → 1 ≤ i → y.length ≤ 100 * i → Ans (fun k => spec_heFlips.l0 k (tab (n + 1) (n + 1) h) w y (i : Int)) (y ++ tabF (fun i j => decide (wayH h i j = w)) n d i) := by
  intro d
  induction d with
  | zero =>
   intro i y h1 h2 h3
   refine Ans.step ?_
   simp only [spec_heFlips.l0, q.1, len_down (show n ≤ 1000000 by omega), tabF, List.append_nil]
   exact n_ o_ p_
  | succ d ih =>
   intro i y h1 h2 h3
   have rl := rowF_len (fun i j => decide (wayH h i j = w)) i (n - 1) 1
   have e := ih (i + 1) (y ++ rowF (fun i j => decide (wayH h i j = w)) i (n - 1) 1) o_ o_ (by rw [List.length_append]; omega)
   rw [List.append_assoc] at e
   rw [tabF]
   refine Ans.step ?_
   simp only [spec_heFlips.l0, q.1, len_down (show n ≤ 1000000 by omega)]
   exact y_ o_ (inner _ i o_ (n - 1) 1 y o_ o_ o_ e)
 simp only [spec_heFlips.f]
 by_cases c : 1 ≤ n
 ·have := key (n - 1) 1 [] o_ o_ (by simp)
  rw [List.nil_append] at this
  exact this
 ·have z : cellsF n (fun i j => decide (wayH h i j = w)) = [] := by unfold cellsF; rw [show n - 1 = 0 by omega]; rfl
  rw [z]
  refine Ans.step ?_
  simp only [spec_heFlips.l0, q.1, len_down (show n ≤ 1000000 by omega)]
  exact n_ o_ p_
theorem hgt_bound {x : Tb_} (s : sign x = true) {n : Nat} (hn : x.length = n) : ∀ i j, i ≤ n → j ≤ n → -10000 ≤ hgt x i j ∧ hgt x i j ≤ 10000 := fun i j hi hj => by
 have a := hgt_in s hn hi hj
 have b := (sign_en s hn).2.2.1
 omega
theorem heCell (n i j : Nat) (hn : n ≤ 1000) : spec_heCell.f (n : Int) i j = some (decide ((1 ≤ i ∧ i < n) ∧ (1 ≤ j ∧ j < n))) := by
 simp only [spec_heCell.f, l1In, Option.bind_some]
 rw [show wrap64 ((n : Int) - 1) = (n : Int) - 1 from wrap64_in _ ⟨o_, o_⟩]
 by_cases c : 1 ≤ i ∧ i < n
 ·rw [if_pos (by rw [decide_eq_true_eq]; omega)]; congr 1; rw [decide_eq_decide]; omega
 ·rw [if_neg (by rw [decide_eq_true_eq]; omega)]; congr 1; exact (decide_eq_false o_).symm
theorem specFlip {x : Tb_} (s : sign x = true) {n : Nat} (hn : x.length = n) {i j : Nat} (hi : 1 ≤ i ∧ i < n) (hj : 1 ≤ j ∧ j < n) : Ans (fun k => spec_FlipAt.f k x i j) (if wayH (hgt x) i j = 0 then ([], false) else (mat n (flipH (hgt x) i j), true)) := by
 obtain ⟨_, h1, h6, _⟩ := sign_en s hn
 obtain ⟨a, b, c⟩ := HT_hf s hn
 have sg := sgGood x o_
 rw [s] at sg
 have ho := specHeights s
 rw [a] at ho
 have wy := heWay (hgt x) o_ (hgt_bound s hn) hi hj
 have q := tab_sq (n + 1) (hgt x)
 have hl := q.1
 have hr : (rd_L3 (tab (n + 1) (n + 1) (hgt x)) (i : Int)).length = n + 1 := by unfold rd_L3; rw [Int.toNat_natCast]; exact q.row o_
 have hb := hgt_bound s hn i j o_ o_
 have wc := wayH_cases (hgt x) i j
 simp only [spec_FlipAt.f, hn, heCell n i j o_, Option.bind_some]
 refine sg.bind (y_ rfl ?_)
 rw [decide_eq_true (show (1 ≤ i ∧ i < n) ∧ (1 ≤ j ∧ j < n) from ⟨hi, hj⟩)]
 refine Ans.step ?_
 simp only [spec_FlipAt.j0, Int.toNat_natCast]
 refine n_ (by simp) (ho.bind (wy.bind ?_))
 rw [show wrap64 (rd (rd_L3 (tab (n + 1) (n + 1) (hgt x)) (i : Int)) (j : Int) + wrap64 (2 * wayH (hgt x) i j)) = hgt x i j + 2 * wayH (hgt x) i j by
  rw [at_en, tab_en _ o_ o_, wrap64_in (2 * wayH (hgt x) i j) ⟨o_, o_⟩, wrap64_in _ ⟨o_, o_⟩], show rd_L3 (tab (n + 1) (n + 1) (hgt x)) (i : Int) = (tab (n + 1) (n + 1) (hgt x)).getD i [] by unfold rd_L3; rw [Int.toNat_natCast], tab_put _ o_ o_]
 rw [show rd_L3 (tab (n + 1) (n + 1) (hgt x)) (i : Int) = (tab (n + 1) (n + 1) (hgt x)).getD i [] by unfold rd_L3; rw [Int.toNat_natCast]] at hr
 by_cases z : wayH (hgt x) i j = 0
 ·rw [if_pos z]; exact y_ z p_
 ·rw [if_neg z]
  have F := specFromH (tab_sq (n + 1) (flipH (hgt x) i j)) o_
  rw [smat_of (hf_flip b hi hj) o_] at F
  exact n_ z (y_ o_ (y_ o_ (y_ o_ (y_ o_ (F.bind p_)))))
theorem flip_sign {x : Tb_} (s : sign x = true) {n : Nat} (hn : x.length = n) {i j : Nat} (hi : 1 ≤ i ∧ i < n) (hj : 1 ≤ j ∧ j < n) : sign (mat n (flipH (hgt x) i j)) = true ∧ (mat n (flipH (hgt x) i j)).length = n :=
 ⟨mat_sign (hf_flip (HT_hf s hn).2.1 hi hj) (sign_en s hn).2.1 (sign_en s hn).2.2.1, (mat_sq n _).1⟩
def Aside (p : Prop) : Prop := p
theorem draw_pair (c : List Int) (hc : ∀ x ∈ c, (Lit.int .u8 x).wf = true) (a s : Int) (most : Nat) (hm : 1 ≤ most) (hm2 : most ≤ 6) (h0 : 0 ≤ a) (h1 : a ≤ 10000000000) :
  ∃ m l a' s', Ans (fun k => spec_l1Cur_pair.f k c a s most) (m, l, a', s') ∧ a ≤ a' ∧ a' ≤ a + 10000 ∧ (m.length ≤ 7 ∧ ∀ r ∈ m, r.length ≤ 7) ∧ (l.length ≤ 7 ∧ ∀ r ∈ l, r.length ≤ 7) := by
 obtain ⟨m, a1, s1, f1, p1, q1, m1, m2⟩ := draw_signs c hc a s most hm hm2 h0 o_
 have sg := sgGood m o_

 have alone : ∀ (a s : Int), 0 ≤ a → a ≤ 20000000000 → ∃ l a' s', Ans (fun k => spec_l1Cur_pair.j0 k most m true c a s) (m, l, a', s') ∧ a ≤ a' ∧ a' ≤ a + 3000 ∧ (l.length ≤ 7 ∧ ∀ r ∈ l, r.length ≤ 7) := by
  intro a s h0 h1
  obtain ⟨l, a2, s2, f2, p2, q2, l1, l2⟩ := draw_signs c hc a s most hm hm2 h0 o_
  refine ⟨l, a2, s2, Ans.step ?_, p2, q2, l1, l2⟩
  simp only [spec_l1Cur_pair.j0]
  exact y_ trivial (f2.bind p_)
 by_cases s' : sign m = true
 case neg =>
  rw [Bool.eq_false_iff.mpr s'] at sg
  obtain ⟨l, a2, s2, f2, p2, q2, l1⟩ := alone a1 s1 o_ o_
  refine ⟨m, l, a2, s2, ?_, by omega, by omega, ⟨m1, m2⟩, l1⟩
  simp only [spec_l1Cur_pair.f]
  exact f1.bind (sg.bind (n_ (by simp) f2))
 rw [s'] at sg
 obtain ⟨v, a2, s2, e2, p2, q2⟩ := draw_one c hc a1 s1 10 o_ o_
 cases v with
 | true =>
  obtain ⟨l, a3, s3, f3, p3, q3, l1⟩ := alone a2 s2 o_ o_
  refine ⟨m, l, a3, s3, ?_, by omega, by omega, ⟨m1, m2⟩, l1⟩
  simp only [spec_l1Cur_pair.f]
  refine f1.bind (sg.bind (y_ rfl ?_))
  simp only [e2, Option.bind_some]
  exact f3
 | false =>
  obtain ⟨n, hn⟩ : ∃ n, m.length = n := ⟨_, rfl⟩
  obtain ⟨_, n1, n6, _⟩ := sign_en s' hn
  obtain ⟨t, a3, s3, f3, p3, q3, t1, t2⟩ := draw_sure c hc a2 s2 n n1 n6 o_ o_
  obtain ⟨u, a4, s4, e4, p4, q4⟩ := draw_one c hc a3 s3 3 o_ o_
  cases u with
  | false =>
   refine ⟨m, t, a4, s4, ?_, by omega, by omega, ⟨m1, m2⟩, by rw [t1.1]; omega, fun r hr => by rw [t1.2 r hr]; omega⟩
   simp only [spec_l1Cur_pair.f]
   refine f1.bind (sg.bind (y_ rfl ?_))
   simp only [e2, Option.bind_some]
   refine Ans.step ?_
   simp only [spec_l1Cur_pair.j0, hn]
   refine n_ (by simp) (f3.bind ?_)
   simp only [e4, Option.bind_some]
   exact n_ (by simp) p_
  | true =>
   obtain ⟨v, a5, s5, e5, p5, q5, v0, v1⟩ := draw_pick c hc a4 s4 4 o_ o_
   have loop : ∀ (d : Nat) (y : Tb_) (a s : Int), d ≤ 4 → sign y = true → y.length = n → 0 ≤ a → a + 4 * d ≤ 20000000000 → ∃ l a' s', Ans (fun k => spec_l1Cur_pair.l0 k m y (d : Int) c a s) (m, l, a', s') ∧ a ≤ a' ∧ a' ≤ a + 4 * d ∧ sign l = true ∧ l.length = n := by
    intro d
    induction d with
    | zero =>
     intro y a s _ sy hy h0 h1
     refine ⟨y, a, s, Ans.step ?_, by omega, by omega, sy, hy⟩
     simp only [spec_l1Cur_pair.l0]
     exact n_ o_ p_
    | succ d ih =>
     intro y a s hd sy hy h0 h1
     obtain ⟨b, a1, s1, e1, p1, q1, b0, b1⟩ := draw_pick c hc a s 2 h0 o_
     have ho := specHeights sy
     rw [(HT_hf sy hy).1] at ho
     obtain ⟨w, hw, wb⟩ : ∃ w, wrap64 ((wrap64 (2 * b)) - 1) = w ∧ w ≠ 0 := ⟨_, rfl, by
      rw [wrap64_in (2 * b) ⟨o_, o_⟩, wrap64_in _ ⟨o_, o_⟩]; omega⟩
     have fl := heFlips (hgt y) o_ (hgt_bound sy hy) w
     obtain ⟨L, hL⟩ : ∃ L, L = cellsF n (fun i j => decide (wayH (hgt y) i j = w)) := ⟨_, rfl⟩
     replace hw : Aside (wrap64 ((wrap64 (2 * b)) - 1) = w) := hw
     rw [← hL] at fl
     by_cases z : (L.length : Int) > 0
     ·obtain ⟨g, a2, s2, e2, p2, q2, g0, g1⟩ := draw_pick c hc a1 s1 (L.length : Int) o_ o_
      have gm := getD_mem (x := L) [] (show g.toNat < L.length by omega)
      have gm' := gm
      rw [hL, cellsF_mem] at gm'
      obtain ⟨i, j, i1, i2, j1, j2, wy, ce⟩ := gm'
      rw [← hL] at ce
      have er : rd_L3 L g = [(i : Int), (j : Int)] := ce
      have sf := specFlip sy hy ⟨i1, i2⟩ ⟨j1, j2⟩
      rw [if_neg (by simp only [decide_eq_true_eq] at wy; rw [wy]; exact wb)] at sf
      obtain ⟨k1, k2⟩ := flip_sign sy hy ⟨i1, i2⟩ ⟨j1, j2⟩
      obtain ⟨l, a', s', e, r1, r2, r3⟩ := ih _ a2 s2 o_ k1 k2 o_ o_
      refine ⟨l, a', s', Ans.step ?_, by omega, by omega, r3⟩
      simp only [spec_l1Cur_pair.l0, len_down (show d ≤ 1000000 by omega), e1, Option.bind_some, show wrap64 ((wrap64 (2 * b)) - 1) = w from hw]
      refine y_ o_ (ho.bind (fl.bind (y_ z ?_)))
      simp only [e2, Option.bind_some, er]
      refine y_ g0 (y_ o_ (y_ (by simp) (y_ (by simp) ?_)))
      exact sf.bind e
     ·obtain ⟨l, a', s', e, r1, r2, r3⟩ := ih y a1 s1 o_ sy hy o_ o_
      refine ⟨l, a', s', Ans.step ?_, by omega, by omega, r3⟩
      simp only [spec_l1Cur_pair.l0, len_down (show d ≤ 1000000 by omega), e1, Option.bind_some, show wrap64 ((wrap64 (2 * b)) - 1) = w from hw]
      exact y_ o_ (ho.bind (fl.bind (n_ z e)))
   obtain ⟨l, a6, s6, e6, p6, q6, r1, r2⟩ := loop v.toNat m a5 s5 o_ s' hn o_ o_
   rw [Int.toNat_of_nonneg v0] at e6
   obtain ⟨lq, _⟩ := sign_en r1 r2
   refine ⟨m, l, a6, s6, ?_, by omega, by omega, ⟨m1, m2⟩, by omega, fun r hr => by rw [lq.2 r hr]; omega⟩
   simp only [spec_l1Cur_pair.f]
   refine f1.bind (sg.bind (y_ rfl ?_))
   simp only [e2, Option.bind_some]
   refine Ans.step ?_
   simp only [spec_l1Cur_pair.j0, hn]
   refine n_ (by simp) (f3.bind ?_)
   simp only [e4, e5, Option.bind_some]
   exact y_ trivial e6
theorem S_even {f : Nat → Int} : ∀ {n : Nat}, (∀ i, i < n → f i % 2 = 0) → S n f % 2 = 0
 | 0, _ => by simp [S]
 | n + 1, h => by
  have a := S_even (fun i hi => h i (by omega : i < n + 1)) (n := n)
  have b := h n o_
  rw [S]; omega
def dst (n : Nat) (h g : Nat → Nat → Int) : Int := S (n + 1) (fun i => S (n + 1) (fun j => max (h i j - g i j) (g i j - h i j)))
theorem dst_even {n : Nat} {h g : Nat → Nat → Int} (H : HF n h) (G : HF n g) : dst n h g % 2 = 0 := by
 refine S_even fun i hi => S_even fun j hj => ?_
 have a := hf_parity H (show j ≤ n by omega) i o_
 have b := hf_parity G (show j ≤ n by omega) i o_
 omega
theorem lower {h1 h0 g1 g0 : Int} (a : h1 - h0 = 1 ∨ h1 - h0 = -1) (b : g1 - g0 = 1 ∨ g1 - g0 = -1) (p : h0 + 2 ≤ g0) : h1 = h0 + 1 ∨ (h1 = h0 - 1 ∧ h1 < g1) := by omega
def mnL : Int → List Int → Int
 | m, [] => m
 | m, x :: l => if x < m then mnL x l else mnL m l
def mxL : Int → List Int → Int
 | m, [] => m
 | m, x :: l => if m < x then mxL x l else mxL m l
theorem minAns (l : List Int) (hl : l.length ≤ 1000) : ∀ (d i : Nat) (m : Int), i + d = l.length → Ans (fun k => slices_Min_int_int.l0 k l m (i : Int)) (mnL m (l.drop i)) := by
 intro d
 induction d with
 | zero =>
  intro i m h
  rw [drop_all _ o_]
  exact Ans.step (by simp only [slices_Min_int_int.l0]; exact n_ o_ p_)
 | succ d ih =>
  intro i m h
  rw [drop_at l 0 o_, mnL]
  refine Ans.step ?_
  simp only [slices_Min_int_int.l0, wrap64_up (show (0 : Int) ≤ i by omega) o_, rd, Int.toNat_natCast]
  refine y_ o_ (y_ o_ ?_)
  by_cases c : l.getD i 0 < m
  ·have e := ih (i + 1) (l.getD i 0) o_
   rw [show ((i + 1 : Nat) : Int) = (i : Int) + 1 by omega] at e
   rw [if_pos c]; exact y_ c e
  ·have e := ih (i + 1) m o_
   rw [show ((i + 1 : Nat) : Int) = (i : Int) + 1 by omega] at e
   rw [if_neg c]; exact n_ c e
theorem maxAns (l : List Int) (hl : l.length ≤ 1000) : ∀ (d i : Nat) (m : Int), i + d = l.length → Ans (fun k => slices_Max_int_int.l0 k l m (i : Int)) (mxL m (l.drop i)) := by
 intro d
 induction d with
 | zero =>
  intro i m h
  rw [drop_all _ o_]
  exact Ans.step (by simp only [slices_Max_int_int.l0]; exact n_ o_ p_)
 | succ d ih =>
  intro i m h
  rw [drop_at l 0 o_, mxL]
  refine Ans.step ?_
  simp only [slices_Max_int_int.l0, wrap64_up (show (0 : Int) ≤ i by omega) o_, rd, Int.toNat_natCast]
  refine y_ o_ (y_ o_ ?_)
  by_cases c : m < l.getD i 0
  ·have e := ih (i + 1) (l.getD i 0) o_
   rw [show ((i + 1 : Nat) : Int) = (i : Int) + 1 by omega] at e
   rw [if_pos c]; exact y_ c e
  ·have e := ih (i + 1) m o_
   rw [show ((i + 1 : Nat) : Int) = (i : Int) + 1 by omega] at e
   rw [if_neg c]; exact n_ c e
theorem mn4 (a b c d : Int) : mnL a [b, c, d] ≤ a ∧ mnL a [b, c, d] ≤ b ∧ mnL a [b, c, d] ≤ c ∧ mnL a [b, c, d] ≤ d ∧ (mnL a [b, c, d] = a ∨ mnL a [b, c, d] = b ∨ mnL a [b, c, d] = c ∨ mnL a [b, c, d] = d) := by
 simp only [mnL]
 repeat' split
 all_goals omega
theorem mx4 (a b c d : Int) : a ≤ mxL a [b, c, d] ∧ b ≤ mxL a [b, c, d] ∧ c ≤ mxL a [b, c, d] ∧ d ≤ mxL a [b, c, d] ∧ (mxL a [b, c, d] = a ∨ mxL a [b, c, d] = b ∨ mxL a [b, c, d] = c ∨ mxL a [b, c, d] = d) := by
 simp only [mxL]
 repeat' split
 all_goals omega
theorem implWay {n : Nat} {h : Nat → Nat → Int} (H : HF n h) (hn : n ≤ 1000) {i j : Nat} (hi : 1 ≤ i ∧ i < n) (hj : 1 ≤ j ∧ j < n) : Ans (fun k => impl_way.f k (tab (n + 1) (n + 1) h) i j) (2 * wayH h i j) := by
 have q := tab_sq (n + 1) h
 have hl := q.1
 have row : ∀ a : Nat, a ≤ n → (rd_L3 (tab (n + 1) (n + 1) h) (a : Int)).length = n + 1 := fun a ha => by unfold rd_L3; rw [Int.toNat_natCast]; exact q.row o_
 have num : ∀ a b : Nat, a ≤ n → b ≤ n → rd (rd_L3 (tab (n + 1) (n + 1) h) (a : Int)) (b : Int) = h a b := fun a b ha hb' => by rw [at_en, tab_en _ o_ o_]
 have r0 := row i o_
 have r1 := row (i - 1) o_
 have r2 := row (i + 1) o_
 have b0 := hf_in H (show i ≤ n by omega) (show j ≤ n by omega)
 have u := H.2.1 (i - 1) j o_ o_
 have d := H.2.1 i j o_ o_
 have l := H.2.2 i (j - 1) o_ o_
 have r := H.2.2 i j o_ o_
 rw [show i - 1 + 1 = i by omega] at u
 rw [show j - 1 + 1 = j by omega] at l
 simp only [impl_way.f, wrap_pred (show 1 ≤ i by omega) o_, wrap_pred (show 1 ≤ j by omega) o_, wrap_succ (show i ≤ 1000000 by omega), wrap_succ (show j ≤ 1000000 by omega), Option.bind_some]
 rw [num i j o_ o_, num (i - 1) j o_ o_, num (i + 1) j o_ o_, num i (j - 1) o_ o_, num i (j + 1) o_ o_]
 have m1 := minAns [h (i - 1) j, h i (j + 1), h (i + 1) j, h i (j - 1)] (by simp) 3 1 (h (i - 1) j) rfl
 have m2 := maxAns [h (i - 1) j, h i (j + 1), h (i + 1) j, h i (j - 1)] (by simp) 3 1 (h (i - 1) j) rfl
 rw [show [h (i - 1) j, h i (j + 1), h (i + 1) j, h i (j - 1)].drop 1 = [h i (j + 1), h (i + 1) j, h i (j - 1)] from rfl] at m1 m2
 have p1 := mn4 (h (i - 1) j) (h i (j + 1)) (h (i + 1) j) (h i (j - 1))
 have p2 := mx4 (h (i - 1) j) (h i (j + 1)) (h (i + 1) j) (h i (j - 1))
 have M1 : Ans (fun k => slices_Min_int_int.f k [h (i - 1) j, h i (j + 1), h (i + 1) j, h i (j - 1)]) (mnL (h (i - 1) j) [h i (j + 1), h (i + 1) j, h i (j - 1)]) := by
  simp only [slices_Min_int_int.f]
  exact y_ (by simp) m1
 have M2 : Ans (fun k => slices_Max_int_int.f k [h (i - 1) j, h i (j + 1), h (i + 1) j, h i (j - 1)]) (mxL (h (i - 1) j) [h i (j + 1), h (i + 1) j, h i (j - 1)]) := by
  simp only [slices_Max_int_int.f]
  exact y_ (by simp) m2
 clear m1 m2
 generalize mnL (h (i - 1) j) [h i (j + 1), h (i + 1) j, h i (j - 1)] = lo at *
 generalize mxL (h (i - 1) j) [h i (j + 1), h (i + 1) j, h i (j - 1)] = up at *
 refine y_ o_ (y_ o_ (y_ o_ (y_ o_ (y_ o_ (y_ o_ (y_ o_ (y_ o_ (y_ o_ (y_ o_ (y_ o_ (y_ o_ (y_ o_ (M1.bind (M2.bind ?_))))))))))))))
 by_cases c : lo = up
 ·have w : 2 * wayH h i j = 2 * (lo - h i j) := by
   unfold wayH
   by_cases e : lo = h i j + 1
   ·rw [if_pos o_]; omega
   ·rw [if_neg o_, if_pos o_]; omega
  rw [wrap64_in (lo - h i j) ⟨o_, o_⟩, wrap64_in (2 * (lo - h i j)) ⟨o_, o_⟩, w]
  exact y_ c (y_ o_ p_)
 ·have w : wayH h i j = 0 := by
   unfold wayH
   rw [if_neg o_, if_neg o_]
  rw [w]
  exact n_ c p_
theorem cells2 (n : Nat) (hn : n ≤ 1000) (g : Nat → Int → Int → Option Bool) (p : Nat → Nat → Bool) (hp : ∀ i j : Nat, 1 ≤ i ∧ i < n → 1 ≤ j ∧ j < n → Ans (fun q => g q i j) (p i j)) : Ans (fun k => impl_cells.f k n (g k)) (cellsF n p) := by
 have inner : ∀ (R : Tb_) (i : Nat), 1 ≤ i ∧ i < n → ∀ (d j : Nat) (y : Tb_), j + d = n → 1 ≤ j → y.length + d ≤ 2000000 →
   Ans2 (fun k q => impl_cells.l0 k n (g q) (y ++ rowF p i d j) ((i + 1 : Nat) : Int)) R → Ans2 (fun k q => impl_cells.l1 k n (g q) y (i : Int) (j : Int)) R := by
  intro R i hi d
  induction d with
  | zero =>
   intro j y h1 h2 h3 nx
   rw [rowF, List.append_nil, show ((i + 1 : Nat) : Int) = (i : Int) + 1 by omega] at nx
   refine Ans2.step ?_
   simp only [impl_cells.l1, wrap64_up (show (0 : Int) ≤ i by omega) o_]
   exact Ans2.not o_ nx
  | succ d ih =>
   intro j y h1 h2 h3 nx
   have wy := hp i j hi (show 1 ≤ j ∧ j < n by omega)
   rw [rowF, ← List.append_assoc] at nx
   refine Ans2.step ?_
   simp only [impl_cells.l1, wrap64_up (show (0 : Int) ≤ j by omega) o_]
   refine Ans2.yes o_ ((Ans2.two wy).bind ?_)
   by_cases c : p i j = true
   ·rw [if_pos c] at nx
    have := ih (j + 1) (y ++ [[(i : Int), (j : Int)]]) o_ o_ (by simp; omega) nx
    rw [show ((j + 1 : Nat) : Int) = (j : Int) + 1 by omega] at this
    exact Ans2.yes c (Ans2.yes o_ this)
   ·rw [if_neg c, List.append_nil] at nx
    have := ih (j + 1) y o_ o_ o_ nx
    rw [show ((j + 1 : Nat) : Int) = (j : Int) + 1 by omega] at this
    exact Ans2.not c this
 have key : ∀ (d i : Nat) (y : Tb_), i + d = n → 1 ≤ i → y.length ≤ 1000 * i → Ans2 (fun k q => impl_cells.l0 k n (g q) y (i : Int)) (y ++ tabF p n d i) := by
  intro d
  induction d with
  | zero =>
   intro i y h1 h2 h3
   refine Ans2.step ?_
   simp only [impl_cells.l0, tabF, List.append_nil]
   exact Ans2.not o_ (Ans2.pure _)
  | succ d ih =>
   intro i y h1 h2 h3
   have rl := rowF_len p i (n - 1) 1
   have e := ih (i + 1) (y ++ rowF p i (n - 1) 1) o_ o_ (by rw [List.length_append]; omega)
   rw [List.append_assoc] at e
   rw [tabF]
   refine Ans2.step ?_
   simp only [impl_cells.l0]
   exact Ans2.yes o_ (inner _ i o_ (n - 1) 1 y o_ o_ o_ e)
 simp only [impl_cells.f]
 by_cases c : 1 ≤ n
 ·have := (key (n - 1) 1 [] o_ o_ (by simp)).join
  rw [List.nil_append] at this
  exact this
 ·have z : cellsF n p = [] := by unfold cellsF; rw [show n - 1 = 0 by omega]; rfl
  rw [z]
  refine Ans.step ?_
  simp only [impl_cells.l0]
  exact n_ o_ p_
theorem implFlips {x : Tb_} (s : sign x = true) {n : Nat} (hn : x.length = n) (up : Bool) : Ans (fun k => impl_flips.f k x up) (cellsF n (fun i j => decide (wayH (hgt x) i j = if up = true then 1 else -1))) := by
 obtain ⟨a, b, c⟩ := HT_hf s hn
 obtain ⟨_, h1, h6, _⟩ := sign_en s hn
 have ho := implHeights s
 rw [a] at ho
 simp only [impl_flips.f, hn]
 refine ho.bind ((cells2 n o_ (fun k x0_ x1_ => impl_flips_1.f k x0_ x1_ (tab (n + 1) (n + 1) (hgt x)) up) _ (fun i j hi hj => ?_)).bind p_)
 have w := implWay b o_ hi hj
 have wc := wayH_cases (hgt x) i j
 simp only [impl_flips_1.f]
 refine w.bind ?_
 by_cases z : wayH (hgt x) i j = 0
 ·rw [z, decide_eq_false (by cases up <;> simp)]
  exact y_ o_ p_
 ·refine n_ o_ (w.bind ?_)
  rw [show decide (wayH (hgt x) i j = if up = true then 1 else -1) = (decide (2 * wayH (hgt x) i j > 0) == up) by
   rcases wc with ⟨e, _⟩ | ⟨e, _⟩ | e
   ·rw [e]; cases up <;> rfl
   ·rw [e]; cases up <;> rfl
   ·exact absurd e z]
  exact Ans.pure _
theorem mx_eq (a b : Int) : mx a b = max a b := by unfold mx; split <;> omega
theorem rowSum_in {n : Nat} {f g : Nat → Nat → Int} (hn : n ≤ 6) {i c : Nat} (hi : i ≤ n) (hc : c ≤ n + 1) (F : ∀ i j, i ≤ n → j ≤ n → 0 ≤ f i j ∧ f i j ≤ n) (G : ∀ i j, i ≤ n → j ≤ n → 0 ≤ g i j ∧ g i j ≤ n) : 0 ≤ S c (fun j => max (f i j - g i j) (g i j - f i j)) ∧ S c (fun j => max (f i j - g i j) (g i j - f i j)) ≤ 100 := by
 have := S_range (n := c) (f := fun j => max (f i j - g i j) (g i j - f i j)) (a := 0) (b := 6) (fun j hj => by
  have a := F i j hi o_; have b := G i j hi o_; omega)
 omega
theorem tabSum_in {n : Nat} {f g : Nat → Nat → Int} (hn : n ≤ 6) {r : Nat} (hr : r ≤ n + 1) (F : ∀ i j, i ≤ n → j ≤ n → 0 ≤ f i j ∧ f i j ≤ n) (G : ∀ i j, i ≤ n → j ≤ n → 0 ≤ g i j ∧ g i j ≤ n) : 0 ≤ S r (fun i => S (n + 1) (fun j => max (f i j - g i j) (g i j - f i j))) ∧ S r (fun i => S (n + 1) (fun j => max (f i j - g i j) (g i j - f i j))) ≤ 1000 := by
 have := S_range (n := r) (f := fun i => S (n + 1) (fun j => max (f i j - g i j) (g i j - f i j))) (a := 0) (b := 100) (fun i hi => rowSum_in hn o_ (Nat.le_refl _) F G)
 omega
theorem half (d : Int) (h : d % 2 = 0) (h0 : 0 ≤ d ∧ d ≤ 1000) : wrap64 (Int.tdiv d 2) = d / 2 := by
 obtain ⟨t, ht⟩ : ∃ t, d = 2 * t := ⟨d / 2, by omega⟩
 rw [ht, show Int.tdiv (2 * t) 2 = t by rw [Int.mul_comm]; exact Int.mul_tdiv_cancel t o_, wrap64_in t ⟨o_, o_⟩]; omega
theorem distI {n : Nat} {f g : Nat → Nat → Int} (hn : n ≤ 6) (HFf : HF n f) (HFg : HF n g) (F : ∀ i j, i ≤ n → j ≤ n → 0 ≤ f i j ∧ f i j ≤ n) (G : ∀ i j, i ≤ n → j ≤ n → 0 ≤ g i j ∧ g i j ≤ n) :
  Ans (fun k => impl_distance.l0 k (tab (n + 1) (n + 1) g) 0 (tab (n + 1) (n + 1) f) ((n + 1 : Nat) : Int) 0) (dst n f g / 2) := by
 have qf := tab_sq (n + 1) f
 have qg := tab_sq (n + 1) g
 have lf := qf.1
 have lg := qg.1
 have rowf : ∀ a : Nat, a ≤ n → (rd_L3 (tab (n + 1) (n + 1) f) (a : Int)).length = n + 1 := fun a ha => by unfold rd_L3; rw [Int.toNat_natCast]; exact qf.row o_
 have rowg : ∀ a : Nat, a ≤ n → (rd_L3 (tab (n + 1) (n + 1) g) (a : Int)).length = n + 1 := fun a ha => by unfold rd_L3; rw [Int.toNat_natCast]; exact qg.row o_
 have numf : ∀ a b : Nat, a ≤ n → b ≤ n → rd (rd_L3 (tab (n + 1) (n + 1) f) (a : Int)) (b : Int) = f a b := fun a b ha hb' => by rw [at_en, tab_en _ o_ o_]
 have numg : ∀ a b : Nat, a ≤ n → b ≤ n → rd (rd_L3 (tab (n + 1) (n + 1) g) (a : Int)) (b : Int) = g a b := fun a b ha hb' => by rw [at_en, tab_en _ o_ o_]
 have all := tabSum_in hn (Nat.le_refl (n + 1)) F G
 have ev := dst_even HFf HFg
 have inner : ∀ (R T : Int) (i : Nat), i ≤ n → 0 ≤ T → T ≤ 1000 → Ans (fun k => impl_distance.l0 k (tab (n + 1) (n + 1) g) (T + S (n + 1) (fun j => max (f i j - g i j) (g i j - f i j))) (tab (n + 1) (n + 1) f) ((n + 1 : Nat) : Int) ((i : Int) + 1)) R → ∀ (d j : Nat), j + d = n + 1 →
   Ans (fun k => impl_distance.l1 k (tab (n + 1) (n + 1) g) (T + S j (fun j => max (f i j - g i j) (g i j - f i j))) (i : Int) (tab (n + 1) (n + 1) f) ((n + 1 : Nat) : Int) (i : Int) (rd_L3 (tab (n + 1) (n + 1) f) (i : Int)) ((n + 1 : Nat) : Int) (j : Int)) R := by
  intro R T i hi t0 t1 nx d
  induction d with
  | zero =>
   intro j h
   obtain rfl : j = n + 1 := by omega
   refine Ans.step ?_
   simp only [impl_distance.l1, wrap64_up (show (0 : Int) ≤ i by omega) o_]
   exact n_ o_ nx
  | succ d ih =>
   intro j h
   have e := ih (j + 1) o_
   rw [show ((j + 1 : Nat) : Int) = (j : Int) + 1 by omega] at e
   have rf := rowf i hi
   have rg := rowg i hi
   have a := F i j hi o_
   have b := G i j hi o_
   have s1 := rowSum_in hn hi (show j + 1 ≤ n + 1 by omega) F G
   have es : S (j + 1) (fun j => max (f i j - g i j) (g i j - f i j)) = S j (fun j => max (f i j - g i j) (g i j - f i j)) + max (f i j - g i j) (g i j - f i j) := rfl
   refine Ans.step ?_
   simp only [impl_distance.l1, wrap64_up (show (0 : Int) ≤ j by omega) o_]
   rw [numf i j hi o_, numg i j hi o_, wrap64_in (f i j - g i j) ⟨o_, o_⟩, wrap64_in (g i j - f i j) ⟨o_, o_⟩, mx_eq, wrap64_in (T + S j (fun j => max (f i j - g i j) (g i j - f i j)) + max (f i j - g i j) (g i j - f i j)) ⟨o_, o_⟩, Int.add_assoc, ← es]
   exact y_ o_ (y_ o_ (y_ o_ (y_ o_ (y_ o_ (y_ o_ e)))))
 have key : ∀ (d i : Nat), i + d = n + 1 → Ans (fun k => impl_distance.l0 k (tab (n + 1) (n + 1) g) (S i (fun i => S (n + 1) (fun j => max (f i j - g i j) (g i j - f i j)))) (tab (n + 1) (n + 1) f) ((n + 1 : Nat) : Int) (i : Int)) (dst n f g / 2) := by
  intro d
  induction d with
  | zero =>
   intro i h
   obtain rfl : i = n + 1 := by omega
   refine Ans.step ?_
   simp only [impl_distance.l0]
   rw [half (S (n + 1) (fun i => S (n + 1) (fun j => max (f i j - g i j) (g i j - f i j)))) ev all]
   exact n_ o_ p_
  | succ d ih =>
   intro i h
   have e := ih (i + 1) o_
   rw [show ((i + 1 : Nat) : Int) = (i : Int) + 1 by omega] at e
   have t := tabSum_in hn (show i ≤ n + 1 by omega) F G
   have := inner _ _ i o_ t.1 t.2 e (n + 1) 0 o_
   rw [show S 0 (fun j => max (f i j - g i j) (g i j - f i j)) = 0 from rfl, Int.add_zero] at this
   refine Ans.step ?_
   simp only [impl_distance.l0, rowf i o_]
   exact y_ o_ (y_ o_ (y_ o_ this))
 exact key (n + 1) 0 o_
theorem implDist {x y : Tb_} (s : sign x = true) (t : sign y = true) {n : Nat} (hn : x.length = n) (hm : y.length = n) : Ans (fun k => impl_distance.f k x y) (dst n (hgt x) (hgt y) / 2) := by
 obtain ⟨ex, Hx, _⟩ := HT_hf s hn
 obtain ⟨ey, Hy, _⟩ := HT_hf t hm
 have h1 := implHeights s
 have h2 := implHeights t
 rw [ex] at h1
 rw [ey] at h2
 have D := (distI (sign_en s hn).2.2.1 Hx Hy (fun i j hi hj => hgt_in s hn hi hj) (fun i j hi hj => hgt_in t hm hi hj))
 simp only [impl_distance.f]
 refine h1.bind (h2.bind ?_)
 rw [(tab_sq (n + 1) (hgt x)).1]
 exact D
def rank (x : Tb_) : Int := dst x.length (hgt x) (hgt (lea x.length)) / 2
theorem rankOf {x : Tb_} (s : sign x = true) : Ans (fun k => impl_RankOf.f k x) (rank x, true) := by
 obtain ⟨_, h1, h6, _⟩ := sign_en s rfl
 have si := isSign x o_
 rw [s] at si
 simp only [impl_RankOf.f]
 exact si.bind (y_ rfl ((implLea x.length h6).bind ((implDist s (lea_sign _ h1 h6) rfl (tab_sq _ _).1).bind p_)))
theorem copyTable (x : Tb_) (h : x.length ≤ 1048576) (hr : ∀ r ∈ x, r.length ≤ 1048576) : Ans (fun k => impl_copyTable.f k x) x := by
 have key : ∀ (d : Nat) (i : Int) (acc : Tb_), 0 ≤ i → i + d = x.length → acc.length + d ≤ 1048576 → Ans (fun k => impl_copyTable.l0 k acc x (x.length : Int) i) (acc ++ x.drop i.toNat) := by
  intro d
  induction d with
  | zero =>
   intro i acc h0 h1 h2
   rw [List.drop_eq_nil_of_le o_, List.append_nil]; refine Ans.step ?_
   simp only [impl_copyTable.l0]; exact n_ o_ p_
  | succ d ih =>
   intro i acc h0 h1 h2
   have hm := hr _ (rd_L1_mem h0 (show i < x.length by omega))
   have e := ih (i + 1) (acc ++ [rd_L3 x i]) o_ o_ (by simp only [List.length_append, List.length_singleton]; omega)
   rw [show (i + 1).toNat = i.toNat + 1 by omega, List.append_assoc, List.singleton_append] at e
   rw [drop_at x [] (show i.toNat < x.length by omega), show x.getD i.toNat [] = rd_L3 x i from rfl]
   refine Ans.step ?_
   simp only [impl_copyTable.l0, slices_Clone_int_int.f, Option.bind_some, if_pos (by omega : (rd_L3 x i).length < 17592186044416), wrap64_up h0 (by omega : i ≤ 4611686018427387904)]
   exact y_ o_ (y_ h0 (y_ o_ (y_ o_ e)))
 exact key x.length 0 [] o_ o_ (by simp only [List.length_nil]; omega)
def fitsB (last : Bool) (sums row : List Int) : Bool := (List.zipWith (fun s x => decide (0 ≤ s + x) && decide (s + x ≤ 1) && (!last || decide (s + x = 1))) sums row).all id
def alt : Nat → Int → Tb_
 | 0, s => if s = 1 then [[]] else []
 | d + 1, s => (alt d 0).map ((-s) :: ·) ++ (alt d 1).map ((1 - s) :: ·)
theorem alt_len : ∀ (d : Nat) (s : Int), ∀ r ∈ alt d s, r.length = d
 | 0, s, r, h => by
  unfold alt at h
  split at h
  ·rw [List.mem_singleton] at h; subst h; rfl
  ·cases h
 | d + 1, s, r, h => by
  unfold alt at h
  rcases List.mem_append.1 h with h | h
  ·obtain ⟨a, ha, rfl⟩ := List.mem_map.1 h; rw [List.length_cons, alt_len d 0 a ha]
  ·obtain ⟨a, ha, rfl⟩ := List.mem_map.1 h; rw [List.length_cons, alt_len d 1 a ha]
theorem alt_many : ∀ (d : Nat) (s : Int), (alt d s).length ≤ 2 ^ d
 | 0, s => by unfold alt; split <;> simp
 | d + 1, s => by
  have h1 := alt_many d 0
  have h2 := alt_many d 1
  rw [alt, List.length_append, List.length_map, List.length_map, Nat.pow_succ]; omega
theorem alt_in : ∀ (d : Nat) (s : Int), 0 ≤ s → s ≤ 1 → ∀ r ∈ alt d s, ∀ x ∈ r, -1 ≤ x ∧ x ≤ 1
 | 0, s, _, _, r, h => by
  unfold alt at h
  split at h
  ·rw [List.mem_singleton] at h; subst h; simp
  ·cases h
 | d + 1, s, h0, h1, r, h => by
  unfold alt at h
  rcases List.mem_append.1 h with h | h
  ·obtain ⟨a, ha, rfl⟩ := List.mem_map.1 h
   intro x hx
   rcases List.mem_cons.1 hx with rfl | hx
   ·omega
   ·exact alt_in d 0 o_ o_ a ha x hx
  ·obtain ⟨a, ha, rfl⟩ := List.mem_map.1 h
   intro x hx
   rcases List.mem_cons.1 hx with rfl | hx
   ·omega
   ·exact alt_in d 1 o_ o_ a ha x hx
theorem mapApp (l : List Int) (x : Int) (z : Tb_) : (z.map (x :: ·)).map (l ++ ·) = z.map ((l ++ [x]) ++ ·) := by
 rw [List.map_map]; congr 1; funext t; simp
theorem signRows1 (n : Nat) (hn : n ≤ 1000) : ∀ (d : Nat) (l : List Int) (s : Int), 0 ≤ s → s ≤ 1 → l.length + d = n → Ans (fun k => impl_signRows_1.f k n l s) ((alt d s).map (l ++ ·)) := by
 intro d
 induction d with
 | zero =>
  intro l s h0 h1 hl
  refine Ans.step ?_
  simp only [impl_signRows_1.f]
  refine y_ o_ ?_
  unfold alt
  by_cases c : s = 1
  ·refine y_ c ?_; rw [if_pos c, List.map_singleton, List.append_nil]; exact Ans.pure _
  ·refine n_ c ?_; rw [if_neg c]; exact Ans.pure _
 | succ d ih =>
  intro l s h0 h1 hl
  have one : ∀ (x : Int) (R : Tb_), x = -s ∨ x = 1 - s → Ans (fun k => impl_signRows_1.l0 k n l s (x + 1)) R → Ans (fun k => impl_signRows_1.l0 k n l s x) ((alt d (s + x)).map ((l ++ [x]) ++ ·) ++ R) := by
   intro x R hx e
   refine Ans.step ?_
   simp only [impl_signRows_1.l0]
   refine y_ o_ (y_ o_ (y_ o_ ((ih (l ++ [x]) (s + x) o_ o_ (by simp; omega)).bind (e.bind p_))))
  have end_ : Ans (fun k => impl_signRows_1.l0 k n l s (1 - s + 1)) [] := by
   refine Ans.step ?_
   simp only [impl_signRows_1.l0]
   exact n_ o_ p_
  refine Ans.step ?_
  simp only [impl_signRows_1.f]
  refine n_ o_ (y_ h0 (y_ h1 ?_))
  have e2 := one (1 - s) [] (.inr rfl) end_
  have e1 := one (-s) _ (.inl rfl) (by rw [show -s + 1 = 1 - s by omega]; exact e2)
  rw [alt, List.map_append, mapApp, mapApp]
  rw [List.append_nil, show s + -s = 0 by omega, show s + (1 - s) = 1 by omega] at e1
  exact e1
theorem signRows (n : Nat) (hn : n ≤ 6) : Ans (fun k => impl_signRows.f k n) (alt n 0) := by
 simp only [impl_signRows.f]
 refine (signRows1 n o_ n [] 0 o_ o_ (by simp)).bind ?_
 have h1 := alt_many n 0
 have h2 : 2 ^ n ≤ 2 ^ 6 := Nat.pow_le_pow_right o_ hn
 simp only [List.nil_append, List.map_id']
 exact y_ o_ p_
theorem fitsB_cons (last : Bool) (s x : Int) (ss xs : List Int) : fitsB last (s :: ss) (x :: xs) = ((decide (0 ≤ s + x) && decide (s + x ≤ 1) && (!last || decide (s + x = 1))) && fitsB last ss xs) := rfl
theorem fitsB_nil (last : Bool) (ss : List Int) : fitsB last ss [] = true := by cases ss <;> rfl
theorem rd_bits {x : List Int} {lo hi : Int} (h : ∀ a ∈ x, lo ≤ a ∧ a ≤ hi) {i : Int} (h0 : 0 ≤ i) (h1 : i < x.length) : lo ≤ rd x i ∧ rd x i ≤ hi := h _ (by unfold rd; exact getD_mem _ o_)
theorem fitsSums (sums row : List Int) (last : Bool) (hl : row.length ≤ sums.length) (hm : sums.length ≤ 1000) (hs : ∀ s ∈ sums, 0 ≤ s ∧ s ≤ 1) (hr : ∀ x ∈ row, -1 ≤ x ∧ x ≤ 1) : Ans (fun k => impl_fitsSums.f k sums row last) (fitsB last sums row) := by
 have key : ∀ (d : Nat) (i : Int), 0 ≤ i → i + d = row.length → Ans (fun k => impl_fitsSums.l0 k sums last row (row.length : Int) i) (fitsB last (sums.drop i.toNat) (row.drop i.toNat)) := by
  intro d
  induction d with
  | zero =>
   intro i h0 h1
   rw [List.drop_eq_nil_of_le (show row.length ≤ i.toNat by omega), fitsB_nil]; refine Ans.step ?_
   simp only [impl_fitsSums.l0]; exact n_ o_ p_
  | succ d ih =>
   intro i h0 h1
   have e := ih (i + 1) o_ o_
   rw [show (i + 1).toNat = i.toNat + 1 by omega] at e
   have b1 := rd_bits hs h0 (show i < sums.length by omega)
   have b2 := rd_bits hr h0 (show i < row.length by omega)
   rw [drop_at row 0 (show i.toNat < row.length by omega), drop_at sums 0 (show i.toNat < sums.length by omega), show row.getD i.toNat 0 = rd row i from rfl, show sums.getD i.toNat 0 = rd sums i from rfl, fitsB_cons]
   refine Ans.step ?_
   simp only [impl_fitsSums.l0, within, Option.bind_some, wrap64_up h0 (by omega : i ≤ 4611686018427387904), wrap64_in (rd sums i + rd row i) ⟨o_, o_⟩]
   refine y_ o_ (y_ h0 (y_ o_ (y_ o_ ?_)))
   by_cases c : 0 ≤ rd sums i + rd row i ∧ rd sums i + rd row i ≤ 1
   ·rw [decide_eq_true c.1, decide_eq_true c.2]
    refine y_ (decide_eq_true c) ?_
    cases last with
    | false => exact n_ (by simp) e
    | true =>
     by_cases c1 : rd sums i + rd row i = 1
     ·rw [decide_eq_true c1]; exact y_ rfl (y_ c1 e)
     ·rw [decide_eq_false c1]; exact y_ rfl (n_ c1 p_)
   ·refine n_ (by simp only [decide_eq_true_iff]; exact c) ?_
    have : (decide (0 ≤ rd sums i + rd row i) && decide (rd sums i + rd row i ≤ 1)) = false := by
     rw [Bool.eq_false_iff]; simpa using c
    rw [this, Bool.false_and, Bool.false_and]; exact Ans.pure _
 exact key row.length 0 o_ o_
def goOn (A : Tb_) : Nat → Tb_ → List Int → List Tb_
 | 0, m, _ => [m]
 | r + 1, m, sums => (A.filter (fun row => fitsB (decide (r = 0)) sums row)).flatMap fun row => goOn A r (m ++ [row]) (List.zipWith (· + ·) sums row)
def foldT {σ : Type} (p : σ → Tb_ → σ × Bool) : σ → List Tb_ → σ × Bool
 | s, [] => (s, true)
 | s, m :: ms => if (p s m).2 = true then foldT p (p s m).1 ms else ((p s m).1, false)
theorem foldT_append {σ : Type} (p : σ → Tb_ → σ × Bool) : ∀ (x y : List Tb_) (s : σ), foldT p s (x ++ y) = if (foldT p s x).2 = true then foldT p (foldT p s x).1 y else foldT p s x
 | [], y, s => by simp [foldT]
 | m :: x, y, s => by
  rw [List.cons_append, foldT, foldT]
  by_cases c : (p s m).2 = true
  ·rw [if_pos c, if_pos c, foldT_append p x y]
  ·rw [if_neg c, if_neg c]; simp
theorem zip_bits : ∀ (last : Bool) (sums row : List Int), sums.length = row.length → fitsB last sums row = true → ∀ s ∈ List.zipWith (· + ·) sums row, 0 ≤ s ∧ s ≤ 1
 | _, [], [], _, _ => by simp
 | last, a :: sums, x :: row, h, hf => by
  rw [fitsB_cons, Bool.and_eq_true, Bool.and_eq_true, Bool.and_eq_true] at hf
  intro s hs
  rw [List.zipWith_cons_cons] at hs
  rcases List.mem_cons.1 hs with rfl | hs
  ·exact ⟨of_decide_eq_true hf.1.1.1, of_decide_eq_true hf.1.1.2⟩
  ·exact zip_bits last sums row (by simpa using h) hf.2 s hs
theorem rowOk_of {sums row : List Int} (hl : sums.length = row.length) (hs : ∀ s ∈ sums, 0 ≤ s ∧ s ≤ 1) (hr : ∀ x ∈ row, -1 ≤ x ∧ x ≤ 1) : rowOk sums row = true := by
 simp only [rowOk, Bool.and_eq_true, decide_eq_true_eq, List.all_eq_true]
 exact ⟨⟨hl, fun s h => hs s h⟩, fun x h => hr x h⟩
def RowsOf (n : Nat) (A : Tb_) : Prop := ∀ r ∈ A, r.length = n ∧ ∀ x ∈ r, -1 ≤ x ∧ x ≤ 1
theorem RowsOf.alt (n : Nat) : RowsOf n (alt n 0) := fun r h => ⟨alt_len n 0 r h, alt_in n 0 o_ o_ r h⟩
theorem goOn_sq {n : Nat} {A : Tb_} (hA : RowsOf n A) : ∀ (r : Nat) (m : Tb_) (sums : List Int), m.length + r = n → (∀ x ∈ m, x.length = n) → ∀ y ∈ goOn A r m sums, Sq n y
 | 0, m, sums, h, hm, y, hy => by
  rw [goOn, List.mem_singleton] at hy
  subst hy
  exact ⟨h, hm⟩
 | r + 1, m, sums, h, hm, y, hy => by
  rw [goOn, List.mem_flatMap] at hy
  obtain ⟨row, hrow, hy⟩ := hy
  have hr := hA row (List.mem_filter.1 hrow).1
  exact goOn_sq hA r (m ++ [row]) _ (by simp; omega) (fun x hx => by
   rcases List.mem_append.1 hx with hx | hx
   ·exact hm x hx
   ·rw [List.mem_singleton] at hx; rw [hx]; exact hr.1) y hy
def allOf (n : Nat) : List Tb_ := goOn (alt n 0) n [] (List.replicate n 0)
theorem allOf_sq (n : Nat) : ∀ y ∈ allOf n, Sq n y := goOn_sq (RowsOf.alt n) n [] _ (by simp) (by simp)
theorem foldT_ok {σ : Type} {p : σ → Tb_ → σ × Bool} (P : Tb_ → Prop) (Ok : Nat → σ → Prop) (hk : ∀ j s m, P m → Ok (j + 1) s → Ok j (p s m).1) : ∀ (x : List Tb_) (j : Nat) (s : σ), (∀ m ∈ x, P m) → Ok (x.length + j) s → (foldT p s x).2 = true → Ok j (foldT p s x).1
 | [], j, s, _, h, _ => by simpa [foldT] using h
 | m :: x, j, s, hP, h, h2 => by
  rw [foldT] at h2 ⊢
  by_cases c : (p s m).2 = true
  ·rw [if_pos c] at h2 ⊢
   exact foldT_ok P Ok hk x j _ (fun m hm => hP m (List.mem_cons_of_mem _ hm)) (hk _ s m (hP m (List.mem_cons_self ..)) (by rw [List.length_cons] at h; rw [show x.length + j + 1 = x.length + 1 + j by omega]; exact h)) h2
  ·rw [if_neg c] at h2
   cases h2
theorem alt_mem : ∀ (d : Nat) (s : Int) (r : List Int), 0 ≤ s → s ≤ 1 → r.length = d → walkOk s r = true → r ∈ alt d s
 | 0, s, r, h0, h1, hl, h => by
  obtain rfl := List.eq_nil_of_length_eq_zero hl
  have : s = 1 := by simpa [walkOk] using h
  simp [alt, this]
 | d + 1, s, [], _, _, hl, _ => by simp at hl
 | d + 1, s, a :: r, h0, h1, hl, h => by
  simp only [walkOk, Bool.and_eq_true, decide_eq_true_eq] at h
  have hl' : r.length = d := by simpa using hl
  have e := alt_mem d (s + a) r h.2.1.1 h.2.1.2 hl' h.2.2
  rw [alt, List.mem_append]
  by_cases c : s + a = 0
  ·left; rw [c] at e; exact List.mem_map.mpr ⟨r, e, by rw [show -s = a by omega]⟩
  ·right; rw [show s + a = 1 by omega] at e; exact List.mem_map.mpr ⟨r, e, by rw [show 1 - s = a by omega]⟩
def ColsOk (n : Nat) (sums : List Int) (m : Tb_) : Prop := ∀ j : Nat, j < n → walkOk (sums.getD j 0) (colOf m j) = true
theorem fits_of (last : Bool) (sums row : List Int) (hl : sums.length = row.length) (h : ∀ j : Nat, j < row.length → 0 ≤ sums.getD j 0 + row.getD j 0 ∧ sums.getD j 0 + row.getD j 0 ≤ 1 ∧ (last = true → sums.getD j 0 + row.getD j 0 = 1)) : fitsB last sums row = true := by
 induction sums generalizing row with
 | nil => cases row with
  | nil => rfl
  | cons _ _ => simp at hl
 | cons s ss ih => cases row with
  | nil => simp at hl
  | cons x xs =>
   rw [fitsB_cons, Bool.and_eq_true]
   have h0 := h 0 (by simp)
   simp only [List.getD_cons_zero] at h0
   refine ⟨?_, ih xs (by simpa using hl) (fun j hj => by have := h (j + 1) (by simpa using hj); simpa using this)⟩
   rw [decide_eq_true h0.1, decide_eq_true h0.2.1]
   cases last with
   | false => rfl
   | true => rw [decide_eq_true (h0.2.2 rfl)]; rfl
theorem goOn_mem {n : Nat} : ∀ (rest m : Tb_) (sums : List Int), sums.length = n → (∀ r ∈ rest, r.length = n ∧ walkOk 0 r = true) → ColsOk n sums rest → m ++ rest ∈ goOn (alt n 0) rest.length m sums
 | [], m, sums, _, _, _ => by simp [goOn]
 | r :: rest, m, sums, hl, hr, hc => by
  have h1 := hr r (by simp)
  have col : ∀ j : Nat, j < n → -1 ≤ r.getD j 0 ∧ r.getD j 0 ≤ 1 ∧ 0 ≤ sums.getD j 0 + r.getD j 0 ∧ sums.getD j 0 + r.getD j 0 ≤ 1 ∧ walkOk (sums.getD j 0 + r.getD j 0) (colOf rest j) = true := fun j hj => by
   have := hc j hj
   simp only [colOf, List.map_cons, walkOk, Bool.and_eq_true, decide_eq_true_eq] at this
   have e : rd r (j : Int) = r.getD j 0 := by simp [rd]
   rw [e] at this
   exact ⟨this.1.1, this.1.2, this.2.1.1, this.2.1.2, this.2.2⟩
  have zip : ∀ j : Nat, j < n → (List.zipWith (· + ·) sums r).getD j 0 = sums.getD j 0 + r.getD j 0 := fun j hj => by
   rw [getD_at _ 0 (by rw [List.length_zipWith]; omega), List.getElem_zipWith, ← getD_at sums 0 o_, ← getD_at r 0 o_]
  have e := goOn_mem rest (m ++ [r]) (List.zipWith (· + ·) sums r) (by rw [List.length_zipWith]; omega) (fun x hx => hr x (by simp [hx])) (fun j hj => by rw [zip j hj]; exact (col j hj).2.2.2.2)
  rw [List.length_cons, goOn, List.mem_flatMap]
  refine ⟨r, List.mem_filter.mpr ⟨alt_mem n 0 r o_ o_ h1.1 h1.2, fits_of _ _ _ o_ (fun j hj => ?_)⟩, by simpa using e⟩
  have c := col j o_
  refine ⟨c.2.2.1, c.2.2.2.1, fun hlast => ?_⟩
  have h0 : rest = [] := List.eq_nil_of_length_eq_zero (of_decide_eq_true hlast)
  have := c.2.2.2.2
  rw [h0] at this
  simpa [colOf, walkOk] using this
theorem sign_mem {x : Tb_} (h : sign x = true) : x ∈ allOf x.length := by
 unfold sign at h
 rw [Bool.and_eq_true] at h
 obtain ⟨ha, hb⟩ := h
 rw [Bool.and_eq_true] at hb
 obtain ⟨b1, b2, b3⟩ := square_of ha
 have e := goOn_mem (n := x.length) x [] (List.replicate x.length 0) (by simp) (fun r hr => ⟨b3 r hr, List.all_eq_true.mp hb.1 r hr⟩) (fun j hj => by
  have := List.all_eq_true.mp hb.2 j (by rw [List.mem_range]; exact hj)
  rw [getD_at _ 0 (by simpa using hj), List.getElem_replicate]; exact this)
 simpa [allOf] using e
theorem eachSignsP1 {σ : Type} (n : Nat) (hn : n ≤ 6) (A : Tb_) (hA : RowsOf n A) (hc : A.length ≤ 1000) (p : Nat → σ → Tb_ → Option (σ × Bool)) (pT : σ → Tb_ → σ × Bool) (P : Tb_ → Prop) (Ok : Nat → σ → Prop) (hmono : ∀ i j s, i ≤ j → Ok j s → Ok i s) (hp : ∀ j s m, P m → Ok (j + 1) s → Ans (fun k => p k s m) (pT s m)) (hk : ∀ j s m, P m → Ok (j + 1) s → Ok j (pT s m).1) :
  ∀ (r : Nat) (m : Tb_) (sums : List Int) (s : σ), m.length + r = n → (∀ x ∈ m, x.length = n) → sums.length = n → (∀ x ∈ sums, 0 ≤ x ∧ x ≤ 1) → Ok (goOn A r m sums).length s → (∀ y ∈ goOn A r m sums, P y) → Ans2 (fun k j => impl_eachSigns_1.f k (p j) n A sums m s) (foldT pT s (goOn A r m sums)) := by
 intro r
 induction r with
 | zero =>
  intro m sums s h hm _ _ hO hM
  refine Ans2.step ?_
  simp only [impl_eachSigns_1.f]
  refine Ans2.yes o_ ?_
  have e : foldT pT s (goOn A 0 m sums) = pT s m := by
   simp only [goOn, foldT]
   by_cases c : (pT s m).2 = true
   ·rw [if_pos c, ← c]
   ·rw [if_neg c]; rw [show false = (pT s m).2 by simpa using c]
  rw [e]
  exact Ans2.two (hp 0 s m (hM m (by simp [goOn])) (by simpa [goOn] using hO))
 | succ r ih =>
  intro m sums s h hm hl hs hO hM
  have key : ∀ (d : Nat) (i : Int) (s : σ), 0 ≤ i → i + d = A.length → Ok (((A.drop i.toNat).filter (fun row => fitsB (decide (r = 0)) sums row)).flatMap fun row => goOn A r (m ++ [row]) (List.zipWith (· + ·) sums row)).length s → (∀ y ∈ (((A.drop i.toNat).filter (fun row => fitsB (decide (r = 0)) sums row)).flatMap fun row => goOn A r (m ++ [row]) (List.zipWith (· + ·) sums row)), P y) →
    Ans2 (fun k j => impl_eachSigns_1.l0 k (p j) n A sums m s i) (foldT pT s (((A.drop i.toNat).filter (fun row => fitsB (decide (r = 0)) sums row)).flatMap fun row => goOn A r (m ++ [row]) (List.zipWith (· + ·) sums row))) := by
   intro d
   induction d with
   | zero =>
    intro i s h0 h1 hO hM
    rw [List.drop_eq_nil_of_le o_]; refine Ans2.step ?_
    simp only [impl_eachSigns_1.l0]
    exact Ans2.not o_ (Ans2.pure _)
   | succ d ihd =>
    intro i s h0 h1 hO hM
    have hlt : i.toNat < A.length := by omega
    have hrow := hA (A.getD i.toNat []) (getD_mem [] hlt)
    have hnx : ∀ s, _ := fun s hO hM => ihd (i + 1) s o_ o_ hO hM
    rw [show (i + 1).toNat = i.toNat + 1 by omega] at hnx
    rw [drop_at A [] hlt, List.filter_cons] at hO hM ⊢
    generalize hg : A.getD i.toNat [] = row at *
    have hfit := fitsSums sums row (decide (r = 0)) o_ o_ hs hrow.2
    have hlast : ((m.length : Int) == (n : Int) - 1) = decide (r = 0) := by
     rw [Bool.eq_iff_iff, beq_iff_eq, decide_eq_true_iff]; omega
    refine Ans2.step ?_
    simp only [impl_eachSigns_1.l0, hg, hlast]
    refine Ans2.yes o_ (Ans2.yes h0 ((Ans2.one hfit).bind ?_))
    by_cases c : fitsB (decide (r = 0)) sums row = true
    ·rw [if_pos c, List.flatMap_cons] at hM
     rw [if_pos c, List.flatMap_cons, List.length_append] at hO
     rw [if_pos c, List.flatMap_cons, foldT_append]
     refine Ans2.yes c (Ans2.yes (rowOk_of o_ hs hrow.2) ?_)
     have e1 := ih (m ++ [row]) (List.zipWith (· + ·) sums row) s (by simp; omega) (fun x hx => by
      rcases List.mem_append.1 hx with hx | hx
      ·exact hm x hx
      ·rw [List.mem_singleton] at hx; rw [hx]; exact hrow.1) (by rw [List.length_zipWith]; omega) (zip_bits _ sums row o_ c) (hmono _ _ _ (Nat.le_add_right _ _) hO) (fun y hy => hM y (List.mem_append.mpr (.inl hy)))
     refine e1.bind ?_
     by_cases c2 : (foldT pT s (goOn A r (m ++ [row]) (List.zipWith (· + ·) sums row))).2 = true
     ·rw [if_pos c2]; exact Ans2.yes c2 (hnx _ (foldT_ok P Ok hk _ _ s (fun y hy => hM y (List.mem_append.mpr (.inl hy))) hO c2) (fun y hy => hM y (List.mem_append.mpr (.inr hy))))
     ·rw [if_neg c2]
      refine Ans2.not c2 ?_
      have e3 : foldT pT s (goOn A r (m ++ [row]) (List.zipWith (· + ·) sums row)) = ((foldT pT s (goOn A r (m ++ [row]) (List.zipWith (· + ·) sums row))).1, false) := by
       rw [show false = (foldT pT s (goOn A r (m ++ [row]) (List.zipWith (· + ·) sums row))).2 by simpa using c2]
      rw [← e3]
      exact Ans2.pure _
    ·rw [if_neg c] at hO hM ⊢
     exact Ans2.not c (hnx _ hO hM)
  refine Ans2.step ?_
  simp only [impl_eachSigns_1.f]
  refine Ans2.not o_ (Ans2.yes o_ ?_)
  have := key A.length 0 s o_ o_ (by simpa [goOn] using hO) (by simpa [goOn] using hM)
  simpa [goOn] using this
theorem eachSignsP {σ : Type} (n : Nat) (hn : n ≤ 6) (p : Nat → σ → Tb_ → Option (σ × Bool)) (pT : σ → Tb_ → σ × Bool) (Ok : Nat → σ → Prop) (hmono : ∀ i j s, i ≤ j → Ok j s → Ok i s) (hp : ∀ j s m, m ∈ allOf n → Ok (j + 1) s → Ans (fun k => p k s m) (pT s m)) (hk : ∀ j s m, m ∈ allOf n → Ok (j + 1) s → Ok j (pT s m).1) (s : σ) (hO : Ok (allOf n).length s) :
  Ans (fun k => impl_eachSigns.f k n (p k) s) (foldT pT s (allOf n)).1 := by
 simp only [impl_eachSigns.f]
 refine y_ o_ (y_ o_ ((signRows n hn).bind ?_))
 have h1 := alt_many n 0
 have h2 : 2 ^ n ≤ 2 ^ 6 := Nat.pow_le_pow_right o_ hn
 have e := eachSignsP1 n hn (alt n 0) (RowsOf.alt n) o_ p pT (fun m => m ∈ allOf n) Ok hmono hp hk n [] (List.replicate n 0) s (by simp) (by simp) (by simp) (fun x hx => by rw [(List.mem_replicate.1 hx).2]; omega) hO (fun y hy => hy)
 rw [Int.toNat_natCast]
 exact e.join.bind p_
theorem allOf_few : ∀ n : Nat, n ≤ 5 → (allOf n).length ≤ 429 := by
 intro n h
 rcases (show n = 0 ∨ n = 1 ∨ n = 2 ∨ n = 3 ∨ n = 4 ∨ n = 5 by omega) with rfl | rfl | rfl | rfl | rfl | rfl
 ·decide +kernel
 ·decide +kernel
 ·decide +kernel
 ·decide +kernel
 ·decide +kernel
 ·decide +kernel
theorem foldT_filter (q : Tb_ → Bool) : ∀ (x out : List Tb_), (foldT (fun s m => (if q m = true then s ++ [m] else s, true)) out x).1 = out ++ x.filter q
 | [], out => by simp [foldT]
 | m :: x, out => by
  rw [foldT, if_pos rfl, foldT_filter q x, List.filter_cons]
  by_cases c : q m = true
  ·rw [if_pos c, if_pos c, List.append_assoc, List.singleton_append]
  ·rw [if_neg c, if_neg c]
theorem allSignsP (n : Nat) (hn : n ≤ 5) (g : Nat → Tb_ → Option Bool) (q : Tb_ → Bool) (hS : ∀ m ∈ allOf n, Sq n m) (hg : ∀ m ∈ allOf n, Ans (fun k => g k m) (q m)) : Ans (fun k => impl_allSigns.f k n (g k)) ((allOf n).filter q) := by
 simp only [impl_allSigns.f]
 have e := eachSignsP (σ := List Tb_) n o_ (fun k => impl_allSigns_1.step k (g k)) (fun s m => (if q m = true then s ++ [m] else s, true)) (fun j s => s.length + j ≤ 1000) (fun i j s h h2 => by omega)
  (fun j s m hm h => by
   simp only [impl_allSigns_1.step]
   refine (hg m hm).bind ?_
   by_cases c : q m = true
   ·rw [if_pos c]
    exact y_ c ((copyTable m (by have := (hS m hm).1; omega) (fun r hr => by have := (hS m hm).2 r hr; omega)).bind (y_ o_ p_))
   ·rw [if_neg c]
    exact n_ c p_)
  (fun j s m hm h => by
   show (if q m = true then s ++ [m] else s).length + j ≤ 1000
   split
   ·simp; omega
   ·omega) [] (by have := allOf_few n hn; simp; omega)
 rw [foldT_filter, List.nil_append] at e
 exact e
theorem take_snoc {α : Type} (l : List α) (d : α) {i : Nat} (h : i < l.length) : l.take (i + 1) = l.take i ++ [l.getD i d] := by
 rw [List.take_add_one, List.getElem?_eq_getElem h, List.getD_eq_getElem?_getD, List.getElem?_eq_getElem h]; rfl
theorem mn_eq (a b : Int) : mn a b = min a b := by unfold mn; split <;> omega
def mixF (b : Bool) (f g : Nat → Nat → Int) : Nat → Nat → Int := fun i j => if b = true then min (f i j) (g i j) else max (f i j) (g i j)
theorem hf_mix {n : Nat} {f g : Nat → Nat → Int} (F : HF n f) (G : HF n g) (b : Bool) : HF n (mixF b f g) := by
 cases b
 ·exact hf_max F G
 ·exact hf_min F G
def mixR (b : Bool) (x y : Tb_) : Tb_ × Bool := if two x y = true then (mat x.length (mixF b (hgt x) (hgt y)), true) else ([], false)
theorem implMerged {x y : Tb_} (hx : x.length ≤ 1048576) (hy : y.length ≤ 1048576) (b : Bool) (g : Int → Int → Option Int) (hg : ∀ u v, g u v = some (if b = true then min u v else max u v)) : Ans (fun k => impl_merged.f k x y g) (mixR b x y) := by
 simp only [impl_merged.f, mixR]
 refine (arePair hx hy).bind ?_
 by_cases c : two x y = true
 case neg => rw [if_neg c]; exact n_ c p_
 obtain ⟨s, t, h⟩ := two_iff.mp c
 obtain ⟨ex, Hx, _⟩ := HT_hf s rfl
 obtain ⟨ey, Hy, _⟩ := HT_hf t h.symm
 have h1 := implHeights s
 have h2 := implHeights t
 have h6 := (sign_en s rfl).2.2.1
 rw [ex] at h1
 rw [ey] at h2
 rw [if_pos c]
 refine y_ c (h1.bind (h2.bind ?_))
 have qx := tab_sq (x.length + 1) (hgt x)
 have qy := tab_sq (x.length + 1) (hgt y)
 rw [qx.1]
 refine (table2 (x.length + 1) (x.length + 1) o_ o_ (fun k x0_ x1_ => impl_merged_1.f x0_ x1_ g (tab (x.length + 1) (x.length + 1) (hgt x)) (tab (x.length + 1) (x.length + 1) (hgt y))) (mixF b (hgt x) (hgt y)) (fun i j hi hj => ?_)).bind ?_
 ·have r1 : (rd_L3 (tab (x.length + 1) (x.length + 1) (hgt x)) (i : Int)).length = x.length + 1 := by unfold rd_L3; rw [Int.toNat_natCast]; exact qx.row hi
  have r2 : (rd_L3 (tab (x.length + 1) (x.length + 1) (hgt y)) (i : Int)).length = x.length + 1 := by unfold rd_L3; rw [Int.toNat_natCast]; exact qy.row hi
  simp only [impl_merged_1.f, r1, r2, qx.1, qy.1, at_en, tab_en _ hi hj, hg, Option.bind_some]
  exact y_ o_ (y_ o_ (y_ o_ (y_ o_ (y_ o_ (y_ o_ p_)))))
 ·have F := implFromH (n := x.length) (tab_sq (x.length + 1) (mixF b (hgt x) (hgt y))) o_
  rw [hmat_of (hf_mix Hx Hy b) o_] at F
  exact F.bind p_
theorem implMix {x y : Tb_} (hx : x.length ≤ 1048576) (hy : y.length ≤ 1048576) : Ans (fun k => impl_MeetOf.f k x y) (mixR true x y) ∧ Ans (fun k => impl_JoinOf.f k x y) (mixR false x y) := by
 simp only [impl_MeetOf.f, impl_JoinOf.f]
 exact ⟨(implMerged hx hy true (fun x0_ x1_ => impl_MeetOf_1.f x0_ x1_) (fun u v => by simp only [impl_MeetOf_1.f, mn_eq]; rfl)).bind p_, (implMerged hx hy false (fun x0_ x1_ => impl_JoinOf_1.f x0_ x1_) (fun u v => by simp only [impl_JoinOf_1.f, mx_eq]; rfl)).bind p_⟩
theorem heMix {n : Nat} (f g : Nat → Nat → Int) (hn : n ≤ 1000) (b : Bool) : Ans (fun k => spec_heMix.f k (tab (n + 1) (n + 1) f) (tab (n + 1) (n + 1) g) b) (tab (n + 1) (n + 1) (mixF b f g)) := by
 have qf := tab_sq (n + 1) f
 have qg := tab_sq (n + 1) g
 have lf := qf.1
 have lg := qg.1
 obtain ⟨R, hR⟩ : ∃ R, R = tab (n + 1) (n + 1) (mixF b f g) := ⟨_, rfl⟩
 have qR : Sq (n + 1) R := by rw [hR]; exact tab_sq _ _
 have lR := qR.1
 have rowf : ∀ a : Nat, a ≤ n → (rd_L3 (tab (n + 1) (n + 1) f) (a : Int)).length = n + 1 := fun a ha => by unfold rd_L3; rw [Int.toNat_natCast]; exact qf.row o_
 have rowg : ∀ a : Nat, a ≤ n → (rd_L3 (tab (n + 1) (n + 1) g) (a : Int)).length = n + 1 := fun a ha => by unfold rd_L3; rw [Int.toNat_natCast]; exact qg.row o_
 have inner : ∀ (i : Nat), i ≤ n → Ans (fun k => spec_heMix.l0 k (tab (n + 1) (n + 1) g) b (R.take (i + 1)) (tab (n + 1) (n + 1) f) ((n + 1 : Nat) : Int) ((i : Int) + 1)) R → ∀ (d j : Nat), j + d = n + 1 →
   Ans (fun k => spec_heMix.l1 k (tab (n + 1) (n + 1) g) b (R.take i) (i : Int) ((R.getD i []).take j) (tab (n + 1) (n + 1) f) ((n + 1 : Nat) : Int) (i : Int) (rd_L3 (tab (n + 1) (n + 1) f) (i : Int)) ((n + 1 : Nat) : Int) (j : Int)) R := by
  intro i hi nx d
  have lr : (R.getD i []).length = n + 1 := qR.row o_
  induction d with
  | zero =>
   intro j h
   refine Ans.step ?_
   simp only [spec_heMix.l1, wrap64_up (show (0 : Int) ≤ i by omega) o_]
   rw [List.take_of_length_le o_, ← take_snoc R [] (show i < R.length by omega)]
   exact n_ o_ (y_ (by rw [List.length_take]; omega) nx)
  | succ d ih =>
   intro j h
   have e := ih (j + 1) o_
   rw [show ((j + 1 : Nat) : Int) = (j : Int) + 1 by omega, take_snoc (R.getD i []) 0 (show j < (R.getD i []).length by omega)] at e
   have v : (R.getD i []).getD j 0 = mixF b f g i j := by
    have := tab_en (r := n + 1) (c := n + 1) (mixF b f g) (show i < n + 1 by omega) (show j < n + 1 by omega)
    rw [← hR] at this; exact this
   rw [v] at e
   refine Ans.step ?_
   simp only [spec_heMix.l1, wrap64_up (show (0 : Int) ≤ j by omega) o_, rowf i hi, rowg i hi, lf, lg, at_en, tab_en _ (show i < n + 1 by omega) (show j < n + 1 by omega)]
   have lt : ((R.getD i []).take j).length < 17592186044416 := by rw [List.length_take]; omega
   refine y_ o_ (y_ o_ (y_ o_ (y_ o_ (y_ o_ (y_ o_ ?_)))))
   cases b with
   | true =>
    by_cases c : f i j < g i j
    ·rw [show mixF true f g i j = f i j by show min (f i j) (g i j) = _; omega] at e
     exact y_ (by simpa using c) (y_ lt e)
    ·rw [show mixF true f g i j = g i j by show min (f i j) (g i j) = _; omega] at e
     exact n_ (by simpa using c) (y_ lt e)
   | false =>
    by_cases c : f i j < g i j
    ·rw [show mixF false f g i j = g i j by show max (f i j) (g i j) = _; omega] at e
     exact n_ (by simpa using c) (y_ lt e)
    ·rw [show mixF false f g i j = f i j by show max (f i j) (g i j) = _; omega] at e
     exact y_ (by simpa using c) (y_ lt e)
 have key : ∀ (d i : Nat), i + d = n + 1 → Ans (fun k => spec_heMix.l0 k (tab (n + 1) (n + 1) g) b (R.take i) (tab (n + 1) (n + 1) f) ((n + 1 : Nat) : Int) (i : Int)) R := by
  intro d
  induction d with
  | zero =>
   intro i h
   refine Ans.step ?_
   simp only [spec_heMix.l0]
   rw [List.take_of_length_le o_]
   exact n_ o_ p_
  | succ d ih =>
   intro i h
   have e := ih (i + 1) o_
   rw [show ((i + 1 : Nat) : Int) = (i : Int) + 1 by omega] at e
   have := inner i o_ e (n + 1) 0 o_
   rw [List.take_zero] at this
   refine Ans.step ?_
   simp only [spec_heMix.l0, rowf i o_, lf]
   exact y_ o_ (y_ o_ (y_ o_ this))
 simp only [spec_heMix.f, lf]
 have := key (n + 1) 0 o_
 rw [List.take_zero] at this
 rw [← hR]
 exact this
theorem specMix {x y : Tb_} (hx : x.length ≤ 1048576) (hy : y.length ≤ 1048576) : Ans (fun k => spec_MeetOf.f k x y) (mixR true x y) ∧ Ans (fun k => spec_JoinOf.f k x y) (mixR false x y) := by
 have a := hePair hx hy
 simp only [spec_MeetOf.f, spec_JoinOf.f, mixR]
 by_cases c : two x y = true
 case neg => rw [if_neg c, if_neg c]; exact ⟨a.bind (n_ c p_), a.bind (n_ c p_)⟩
 obtain ⟨s, t, h⟩ := two_iff.mp c
 obtain ⟨ex, Hx, _⟩ := HT_hf s rfl
 obtain ⟨ey, Hy, _⟩ := HT_hf t h.symm
 have h1 := specHeights s
 have h2 := specHeights t
 have h6 := (sign_en s rfl).2.2.1
 rw [ex] at h1
 rw [ey] at h2
 have F := fun b => specFromH (n := x.length) (tab_sq (x.length + 1) (mixF b (hgt x) (hgt y))) o_
 have e := fun b => smat_of (hf_mix Hx Hy b) (show x.length ≤ 1000 by omega)
 have F1 := F true; have F2 := F false
 rw [e] at F1 F2
 rw [if_pos c, if_pos c]
 exact ⟨a.bind (y_ c (h1.bind (h2.bind ((heMix _ _ o_ true).bind (F1.bind p_))))), a.bind (y_ c (h1.bind (h2.bind ((heMix _ _ o_ false).bind (F2.bind p_)))))⟩
def trOk (n : Nat) : Bool := match spec_trAll.f 100 [] [] (n : Int) with
 | some L => L.isPerm (allOf n)
 | none => false
theorem trOk1 : trOk 1 = true := by decide +kernel
theorem trOk2 : trOk 2 = true := by decide +kernel
theorem trOk3 : trOk 3 = true := by decide +kernel
theorem trOk4 : trOk 4 = true := by decide +kernel
theorem trAll (n : Nat) (h1 : 1 ≤ n) (h4 : n ≤ 4) : ∃ L : List Tb_, L.Perm (allOf n) ∧ Ans (fun k => spec_trAll.f k [] [] (n : Int)) L := by
 have h : trOk n = true := by
  rcases (show n = 1 ∨ n = 2 ∨ n = 3 ∨ n = 4 by omega) with rfl | rfl | rfl | rfl
  ·exact trOk1
  ·exact trOk2
  ·exact trOk3
  ·exact trOk4
 unfold trOk at h
 cases e : spec_trAll.f 100 [] [] (n : Int) with
 | none => rw [e] at h; cases h
 | some L => rw [e] at h; exact ⟨L, List.isPerm_iff.mp h, LeO.far (fun k => spec_trAll.mono [] [] (n : Int) k) 100 e⟩
theorem allOf_sign (n : Nat) (h1 : 1 ≤ n) (h4 : n ≤ 4) : ∀ m ∈ allOf n, sign m = true := by
 have key : ∀ j ∈ [1, 2, 3, 4], (allOf j).all sign = true := by decide +kernel
 have := key n (by simp; omega)
 rwa [List.all_eq_true] at this
def btw (c d m : Tb_) : Bool := bel c m && bel m d
def cbRes (c d : Tb_) : Int × Bool := if two c d = true ∧ c.length ≤ 4 then ((((allOf c.length).filter (btw c d)).length : Int), true) else (0, false)
theorem implCount {c d : Tb_} (hc : c.length ≤ 1048576) (hd : d.length ≤ 1048576) : Ans (fun k => impl_CountBetween.f k c d) (cbRes c d) := by
 simp only [impl_CountBetween.f, cbRes]
 refine (arePair hc hd).bind ?_
 by_cases t : two c d = true
 case neg => rw [if_neg (fun h => t h.1)]; exact n_ t p_
 refine y_ t ?_
 by_cases h4 : c.length ≤ 4
 case neg => rw [if_neg (fun h => h4 h.2)]; exact y_ o_ p_
 rw [if_pos ⟨t, h4⟩]
 obtain ⟨s, t2, hl⟩ := two_iff.mp t
 obtain ⟨_, h1, _, _⟩ := sign_en s rfl
 refine n_ o_ ((allSignsP c.length o_ (fun k m => impl_CountBetween_1.f k m c d) (btw c d) (allOf_sq _) (fun m hm => ?_)).bind p_)
 have sm := allOf_sign _ h1 h4 m hm
 have lm := (allOf_sq _ m hm).1
 simp only [impl_CountBetween_1.f, btw]
 refine (isBelow s sm lm.symm).bind ?_
 by_cases b : bel c m = true
 ·rw [b, Bool.true_and]; exact y_ rfl ((isBelow sm t2 (lm.trans hl)).bind p_)
 ·rw [Bool.eq_false_iff.mpr b, Bool.false_and]; exact n_ (by simp) p_
theorem heBelowB {x y : Tb_} {n : Nat} (hx : x.length = n) (hy : y.length = n) (hn : n ≤ 100) : Ans (fun k => spec_heBelow.f k (HT x) (HT y)) (bel x y) := by
 have qx := HT_sq x
 have qy := HT_sq y
 rw [hx] at qx
 rw [hy] at qy
 simp only [spec_heBelow.f, bel, qx.1, hx]
 exact below_spec qx qy o_
theorem specCountL {c d : Tb_} {n : Nat} (hc : c.length = n) (hd : d.length = n) (hn : n ≤ 100) (L : List Tb_) (hL : L.length ≤ 1000) (hs : ∀ m ∈ L, sign m = true ∧ m.length = n) :
  ∀ (q i : Nat) (a : Int), i + q = L.length → 0 ≤ a → a ≤ i → Ans (fun k => spec_CountBetween.l0 k (HT c) (HT d) a L (L.length : Int) (i : Int)) (a + (((L.drop i).filter (btw c d)).length : Int), true) := by
 intro q
 induction q with
 | zero =>
  intro i a h a0 a1
  rw [List.drop_eq_nil_of_le o_]
  refine Ans.step ?_
  simp only [spec_CountBetween.l0]
  exact n_ o_ (by simpa using Ans.pure (a, true))
 | succ q ih =>
  intro i a h a0 a1
  have hi : i < L.length := by omega
  obtain ⟨sm, lm⟩ := hs (L.getD i []) (getD_mem [] hi)
  have e : rd_L4 L (i : Int) = L.getD i [] := by unfold rd_L4; rw [Int.toNat_natCast]
  rw [drop_at L [] hi, List.filter_cons]
  have nx := fun (b : Int) (b0 : 0 ≤ b) (b1 : b ≤ ((i + 1 : Nat) : Int)) => ih (i + 1) b o_ b0 b1
  rw [show ((i + 1 : Nat) : Int) = (i : Int) + 1 by omega] at nx
  refine Ans.step ?_
  simp only [spec_CountBetween.l0, wrap64_up (show (0 : Int) ≤ i by omega) o_, wrap64_up a0 (by omega : a ≤ 4611686018427387904), e]
  refine y_ o_ (y_ o_ (y_ o_ ((specHeights sm).bind ((heBelowB hc lm hn).bind ?_))))
  generalize L.getD i [] = m at *
  by_cases b : bel c m = true
  ·refine y_ b ((heBelowB lm hd hn).bind ?_)
   by_cases b2 : bel m d = true
   ·rw [show btw c d m = true by simp [btw, b, b2], if_pos rfl, List.length_cons]
    have := nx (a + 1) o_ o_
    rw [show a + 1 + (((L.drop (i + 1)).filter (btw c d)).length : Int) = a + ((((L.drop (i + 1)).filter (btw c d)).length + 1 : Nat) : Int) by omega] at this
    exact y_ b2 this
   ·rw [show btw c d m = false by simp [btw, Bool.eq_false_iff.mpr b2], if_neg (by simp)]
    exact n_ b2 (nx a a0 o_)
  ·rw [show btw c d m = false by simp [btw, Bool.eq_false_iff.mpr b], if_neg (by simp)]
   exact n_ b (nx a a0 o_)
theorem specCount {c d : Tb_} (hc : c.length ≤ 1048576) (hd : d.length ≤ 1048576) : Ans (fun k => spec_CountBetween.f k c d) (cbRes c d) := by
 simp only [spec_CountBetween.f, cbRes]
 refine (hePair hc hd).bind ?_
 by_cases t : two c d = true
 case neg =>
  rw [if_neg (fun h => t h.1)]
  refine n_ t (Ans.step ?_)
  simp only [spec_CountBetween.j0]
  exact y_ trivial p_
 refine y_ t (Ans.step ?_)
 simp only [spec_CountBetween.j0]
 by_cases h4 : c.length ≤ 4
 case neg => rw [if_neg (fun h => h4 h.2)]; exact y_ (by simp; omega) p_
 rw [if_pos ⟨t, h4⟩]
 obtain ⟨s, t2, hl⟩ := two_iff.mp t
 obtain ⟨_, h1, _, _⟩ := sign_en s rfl
 obtain ⟨L, p, f⟩ := trAll c.length h1 h4
 have few := allOf_few c.length o_
 have pl := p.length_eq
 have e := specCountL (c := c) (d := d) rfl hl.symm o_ L o_ (fun m hm => ⟨allOf_sign _ h1 h4 m (p.mem_iff.mp hm), (allOf_sq _ m (p.mem_iff.mp hm)).1⟩) L.length 0 0 o_ o_ o_
 rw [List.drop_zero, (p.filter (btw c d)).length_eq, Int.zero_add] at e
 exact n_ (by simp; omega) ((specHeights s).bind ((specHeights t2).bind (f.bind e)))
theorem mix_of {x y : Tb_} (s : sign x = true) (t : sign y = true) {n : Nat} (hx : x.length = n) (hy : y.length = n) (b : Bool) :
  sign (mat n (mixF b (hgt x) (hgt y))) = true ∧ (mat n (mixF b (hgt x) (hgt y))).length = n ∧ ∀ i j, i ≤ n → j ≤ n → hgt (mat n (mixF b (hgt x) (hgt y))) i j = mixF b (hgt x) (hgt y) i j := by
 obtain ⟨_, h1, h6, _⟩ := sign_en s hx
 have H := hf_mix (HT_hf s hx).2.1 (HT_hf t hy).2.1 b
 exact ⟨mat_sign H h1 h6, (mat_sq n _).1, fun i j hi hj => mat_hgt H hj i hi⟩
theorem mat_eq {x : Tb_} (s : sign x = true) {n : Nat} (hx : x.length = n) {f : Nat → Nat → Int} (H : HF n f) (e : ∀ i j, i ≤ n → j ≤ n → f i j = hgt x i j) : mat n f = x :=
 HT_inj (mat_sq n f) (sign_en s hx).1 fun i j hi hj => (mat_hgt H hj i hi).trans (e i j hi hj)
theorem mix_min (f g : Nat → Nat → Int) (i j : Nat) : mixF true f g i j = min (f i j) (g i j) := rfl
theorem mix_max (f g : Nat → Nat → Int) (i j : Nat) : mixF false f g i j = max (f i j) (g i j) := rfl
theorem mixR_of {x y : Tb_} (s : sign x = true) (t : sign y = true) (h : x.length = y.length) (b : Bool) : mixR b x y = (mat x.length (mixF b (hgt x) (hgt y)), true) := if_pos (two_iff.mpr ⟨s, t, h⟩)
theorem isb_of {x y : Tb_} (s : sign x = true) (t : sign y = true) (h : x.length = y.length) : isb x y = (bel x y, true) := if_pos (two_iff.mpr ⟨s, t, h⟩)
theorem rank_dst {x : Tb_} (s : sign x = true) {n : Nat} (hx : x.length = n) : dst n (hgt x) (hgt (lea n)) = S (n + 1) (fun i => S (n + 1) (fun j => hgt x i j - hgt (lea n) i j)) := by
 have b := bel_lea s
 rw [hx, bel_iff (show (lea n).length = n from (tab_sq n _).1) hx] at b
 exact S_congr fun i hi => S_congr fun j hj => by have := b i j o_ o_; omega
theorem ranks {x y : Tb_} (s : sign x = true) (t : sign y = true) {n : Nat} (hx : x.length = n) (hy : y.length = n) :
  rank x + rank y = rank (mat n (mixF true (hgt x) (hgt y))) + rank (mat n (mixF false (hgt x) (hgt y))) := by
 obtain ⟨_, h1, h6, _⟩ := sign_en s hx
 obtain ⟨s1, l1, e1⟩ := mix_of s t hx hy true
 obtain ⟨s2, l2, e2⟩ := mix_of s t hx hy false
 have L := (HT_hf (lea_sign n h1 h6) (tab_sq n _).1).2.1
 have ev : ∀ {z : Tb_}, sign z = true → z.length = n → dst n (hgt z) (hgt (lea n)) % 2 = 0 := fun sz lz => dst_even (HT_hf sz lz).2.1 L
 have a := ev s hx
 have b := ev t hy
 have c := ev s1 l1
 have d := ev s2 l2
 have sum : dst n (hgt x) (hgt (lea n)) + dst n (hgt y) (hgt (lea n)) = dst n (hgt (mat n (mixF true (hgt x) (hgt y)))) (hgt (lea n)) + dst n (hgt (mat n (mixF false (hgt x) (hgt y)))) (hgt (lea n)) := by
  rw [rank_dst s hx, rank_dst t hy, rank_dst s1 l1, rank_dst s2 l2, ← S_add, ← S_add]
  refine S_congr fun i hi => ?_
  rw [← S_add, ← S_add]
  refine S_congr fun j hj => ?_
  rw [e1 i j o_ o_, e2 i j o_ o_, mix_min, mix_max]
  omega
 unfold rank
 rw [hx, hy, l1, l2]
 omega
theorem meet_laws {x y : Tb_} (s : sign x = true) (t : sign y = true) {n : Nat} (hx : x.length = n) (hy : y.length = n) :
  bel (mat n (mixF true (hgt x) (hgt y))) x = true ∧ bel (mat n (mixF true (hgt x) (hgt y))) y = true ∧ bel x (mat n (mixF false (hgt x) (hgt y))) = true ∧ bel y (mat n (mixF false (hgt x) (hgt y))) = true ∧
  mat n (mixF true (hgt x) (hgt (mat n (mixF false (hgt x) (hgt y))))) = x ∧ mat n (mixF false (hgt x) (hgt (mat n (mixF true (hgt x) (hgt y))))) = x := by
 obtain ⟨s1, l1, e1⟩ := mix_of s t hx hy true
 obtain ⟨s2, l2, e2⟩ := mix_of s t hx hy false
 have Hx := (HT_hf s hx).2.1
 refine ⟨(bel_iff l1 hx).mpr fun i j hi hj => ?_, (bel_iff l1 hy).mpr fun i j hi hj => ?_, (bel_iff hx l2).mpr fun i j hi hj => ?_, (bel_iff hy l2).mpr fun i j hi hj => ?_, ?_, ?_⟩
 ·rw [e1 i j hi hj, mix_min]; omega
 ·rw [e1 i j hi hj, mix_min]; omega
 ·rw [e2 i j hi hj, mix_max]; omega
 ·rw [e2 i j hi hj, mix_max]; omega
 ·refine mat_eq s hx (hf_mix Hx (HT_hf s2 l2).2.1 true) fun i j hi hj => ?_
  rw [mix_min, e2 i j hi hj, mix_max]; omega
 ·refine mat_eq s hx (hf_mix Hx (HT_hf s1 l1).2.1 false) fun i j hi hj => ?_
  rw [mix_max, e1 i j hi hj, mix_min]; omega
theorem allOf_nodup (n : Nat) (h4 : n ≤ 4) : (allOf n).Nodup := by
 have key : ∀ j ∈ [0, 1, 2, 3, 4], (allOf j).Nodup := by decide +kernel
 exact key n (by simp; omega)
theorem between {c d : Tb_} (s : sign c = true) (t : sign d = true) (h : c.length = d.length) (h4 : c.length ≤ 4) :
  (decide (0 < ((allOf c.length).filter (btw c d)).length) = bel c d) ∧ (bel c d = true → (decide (((allOf c.length).filter (btw c d)).length = 1) = decide (c = d))) := by
 obtain ⟨n, hn⟩ : ∃ n, c.length = n := ⟨_, rfl⟩
 have hd : d.length = n := by omega
 obtain ⟨_, h1, _, _⟩ := sign_en s hn
 have cin : c ∈ allOf n := hn ▸ sign_mem s
 have din : d ∈ allOf n := hd ▸ sign_mem t
 have refl : ∀ {z : Tb_}, z.length = n → bel z z = true := fun lz => (bel_iff lz lz).mpr fun _ _ _ _ => Int.le_refl _
 have ino : ∀ m ∈ allOf n, sign m = true ∧ m.length = n := fun m hm => ⟨allOf_sign n h1 o_ m hm, (allOf_sq n m hm).1⟩
 rw [hn]
 constructor
 ·rw [Bool.eq_iff_iff, decide_eq_true_iff]
  constructor
  ·intro p
   obtain ⟨m, hm⟩ := List.exists_mem_of_length_pos p
   obtain ⟨mi, mb⟩ := List.mem_filter.mp hm
   have lm := (ino m mi).2
   simp only [btw, Bool.and_eq_true] at mb
   exact (bel_iff hn hd).mpr fun i j hi hj => Int.le_trans ((bel_iff hn lm).mp mb.1 i j hi hj) ((bel_iff lm hd).mp mb.2 i j hi hj)
  ·intro b
   exact List.length_pos_of_mem (List.mem_filter.mpr ⟨cin, by simp [btw, refl hn, b]⟩)
 ·intro b
  have m1 : c ∈ (allOf n).filter (btw c d) := List.mem_filter.mpr ⟨cin, by simp [btw, refl hn, b]⟩
  have m2 : d ∈ (allOf n).filter (btw c d) := List.mem_filter.mpr ⟨din, by simp [btw, refl hd, b]⟩
  refine decide_eq_decide.mpr ⟨fun e => ?_, fun e => ?_⟩
  ·obtain ⟨z, hz⟩ := List.length_eq_one_iff.mp e
   rw [hz, List.mem_singleton] at m1 m2
   exact m1.trans m2.symm
  ·subst e
   have all : ∀ m ∈ (allOf n).filter (btw c c), m = c := fun m hm => by
    obtain ⟨mi, mb⟩ := List.mem_filter.mp hm
    simp only [btw, Bool.and_eq_true] at mb
    exact (bel_anti (ino m mi).1 s (by rw [(ino m mi).2, hn])).mp ⟨mb.2, mb.1⟩
   have nd : ((allOf n).filter (btw c c)).Nodup := List.Pairwise.filter _ (allOf_nodup n o_)
   match hL : (allOf n).filter (btw c c) with
   | [] => rw [hL] at m1; cases m1
   | [z] => rfl
   | z :: z' :: r =>
    rw [hL] at all nd
    have a := all z (by simp)
    have a' := all z' (by simp)
    rw [a, a'] at nd
    simp at nd
def chg (f : Tb_ → Tb_) (x : Tb_) : Tb_ × Bool := if sign x = true then (f x, true) else ([], false)
theorem changed {x : Tb_} (hx : x.length ≤ 1048576) (p : Nat → Tb_ → Option Tb_) (f : Tb_ → Tb_) (h : sign x = true → Ans (fun k => p k x) (f x)) : Ans (fun k => impl_changed.f k x (p k)) (chg f x) := by
 simp only [impl_changed.f, chg]
 refine (isSign x hx).bind ?_
 by_cases s : sign x = true
 ·rw [if_pos s]; exact y_ s ((h s).bind p_)
 ·rw [if_neg s]; exact n_ s p_
def jpRes (x : Tb_) : Bool × Bool := if sign x = true then (decide ((cellsF x.length (fun i j => decide (wayH (hgt x) i j = -1))).length = 1), true) else (false, false)
theorem one_len (l : Tb_) : ((l.length : Int) == 1) = decide (l.length = 1) := by
 rw [Bool.eq_iff_iff, beq_iff_eq, decide_eq_true_eq]; omega
theorem joinPart (x : Tb_) (hx : x.length ≤ 1000) : Ans (fun k => impl_IsJoinPart.f k x) (jpRes x) ∧ Ans (fun k => spec_IsJoinPart.f k x) (jpRes x) := by
 have s1 := isSign x o_
 have s2 := sgGood x o_
 simp only [impl_IsJoinPart.f, spec_IsJoinPart.f, jpRes]
 by_cases s : sign x = true
 ·rw [if_pos s]
  rw [s] at s1 s2
  have ho := specHeights s
  rw [(HT_hf s rfl).1] at ho
  have h6 := (sign_en s rfl).2.2.1
  have F := implFlips s rfl false
  have G := heFlips (hgt x) o_ (hgt_bound s rfl) (-1)
  rw [if_neg (by simp)] at F
  rw [← one_len]
  exact ⟨s1.bind (y_ rfl (F.bind p_)), s2.bind (y_ rfl (ho.bind (G.bind p_)))⟩
 ·rw [if_neg s]
  rw [Bool.eq_false_iff.mpr s] at s1 s2
  exact ⟨s1.bind (n_ (by simp) p_), s2.bind (n_ (by simp) p_)⟩
theorem dualOf {x : Tb_} (hx : x.length ≤ 1048576) : Ans (fun k => impl_DualOf.f k x) (chg mir x) ∧ Ans (fun k => impl_MirrorMatrix.f k x) (chg mir x) := by
 have := changed hx (fun k x => impl_mirrored.f k x) mir fun s => mirrored _ x (sign_sq s).1 o_
 simp only [impl_DualOf.f, impl_MirrorMatrix.f]
 exact ⟨this.bind p_, this⟩
theorem big_ans (c m : List Int) : ∃ b, laws_big.f c m = some b := by
 simp only [laws_big.f]
 split
 ·exact ⟨_, rfl⟩
 ·exact ⟨_, rfl⟩
theorem heLeast (n : Nat) (hn : n ≤ 1000) : ∃ y, Sq n y ∧ Ans (fun k => spec_heLeast.f k n) y := by
 have key : ∀ (d i : Nat) (y : Tb_), i + d = n → Sq n y → ∃ z, Sq n z ∧ Ans (fun k => spec_heLeast.l0 k y (n : Int) (i : Int)) z := by
  intro d
  induction d with
  | zero =>
   intro i y h q
   refine ⟨y, q, Ans.step ?_⟩
   simp only [spec_heLeast.l0]
   exact n_ o_ p_
  | succ d ih =>
   intro i y h q
   obtain ⟨z, qz, e⟩ := ih (i + 1) (y.set i ((y.getD i []).set i 1)) o_ (put_sq q i i o_ o_ 1).1
   have hl := q.1
   have hr : (rd_L3 y (i : Int)).length = n := by unfold rd_L3; rw [Int.toNat_natCast]; exact q.row o_
   refine ⟨z, qz, Ans.step ?_⟩
   simp only [spec_heLeast.l0, wrap64_up (show (0 : Int) ≤ i by omega) o_, Int.toNat_natCast]
   rw [show ((i + 1 : Nat) : Int) = (i : Int) + 1 by omega] at e
   exact y_ o_ (y_ o_ (y_ o_ (y_ o_ e)))
 obtain ⟨z, qz, e⟩ := key n 0 _ o_ (rep_sq n 0)
 refine ⟨z, qz, ?_⟩
 simp only [spec_heLeast.f]
 refine (sgZero n hn).bind ?_
 simp only [List.length_replicate]
 exact e
theorem drawM (c : List Int) (hc : ∀ x ∈ c, (Lit.int .u8 x).wf = true) : ∃ x y, Ans (fun k => spec_DrawMeetOf.f k c) (x, y) ∧ (x.length ≤ 7 ∧ ∀ r ∈ x, r.length ≤ 7) ∧ (y.length ≤ 7 ∧ ∀ r ∈ y, r.length ≤ 7) := by
 obtain ⟨x, y, a, s, f, _, _, hx, hy⟩ := draw_pair c hc 0 0 5 o_ o_ o_ o_
 refine ⟨x, y, ?_, hx, hy⟩
 simp only [spec_DrawMeetOf.f, spec_DrawIsBelow.f]
 exact (f.bind (h := fun _ bt => some (bt.1, bt.2.1)) p_).bind p_
theorem drawJ (c : List Int) (hc : ∀ x ∈ c, (Lit.int .u8 x).wf = true) : ∃ x, Ans (fun k => spec_DrawIsJoinPart.f k c) x ∧ x.length ≤ 7 ∧ ∀ r ∈ x, r.length ≤ 7 := by
 obtain ⟨m, a, s, f, _, _, h1, h2⟩ := draw_signs c hc 0 0 5 o_ o_ o_ o_
 refine ⟨m, ?_, h1, h2⟩
 simp only [spec_DrawIsJoinPart.f, spec_DrawIsSignMatrix.f]
 exact (f.bind (h := fun _ bt => some bt.1) p_).bind p_
theorem drawC (c : List Int) (hc : ∀ x ∈ c, (Lit.int .u8 x).wf = true) : ∃ x y, Ans (fun k => spec_DrawCountBetween.f k c) (x, y) ∧ (x.length ≤ 7 ∧ ∀ r ∈ x, r.length ≤ 7) ∧ (y.length ≤ 7 ∧ ∀ r ∈ y, r.length ≤ 7) := by
 obtain ⟨v, a1, s1, e1, p1, q1, v0, v1⟩ := draw_pick c hc 0 0 4 o_ o_
 obtain ⟨u, a2, s2, e2, p2, q2⟩ := draw_one c hc a1 s1 3 o_ o_
 have wv : wrap64 (1 + v) = ((v.toNat + 1 : Nat) : Int) := by rw [wrap64_in _ ⟨o_, o_⟩]; omega
 simp only [spec_DrawCountBetween.f, e1, e2, Option.bind_some, wv]
 cases u with
 | true =>
  obtain ⟨z, qz, f⟩ := heLeast (v.toNat + 1) o_
  obtain ⟨y, a3, s3, g, _, _, qy, _⟩ := draw_sure c hc a2 s2 (v.toNat + 1) o_ o_ o_ o_
  exact ⟨z, y, y_ rfl (f.bind (g.bind p_)), ⟨by rw [qz.1]; omega, fun r hr => by rw [qz.2 r hr]; omega⟩, ⟨by rw [qy.1]; omega, fun r hr => by rw [qy.2 r hr]; omega⟩⟩
 | false =>
  obtain ⟨x, y, a, s, f, _, _, hx, hy⟩ := draw_pair c hc a2 s2 4 o_ o_ o_ o_
  exact ⟨x, y, n_ (by simp) (f.bind p_), hx, hy⟩
theorem mixR_small (b : Bool) (x y : Tb_) : (mixR b x y).1.length ≤ 1000 ∧ ∀ r ∈ (mixR b x y).1, r.length ≤ 1000 := by
 unfold mixR
 by_cases c : two x y = true
 ·rw [if_pos c]
  obtain ⟨s, _⟩ := two_iff.mp c
  have h6 := (sign_en s rfl).2.2.1
  have q := mat_sq x.length (mixF b (hgt x) (hgt y))
  exact ⟨by rw [q.1]; omega, fun r hr => by rw [q.2 r hr]; omega⟩
 ·rw [if_neg c]; exact ⟨by simp, by simp⟩
theorem law_j3 (c : List Int) (hc : ∀ x ∈ c, (Lit.int .u8 x).wf = true) : Ans (fun k => laws_FnSignLattice.j3 k c) true := by
 obtain ⟨x, D, h1, h2⟩ := drawJ c hc
 obtain ⟨P, Q⟩ := joinPart x o_
 obtain ⟨U, V⟩ := dualOf (x := x) o_
 refine Ans.step ?_
 simp only [laws_FnSignLattice.j3]
 refine D.bind (P.bind (Q.bind (U.bind (V.bind (y_ (by simp) (y_ (by simp) (y_ (by simp) (y_ ?_ ?_))))))))
 ·unfold chg jpRes
  split <;> rfl
 ·unfold chg
  by_cases s : sign x = true
  ·rw [if_pos s]
   have q := sign_mir s
   obtain ⟨q1, q2⟩ := sign_sq q
   exact (hRows (mir x) o_ (fun r hr => by rw [q1.2 r hr]; omega)).bind p_
  ·rw [if_neg s]
   exact (hRows [] (by simp) (by simp)).bind p_
theorem law_j2 (x y : Tb_) (hx : x.length ≤ 7 ∧ ∀ r ∈ x, r.length ≤ 7) (hy : y.length ≤ 7 ∧ ∀ r ∈ y, r.length ≤ 7) (c : List Int) (hc : ∀ x ∈ c, (Lit.int .u8 x).wf = true) :
  Ans (fun k => laws_FnSignLattice.j2 k c x y (cbRes x y).1 (cbRes x y).2 false) true := by
 have J := law_j3 c hc
 have hx1 := hx.1
 have hy1 := hy.1
 refine Ans.step ?_
 simp only [laws_FnSignLattice.j2]
 refine n_ (by simp) ?_
 by_cases t : two x y = true ∧ x.length ≤ 4
 case neg => rw [show cbRes x y = (0, false) from if_neg t]; exact n_ (by simp) J
 rw [show cbRes x y = ((((allOf x.length).filter (btw x y)).length : Int), true) from if_pos t]
 obtain ⟨s, t2, hl⟩ := two_iff.mp t.1
 obtain ⟨B1, B2⟩ := between s t2 hl t.2
 have B := implBelow (x := x) (y := y) o_ o_
 rw [isb_of s t2 hl] at B
 have R := hRowsD (x := x) (y := y) o_ (fun r hr => by have := hx.2 r hr; omega)
 generalize ((allOf x.length).filter (btw x y)).length = q at *
 refine y_ rfl (B.bind (y_ rfl (n_ ?_ ?_)))
 ·rw [← B1]
  simp
 ·by_cases b : bel x y = true
  ·refine y_ b (R.bind (n_ ?_ J))
   rw [← B2 b]
   have : ((q : Int) == 1) = decide (q = 1) := by rw [Bool.eq_iff_iff, beq_iff_eq, decide_eq_true_eq]; omega
   rw [this]; simp
  ·exact n_ b J
theorem law_j1 (c : List Int) (hc : ∀ x ∈ c, (Lit.int .u8 x).wf = true) : Ans (fun k => laws_FnSignLattice.j1 k c) true := by
 obtain ⟨x, y, D, hx, hy⟩ := drawC c hc
 have hx1 := hx.1
 have hy1 := hy.1
 have I := implCount (c := x) (d := y) o_ o_
 have J := specCount (c := x) (d := y) o_ o_
 have L := law_j2 x y hx hy c hc
 refine Ans.step ?_
 simp only [laws_FnSignLattice.j1]
 refine D.bind (I.bind (J.bind (n_ (by simp) ?_)))
 rw [show ((cbRes x y).1 != (cbRes x y).1) = false by simp]
 exact L
theorem law_j0 (x y : Tb_) (hx : x.length ≤ 7 ∧ ∀ r ∈ x, r.length ≤ 7) (hy : y.length ≤ 7 ∧ ∀ r ∈ y, r.length ≤ 7) (c : List Int) (hc : ∀ x ∈ c, (Lit.int .u8 x).wf = true) :
  Ans (fun k => laws_FnSignLattice.j0 k c x y (mixR true x y).1 (mixR true x y).2 (mixR false x y).1 false) true := by
 have J := law_j1 c hc
 have hx1 := hx.1
 have hy1 := hy.1
 refine Ans.step ?_
 simp only [laws_FnSignLattice.j0]
 refine n_ (by simp) ?_
 by_cases t : two x y = true
 case neg => rw [show mixR true x y = ([], false) from if_neg t]; exact n_ (by simp) J
 obtain ⟨s, t2, hl⟩ := two_iff.mp t
 obtain ⟨n, hn⟩ : ∃ n, x.length = n := ⟨_, rfl⟩
 have hm : y.length = n := by omega
 rw [mixR_of s t2 hl, mixR_of s t2 hl, hn]
 obtain ⟨s1, l1, _⟩ := mix_of s t2 hn hm true
 obtain ⟨s2, l2, _⟩ := mix_of s t2 hn hm false
 obtain ⟨m1, m2, m3, m4, m5, m6⟩ := meet_laws s t2 hn hm
 have rk := ranks s t2 hn hm
 generalize mat n (mixF true (hgt x) (hgt y)) = M at *
 generalize mat n (mixF false (hgt x) (hgt y)) = N at *
 have B1 := implBelow (x := M) (y := x) o_ o_
 have B2 := implBelow (x := M) (y := y) o_ o_
 have B3 := implBelow (x := x) (y := N) o_ o_
 have B4 := implBelow (x := y) (y := N) o_ o_
 rw [isb_of s1 s o_, m1] at B1
 rw [isb_of s1 t2 o_, m2] at B2
 rw [isb_of s s2 o_, m3] at B3
 rw [isb_of t2 s2 o_, m4] at B4
 have C1 := (implMix (x := x) (y := N) o_ o_).1
 have C2 := (implMix (x := x) (y := M) o_ o_).2
 rw [mixR_of s s2 o_, hn, m5] at C1
 rw [mixR_of s s1 o_, hn, m6] at C2
 have S1 := isSign M o_
 have S2 := isSign N o_
 have R := hRows x o_ (fun r hr => by have := hx.2 r hr; omega)
 exact y_ rfl (B1.bind (B2.bind (B3.bind (B4.bind (C1.bind (C2.bind ((rankOf s).bind ((rankOf t2).bind ((rankOf s1).bind ((rankOf s2).bind (S1.bind (y_ s1 (S2.bind (y_ s2 (y_ rfl (y_ rfl (y_ rfl (y_ rfl (y_ rfl (y_ rfl (y_ rfl (y_ rfl (y_ rfl (R.bind (y_ rfl (y_ rfl (R.bind (y_ rfl (y_ rfl (y_ rfl (y_ rfl (y_ rfl (y_ (by rw [rk]) J)))))))))))))))))))))))))))))))))
theorem FnSignLattice : laws_FnSignLattice.Pure := by
 intro c m _ _ hc _ _ hm
 refine Ans.at (g := fun k => laws_FnSignLattice.f k c m) ?_
 simp only [laws_FnSignLattice.f]
 obtain ⟨b, hb⟩ := big_ans c m
 simp only [hb, Option.bind_some]
 cases b with
 | true => exact y_ rfl p_
 | false =>
  refine n_ (by simp) ?_
  obtain ⟨x, y, D, hx, hy⟩ := drawM c hc
  have hx1 := hx.1
  have hy1 := hy.1
  obtain ⟨I1, I2⟩ := implMix (x := x) (y := y) o_ o_
  obtain ⟨J1, J2⟩ := specMix (x := x) (y := y) o_ o_
  have k1 := mixR_small true x y
  have k2 := mixR_small false x y
  have R1 := hRows (mixR true x y).1 o_ (fun r hr => by have := k1.2 r hr; omega)
  have R2 := hRows (mixR false x y).1 o_ (fun r hr => by have := k2.2 r hr; omega)
  refine D.bind (I1.bind (J1.bind (I2.bind (J2.bind (n_ (by simp) (R1.bind (y_ rfl (n_ (by simp) (R2.bind (y_ rfl ?_))))))))))
  rw [show ((mixR false x y).2 != (mixR true x y).2) = false by unfold mixR; split <;> rfl]
  exact law_j0 x y hx hy m hm
end Go.Proofs.YtgpmlfggfhkifaaGreat.Pure
