import Derived.IntWalk
namespace Go.Proofs.Ytnabhfbcaocljaa.Q
open Go.RowKit
theorem wrap64_in (n : Int) (h : -9223372036854775808 ≤ n ∧ n ≤ 9223372036854775807) : wrap64 n = n := Go.IntWalk.wrap64_in n h
/-- With rounds enough, `g` answers `r`. -/
def Ans {α : Type} (g : Nat → Option α) (r : α) : Prop := ∃ k0, ∀ k, k0 ≤ k → g k = some r
theorem Ans.pure {α : Type} (r : α) : Ans (fun _ => some r) r := ⟨0, fun _ _ => rfl⟩
theorem Ans.bind {α β : Type} {g : Nat → Option α} {h : Nat → α → Option β} {a : α} {r : β} (x : Ans g a) (y : Ans (fun k => h k a) r) : Ans (fun k => (g k).bind (h k)) r := by
  obtain ⟨m, hm⟩ := x; obtain ⟨n, hn⟩ := y
  refine ⟨m + n, fun k hk => ?_⟩
  show (g k).bind (h k) = some r
  rw [hm k (by omega)]; exact hn k (by omega)
theorem Ans.step {α : Type} {g : Nat → Option α} {r : α} (x : Ans (fun k => g (k + 1)) r) : Ans g r := by
  obtain ⟨m, hm⟩ := x
  refine ⟨m + 1, fun k hk => ?_⟩
  obtain ⟨j, rfl⟩ : ∃ j, k = j + 1 := ⟨k - 1, by omega⟩
  exact hm j (by omega)
theorem Ans.yes {α : Type} {c : Prop} [Decidable c] {a b : Nat → Option α} {r : α} (hc : c) (x : Ans a r) : Ans (fun k => if c then a k else b k) r := by
  obtain ⟨m, hm⟩ := x
  exact ⟨m, fun k hk => by show (if c then a k else b k) = some r; rw [if_pos hc]; exact hm k hk⟩
theorem Ans.not {α : Type} {c : Prop} [Decidable c] {a b : Nat → Option α} {r : α} (hc : ¬ c) (x : Ans b r) : Ans (fun k => if c then a k else b k) r := by
  obtain ⟨m, hm⟩ := x
  exact ⟨m, fun k hk => by show (if c then a k else b k) = some r; rw [if_neg hc]; exact hm k hk⟩
theorem Ans.const {α : Type} {g : Option α} {r : α} (h : g = some r) : Ans (fun _ => g) r := ⟨0, fun _ _ => h⟩
theorem Ans.from {α : Type} {g : Nat → Option α} {r : α} (n : Nat) (h : ∀ k, n ≤ k → g k = some r) : Ans g r := ⟨n, h⟩
theorem Ans.at {α : Type} {g : Nat → Option α} {r : α} (x : Ans g r) : ∃ k, g k = some r := ⟨x.choose, x.choose_spec _ (Nat.le_refl _)⟩
theorem Ans.congr {α : Type} {g h : Nat → Option α} {r : α} (x : Ans g r) (e : ∀ k, h k = g k) : Ans h r := by
  obtain ⟨m, hm⟩ := x; exact ⟨m, fun k hk => by rw [e]; exact hm k hk⟩
theorem Ans.same {α : Type} {g : Nat → Option α} {r s : α} (x : Ans g r) (y : Ans g s) : r = s := by
  obtain ⟨m, hm⟩ := x; obtain ⟨n, hn⟩ := y
  exact Option.some.inj ((hm (m + n) (by omega)).symm.trans (hn (m + n) (by omega)))
/-- Both answer the same, and that with `P`. -/
def Two {α : Type} (g h : Nat → Option α) (P : α → Prop) : Prop := ∃ r, P r ∧ Ans g r ∧ Ans h r
theorem Two.pure {α : Type} {P : α → Prop} {r : α} (p : P r) : Two (fun _ => some r) (fun _ => some r) P := ⟨r, p, Ans.pure r, Ans.pure r⟩
theorem Two.bind {α β : Type} {g h : Nat → Option α} {u v : Nat → α → Option β} {P : α → Prop} {Q : β → Prop} (x : Two g h P) (y : ∀ a, P a → Two (fun k => u k a) (fun k => v k a) Q) :
    Two (fun k => (g k).bind (u k)) (fun k => (h k).bind (v k)) Q := by
  obtain ⟨a, p, e, f⟩ := x; obtain ⟨b, q, e', f'⟩ := y a p
  exact ⟨b, q, e.bind e', f.bind f'⟩
theorem Two.step {α : Type} {g h : Nat → Option α} {P : α → Prop} (x : Two (fun k => g (k + 1)) (fun k => h (k + 1)) P) : Two g h P := by
  obtain ⟨a, p, e, f⟩ := x; exact ⟨a, p, e.step, f.step⟩
theorem Two.ite {α : Type} {c : Prop} [Decidable c] {a b a' b' : Nat → Option α} {P : α → Prop} (x : c → Two a a' P) (y : ¬ c → Two b b' P) :
    Two (fun k => if c then a k else b k) (fun k => if c then a' k else b' k) P := by
  by_cases hc : c
  · obtain ⟨r, p, e, f⟩ := x hc; exact ⟨r, p, e.yes hc, f.yes hc⟩
  · obtain ⟨r, p, e, f⟩ := y hc; exact ⟨r, p, e.not hc, f.not hc⟩
theorem Two.yes {α : Type} {c : Prop} [Decidable c] {a b a' b' : Nat → Option α} {P : α → Prop} (hc : c) (x : Two a a' P) :
    Two (fun k => if c then a k else b k) (fun k => if c then a' k else b' k) P := by
  obtain ⟨r, p, e, f⟩ := x; exact ⟨r, p, e.yes hc, f.yes hc⟩
theorem Two.not {α : Type} {c : Prop} [Decidable c] {a b a' b' : Nat → Option α} {P : α → Prop} (hc : ¬ c) (x : Two b b' P) :
    Two (fun k => if c then a k else b k) (fun k => if c then a' k else b' k) P := by
  obtain ⟨r, p, e, f⟩ := x; exact ⟨r, p, e.not hc, f.not hc⟩
theorem Two.mono {α : Type} {g h : Nat → Option α} {P Q : α → Prop} (x : Two g h P) (y : ∀ r, P r → Q r) : Two g h Q := by
  obtain ⟨r, p, e, f⟩ := x; exact ⟨r, y r p, e, f⟩
theorem Two.of {α : Type} {g h : Nat → Option α} {r : α} (x : Ans g r) (y : Ans h r) : Two g h (fun a => a = r) := ⟨r, rfl, x, y⟩
theorem Two.const {α : Type} {g h : Option α} {P : α → Prop} {r : α} (p : P r) (x : g = some r) (y : h = some r) : Two (fun _ => g) (fun _ => h) P := ⟨r, p, Ans.const x, Ans.const y⟩
/-- The same answer on both sides, whatever it is. -/
theorem Two.self {α : Type} {g : Nat → Option α} {P : α → Prop} {r : α} (p : P r) (x : Ans g r) : Two g g P := ⟨r, p, x, x⟩
theorem wrap64_up {i : Int} (h : 0 ≤ i) (h' : i ≤ 4611686018427387904) : wrap64 (i + 1) = i + 1 := wrap64_in _ ⟨by omega, by omega⟩
theorem wrap64_down {i : Int} (h : 0 ≤ i) (h' : i ≤ 4611686018427387904) : wrap64 (i - 1) = i - 1 := wrap64_in _ ⟨by omega, by omega⟩
theorem getD_at {α : Type} (x : List α) (d : α) {n : Nat} (h : n < x.length) : x.getD n d = x[n] := by simp [List.getD, h]
theorem getD_out {α : Type} (x : List α) (d : α) {n : Nat} (h : x.length ≤ n) : x.getD n d = d := by simp [List.getD, h]
/-- From some round on. -/
def Evn (p : Nat → Prop) : Prop := ∃ k0, ∀ k, k0 ≤ k → p k
theorem Evn.and {p q : Nat → Prop} (x : Evn p) (y : Evn q) : Evn (fun k => p k ∧ q k) := by
  obtain ⟨m, hm⟩ := x; obtain ⟨n, hn⟩ := y
  exact ⟨m + n, fun k hk => ⟨hm k (by omega), hn k (by omega)⟩⟩
theorem Evn.at {p : Nat → Prop} (x : Evn p) : ∃ k, p k := ⟨x.choose, x.choose_spec _ (Nat.le_refl _)⟩
theorem Evn.all {p : Prop} (h : p) : Evn (fun _ => p) := ⟨0, fun _ _ => h⟩
theorem Evn.of {α : Type} {g : Nat → Option α} {r : α} (x : Ans g r) : Evn (fun k => g k = some r) := x
/-- A row's numbers, and those of its rows. -/
def total {α : Type} (x : List (List α)) : Nat := (x.map List.length).sum
theorem total_nil {α : Type} : total ([] : List (List α)) = 0 := rfl
theorem total_cons {α : Type} (a : List α) (x : List (List α)) : total (a :: x) = a.length + total x := rfl
theorem len_total {α : Type} {x : List (List α)} {a : List α} (h : a ∈ x) : a.length ≤ total x := by
  induction x with
  | nil => simp at h
  | cons b x ih =>
    rw [total_cons]
    rcases List.mem_cons.1 h with rfl | h
    · omega
    · have := ih h; omega
theorem getD_mem {α : Type} {x : List α} {n : Nat} (d : α) (h : n < x.length) : x.getD n d ∈ x := by rw [getD_at x d h]; exact List.getElem_mem h
theorem drop_at {α : Type} (x : List α) (d : α) {n : Nat} (h : n < x.length) : x.drop n = x.getD n d :: x.drop (n + 1) := by rw [getD_at x d h]; exact List.drop_eq_getElem_cons h
theorem total_le {α : Type} {c : Nat} {x : List (List α)} (h : ∀ a ∈ x, a.length ≤ c) : total x ≤ x.length * c := by
  induction x with
  | nil => simp [total_nil]
  | cons a x ih =>
    have h1 := h a (by simp)
    have h2 := ih (fun b hb => h b (by simp [hb]))
    rw [total_cons, List.length_cons, Nat.succ_mul]; omega
theorem take_up {α : Type} (x : List α) (d : α) {n : Nat} (h : n < x.length) : x.take (n + 1) = x.take n ++ [x.getD n d] := by
  rw [getD_at x d h, List.take_succ_eq_append_getElem h]
theorem set_same {α : Type} (x : List α) (d : α) (n : Nat) (h : n < x.length) : x.set n (x.getD n d) = x := by
  rw [getD_at x d h]
  refine List.ext_getElem (by simp) fun m h1 h2 => ?_
  by_cases e : n = m
  · subst e; simp
  · rw [List.getElem_set_ne e]
theorem drop_all {α : Type} (x : List α) {n : Nat} (h : x.length ≤ n) : x.drop n = [] := List.drop_eq_nil_of_le h
theorem w01 : wrap64 (0 + 1) = 1 := by unfold wrap64; decide
theorem w12 : wrap64 (1 + 1) = 2 := by unfold wrap64; decide
theorem w23 : wrap64 (2 + 1) = 3 := by unfold wrap64; decide
theorem w34 : wrap64 (3 + 1) = 4 := by unfold wrap64; decide
theorem take_set_drop {α : Type} (y : List α) (n : Nat) (v : α) (h : n < y.length) : (y.set n v).take (n + 1) = y.take n ++ [v] ∧ (y.set n v).drop (n + 1) = y.drop (n + 1) := by
  refine ⟨?_, ?_⟩
  · refine List.ext_getElem (by simp; omega) fun m h1 h2 => ?_
    simp only [List.length_take, List.length_set] at h1
    rw [List.getElem_take, List.getElem_append]
    by_cases e : m = n
    · subst e; rw [List.getElem_set_self, dif_neg (by simp only [List.length_take]; omega)]; simp
    · rw [List.getElem_set_ne (by omega), dif_pos (by simp; omega), List.getElem_take]
  · refine List.ext_getElem (by simp) fun m h1 h2 => ?_
    rw [List.getElem_drop, List.getElem_drop, List.getElem_set_ne (by omega)]
/-- Rounds of two kinds: those of a walk, and those of what it calls. -/
def Ans2 {α : Type} (g : Nat → Nat → Option α) (r : α) : Prop := ∃ k0, ∀ k j, k0 ≤ k → k0 ≤ j → g k j = some r
theorem Ans2.pure {α : Type} (r : α) : Ans2 (fun _ _ => some r) r := ⟨0, fun _ _ _ _ => rfl⟩
theorem Ans2.bind {α β : Type} {g : Nat → Nat → Option α} {h : Nat → Nat → α → Option β} {a : α} {r : β} (x : Ans2 g a) (y : Ans2 (fun k j => h k j a) r) : Ans2 (fun k j => (g k j).bind (h k j)) r := by
  obtain ⟨m, hm⟩ := x; obtain ⟨n, hn⟩ := y
  refine ⟨m + n, fun k j hk hj => ?_⟩
  show (g k j).bind (h k j) = some r
  rw [hm k j (by omega) (by omega)]; exact hn k j (by omega) (by omega)
theorem Ans2.step {α : Type} {g : Nat → Nat → Option α} {r : α} (x : Ans2 (fun k j => g (k + 1) j) r) : Ans2 g r := by
  obtain ⟨m, hm⟩ := x
  refine ⟨m + 1, fun k j hk hj => ?_⟩
  obtain ⟨q, rfl⟩ : ∃ q, k = q + 1 := ⟨k - 1, by omega⟩
  exact hm q j (by omega) (by omega)
theorem Ans2.yes {α : Type} {c : Prop} [Decidable c] {a b : Nat → Nat → Option α} {r : α} (hc : c) (x : Ans2 a r) : Ans2 (fun k j => if c then a k j else b k j) r := by
  obtain ⟨m, hm⟩ := x
  exact ⟨m, fun k j hk hj => by show (if c then a k j else b k j) = some r; rw [if_pos hc]; exact hm k j hk hj⟩
theorem Ans2.not {α : Type} {c : Prop} [Decidable c] {a b : Nat → Nat → Option α} {r : α} (hc : ¬ c) (x : Ans2 b r) : Ans2 (fun k j => if c then a k j else b k j) r := by
  obtain ⟨m, hm⟩ := x
  exact ⟨m, fun k j hk hj => by show (if c then a k j else b k j) = some r; rw [if_neg hc]; exact hm k j hk hj⟩
theorem Ans2.one {α : Type} {g : Nat → Option α} {r : α} (x : Ans g r) : Ans2 (fun k _ => g k) r := by
  obtain ⟨m, hm⟩ := x; exact ⟨m, fun k _ hk _ => hm k hk⟩
theorem Ans2.two {α : Type} {g : Nat → Option α} {r : α} (x : Ans g r) : Ans2 (fun _ j => g j) r := by
  obtain ⟨m, hm⟩ := x; exact ⟨m, fun _ j _ hj => hm j hj⟩
theorem Ans2.join {α : Type} {g : Nat → Nat → Option α} {r : α} (x : Ans2 g r) : Ans (fun k => g k k) r := by
  obtain ⟨m, hm⟩ := x; exact ⟨m, fun k hk => hm k k hk hk⟩

end Go.Proofs.Ytnabhfbcaocljaa.Q
