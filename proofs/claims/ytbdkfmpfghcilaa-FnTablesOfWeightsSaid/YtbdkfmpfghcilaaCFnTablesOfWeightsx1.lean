-- Written by a program of this session (wip/xprint.py) that drives the kit's print; the contracts of what it does not take are this session's own.
import Derived.Test.YtbdkfmpfghcilaaCFnTablesOfWeightsx0
namespace Go.Proofs.Ytbdkfmpfghcilaa.X
open Go.RowKit Go.Proofs.YtbdkfmpfghcilaaW.PrintWords Go.Proofs.YtbdkfmpfghcilaaW.PrintLast Go.Proofs.YtbdkfmpfghcilaaW.PrintMore
set_option maxHeartbeats 8000000
set_option maxRecDepth 100000
attribute [local go_sem] max2_int min2_int max_two min_two max_three min_three max_four min_four   -- for this text's walks alone
set_option linter.unusedVariables false
set_option linter.unusedSimpArgs false

/-! ### at_1: function 0 -/
/-! ### What is asked of function values, and plain words -/
/-- A function value of one parameter that answers as p says, wherever memory has only grown. -/
structure Fn1 {α ρ : Type} (d : Kd α) (enc : ρ → Value) (P : Program) (g : Nat) (lb : Array Value) (p : α → Option ρ) (w : World) : Prop where
 eg : ∀ args w, (callFunc g args).run P w = .ok (.enter g args) w
 cl : ∀ W, Below w.heap.size w W → ∀ x v, d.K W x [v] → ∀ r, p x = some r → Calls P g (#[v] ++ lb) W fun e W' => e = .returned (enc r) ∧ Below W.heap.size W W'
/-- .. of two. -/
structure Fn2 {α β ρ : Type} (d : Kd α) (d2 : Kd β) (enc : ρ → Value) (P : Program) (g : Nat) (lb : Array Value) (p : α → β → Option ρ) (w : World) : Prop where
 eg : ∀ args w, (callFunc g args).run P w = .ok (.enter g args) w
 cl : ∀ W, Below w.heap.size w W → ∀ x v, d.K W x [v] → ∀ y u, d2.K W y [u] → ∀ r, p x y = some r → Calls P g (#[v, u] ++ lb) W fun e W' => e = .returned (enc r) ∧ Below W.heap.size W W'
theorem Fn1.later {α ρ : Type} {d : Kd α} {enc : ρ → Value} {P : Program} {g : Nat} {lb : Array Value} {p : α → Option ρ} {w W : World} (h : Fn1 d enc P g lb p w) (hb : Below w.heap.size w W) : Fn1 d enc P g lb p W :=
 ⟨h.eg, fun W' hb' => h.cl W' (hb.trans (hb'.mono hb.size))⟩
theorem Fn2.later {α β ρ : Type} {d : Kd α} {d2 : Kd β} {enc : ρ → Value} {P : Program} {g : Nat} {lb : Array Value} {p : α → β → Option ρ} {w W : World} (h : Fn2 d d2 enc P g lb p w) (hb : Below w.heap.size w W) : Fn2 d d2 enc P g lb p W :=
 ⟨h.eg, fun W' hb' => h.cl W' (hb.trans (hb'.mono hb.size))⟩
theorem K_int {k : IntKind} {w : World} {x : Int} : (Kd.int k).K w x [.int k x] := rfl
theorem K_slice {α : Type} {e : Nat} {d : Kd α} {w : World} {xs : List α} {A : Option Addr} {c : Nat} (h1 : xs.length ≤ c) (h2 : d.C w A xs.length xs) : (Kd.slice e d).K w xs [.slice A xs.length c] := ⟨A, c, rfl, h1, h2⟩
/-- A call of a function value that lies in a slot, as one step of a region that draws. -/
theorem goesF_ {P : Program} {ops : Array Oper} {Q : Exit → Act → World → Prop} {oi : Oper} {N : Option Tmp} {a : Act} {w : World} {K : Act → World → Prop} {g : Nat} {lb : Array Value} {fo : Operand} {aa : Array Operand} {ts : Array TypeId} (eg : ∀ args w, (callFunc g args).run P w = .ok (.enter g args) w) (args : Array Value)
  (hw : Region.wanted oi (yielded ops a.tmps) = true) (hN : oi.dst = N) (hop : oi.op = .call { callee := .value fo, args := aa, argTypes := ts }) (hf : a.eval fo = .func (.func g) #[] lb) (hargs : aa.map a.eval = args)
  (h : Calls P g (args ++ lb) w fun e w' => ∃ v, e = .returned v ∧ K (a.put N v) w') : if Region.wanted oi (yielded ops a.tmps) = true then Oper.wp P oi a w K Q else K (a.put N undef) w := by
 refine call_ g (args ++ lb) hw hN ?_ h; have he := eg (args ++ lb) w; unfold execOp
 simp [hop, resolve, Deferred.ofValue, invoke, hargs, he, hf]

/-! ### at_2: function 0 -/
section
variable {α : Type} {d : Kd α} {e : Nat} {w0 w w1 : World} {lo hi lo' hi' : Nat} {v : Value} {x : List α} {S : Nat → Prop}
/-- A row of this call's own whose blocks lie between two sizes of the heap. -/
def ObS (d : Kd α) (e : Nat) (w0 w : World) (lo hi : Nat) (v : Value) (x : List α) : Prop := hi ≤ w.heap.size ∧ Kd.S d e w w0.heap.size (fun k => lo ≤ k ∧ k < hi) v x
def ObR (d : Kd α) (e : Nat) (w0 w : World) (lo hi : Nat) (v : Value) (x : List α) : Prop := hi ≤ w.heap.size ∧ d.R e w w0.heap.size (fun k => lo ≤ k ∧ k < hi) v x
theorem ObS.new_ (h : Kd.S d e w1 w.heap.size (fun _ => True) v x) (hb : Below w0.heap.size w0 w) : ObS d e w0 w1 w.heap.size w1.heap.size v x :=
  ⟨Nat.le_refl _, Kd.S_lower (Kd.S_mono (Kd.S_bound h) (fun _ hk => ⟨hk.2.1, hk.2.2.1⟩)) hb.size⟩
theorem ObR.new_ (h : d.R e w1 w.heap.size (fun _ => True) v x) (hb : Below w0.heap.size w0 w) : ObR d e w0 w1 w.heap.size w1.heap.size v x :=
  ⟨Nat.le_refl _, Kd.R_lower (Kd.R_mono (Kd.R_bound h) (fun _ hk => ⟨hk.2.1, hk.2.2.1⟩)) hb.size⟩
theorem ObS.later (h : ObS d e w0 w lo hi v x) (hb : Below w.heap.size w w1) : ObS d e w0 w1 lo hi v x := ⟨Nat.le_trans h.1 hb.size, Kd.S_below h.2 hb⟩
theorem ObR.later (h : ObR d e w0 w lo hi v x) (hb : Below w.heap.size w w1) : ObR d e w0 w1 lo hi v x := ⟨Nat.le_trans h.1 hb.size, Kd.R_below h.2 hb⟩
theorem ObS.kept_ (h : ObS d e w0 w lo hi v x) (hk : Kept w w1 (fun k => lo' ≤ k ∧ k < hi')) (hd : hi ≤ lo' ∨ hi' ≤ lo) : ObS d e w0 w1 lo hi v x :=
  ⟨Nat.le_trans h.1 hk.1, Kd.S_kept h.2 hk (fun k a b => by omega)⟩
theorem ObR.kept_ (h : ObR d e w0 w lo hi v x) (hk : Kept w w1 (fun k => lo' ≤ k ∧ k < hi')) (hd : hi ≤ lo' ∨ hi' ≤ lo) : ObR d e w0 w1 lo hi v x :=
  ⟨Nat.le_trans h.1 hk.1, Kd.R_kept h.2 hk (fun k a b => by omega)⟩
end
/-! ### at_3: function 0 -/
section
variable {α : Type} {d : Kd α} {e : Nat} {w0 w w1 : World} {A : Option Addr} {n c : Nat} {l : List α} {x : α} {S : Nat → Prop}
/-- A block of one cell, just made, as a row that is read. -/
theorem C_box (hs : d.sz = 1) {v : Value} (hK : d.K w x [v]) (t : TypeId) : d.C (w.alloc (.cells #[v] t)) (some ⟨w.heap.size, 0, none⟩) 1 [x] := by
  refine ⟨rfl, by omega, fun _ => ⟨_, rfl, fun j p hj => ?_⟩⟩
  cases j with
  | succ j => simp at hj
  | zero =>
    obtain rfl : x = p := by simpa using hj
    refine ⟨[v], hs.symm, d.K_below (below_alloc (Below.refl _ _) _) hK, fun i u hu => ?_⟩
    cases i with
    | succ i => simp at hu
    | zero =>
      obtain rfl : v = u := by simpa using hu
      rw [Nat.zero_mul, Nat.add_zero, Addr.add_lit]
      exact (blk_cell (blk_new w (.cells #[v] t)) 0).trans rfl
/-- An empty row, just made. -/
theorem R_empty {g base : Nat} {ok : Nat → Prop} (hg : w.heap[g]? = some (.cells #[] e (0, 0))) (hb : base ≤ g) (hok : ok g := by trivial) : d.R e w base ok (.slice (some ⟨g, 0, none⟩) 0 0) [] :=
  ⟨fun k hk => by (have e : g = k := by simpa [Value.ownBlock] using hk); exact e ▸ hok, [], ⟨by simp, .inr ⟨g, 0, #[], rfl, hb, hg, Nat.le_refl _, by unfold maxLen; omega, by simp, by simp⟩⟩, Reps.none _ _⟩
theorem blk_new' {o : Obj} {n : Nat} (h : w.heap.size = n) : (w.alloc o).heap[n]? = some o := h ▸ blk_new w o
theorem below_of_drawn (h : Drawn0 w w1) : Below w.heap.size w w1 := by
  obtain ⟨n, rfl⟩ := h
  exact pw_below_drewN (Below.refl _ _) n
theorem cell_of_below {a : Addr} {v : Value} (hb : Below w.heap.size w w1) (h : w.cell? a = some v) : w1.cell? a = some v := (hb.cell (World.block_lt_of_cell? _ _ h)).trans h
/-- A row whose cells have just been copied into a new block. -/
theorem N_grown {W : World} {ok : Nat → Prop} {v1 : Value} {xs : List α} {inner : List Value} (h : Reps (fun x c => Kd.FK d W ok x c) d.sz xs inner) (hown : w1.ownsRow W.heap.size e d.sz v1 xs.length inner) (hg : W.grownBy w1 none) :
    Kd.N d e w1 W.heap.size (fun k => ok k ∨ W.heap.size ≤ k) v1 xs := by
  refine ⟨fun k hk => .inr (own_base hown k hk), Kd.chunks d.sz xs.length inner, Kd.chunks_length _ _ _, ⟨fun k hk => hk.symm, inner, by rw [Kd.chunks_length]; exact hown, Kd.reps_raw h (fun x c hp => ⟨d.K_len (Kd.FK_now hp), d.K_one (Kd.FK_now hp)⟩)⟩, fun j x c hx hc => ?_⟩
  rw [Kd.chunks_get hc]
  refine Kd.FK_mono (Kd.FK_step (Kd.FK_bound (h.2 j x hx)) (fun k hk hlt => hg.block k hlt (by simp))) (fun k hk => ⟨.inl hk.1, fun he => ?_⟩)
  have := own_base hown k he.symm
  have := hk.2
  omega
/-- append onto a row that has no room left: a new row, the old one is only read. -/
theorem V_push_step {P : Program} {ops : Array Oper} {o : Oper} {a : Act} {W : World} {K : Act → World → Prop} {Q : Exit → Act → World → Prop} {E : Prop} {ok : Nat → Prop}
    (hg : o.guard = none) (s x : Operand) (t : TypeId) (hop : o.op = Op.call { callee := Callee.builtin Builtin.append, args := #[s, x], argTypes := #[t, t] }) (z : Value) (bytes : Nat)
    (h1 : P.underlying t = some (.slice e)) (h2 : (P.info? e).map (fun i => (i.zero, i.size, i.bytes)) = some (some z, 1, bytes)) (h6 : z.cells.size = 1) (hs1 : d.sz = 1)
    {A : Option Addr} {xs : List α} {y : α} {u : Value} {ad : Addr} (hs : a.eval s = .slice A xs.length xs.length) (hF : Kd.F d W ok A xs.length xs) (hx : a.eval x = .slice (some ad) 1 1) (hK : Kd.FK d W ok y [u]) (hc : W.cell? ad = some u)
    (b2 : (xs.length + 1) * bytes ≤ 140737488355328) (b3 : xs.length + 1 ≤ 140737488355328)
    (h : ∀ v1 w1, Kd.N d e w1 W.heap.size (fun k => ok k ∨ W.heap.size ≤ k) v1 (xs ++ [y]) → Below W.heap.size W w1 → K (a.put o.dst v1) w1) :
    if Region.wanted o (yielded ops a.tmps) = true then Oper.wp P o a W K Q else E := by
  obtain ⟨i0, hi, hzz⟩ := Option.map_eq_some_iff.1 h2
  simp only [Prod.mk.injEq] at hzz
  obtain ⟨hz0, hz1, hz2⟩ := hzz
  have hone : ∀ w ∈ [u], w.oneCell' = true := d.K_one (Kd.FK_now hK)
  have hol : ∃ olds, Reps (fun x c => Kd.FK d W ok x c) d.sz xs olds ∧ ∀ b, A = some b → ∀ j u, olds[j]? = some u → W.cell? (b.add j) = some u := by
    cases A with
    | some b =>
      obtain ⟨olds, h3, h4⟩ := ReadsRow.inner_ (Kd.F_rows hF)
      exact ⟨olds, h3, fun b' hb => by injection hb with hb; subst hb; exact h4⟩
    | none =>
      have h0 : xs = [] := by
        have h1 := (Kd.F_now hF).2.2
        cases xs with
        | nil => rfl
        | cons x xs =>
          obtain ⟨ad, e, _⟩ := h1 (by simp)
          cases e
      subst h0
      exact ⟨[], Reps.none _ _, fun b hb => by cases hb⟩
  obtain ⟨olds, hr, hcells⟩ := hol
  have hnone : A = none → xs.length = 0 ∧ xs.length = 0 := by
    rintro rfl
    have h1 := (Kd.F_now hF).2.2
    rcases Nat.eq_zero_or_pos xs.length with h0 | h0
    · exact ⟨h0, h0⟩
    · obtain ⟨ad, e, _⟩ := h1 h0
      cases e
  refine step_append_grows hg s x t hop e i0 z 1 bytes h1 hi hz0 hz1 hz2 h6 (by omega) A xs.length xs.length olds hs hnone (by rw [hr.1, hs1]) hcells ad 1 1 [u] hx rfl ?_ hone (by omega) (by simp only [maxLen]; omega) b2 ?_
  · intro j v hv
    cases j with
    | zero =>
      obtain rfl : u = v := by simpa using hv
      simpa [Addr.add] using hc
    | succ j => simp at hv
  · intro v1 w1 hown hgr
    have hr2 := hr.snoc hK (by rw [hs1]; rfl)
    have hown2 : w1.ownsRow W.heap.size e d.sz v1 (xs ++ [y]).length (olds ++ [u]) := by
      rw [hs1, List.length_append]
      exact hown
    exact h v1 w1 (N_grown hr2 hown2 hgr) ((Below.refl _ _).grown hgr (Nat.le_refl _) (fun _ h => by cases h))
/-- Kept, and the streams are as they were. -/
def Kp (w W : World) (S : Nat → Prop) : Prop := Kept w W S ∧ Below 0 w W
theorem Kp.refl (w : World) (S : Nat → Prop) : Kp w w S := ⟨Kept.refl _ _, Below.refl _ _⟩
theorem Kp.sz {W : World} (h : Kp w W S) : w.heap.size ≤ W.heap.size := h.1.1
theorem Kp.at {W : World} (h : Kp w W S) (k : Nat) (hk : k < w.heap.size) (hn : ¬ S k) : W.heap[k]? = w.heap[k]? := h.1.2 k hk hn
theorem Kp.mono {W : World} {S' : Nat → Prop} (h : Kp w W S) (hs : ∀ k, S k → S' k) : Kp w W S' := ⟨h.1.mono hs, h.2⟩
theorem Kp.then_ {W W2 : World} {S2 : Nat → Prop} (h : Kp w W S) (k : Kp W W2 S2) (hs : ∀ k, S2 k → S k ∨ w.heap.size ≤ k) : Kp w W2 S := ⟨h.1.then_ k.1 hs, h.2.trans k.2⟩
theorem Kp.below {W W2 : World} (h : Kp w W S) (hb : Below W.heap.size W W2) : Kp w W2 S := ⟨h.1.below hb, h.2.trans (hb.mono (Nat.zero_le _))⟩
theorem Kp.of_below {W : World} (h : Below w.heap.size w W) (S : Nat → Prop) : Kp w W S := ⟨Kept.of_below h S, h.mono (Nat.zero_le _)⟩
theorem Kp.drew {W : World} (h : Kp w W S) : Kp w W.drew S := ⟨h.1, h.2.drew⟩
theorem Kp.drewN {W : World} (h : Kp w W S) (m : Nat) : Kp w (W.drewN m) S := h.below (pw_below_drewN (Below.refl _ _) m)
theorem Kp.setCell {W : World} (h : Kp w W S) {p : Addr} (hp : S p.block ∨ w.heap.size ≤ p.block) (u : Value) : Kp w (W.setCell p u) S := ⟨h.1.setCell hp u, h.2.setCell (Nat.zero_le _) u⟩
/-- What lies below all of S is as it was. -/
theorem Kp.to_below {W : World} {B : Nat} (h : Kp w W S) (hB : B ≤ w.heap.size) (hs : ∀ k, S k → B ≤ k) : Below B w W :=
  ⟨h.2.os, h.2.tape, h.2.output, h.2.size, fun k hk => h.1.2 k (by omega) (fun h1 => by have := hs k h1; omega)⟩
/-- An element of a row of rows. -/
theorem V_row {W : World} {ok : Nat → Prop} {e' b b' cc : Nat} {xs : List (List α)} (h : Kd.V (Kd.slice e d) e' W b ok (.slice A xs.length cc) xs) (i : Int) (h0 : 0 ≤ i) (h1 : i < xs.length) :
    ∃ ad Aw cw, A = some ad ∧ W.cell? (ad.add i.toNat) = some (.slice Aw (xs.getD i.toNat []).length cw) ∧ Kd.V d e W b' ok (.slice Aw (xs.getD i.toNat []).length cw) (xs.getD i.toNat []) := by
  obtain ⟨ad, cs, he, _, hK, hcc, _⟩ := Kd.F_get (Kd.V_F h) [] i h0 (by simpa using h1)
  obtain ⟨Aw, cw, rfl, hl, hf⟩ := Kd.FK_slice_open hK
  have hx := hcc 0 _ rfl
  rw [show (Kd.slice e d).sz = 1 from rfl, Nat.mul_one, Nat.add_zero] at hx
  exact ⟨ad, Aw, cw, he, hx, Kd.V_mk hl hf⟩
theorem V_kept_to {W : World} {S' : Nat → Prop} {v : Value} {xs : List α} {b g : Nat} (h : Kd.V d e W b (fun k => ¬ S k ∧ k ≠ g) v xs) (hk : Kp W w1 S) (hs : ∀ k, S' k → S k ∨ W.heap.size ≤ k) : Kd.V d e w1 b (fun k => ¬ S' k ∧ k ≠ g) v xs :=
  Kd.V_mono (Kd.V_kept (Kd.V_bound h) hk.1 (fun k hk => hk.1.1)) (fun k hk => ⟨fun h' => (hs k h').elim hk.1.1 (fun h2 => by have := hk.2; omega), hk.1.2⟩)
/-- A block of numbers, whole, as a row that is read. -/
theorem C_nums {k : IntKind} {g t : Nat} {xs : List Int} (h : w.heap[g]? = some (.cells (nums k xs).toArray t (0, 0))) (hl : xs.length ≤ 9223372036854775807) : (Kd.int k).C w (some ⟨g, 0, none⟩) xs.length xs := by
  refine ⟨rfl, hl, fun _ => ⟨_, rfl, fun j p hj => ⟨[.int k p], rfl, rfl, fun i u hu => ?_⟩⟩⟩
  cases i with
  | succ i => simp at hu
  | zero =>
    obtain rfl : Value.int k p = u := by simpa using hu
    have hx := blk_cell h j
    rw [show j * (Kd.int k).sz + 0 = j from by show j * 1 + 0 = j; omega, Addr.add_lit, Nat.zero_add, hx]
    simp [nums, hj]
/-- A block of numbers, whole, as a row of one's own. -/
theorem R_nums {k : IntKind} {g e base : Nat} {w : World} {xs : List Int} {ok : Nat → Prop} (h : w.heap[g]? = some (.cells (nums k xs).toArray e (0, 0))) (hb : base ≤ g) (hl : xs.length ≤ 9223372036854775807) (hok : ok g := by trivial) :
    (Kd.int k).R e w base ok (.slice (some ⟨g, 0, none⟩) xs.length xs.length) xs :=
  ⟨fun i hi => by (have e : g = i := by simpa [Value.ownBlock] using hi); exact e ▸ hok,
    nums k xs, ⟨by show _ = xs.length * 1; simp [nums], .inr ⟨g, xs.length, (nums k xs).toArray, rfl, hb, h, Nat.le_refl _, hl, by show _ = xs.length * 1; simp [nums], by show List.take (xs.length * 1) _ = _; rw [List.toList_toArray]; exact List.take_of_length_le (by simp [nums])⟩⟩, Kd.reps_scalar xs⟩
theorem nums_set {k : IntKind} {xs : List Int} (i : Nat) (v : Int) : (nums k xs).toArray.setIfInBounds i (.int k v) = (nums k (xs.set i v)).toArray := by
  simp [nums, List.map_set]
/-- make([]int, n): a block of zeros. -/
theorem make_zeros {P : Program} {o : Oper} {a : Act} {x : Operand} {ty e0 : TypeId} (ho : o.op = .makeSlice ty x x) (n : Int) (hx : a.eval x = .int .i64 n) (ht : P.underlying ty = some (.slice e0))
    (hinfo : (P.info? e0).map (fun i => (i.zero, i.size, i.bytes)) = some (some (.int .i64 0), 1, 8)) (h0 : 0 ≤ n) (h1 : n ≤ 1000000) (W : World) :
    (execOp a.eval o).run P W = .ok (.value (.slice (some ⟨W.heap.size, 0, none⟩) n.toNat n.toNat)) (W.alloc (.cells (nums .i64 (List.replicate n.toNat 0)).toArray e0)) := by
  obtain ⟨i0, hi, hzz⟩ := Option.map_eq_some_iff.1 hinfo
  simp only [Prod.mk.injEq] at hzz
  obtain ⟨hz0, hz1, hz2⟩ := hzz
  have hr := run_make (P := P) W ty e0 i0 _ ht hi hz0 .i64 .i64 n n h0 (Int.le_refl _) (by rw [hz2]; omega) (by omega)
  have hm : madeCells (Value.int .i64 0).cells (n.toNat * i0.size) = (nums .i64 (List.replicate n.toNat 0)).toArray := by
    rw [hz1, Nat.mul_one]
    refine Array.ext (by simp [madeCells, nums]) fun i h1 h2 => ?_
    simp [madeCells, nums, Value.cells, Nat.mod_one]
  rw [hm] at hr
  simp [execOp, ho, hx, hr]
/-- A number of a row of rows of one's own: it is read, it may be written, and then the rows are told anew. -/
theorem S_cell2k {W : World} {base e e' n cap : Nat} {ok : Nat → Prop} {ad : Addr} {xs : Tb_} (h : Kd.S (Kd.slice e' (Kd.int .i64)) e W base ok (.slice (some ad) n cap) xs) (i : Int) (h0 : 0 ≤ i) (h1 : i < n) :
    ∃ Aw cw, W.cell? (ad.add i.toNat) = some (.slice Aw (xs.getD i.toNat []).length cw) ∧ ∀ j : Int, 0 ≤ j → j < (xs.getD i.toNat []).length → ∃ aw, Aw = some aw ∧ W.cell? (aw.add j.toNat) = some (.int .i64 (rd (xs.getD i.toNat []) j)) ∧ W.frozen? (aw.add j.toNat) = false ∧ base ≤ (aw.add j.toNat).block ∧ ok (aw.add j.toNat).block ∧
      ∀ v : Int, Kd.S (Kd.slice e' (Kd.int .i64)) e (W.setCell (aw.add j.toNat) (.int .i64 v)) base ok (.slice (some ad) n cap) (xs.set i.toNat ((xs.getD i.toNat []).set j.toNat v)) := by
  obtain ⟨oki, c, hcl, hM, hcc, hok, hbk⟩ := Kd.S_borrow h [] i h0 h1
  obtain ⟨v0, rfl, hR⟩ := hM
  obtain ⟨Aw, cw, rfl⟩ := Kd.R_slice hR
  have hx := hcc 0 _ rfl
  rw [show (Kd.slice e' (Kd.int .i64)).sz = 1 from rfl, Nat.mul_one, Nat.add_zero] at hx
  refine ⟨Aw, cw, hx, fun j j0 j1 => ?_⟩
  obtain ⟨g, cap', ev, hbg, hgl, _⟩ := Kd.R_form hR (by omega)
  injection ev with e1 _ _
  subst e1
  obtain ⟨q1, q2⟩ := Kd.R_celln (0 : Int) hR j j0 (by omega)
  refine ⟨⟨g, 0, none⟩, rfl, ?_, ?_, by rw [Addr.add_lit]; exact hbg, by rw [Addr.add_lit]; exact (hok g (hR.1 g rfl)).1, fun v => ?_⟩
  · rw [Addr.add_lit, Nat.zero_add]; exact q1
  · rw [Addr.add_lit, Nat.zero_add]; exact q2
  · rw [Addr.add_lit, Nat.zero_add]
    obtain ⟨r1, r2⟩ := Kd.R_putg hR j v
    exact hbk r2 (fun k hk => hR.1 k (by rw [← hk]; rfl)) ⟨_, rfl, r1⟩
/-- The block of a row's numbers holds numbers. -/
theorem S_cell2t {W : World} {base e e' n cap m cw : Nat} {ok : Nat → Prop} {ad aw : Addr} {xs : Tb_} (h : Kd.S (Kd.slice e' (Kd.int .i64)) e W base ok (.slice (some ad) n cap) xs) (i : Int) (h0 : 0 ≤ i) (h1 : i < n)
    (hx : W.cell? (ad.add i.toNat) = some (.slice (some aw) m cw)) (j : Int) (h2 : 0 ≤ j) (h3 : j < (xs.getD i.toNat []).length) : ∃ cells, W.heap[(aw.add j.toNat).block]? = some (.cells cells e' (0, 0)) := by
  obtain ⟨oki, c, hcl, hM, hcc, hok, hbk⟩ := Kd.S_borrow h [] i h0 h1
  obtain ⟨v0, rfl, hR⟩ := hM
  obtain ⟨Aw, cw', rfl⟩ := Kd.R_slice hR
  have hx2 := hcc 0 _ rfl
  rw [show (Kd.slice e' (Kd.int .i64)).sz = 1 from rfl, Nat.mul_one, Nat.add_zero] at hx2
  obtain ⟨e1, _⟩ := Value.slice.inj (Option.some.inj (hx2.symm.trans hx))
  subst e1
  obtain ⟨g, cap', ev, _, _, cells, hc⟩ := Kd.R_form hR (by omega)
  injection ev with e1 _ _
  injection e1 with e1
  subst e1
  exact ⟨cells, by rw [Addr.add_lit]; exact hc⟩
/-- What was written and then put back. -/
theorem Kp.back {W : World} {g : Nat} {o : Obj} (h : Kp w W (fun k => S k ∨ k = g)) (h1 : w.heap[g]? = some o) (h2 : W.heap[g]? = some o) : Kp w W S :=
  ⟨⟨h.sz, fun i hi hn => by
    by_cases hg : i = g
    · subst hg; rw [h1, h2]
    · exact h.at i hi (fun hs => hs.elim hn hg)⟩, h.2⟩
/-- A function value with a state of its own: what it holds in memory is told by Inv over the blocks of S. -/
structure FnS {σ α ρ : Type} (d : Kd α) (enc : ρ → Value) (P : Program) (g : Nat) (lb : Array Value) (p : σ → α → Option (σ × ρ)) (Inv : σ → World → (Nat → Prop) → Prop) : Prop where
  eg : ∀ args w, (callFunc g args).run P w = .ok (.enter g args) w
  bd : ∀ s W S, Inv s W S → ∀ k, S k → k < W.heap.size
  st : ∀ s W S W', Inv s W S → Below 0 W W' → (∀ k, S k → W'.heap[k]? = W.heap[k]?) → Inv s W' S
  cl : ∀ s W S, Inv s W S → ∀ x v, d.K W x [v] → ∀ s' r, p s x = some (s', r) → Calls P g (#[v] ++ lb) W fun e W' => e = .returned (enc r) ∧ ∃ S', Inv s' W' S' ∧ Kp W W' S ∧ ∀ k, S' k → S k ∨ W.heap.size ≤ k
end
def rowOk (sums row : List Int) : Bool := decide (sums.length = row.length) && sums.all (fun s => decide (0 ≤ s) && decide (s ≤ 1)) && row.all (fun s => decide (-1 ≤ s) && decide (s ≤ 1))
theorem rowOk_len {sums row : List Int} (h : rowOk sums row = true) : sums.length = row.length ∧ (List.zipWith (· + ·) sums row).length = row.length := by
  simp only [rowOk, Bool.and_eq_true, decide_eq_true_eq] at h
  exact ⟨h.1.1, by rw [List.length_zipWith, h.1.1, Nat.min_self]⟩
theorem rowOk_at {sums row : List Int} (h : rowOk sums row = true) (j : Nat) (hj : j < row.length) : 0 ≤ sums.getD j 0 ∧ sums.getD j 0 ≤ 1 ∧ -1 ≤ row.getD j 0 ∧ row.getD j 0 ≤ 1 ∧ (List.zipWith (· + ·) sums row).getD j 0 = sums.getD j 0 + row.getD j 0 := by
  have hl := (rowOk_len h).1
  simp only [rowOk, Bool.and_eq_true, List.all_eq_true, decide_eq_true_eq] at h
  have h1 := h.1.2 (sums.getD j 0) (by rw [List.getD_eq_getElem?_getD, List.getElem?_eq_getElem (by omega)]; exact List.getElem_mem _)
  have h2 := h.2 (row.getD j 0) (by rw [List.getD_eq_getElem?_getD, List.getElem?_eq_getElem hj]; exact List.getElem_mem _)
  refine ⟨h1.1, h1.2, h2.1, h2.2, ?_⟩
  simp [List.getD_eq_getElem?_getD, List.getElem?_zipWith, List.getElem?_eq_getElem hj, List.getElem?_eq_getElem (show j < sums.length by omega)]
/-- The first j numbers of one row, the others of the other one. -/
def rowMid (a b : List Int) (j : Nat) : List Int := a.take j ++ b.drop j
theorem rowMid_len {a b : List Int} (h : a.length = b.length) (j : Nat) : (rowMid a b j).length = b.length := by
  simp [rowMid]; omega
theorem rowMid_at {a b : List Int} (h : a.length = b.length) (j : Nat) (hj : j < b.length) : (rowMid a b j).getD j 0 = b.getD j 0 := by
  simp only [rowMid, List.getD_eq_getElem?_getD]
  rw [List.getElem?_append_right (by simp; omega)]
  simp only [List.length_take, List.getElem?_drop]
  rw [show j + (j - min j a.length) = j by omega]
theorem rowMid_set {a b : List Int} (h : a.length = b.length) (j : Nat) (hj : j < b.length) : (rowMid a b j).set j (a.getD j 0) = rowMid a b (j + 1) := by
  refine List.ext_getElem (by rw [List.length_set, rowMid_len h, rowMid_len h]) fun i h1 h2 => ?_
  rw [List.length_set, rowMid_len h] at h1
  simp only [rowMid, List.getElem_set, List.getElem_append, List.length_take, List.getElem_take, List.getElem_drop]
  by_cases e : j = i
  · subst e
    rw [if_pos rfl, dif_pos (by omega), List.getD_eq_getElem?_getD, List.getElem?_eq_getElem (by omega)]; rfl
  · rw [if_neg e]
    by_cases e2 : i < j
    · rw [dif_pos (by omega), dif_pos (by omega)]
    · rw [dif_neg (by omega), dif_neg (by omega)]
      congr 1
      omega
theorem rowMid_zero {a b : List Int} : rowMid a b 0 = b := by simp [rowMid]
theorem rowMid_all {a b : List Int} {j : Nat} (h : a.length = b.length) (hj : j = b.length) : rowMid a b j = a := by
  subst hj
  simp only [rowMid]
  rw [← h]
  simp
  omega

/-! ### at_4: function 0 -/
section
variable {α : Type} {d : Kd α} {e lo hi lo' hi' : Nat} {w0 w w1 : World} {v : Value} {x : List α}
/-- A new row whose rows may be one another's, that is only read: its blocks lie between lo and hi. -/
def ObN (d : Kd α) (e : Nat) (w0 w : World) (lo hi : Nat) (v : Value) (x : List α) : Prop := hi ≤ w.heap.size ∧ Kd.N d e w w0.heap.size (fun k => lo ≤ k ∧ k < hi) v x
theorem ObN.new_ (h : Kd.N d e w1 w.heap.size (fun k_ => w.heap.size ≤ k_) v x) (hb : Below w0.heap.size w0 w) : ObN d e w0 w1 w.heap.size w1.heap.size v x :=
  ⟨Nat.le_refl _, Kd.N_lower (Kd.N_mono (Kd.N_bound h) (fun _ hk => ⟨hk.1, hk.2⟩)) (below_size hb)⟩
theorem ObN.later (h : ObN d e w0 w lo hi v x) (hb : Below w.heap.size w w1) : ObN d e w0 w1 lo hi v x := ⟨Nat.le_trans h.1 hb.size, Kd.N_below h.2 hb⟩
theorem ObN.kept_ (h : ObN d e w0 w lo hi v x) (hk : Kept w w1 (fun k => lo' ≤ k ∧ k < hi')) (hd : hi ≤ lo' ∨ hi' ≤ lo) : ObN d e w0 w1 lo hi v x :=
  ⟨Nat.le_trans h.1 hk.1, Kd.N_kept h.2 hk (fun k h1 h2 => by omega)⟩
end

/-! ### laws_big: function 4 -/
def laws_big.f (l0 : List Int) (l1 : List Int) : Option (Bool) := if (l0.length : Int) > 1048576 then (some true) else (some (decide ((l1.length : Int) > (wrap64 (1048576 - (l0.length : Int))))))
theorem laws_big.calls (A0 : Option Addr) (c0 : Nat) (l0 : List Int) (A1 : Option Addr) (c1 : Nat) (l1 : List Int) (r : Bool) (w : World) (hr0 : Kd.C (Kd.int .u8) w A0 l0.length l0) (hc0 : l0.length ≤ c0) (hr1 : Kd.C (Kd.int .u8) w A1 l1.length l1) (hc1 : l1.length ≤ c1) (h : laws_big.f l0 l1 = some r) :
  Calls Try.prog 4 #[.slice A0 l0.length c0, .slice A1 l1.length c1] w fun e w' => e = .returned (.bool r) ∧ Drawn0 w w' := by
 have HR0 := am_ hr0; have HC0 := am_ hc0; clear hr0 hc0; have HR1 := am_ hr1; have HC1 := am_ hc1; clear hr1 hc1; (try unfold laws_big.f at h); have H := h; clear h
 replace H := pn_ H; obtain ⟨c3, H⟩ | ⟨c3, H⟩ := H
 ·have c3b0 : decide (1048576 < (l0.length : Int)) = true := decide_eq_true c3; have c3b1 : decide (1048576 < l0.length) = true := decide_eq_true (by omega); clear c3; obtain rfl := Option.some.inj H; go_enter Try.func4, Try.ntmps4; go_wp2
  go_ret
  exact ⟨tc3_, tc4_⟩
 ·have c3b0 : decide (1048576 < (l0.length : Int)) = false := decide_eq_false c3; have c3b1 : decide (1048576 < l0.length) = false := decide_eq_false (by omega); clear c3; obtain rfl := Option.some.inj H; go_enter Try.func4, Try.ntmps4; go_wp2
  go_ret
  exact ⟨tc3_, tc4_⟩

/-- A state of type 51 at block g of W; what its slices lead to came in by w0. -/
def IsS51 (w0 W : World) (g : Nat) (f0 : List Int) (f1 : Int) (f2 : Int) : Prop := ∃ A0 c0, W.heap[g]? = some (.cells #[.slice A0 f0.length c0, .int .i64 f1, .int .u64 f2] 51 (0, 0)) ∧ w0.heap.size ≤ g ∧ Kd.C (Kd.int .u8) w0 A0 f0.length f0
theorem IsS51.grown {w0 W : World} {g : Nat} {f0 : List Int} {f1 : Int} {f2 : Int} {W1 : World} {row : Option Nat} (h : IsS51 w0 W g f0 f1 f2) (hw : W.grownBy W1 row) (hne : some g ≠ row) : IsS51 w0 W1 g f0 f1 f2 := by
 obtain ⟨A0, c0, hb, hg, hr0⟩ := h; exact ⟨A0, c0, blk_grown hb hw hne, hg, hr0⟩
theorem IsS51.own_neN {w0 W : World} {g : Nat} {f0 : List Int} {f1 : Int} {f2 : Int} {α : Type} {d : Kd α} {e : Nat} {base : Nat} {ok : Nat → Prop} {v : Value} {xs : List α} (h : IsS51 w0 W g f0 f1 f2) (ho : Kd.N d e W base ok v xs) (ht : e ≠ 51) : some g ≠ v.ownBlock := by
 obtain ⟨A0, c0, hb, hg, hr0⟩ := h; exact Kd.N_ne ho hb ht
theorem IsS51.fresh {w0 W : World} {g : Nat} {f0 : List Int} {f1 : Int} {f2 : Int} (h : IsS51 w0 W g f0 f1 f2) : ∀ k, W.heap.size ≤ k → k ≠ g := by
 obtain ⟨A0, c0, hb, hg, hr0⟩ := h; exact Kd.freshB hb
theorem IsS51.kept {w0 W : World} {g : Nat} {f0 : List Int} {f1 : Int} {f2 : Int} {W1 : World} {S : Nat → Prop} (h : IsS51 w0 W g f0 f1 f2) (hk : Kept W W1 S) (hne : ¬ S g) : IsS51 w0 W1 g f0 f1 f2 := by
 obtain ⟨A0, c0, hb, hg, hr0⟩ := h; exact ⟨A0, c0, blk_kept hb hk hne, hg, hr0⟩
theorem IsS51.below {w0 W : World} {g : Nat} {f0 : List Int} {f1 : Int} {f2 : Int} {W1 : World} (h : IsS51 w0 W g f0 f1 f2) (hw : Below W.heap.size W W1) : IsS51 w0 W1 g f0 f1 f2 := h.grown (grown_of_below hw none) (by simp)
theorem IsS51.alloc {w0 W : World} {g : Nat} {f0 : List Int} {f1 : Int} {f2 : Int} (h : IsS51 w0 W g f0 f1 f2) (o : Obj) : IsS51 w0 (W.alloc o) g f0 f1 f2 := h.below (below_alloc (Below.refl _ _) o)
theorem IsS51.drewN {w0 W : World} {g : Nat} {f0 : List Int} {f1 : Int} {f2 : Int} (h : IsS51 w0 W g f0 f1 f2) (m : Nat) : IsS51 w0 (W.drewN m) g f0 f1 f2 := h
theorem IsS51.drew {w0 W : World} {g : Nat} {f0 : List Int} {f1 : Int} {f2 : Int} (h : IsS51 w0 W g f0 f1 f2) : IsS51 w0 W.drew g f0 f1 f2 := h
theorem IsS51.at_ {w0 W : World} {g : Nat} {f0 : List Int} {f1 : Int} {f2 : Int} {w' : World} {m : Nat} (hq : W.drewN m = w') (h : IsS51 w0 W g f0 f1 f2) : IsS51 w0 w' g f0 f1 f2 := by subst hq; exact IsS51.drewN h m
theorem IsS51.apart {w0 W : World} {g : Nat} {f0 : List Int} {f1 : Int} {f2 : Int} {α : Type} {d : Kd α} {e : Nat} {base : Nat} {ok : Nat → Prop} {v : Value} {xs : List α} (h : IsS51 w0 W g f0 f1 f2) (ho : d.R e W base ok v xs) (ht : ∀ q, q ∈ e :: d.E → q ≠ 51) : d.R e W base (fun k => ok k ∧ k ≠ g) v xs := by
 obtain ⟨A0, c0, hb, hg, hr0⟩ := h; exact Kd.R_types ho hb ht
theorem IsS51.own_ne {w0 W : World} {g : Nat} {f0 : List Int} {f1 : Int} {f2 : Int} {α : Type} {d : Kd α} {e : Nat} {base : Nat} {ok : Nat → Prop} {v : Value} {xs : List α} (h : IsS51 w0 W g f0 f1 f2) (ho : d.R e W base ok v xs) (ht : e ≠ 51) : some g ≠ v.ownBlock := by
 obtain ⟨A0, c0, hb, hg, hr0⟩ := h; exact Kd.R_ne ho hb ht
theorem IsS51.apartQ {w0 W : World} {g : Nat} {f0 : List Int} {f1 : Int} {f2 : Int} {α : Type} {d : Kd α} {e : Nat} {base : Nat} {ok : Nat → Prop} {v : Value} {xs : List α} (h : IsS51 w0 W g f0 f1 f2) (ho : d.Q e W base ok v xs) (ht : ∀ q, q ∈ e :: d.E → q ≠ 51) : d.Q e W base (fun k => ok k ∧ k ≠ g) v xs := by
 obtain ⟨A0, c0, hb, hg, hr0⟩ := h; exact Kd.Q_types ho hb ht
theorem IsS51.own_neQ {w0 W : World} {g : Nat} {f0 : List Int} {f1 : Int} {f2 : Int} {α : Type} {d : Kd α} {e : Nat} {base : Nat} {ok : Nat → Prop} {v : Value} {xs : List α} (h : IsS51 w0 W g f0 f1 f2) (ho : d.Q e W base ok v xs) (ht : e ≠ 51) : some g ≠ v.ownBlock := by
 obtain ⟨A0, c0, hb, hg, hr0⟩ := h; exact Kd.Q_ne ho hb ht
theorem IsS51.apartS {w0 W : World} {g : Nat} {f0 : List Int} {f1 : Int} {f2 : Int} {α : Type} {d : Kd α} {e : Nat} {base : Nat} {ok : Nat → Prop} {v : Value} {xs : List α} (h : IsS51 w0 W g f0 f1 f2) (ho : d.S e W base ok v xs) (ht : ∀ q, q ∈ e :: d.E → q ≠ 51) : d.S e W base (fun k => ok k ∧ k ≠ g) v xs := by
 obtain ⟨A0, c0, hb, hg, hr0⟩ := h; exact Kd.S_types ho hb ht
theorem IsS51.own_neS {w0 W : World} {g : Nat} {f0 : List Int} {f1 : Int} {f2 : Int} {α : Type} {d : Kd α} {e : Nat} {base : Nat} {ok : Nat → Prop} {v : Value} {xs : List α} (h : IsS51 w0 W g f0 f1 f2) (ho : d.S e W base ok v xs) (ht : e ≠ 51) : some g ≠ v.ownBlock := by
 obtain ⟨A0, c0, hb, hg, hr0⟩ := h; exact Kd.S_ne ho hb ht
theorem IsS51.lt {w0 W : World} {g : Nat} {f0 : List Int} {f1 : Int} {f2 : Int} (h : IsS51 w0 W g f0 f1 f2) : g < W.heap.size := by
 obtain ⟨A0, c0, hb, hg, hr0⟩ := h; exact blk_lt hb
theorem IsS51.ge {w0 W : World} {g : Nat} {f0 : List Int} {f1 : Int} {f2 : Int} (h : IsS51 w0 W g f0 f1 f2) : w0.heap.size ≤ g := by
 obtain ⟨A0, c0, hb, hg, hr0⟩ := h; exact hg
theorem IsS51.ne_blk {w0 W : World} {g : Nat} {f0 : List Int} {f1 : Int} {f2 : Int} {a : Nat} {cs : Array Value} {t : TypeId} {fr : Nat × Nat} (h : IsS51 w0 W g f0 f1 f2) (hb2 : W.heap[a]? = some (.cells cs t fr)) (ht : t ≠ 51) : g ≠ a := by
 obtain ⟨A0, c0, hb, hg, hr0⟩ := h; rintro rfl; rw [hb] at hb2
 injection hb2 with hb2
 injection hb2 with _ ht2
 exact ht ht2.symm
theorem IsS51.far {w0 W : World} {g : Nat} {f0 : List Int} {f1 : Int} {f2 : Int} {p : Addr} (h : IsS51 w0 W g f0 f1 f2) (hne : g ≠ p.block) (u : Value) : IsS51 w0 (W.setCell p u) g f0 f1 f2 := by
 obtain ⟨A0, c0, hb, hg, hr0⟩ := h; exact ⟨A0, c0, blk_far hb hne u, hg, hr0⟩
theorem cellS51_0 {W : World} {g : Nat} {A0 : Option Addr} {c0 : Nat} {f0 : List Int} {f1 : Int} {f2 : Int} (h : W.heap[g]? = some (.cells #[.slice A0 f0.length c0, .int .i64 f1, .int .u64 f2] 51 (0, 0))) : W.cell? ⟨g, 0, none⟩ = some (.slice A0 f0.length c0) := (blk_cell h 0).trans rfl
theorem cellS51_1 {W : World} {g : Nat} {A0 : Option Addr} {c0 : Nat} {f0 : List Int} {f1 : Int} {f2 : Int} (h : W.heap[g]? = some (.cells #[.slice A0 f0.length c0, .int .i64 f1, .int .u64 f2] 51 (0, 0))) : W.cell? ⟨g, 1, none⟩ = some (.int .i64 f1) := (blk_cell h 1).trans rfl
theorem IsS51.set_1 {w0 W : World} {g : Nat} {f0 : List Int} {f1 : Int} {f2 : Int} (h : IsS51 w0 W g f0 f1 f2) (x : Int) : IsS51 w0 (W.setCell ⟨g, 1, none⟩ (.int .i64 x)) g f0 x f2 := by
 obtain ⟨A0, c0, hb, hg, hr0⟩ := h; exact ⟨A0, c0, (by simpa using blk_set hb 1 (.int .i64 x)), hg, hr0⟩
theorem cellS51_2 {W : World} {g : Nat} {A0 : Option Addr} {c0 : Nat} {f0 : List Int} {f1 : Int} {f2 : Int} (h : W.heap[g]? = some (.cells #[.slice A0 f0.length c0, .int .i64 f1, .int .u64 f2] 51 (0, 0))) : W.cell? ⟨g, 2, none⟩ = some (.int .u64 f2) := (blk_cell h 2).trans rfl
theorem IsS51.set_2 {w0 W : World} {g : Nat} {f0 : List Int} {f1 : Int} {f2 : Int} (h : IsS51 w0 W g f0 f1 f2) (x : Int) : IsS51 w0 (W.setCell ⟨g, 2, none⟩ (.int .u64 x)) g f0 f1 x := by
 obtain ⟨A0, c0, hb, hg, hr0⟩ := h; exact ⟨A0, c0, (by simpa using blk_set hb 2 (.int .u64 x)), hg, hr0⟩
theorem IsS51.new (w0 W : World) (A0 : Option Addr) (c0 : Nat) (f0 : List Int) (f1 : Int) (f2 : Int) (hB : Below w0.heap.size w0 W) (hr0 : Kd.C (Kd.int .u8) w0 A0 f0.length f0) : IsS51 w0 (W.alloc (.cells #[.slice A0 f0.length c0, .int .i64 f1, .int .u64 f2] 51)) W.heap.size f0 f1 f2 := ⟨A0, c0, (by simpa using heap_alloc_new W _), hB.size, hr0⟩

/-! ### spec_l1Cur_next: function 54 -/
def spec_l1Cur_next.f (s0_0 : List Int) (s0_1 : Int) (s0_2 : Int) : Option (Int × Int × Int) := if s0_1 < (s0_0.length : Int) then (if 0 ≤ s0_1 then (if (wrap64 (s0_1 + 1)) ≤ (s0_0.length : Int) then (some (wrap64 (rd s0_0 s0_1), wrap64 (s0_1 + 1), IntKind.u64.wrap ((IntKind.u64.wrap ((IntKind.u64.wrap (s0_2 * 6364136223846793005)) + (IntKind.u64.wrap (wrap64 (rd s0_0 s0_1))))) + 1442695040888963407))) else (some (wrap64 (Go.bits .and .u64 ((IntKind.u64.wrap ((IntKind.u64.wrap ((IntKind.u64.wrap (s0_2 * 6364136223846793005)) + (IntKind.u64.wrap (wrap64 (rd s0_0 s0_1))))) + 1442695040888963407)) / 1099511627776) 255), wrap64 (s0_1 + 1), IntKind.u64.wrap ((IntKind.u64.wrap ((IntKind.u64.wrap (s0_2 * 6364136223846793005)) + (IntKind.u64.wrap (wrap64 (rd s0_0 s0_1))))) + 1442695040888963407)))) else (none)) else (if (wrap64 (s0_1 + 1)) ≤ (s0_0.length : Int) then (some (0, wrap64 (s0_1 + 1), IntKind.u64.wrap ((IntKind.u64.wrap ((IntKind.u64.wrap (s0_2 * 6364136223846793005)) + 0)) + 1442695040888963407))) else (some (wrap64 (Go.bits .and .u64 ((IntKind.u64.wrap ((IntKind.u64.wrap ((IntKind.u64.wrap (s0_2 * 6364136223846793005)) + 0)) + 1442695040888963407)) / 1099511627776) 255), wrap64 (s0_1 + 1), IntKind.u64.wrap ((IntKind.u64.wrap ((IntKind.u64.wrap (s0_2 * 6364136223846793005)) + 0)) + 1442695040888963407))))
theorem spec_l1Cur_next.calls (g : Nat) (s0_0 : List Int) (s0_1 : Int) (s0_2 : Int) (r1 : Int) (r2 : Int) (r3 : Int) (w0 w : World) (hI : IsS51 w0 w g s0_0 s0_1 s0_2) (hB : Below w0.heap.size w0 w) (h : spec_l1Cur_next.f s0_0 s0_1 s0_2 = some (r1, r2, r3)) :
  Calls Try.prog 54 #[.pointer (some ⟨g, 0, none⟩)] w fun e w' => e = .returned (.int .i64 r1) ∧ IsS51 w0 w' g s0_0 r2 r3 ∧ Below w0.heap.size w0 w' ∧ KeepBut w w' g none := by
 have HI0 := am_ hI; have HK := am_ (KeepBut.refl w g none); have HL := am_ hB.size; clear hI; have HW0 := am_ hB.size; have HB := am_ hB; clear hB; (try unfold spec_l1Cur_next.f at h); have H := h; clear h
 replace H := sp_ H; obtain ⟨c2b0, H⟩ | ⟨c2b0, H⟩ := H
 ·replace H := ps_ H; obtain ⟨c3b0, H⟩ := H
  replace H := sp_ H; obtain ⟨c4b0, H⟩ | ⟨c4b0, H⟩ := H
  ·simp only [Option.some.injEq, Prod.mk.injEq] at H; obtain ⟨rfl, rfl, rfl⟩ := H; obtain ⟨ASz5_0, cSz5_0, HGz5, hgz5, HSz5_0⟩ := HI0.out; have hcz5_0 := cellS51_0 HGz5; have hcz5_1 := cellS51_1 HGz5; have hcz5_2 := cellS51_2 HGz5; have hfz5_1 := blk_frozen HGz5 1; have hfz5_2 := blk_frozen HGz5 2; clear HGz5 hgz5; have p101 : 0 ≤ (s0_1 : Int) := od_; have q101 : s0_1 < (s0_0.length : Int) := od_; obtain ⟨ad101, e101, hx101_0⟩ := Kd.at_int HSz5_0 s0_1 p101 q101; cases e101; replace hx101_0 := pw_cell_below HB.out hx101_0; replace p101 := eq_true p101; replace q101 := eq_true q101; go_enter Try.func54, Try.ntmps54; go_wp2
   repeat (go_quiet (fail); try go_wp2)
   go_ret
   exact ⟨tc6_, tc29_, tc5_, tc7_⟩
  ·simp only [Option.some.injEq, Prod.mk.injEq] at H; obtain ⟨rfl, rfl, rfl⟩ := H; obtain ⟨ASz6_0, cSz6_0, HGz6, hgz6, HSz6_0⟩ := HI0.out; have hcz6_0 := cellS51_0 HGz6; have hcz6_1 := cellS51_1 HGz6; have hcz6_2 := cellS51_2 HGz6; have hfz6_1 := blk_frozen HGz6 1; have hfz6_2 := blk_frozen HGz6 2; clear HGz6 hgz6; have p101 : 0 ≤ (s0_1 : Int) := od_; have q101 : s0_1 < (s0_0.length : Int) := od_; obtain ⟨ad101, e101, hx101_0⟩ := Kd.at_int HSz6_0 s0_1 p101 q101; cases e101; replace hx101_0 := pw_cell_below HB.out hx101_0; replace p101 := eq_true p101; replace q101 := eq_true q101; go_enter Try.func54, Try.ntmps54; go_wp2
   repeat (go_quiet (fail); try go_wp2)
   go_ret
   exact ⟨tc6_, tc29_, tc5_, tc7_⟩
 ·replace H := sp_ H; obtain ⟨c7b0, H⟩ | ⟨c7b0, H⟩ := H
  ·simp only [Option.some.injEq, Prod.mk.injEq] at H; obtain ⟨rfl, rfl, rfl⟩ := H; obtain ⟨ASz8_0, cSz8_0, HGz8, hgz8, HSz8_0⟩ := HI0.out; have hcz8_0 := cellS51_0 HGz8; have hcz8_1 := cellS51_1 HGz8; have hcz8_2 := cellS51_2 HGz8; have hfz8_1 := blk_frozen HGz8 1; have hfz8_2 := blk_frozen HGz8 2; clear HGz8 hgz8; go_enter Try.func54, Try.ntmps54; go_wp2
   repeat (go_quiet (fail); try go_wp2)
   go_ret
   exact ⟨tc6_, tc29_, tc5_, tc7_⟩
  ·simp only [Option.some.injEq, Prod.mk.injEq] at H; obtain ⟨rfl, rfl, rfl⟩ := H; obtain ⟨ASz9_0, cSz9_0, HGz9, hgz9, HSz9_0⟩ := HI0.out; have hcz9_0 := cellS51_0 HGz9; have hcz9_1 := cellS51_1 HGz9; have hcz9_2 := cellS51_2 HGz9; have hfz9_1 := blk_frozen HGz9 1; have hfz9_2 := blk_frozen HGz9 2; clear HGz9 hgz9; go_enter Try.func54, Try.ntmps54; go_wp2
   repeat (go_quiet (fail); try go_wp2)
   go_ret
   exact ⟨tc6_, tc29_, tc5_, tc7_⟩

/-! ### spec_l1Cur_pick: function 47 -/
def spec_l1Cur_pick.f (s0_0 : List Int) (s0_1 : Int) (s0_2 : Int) (a1 : Int) : Option (Int × Int × Int) := if a1 ≤ 1 then (some (0, s0_1, s0_2)) else ((spec_l1Cur_next.f s0_0 s0_1 s0_2).bind fun bt101 => (if a1 > 200 then ((spec_l1Cur_next.f s0_0 bt101.2.1 bt101.2.2).bind fun bt104 => (if a1 = 0 then (none) else (some (Int.tmod (wrap64 ((wrap64 (bt101.1 * 256)) + bt104.1)) a1, bt104.2.1, bt104.2.2)))) else (if a1 = 0 then (none) else (some (Int.tmod bt101.1 a1, bt101.2.1, bt101.2.2)))))
theorem spec_l1Cur_pick.calls (g : Nat) (s0_0 : List Int) (s0_1 : Int) (s0_2 : Int) (a1 : Int) (r1 : Int) (r2 : Int) (r3 : Int) (w0 w : World) (hI : IsS51 w0 w g s0_0 s0_1 s0_2) (hB : Below w0.heap.size w0 w) (h : spec_l1Cur_pick.f s0_0 s0_1 s0_2 a1 = some (r1, r2, r3)) :
  Calls Try.prog 47 #[.pointer (some ⟨g, 0, none⟩), .int .i64 a1] w fun e w' => e = .returned (.int .i64 r1) ∧ IsS51 w0 w' g s0_0 r2 r3 ∧ Below w0.heap.size w0 w' ∧ KeepBut w w' g none := by
 have HI0 := am_ hI; have HK := am_ (KeepBut.refl w g none); have HL := am_ hB.size; clear hI; have HW0 := am_ hB.size; have HB := am_ hB; clear hB; (try unfold spec_l1Cur_pick.f at h); have H := h; clear h
 replace H := sp_ H; obtain ⟨c3b0, H⟩ | ⟨c3b0, H⟩ := H
 ·simp only [Option.some.injEq, Prod.mk.injEq] at H; obtain ⟨rfl, rfl, rfl⟩ := H; go_enter Try.func47, Try.ntmps47; go_wp2
  go_ret
  exact ⟨tc6_, tc8_, tc5_, tc7_⟩
 ·replace H := Option.bind_eq_some_iff.mp H; obtain ⟨⟨t101, t102, t103⟩, A40, H⟩ := H; (try dsimp only at H); have A4 := am_ A40; clear A40
  replace H := pn_ H; obtain ⟨c5, H⟩ | ⟨c5, H⟩ := H
  ·have c5b0 : decide (200 < a1) = true := decide_eq_true c5; clear c5; replace H := Option.bind_eq_some_iff.mp H; obtain ⟨⟨t104, t105, t106⟩, A60, H⟩ := H; (try dsimp only at H); have A6 := am_ A60; clear A60
   replace H := pn_ H; obtain ⟨c7, H⟩ | ⟨c7, H⟩ := H
   ·exact absurd H (by simp)
   ·have c7b0 : (a1 == 0) = false := beq_eq_false_iff_ne.mpr c7; have c7b1 : (a1 != 0) = true := bne_iff_ne.mpr c7; simp only [Option.some.injEq, Prod.mk.injEq] at H; obtain ⟨rfl, rfl, rfl⟩ := H; go_enter Try.func47, Try.ntmps47
    go_wp2_with (first | (refine gc_ (some 9) Try.func54 #[.pointer (some ⟨g, 0, none⟩)] ?_; (with_reducible refine (spec_l1Cur_next.calls g s0_0 s0_1 s0_2 t101 t102 t103 w0 _ ?side1 ?side2 A4.out).mono ?_); (case side1 => exact tc8_); (case side2 => exact tc5_); rintro e w8 ⟨rfl, hi, hb, hk⟩; refine ⟨_, rfl, ?_⟩; replace HK := am_ (KeepBut.trans tc7_ hk (.inl rfl)); replace HB := am_ (hb); replace HI0 := am_ (hi); (try clear hb hk hi)) | (refine gc_ (some 15) Try.func54 #[.pointer (some ⟨g, 0, none⟩)] ?_; (with_reducible refine (spec_l1Cur_next.calls g s0_0 t102 t103 t104 t105 t106 w0 _ ?side1 ?side2 A6.out).mono ?_); (case side1 => exact tc8_); (case side2 => exact tc5_); rintro e w9 ⟨rfl, hi, hb, hk⟩; refine ⟨_, rfl, ?_⟩; replace HK := am_ (KeepBut.trans tc7_ hk (.inl rfl)); replace HB := am_ (hb); replace HI0 := am_ (hi); (try clear hb hk hi)))
    go_ret
    exact ⟨tc6_, tc8_, tc5_, tc7_⟩
  ·have c5b0 : decide (200 < a1) = false := decide_eq_false c5; clear c5
   replace H := pn_ H; obtain ⟨c10, H⟩ | ⟨c10, H⟩ := H
   ·exact absurd H (by simp)
   ·have c10b0 : (a1 == 0) = false := beq_eq_false_iff_ne.mpr c10; have c10b1 : (a1 != 0) = true := bne_iff_ne.mpr c10; simp only [Option.some.injEq, Prod.mk.injEq] at H; obtain ⟨rfl, rfl, rfl⟩ := H; go_enter Try.func47, Try.ntmps47
    go_wp2_with (first | (refine gc_ (some 9) Try.func54 #[.pointer (some ⟨g, 0, none⟩)] ?_; (with_reducible refine (spec_l1Cur_next.calls g s0_0 s0_1 s0_2 t101 t102 t103 w0 _ ?side1 ?side2 A4.out).mono ?_); (case side1 => exact tc8_); (case side2 => exact tc5_); rintro e w11 ⟨rfl, hi, hb, hk⟩; refine ⟨_, rfl, ?_⟩; replace HK := am_ (KeepBut.trans tc7_ hk (.inl rfl)); replace HB := am_ (hb); replace HI0 := am_ (hi); (try clear hb hk hi)))
    go_ret
    exact ⟨tc6_, tc8_, tc5_, tc7_⟩

/-! ### spec_l1Cur_one: function 45 -/
def spec_l1Cur_one.f (s0_0 : List Int) (s0_1 : Int) (s0_2 : Int) (a1 : Int) : Option (Bool × Int × Int) := (spec_l1Cur_pick.f s0_0 s0_1 s0_2 a1).bind fun bt101 => (some ((bt101.1 == 0), bt101.2.1, bt101.2.2))
theorem spec_l1Cur_one.calls (g : Nat) (s0_0 : List Int) (s0_1 : Int) (s0_2 : Int) (a1 : Int) (r1 : Bool) (r2 : Int) (r3 : Int) (w0 w : World) (hI : IsS51 w0 w g s0_0 s0_1 s0_2) (hB : Below w0.heap.size w0 w) (h : spec_l1Cur_one.f s0_0 s0_1 s0_2 a1 = some (r1, r2, r3)) :
  Calls Try.prog 45 #[.pointer (some ⟨g, 0, none⟩), .int .i64 a1] w fun e w' => e = .returned (.bool r1) ∧ IsS51 w0 w' g s0_0 r2 r3 ∧ Below w0.heap.size w0 w' ∧ KeepBut w w' g none := by
 have HI0 := am_ hI; have HK := am_ (KeepBut.refl w g none); have HL := am_ hB.size; clear hI; have HW0 := am_ hB.size; have HB := am_ hB; clear hB; (try unfold spec_l1Cur_one.f at h); have H := h; clear h; replace H := Option.bind_eq_some_iff.mp H; obtain ⟨⟨t101, t102, t103⟩, A30, H⟩ := H; (try dsimp only at H); have A3 := am_ A30; clear A30; simp only [Option.some.injEq, Prod.mk.injEq] at H; obtain ⟨rfl, rfl, rfl⟩ := H; go_enter Try.func45, Try.ntmps45
 go_wp2_with (first | (refine gc_ (some 7) Try.func47 #[.pointer (some ⟨g, 0, none⟩), .int .i64 a1] ?_; (with_reducible refine (spec_l1Cur_pick.calls g s0_0 s0_1 s0_2 a1 t101 t102 t103 w0 _ ?side1 ?side2 A3.out).mono ?_); (case side1 => exact tc8_); (case side2 => exact tc5_); rintro e w4 ⟨rfl, hi, hb, hk⟩; refine ⟨_, rfl, ?_⟩; replace HK := am_ (KeepBut.trans tc7_ hk (.inl rfl)); replace HB := am_ (hb); replace HI0 := am_ (hi); (try clear hb hk hi)))
 go_ret
 exact ⟨tc6_, tc8_, tc5_, tc7_⟩

/-! ### spec_l1Cur_among: function 46 -/
def spec_l1Cur_among.f (s0_0 : List Int) (s0_1 : Int) (s0_2 : Int) (l1 : List Int) : Option (Int × Int × Int) := (spec_l1Cur_pick.f s0_0 s0_1 s0_2 (l1.length : Int)).bind fun bt101 => (if 0 ≤ bt101.1 then (if bt101.1 < (l1.length : Int) then (some (rd l1 bt101.1, bt101.2.1, bt101.2.2)) else (none)) else (none))
theorem spec_l1Cur_among.calls (g : Nat) (s0_0 : List Int) (s0_1 : Int) (s0_2 : Int) (A1 : Option Addr) (c1 : Nat) (l1 : List Int) (r1 : Int) (r2 : Int) (r3 : Int) (w0 w : World) (hI : IsS51 w0 w g s0_0 s0_1 s0_2) (hB : Below w0.heap.size w0 w) (hr1 : Kd.C (Kd.int .i64) w A1 l1.length l1) (hc1 : l1.length ≤ c1) (hf1 : ∀ ad, A1 = some ad → 0 < l1.length → ad.block ≠ g) (h : spec_l1Cur_among.f s0_0 s0_1 s0_2 l1 = some (r1, r2, r3)) :
  Calls Try.prog 46 #[.pointer (some ⟨g, 0, none⟩), .slice A1 l1.length c1] w fun e w' => e = .returned (.int .i64 r1) ∧ IsS51 w0 w' g s0_0 r2 r3 ∧ Below w0.heap.size w0 w' ∧ KeepBut w w' g none := by
 have HR1 := am_ hr1; have HC1 := am_ hc1; clear hr1 hc1; have HI0 := am_ hI; have HK := am_ (KeepBut.refl w g none); have HL := am_ hB.size; clear hI; have HW0 := am_ hB.size; have HB := am_ hB; clear hB; (try unfold spec_l1Cur_among.f at h); have H := h; clear h; replace H := Option.bind_eq_some_iff.mp H; obtain ⟨⟨t101, t102, t103⟩, A30, H⟩ := H; (try dsimp only at H); have A3 := am_ A30; clear A30; replace H := ps_ H; obtain ⟨c4b0, H⟩ := H; replace H := ps_ H; obtain ⟨c5b0, H⟩ := H; simp only [Option.some.injEq, Prod.mk.injEq] at H; obtain ⟨rfl, rfl, rfl⟩ := H; go_enter Try.func46, Try.ntmps46
 go_wp2_with (first | (refine gc_ (some 9) Try.func47 #[.pointer (some ⟨g, 0, none⟩), .int .i64 (l1.length : Int)] ?_; (with_reducible refine (spec_l1Cur_pick.calls g s0_0 s0_1 s0_2 (l1.length : Int) t101 t102 t103 w0 _ ?side1 ?side2 A3.out).mono ?_); (case side1 => exact tc8_); (case side2 => exact tc5_); rintro e w6 ⟨rfl, hi, hb, hk⟩; refine ⟨_, rfl, ?_⟩; replace HK := am_ (KeepBut.trans tc7_ hk (.inl rfl)); replace HB := am_ (hb); replace HI0 := am_ (hi); (try clear hb hk hi); have p104 : 0 ≤ (t101 : Int) := od_; have q104 : t101 < (l1.length : Int) := od_; obtain ⟨ad104, e104, hx104_0⟩ := Kd.at_int HR1.out t101 p104 q104; cases e104; replace hx104_0 := keep_cell HK.out hx104_0 (by first | (rw [add_block]; exact hf1 _ rfl (by omega)) | exact hf1 _ rfl (by omega) | exact hf1 ad104 rfl (by omega)); replace p104 := eq_true p104; replace q104 := eq_true q104))
 go_ret
 exact ⟨tc6_, tc8_, tc5_, tc7_⟩

/-! ### spec_l1Cur_side: function 33 -/
def spec_l1Cur_side.f (s0_0 : List Int) (s0_1 : Int) (s0_2 : Int) (a1 : Int) : Option (Int × Int × Int) := (spec_l1Cur_one.f s0_0 s0_1 s0_2 8).bind fun bt101 => (if bt101.1 = true then ((spec_l1Cur_among.f s0_0 bt101.2.1 bt101.2.2 (([(-1), 0, 1, a1, wrap64 (a1 + 1)] : List Int))).bind fun bt107 => (some (bt107.1, bt107.2.1, bt107.2.2))) else ((spec_l1Cur_pick.f s0_0 bt101.2.1 bt101.2.2 a1).bind fun bt110 => (some (wrap64 (1 + bt110.1), bt110.2.1, bt110.2.2))))
theorem spec_l1Cur_side.calls (g : Nat) (s0_0 : List Int) (s0_1 : Int) (s0_2 : Int) (a1 : Int) (r1 : Int) (r2 : Int) (r3 : Int) (w0 w : World) (hI : IsS51 w0 w g s0_0 s0_1 s0_2) (hB : Below w0.heap.size w0 w) (h : spec_l1Cur_side.f s0_0 s0_1 s0_2 a1 = some (r1, r2, r3)) :
  Calls Try.prog 33 #[.pointer (some ⟨g, 0, none⟩), .int .i64 a1] w fun e w' => e = .returned (.int .i64 r1) ∧ IsS51 w0 w' g s0_0 r2 r3 ∧ Below w0.heap.size w0 w' ∧ KeepBut w w' g none := by
 have HI0 := am_ hI; have HK := am_ (KeepBut.refl w g none); have HL := am_ hB.size; clear hI; have HW0 := am_ hB.size; have HB := am_ hB; clear hB; (try unfold spec_l1Cur_side.f at h); have H := h; clear h; replace H := Option.bind_eq_some_iff.mp H; obtain ⟨⟨t101, t102, t103⟩, A30, H⟩ := H; (try dsimp only at H); have A3 := am_ A30; clear A30
 by_cases c4 : t101 = true
 ·subst c4; have H1 : ((spec_l1Cur_among.f s0_0 t102 t103 (([(-1), 0, 1, a1, wrap64 (a1 + 1)] : List Int))).bind fun bt107 => (some (bt107.1, bt107.2.1, bt107.2.2))) = some (r1, r2, r3) := tc33_; clear H; have H := H1; clear H1; obtain ⟨y104, hy104⟩ : ∃ y_ : List Int, y_ = (([(-1), 0, 1, a1, wrap64 (a1 + 1)] : List Int)) := ⟨_, rfl⟩; replace H : ((spec_l1Cur_among.f s0_0 t102 t103 y104).bind fun bt107 => (some (bt107.1, bt107.2.1, bt107.2.2))) = some (r1, r2, r3) := tc19_; have Ny104 := am_ hy104; clear hy104; replace H := Option.bind_eq_some_iff.mp H; obtain ⟨⟨t107, t108, t109⟩, A50, H⟩ := H; (try dsimp only at H); have A5 := am_ A50; clear A50; simp only [Option.some.injEq, Prod.mk.injEq] at H; obtain ⟨rfl, rfl, rfl⟩ := H; go_enter Try.func33, Try.ntmps33
  go_wp2_with (first | (refine gc_ (some 6) Try.func45 #[.pointer (some ⟨g, 0, none⟩), .int .i64 8] ?_; (with_reducible refine (spec_l1Cur_one.calls g s0_0 s0_1 s0_2 8 true t102 t103 w0 _ ?side1 ?side2 A3.out).mono ?_); (case side1 => exact tc8_); (case side2 => exact tc5_); rintro e w6 ⟨rfl, hi, hb, hk⟩; refine ⟨_, rfl, ?_⟩; replace HK := am_ (KeepBut.trans tc7_ hk (.inl rfl)); replace HB := am_ (hb); replace HI0 := am_ (hi); (try clear hb hk hi)) | ((with_reducible refine gate_dst (N := 11) rfl ?_); refine Kd.R_lit (Kd.int .i64) _ 3 ?hg (N := 11) ?hd (xs := ([(-1), 0, 1, a1, wrap64 (a1 + 1)] : List Int)) (inner := [.int .i64 (-1), .int .i64 0, .int .i64 1, .int .i64 a1, .int .i64 (wrap64 (a1 + 1))]) (ok := fun _ => True) (okp := fun _ => True) ?hr ?hp (fun _ hk => hk) trivial (Below.refl _ _) (Nat.le_refl _) (by simp) ?_; (case hd => rfl); (case hg => rfl); (case hr => exact tc42_); (case hp => exact (Reps.one (show Kd.M (Kd.int .i64) _ _ _ (-1) [.int .i64 (-1)] from rfl) (Reps.one (show Kd.M (Kd.int .i64) _ _ _ 0 [.int .i64 0] from rfl) (Reps.one (show Kd.M (Kd.int .i64) _ _ _ 1 [.int .i64 1] from rfl) (Reps.one (show Kd.M (Kd.int .i64) _ _ _ a1 [.int .i64 a1] from rfl) (Reps.one (show Kd.M (Kd.int .i64) _ _ _ (wrap64 (a1 + 1)) [.int .i64 (wrap64 (a1 + 1))] from rfl) (Reps.none _ _))))))); intro v105 w7 ho8 hb hg_ hnew_; clear hg_ hnew_; (first | rw [← Ny104.out] at ho8 | (simp only [Int.reduceToNat] at ho8; rw [← Ny104.out] at ho8)); have HO106 := am_ (Kd.R_lower ho8 (keep_size (w := w) (g := g) (row := none) tc7_)); replace HK := am_ (KeepBut.trans tc7_ (KeepBut.of_below hb g none) (.inl rfl)); replace HB := am_ (below_step tc5_ hb); replace HI0 := am_ (IsS51.below tc8_ hb); clear hb ho8; obtain ⟨Ao9, co9, eo9⟩ := Kd.R_slice HO106.out; subst eo9) | (refine gc_ (some 12) Try.func46 #[.pointer (some ⟨g, 0, none⟩), .slice Ao9 y104.length co9] ?_; (with_reducible refine (spec_l1Cur_among.calls g s0_0 t102 t103 _ _ y104 t107 t108 t109 w0 _ ?side1 ?side2 ?side3 ?side4 ?side5 A5.out).mono ?_); (case side1 => exact tc8_); (case side2 => exact tc5_); (case side3 => repeat (first | exact (Kd.R_reads' HO106.out).2.2 | (with_reducible refine Kd.C_alloc ?_ _) | (with_reducible refine Kd.C_drewN ?_ _) | (with_reducible refine Kd.C_drew ?_))); (case side4 => exact (Kd.R_reads' HO106.out).2.1); (case side5 => exact far_slice (IsS51.own_ne HI0.out HO106.out (by decide))); rintro e w10 ⟨rfl, hi, hb, hk⟩; refine ⟨_, rfl, ?_⟩; replace HO106 := am_ (Kd.R_mono (Kd.R_keep (IsS51.apart (show IsS51 w0 _ g s0_0 t102 t103 from tc8_) tc58_ (by decide)) hk (fun _ h => h.2)) (fun _ h => h.1)); replace HK := am_ (KeepBut.trans tc7_ hk (.inl rfl)); replace HB := am_ (hb); replace HI0 := am_ (hi); (try clear hb hk hi)))
  go_ret
  exact ⟨tc6_, tc8_, tc5_, tc7_⟩
 ·replace c4 := Bool.eq_false_iff.mpr c4; subst c4; have H1 : ((spec_l1Cur_pick.f s0_0 t102 t103 a1).bind fun bt110 => (some (wrap64 (1 + bt110.1), bt110.2.1, bt110.2.2))) = some (r1, r2, r3) := tc16_; clear H; have H := H1; clear H1; replace H := Option.bind_eq_some_iff.mp H; obtain ⟨⟨t110, t111, t112⟩, A110, H⟩ := H; (try dsimp only at H); have A11 := am_ A110; clear A110; simp only [Option.some.injEq, Prod.mk.injEq] at H; obtain ⟨rfl, rfl, rfl⟩ := H; go_enter Try.func33, Try.ntmps33
  go_wp2_with (first | (refine gc_ (some 6) Try.func45 #[.pointer (some ⟨g, 0, none⟩), .int .i64 8] ?_; (with_reducible refine (spec_l1Cur_one.calls g s0_0 s0_1 s0_2 8 false t102 t103 w0 _ ?side1 ?side2 A3.out).mono ?_); (case side1 => exact tc8_); (case side2 => exact tc5_); rintro e w12 ⟨rfl, hi, hb, hk⟩; refine ⟨_, rfl, ?_⟩; replace HK := am_ (KeepBut.trans tc7_ hk (.inl rfl)); replace HB := am_ (hb); replace HI0 := am_ (hi); (try clear hb hk hi)) | (refine gc_ (some 15) Try.func47 #[.pointer (some ⟨g, 0, none⟩), .int .i64 a1] ?_; (with_reducible refine (spec_l1Cur_pick.calls g s0_0 t102 t103 a1 t110 t111 t112 w0 _ ?side1 ?side2 A11.out).mono ?_); (case side1 => exact tc8_); (case side2 => exact tc5_); rintro e w13 ⟨rfl, hi, hb, hk⟩; refine ⟨_, rfl, ?_⟩; replace HK := am_ (KeepBut.trans tc7_ hk (.inl rfl)); replace HB := am_ (hb); replace HI0 := am_ (hi); (try clear hb hk hi)))
  go_ret
  exact ⟨tc6_, tc8_, tc5_, tc7_⟩

/-! ### spec_DrawMinusTable: function 17 -/
def spec_DrawMinusTable.f (l0 : List Int) : Option (Int) := (spec_l1Cur_side.f l0 0 0 4).bind fun bt102 => (some bt102.1)
theorem spec_DrawMinusTable.calls (A0 : Option Addr) (c0 : Nat) (l0 : List Int) (r : Int) (w : World) (hr0 : Kd.C (Kd.int .u8) w A0 l0.length l0) (hc0 : l0.length ≤ c0) (h : spec_DrawMinusTable.f l0 = some r) :
  Calls Try.prog 17 #[.slice A0 l0.length c0] w fun e w' => e = .returned (.int .i64 r) ∧ Below w.heap.size w w' := by
 have hu51 := Try.underlying51; have HR0 := am_ hr0; have HC0 := am_ hc0; clear hr0 hc0; have HB := am_ (Below.refl w.heap.size w); (try unfold spec_DrawMinusTable.f at h); have H := h; clear h; replace H := Option.bind_eq_some_iff.mp H; obtain ⟨⟨t102, t103, t104⟩, A20, H⟩ := H; (try dsimp only at H); have A2 := am_ A20; clear A20; obtain rfl := Option.some.inj H; go_enter Try.func17, Try.ntmps17
 go_wp2_with (first | ((with_reducible refine gate_dst (N := 6) rfl ?_); refine box_event ?hg (N := 6) ?hd (cs := #[.slice A0 l0.length c0, .int .i64 0, .int .u64 0]) (t := 51) ?hr ?_; (case hd => rfl); (case hg => rfl); (case hr => exact tc42_); intro gb101 hg w3 hbox hb; have GW101 := am_ ((by rw [hg]; exact (below_size tc0_) : w.heap.size ≤ gb101)); have GE101 := am_ ((by rw [hg]; exact (below_size tc0_) : w.heap.size ≤ gb101)); have HI101 := am_ ((show IsS51 w w3 gb101 l0 0 0 from ⟨A0, c0, hbox, (by rw [hg]; exact (below_size tc0_) : w.heap.size ≤ gb101), HR0.out⟩)); replace HB := am_ (below_step tc0_ hb); clear hb hbox hg) | (refine gc_ (some 8) Try.func33 #[.pointer (some ⟨gb101, 0, none⟩), .int .i64 4] ?_; (with_reducible refine (spec_l1Cur_side.calls gb101 l0 0 0 4 t102 t103 t104 w _ ?side1 ?side2 A2.out).mono ?_); (case side1 => repeat (first | (with_reducible first | exact HI101.out | apply IsS51.alloc | apply IsS51.drewN | apply IsS51.drew | apply IsS51.set_1 | apply IsS51.set_2) | exact HI101.out)); (case side2 => repeat (first | (with_reducible first | exact HB.out | apply below_alloc | apply pw_below_drewN | apply below_drew1 | refine below_set ?_ (IsS51.ge HI101.out)) | exact HB.out)); rintro e w4 ⟨rfl, hi, hb, hk⟩; refine ⟨_, rfl, ?_⟩; replace HB := am_ (hb); replace HI101 := am_ (hi); (try clear hb hk hi)))
 go_ret
 exact ⟨tc6_, (by repeat (first | (with_reducible first | exact HB.out | apply below_alloc | apply pw_below_drewN | apply below_drew1 | refine below_set ?_ (IsS51.ge HI101.out)) | exact HB.out))⟩

/-! ### spec_DrawJointTable: function 5 -/
def spec_DrawJointTable.f (l0 : List Int) : Option (Int) := (spec_DrawMinusTable.f l0).bind fun t101 => (some t101)
theorem spec_DrawJointTable.calls (A0 : Option Addr) (c0 : Nat) (l0 : List Int) (r : Int) (w : World) (hr0 : Kd.C (Kd.int .u8) w A0 l0.length l0) (hc0 : l0.length ≤ c0) (h : spec_DrawJointTable.f l0 = some r) :
  Calls Try.prog 5 #[.slice A0 l0.length c0] w fun e w' => e = .returned (.int .i64 r) ∧ Below w.heap.size w w' := by
 have HR0 := am_ hr0; have HC0 := am_ hc0; clear hr0 hc0; have HB := am_ (Below.refl w.heap.size w); (try unfold spec_DrawJointTable.f at h); have H := h; clear h; replace H := bd_ H; obtain ⟨t101, A2, H⟩ := H; (try dsimp only at H); obtain rfl := Option.some.inj H; go_enter Try.func5, Try.ntmps5
 go_wp2_with (first | (refine gc_ (some 4) Try.func17 #[.slice A0 l0.length c0] ?_; (with_reducible refine (spec_DrawMinusTable.calls _ _ l0 t101 _ ?side1 ?side2 A2.out).mono ?_); (case side1 => exact tc9_); (case side2 => exact HC0.out); rintro e w3 ⟨rfl, hb⟩; refine ⟨_, rfl, ?_⟩; replace HB := am_ (below_step tc0_ hb); (try clear hb)))
 go_ret
 exact ⟨tc6_, tc0_⟩

/-! ### impl_bit: function 50 -/
def impl_bit.f (a0 : Bool) : Option (Int) := if a0 = true then (some 1) else (some 0)
theorem impl_bit.calls (a0 : Bool) (r : Int) (w : World) (h : impl_bit.f a0 = some r) :
  Calls Try.prog 50 #[.bool a0] w fun e w' => e = .returned (.int .i64 r) ∧ Drawn0 w w' := by
 (try unfold impl_bit.f at h); have H := h; clear h
 by_cases c2 : a0 = true
 ·subst c2; have H1 : (some 1) = some r := tc33_; clear H; have H := H1; clear H1; obtain rfl := Option.some.inj H; go_enter Try.func50, Try.ntmps50; go_wp2
  go_ret
  exact ⟨tc3_, tc4_⟩
 ·replace c2 := Bool.eq_false_iff.mpr c2; subst c2; have H1 : (some 0) = some r := tc16_; clear H; have H := H1; clear H1; obtain rfl := Option.some.inj H; go_enter Try.func50, Try.ntmps50; go_wp2
  go_ret
  exact ⟨tc3_, tc4_⟩

/-! ### impl_countOf: function 38 -/
mutual
def impl_countOf.l0 : Nat → Int → Int → Tb_ → Int → Int → Option (Int)
 | 0, _, _, _, _, _ => none
 | k + 1, x1, x5, x10, x11, x12 => if x12 < x11 then (if 0 ≤ x12 then (if x12 < (x10.length : Int) then (impl_countOf.l1 k x1 x5 x10 x11 x12 (rd_L3 x10 x12) ((rd_L3 x10 x12).length : Int) 0) else (none)) else (none)) else (some x5)
def impl_countOf.l1 : Nat → Int → Int → Tb_ → Int → Int → List Int → Int → Int → Option (Int)
 | 0, _, _, _, _, _, _, _, _ => none
 | k + 1, x1, x5, x10, x11, x12, x16, x17, x18 => if x18 < x17 then (if 0 ≤ x18 then (if x18 < (x16.length : Int) then ((impl_bit.f ((rd x16 x18) == x1)).bind fun t103 => (impl_countOf.l1 k x1 (wrap64 (x5 + t103)) x10 x11 x12 x16 x17 (wrap64 (x18 + 1)))) else (none)) else (none)) else (impl_countOf.l0 k x1 x5 x10 x11 (wrap64 (x12 + 1)))
end
def impl_countOf.f (k : Nat) (l0 : Tb_) (a1 : Int) : Option (Int) := impl_countOf.l0 k a1 0 l0 (l0.length : Int) 0
theorem impl_countOf.mono_l : ∀ k, (∀ y0 y1 y2 y3 y4, LeO (impl_countOf.l0 k y0 y1 y2 y3 y4) (impl_countOf.l0 (k + 1) y0 y1 y2 y3 y4)) ∧ (∀ y0 y1 y2 y3 y4 y5 y6 y7, LeO (impl_countOf.l1 k y0 y1 y2 y3 y4 y5 y6 y7) (impl_countOf.l1 (k + 1) y0 y1 y2 y3 y4 y5 y6 y7))
 | 0 => ⟨fun _ _ _ _ _ r h => by simp [impl_countOf.l0] at h, fun _ _ _ _ _ _ _ _ r h => by simp [impl_countOf.l1] at h⟩
 | k + 1 => by
  obtain ⟨ih0, ih1⟩ := impl_countOf.mono_l k; refine ⟨?_, ?_⟩
  ·intro y0 y1 y2 y3 y4; unfold impl_countOf.l0
   repeat' first
   | (with_reducible exact ih0 _ _ _ _ _)
   | (with_reducible exact ih1 _ _ _ _ _ _ _ _)
   | (with_reducible exact LeO.refl _)
   | (with_reducible exact LeO.none _)
   | (with_reducible refine LeO.ite ?_ ?_)
   | (with_reducible refine LeO.bind ?_ (fun _ => ?_))
   | exact ih0 _ _ _ _ _
   | exact ih1 _ _ _ _ _ _ _ _
   | exact LeO.none _
   | refine LeO.ite ?_ ?_
   | refine LeO.bind ?_ (fun _ => ?_)
  ·intro y0 y1 y2 y3 y4 y5 y6 y7; unfold impl_countOf.l1
   repeat' first
   | (with_reducible exact ih0 _ _ _ _ _)
   | (with_reducible exact ih1 _ _ _ _ _ _ _ _)
   | (with_reducible exact LeO.refl _)
   | (with_reducible exact LeO.none _)
   | (with_reducible refine LeO.ite ?_ ?_)
   | (with_reducible refine LeO.bind ?_ (fun _ => ?_))
   | exact ih0 _ _ _ _ _
   | exact ih1 _ _ _ _ _ _ _ _
   | exact LeO.none _
   | refine LeO.ite ?_ ?_
   | refine LeO.bind ?_ (fun _ => ?_)
theorem impl_countOf.mono : ∀ a0 a1  k, LeO (impl_countOf.f k a0 a1) (impl_countOf.f (k + 1) a0 a1) := by
 intro a0 a1 k; obtain ⟨ih0, ih1⟩ := impl_countOf.mono_l k; unfold impl_countOf.f
 repeat' first
   | (with_reducible exact ih0 _ _ _ _ _)
   | (with_reducible exact ih1 _ _ _ _ _ _ _ _)
   | (with_reducible exact LeO.refl _)
   | (with_reducible exact LeO.none _)
   | (with_reducible refine LeO.ite ?_ ?_)
   | (with_reducible refine LeO.bind ?_ (fun _ => ?_))
   | exact ih0 _ _ _ _ _
   | exact ih1 _ _ _ _ _ _ _ _
   | exact LeO.none _
   | refine LeO.ite ?_ ?_
   | refine LeO.bind ?_ (fun _ => ?_)
theorem impl_countOf.calls (k : Nat) (A0 : Option Addr) (c0 : Nat) (l0 : Tb_) (a1 : Int) (r : Int) (w : World) (hr0 : Kd.C (Kd.slice 3 (Kd.int .i64)) w A0 l0.length l0) (hc0 : l0.length ≤ c0) (h : impl_countOf.f k l0 a1 = some r) :
  Calls Try.prog 38 #[.slice A0 l0.length c0, .int .i64 a1] w fun e w' => e = .returned (.int .i64 r) ∧ Drawn0 w w' := by
 have HR0 := am_ hr0; have HC0 := am_ hc0; clear hr0 hc0; (try unfold impl_countOf.f at h); have H := h; clear h; have H' := am_ H; clear H; go_enter Try.func38, Try.ntmps38; go_wp2
 go_loopg [5, 12] k (fun kq v5 v12 w' => ∃ (x5_1 : Int) (x12_1 : Int), v5 = .int .i64 x5_1 ∧ v12 = .int .i64 x12_1 ∧ Aside0 (impl_countOf.l0 kq a1 x5_1 l0 (l0.length : Int) x12_1 = some r) ∧ Aside0 (kq ≤ k) ∧ Drawn0 w w')
 case atStart => exact ⟨(0), (0), tc3_, tc3_, H', ⟨Nat.le_refl _⟩, tc4_⟩
 case round =>
  clear H'; (try clear p2); obtain ⟨x5_1, x12_1, rfl, rfl, HA, HK1, ⟨m1, rfl⟩⟩ := hrel
  cases gk with
  | zero => exact absurd HA.out (by simp [impl_countOf.l0])
  | succ k1 =>
   have H := HA.out; clear HA; simp only [impl_countOf.l0] at H
   replace H := sp_ H; obtain ⟨c3b0, H⟩ | ⟨c3b0, H⟩ := H
   ·replace H := ps_ H; obtain ⟨c4b0, H⟩ := H; replace H := ps_ H; obtain ⟨c5b0, H⟩ := H; have H' := am_ H; clear H; have p101 : 0 ≤ (x12_1 : Int) := od_; have q101 : x12_1 < (l0.length : Int) := od_; obtain ⟨ad101, A101_0, c101_0, e101, hx101_0, hl101_0, hi101_0⟩ := at_L3 HR0.out x12_1 p101 q101; cases e101; have HR101_0 := am_ hi101_0; have HC101_0 := am_ hl101_0; clear hi101_0 hl101_0; replace p101 := eq_true p101; replace q101 := eq_true q101; go_wp2
    go_loopg [5, 18] k1 (fun kq v5 v18 w' => ∃ (x5_2 : Int) (x18_2 : Int), v5 = .int .i64 x5_2 ∧ v18 = .int .i64 x18_2 ∧ Aside0 (impl_countOf.l1 kq a1 x5_2 l0 (l0.length : Int) x12_1 (rd_L3 l0 x12_1) ((rd_L3 l0 x12_1).length : Int) x18_2 = some r) ∧ Aside0 (kq ≤ k1) ∧ Drawn0 w w')
    case atStart => exact ⟨(x5_1), (0), tc3_, tc3_, H', ⟨Nat.le_refl _⟩, tc4_⟩
    case round =>
     clear H'; (try clear c1); (try clear p1); (try clear q1); (try clear hx1); (try clear p2); (try clear c3); (try clear c3b0); (try clear c4); (try clear c4b0); (try clear c5); (try clear c5b0); (try clear hx101_0); (try clear p101); (try clear p2); (try clear q101); obtain ⟨x5_2, x18_2, rfl, rfl, HA, HK2, ⟨m2, rfl⟩⟩ := hrel
     cases gk with
     | zero => exact absurd HA.out (by simp [impl_countOf.l1])
     | succ k2 =>
      have H := HA.out; clear HA; simp only [impl_countOf.l1] at H
      replace H := sp_ H; obtain ⟨c6b0, H⟩ | ⟨c6b0, H⟩ := H
      ·replace H := ps_ H; obtain ⟨c7b0, H⟩ := H; replace H := ps_ H; obtain ⟨c8b0, H⟩ := H; replace H := bd_ H; obtain ⟨t103, A9, H⟩ := H; (try dsimp only at H); have H' := am_ H; clear H; have p102 : 0 ≤ (x18_2 : Int) := od_; have q102 : x18_2 < ((rd_L3 l0 x12_1).length : Int) := od_; obtain ⟨ad102, e102, hx102_0⟩ := Kd.at_int HR101_0.out x18_2 p102 q102; cases e102; replace p102 := eq_true p102; replace q102 := eq_true q102
       go_wp2_with (first | (refine gc_ (some 26) Try.func50 #[.bool ((rd (rd_L3 l0 x12_1) x18_2) == a1)] ?_; (with_reducible refine (impl_bit.calls ((rd (rd_L3 l0 x12_1) x18_2) == a1) t103 _ A9.out).mono ?_); rintro e w' ⟨rfl, ⟨nd, rfl⟩⟩; refine ⟨_, rfl, ?_⟩))
       go_roundg k2
       case measure => have := HK1.out; have := HK2.out; omega
       case rel => exact ⟨(wrap64 (x5_2 + t103)), (wrap64 (x18_2 + 1)), tc3_, tc3_, H', ⟨tc38_⟩, tc4_⟩
      ·have H' := am_ H; clear H; go_wp2
       go_roundg k2
       case measure => have := HK1.out; have := HK2.out; omega
       case rel => exact ⟨(x5_2), (wrap64 (x12_1 + 1)), tc3_, tc3_, H', ⟨tc38_⟩, tc4_⟩
   ·obtain rfl := Option.some.inj H; go_wp2
    go_ret
    exact ⟨tc3_, tc4_⟩

/-! ### impl_minusOnes: function 23 -/
def impl_minusOnes.f (k : Nat) (l0 : Tb_) : Option (Int) := (impl_countOf.f k l0 (-1)).bind fun t101 => (some t101)
theorem impl_minusOnes.mono : ∀ a0  k, LeO (impl_minusOnes.f k a0) (impl_minusOnes.f (k + 1) a0) := by
 intro a0 k; unfold impl_minusOnes.f
 repeat' first
   | (with_reducible exact impl_countOf.mono _ _ _)
   | (with_reducible exact LeO.refl _)
   | (with_reducible exact LeO.none _)
   | (with_reducible refine LeO.ite ?_ ?_)
   | (with_reducible refine LeO.bind ?_ (fun _ => ?_))
   | exact impl_countOf.mono _ _ _
   | exact LeO.none _
   | refine LeO.ite ?_ ?_
   | refine LeO.bind ?_ (fun _ => ?_)
theorem impl_minusOnes.calls (k : Nat) (A0 : Option Addr) (c0 : Nat) (l0 : Tb_) (r : Int) (w : World) (hr0 : Kd.C (Kd.slice 3 (Kd.int .i64)) w A0 l0.length l0) (hc0 : l0.length ≤ c0) (h : impl_minusOnes.f k l0 = some r) :
  Calls Try.prog 23 #[.slice A0 l0.length c0] w fun e w' => e = .returned (.int .i64 r) ∧ Drawn0 w w' := by
 have HR0 := am_ hr0; have HC0 := am_ hc0; clear hr0 hc0; (try unfold impl_minusOnes.f at h); have H := h; clear h; replace H := bd_ H; obtain ⟨t101, A2, H⟩ := H; (try dsimp only at H); obtain rfl := Option.some.inj H; go_enter Try.func23, Try.ntmps23
 go_wp2_with (first | (refine gc_ (some 4) Try.func38 #[.slice A0 l0.length c0, .int .i64 (-1)] ?_; (with_reducible refine (impl_countOf.calls k _ _ l0 (-1) t101 _ ?side1 ?side2 A2.out).mono ?_); (case side1 => exact tc9_); (case side2 => exact HC0.out); rintro e w' ⟨rfl, ⟨nd, rfl⟩⟩; refine ⟨_, rfl, ?_⟩))
 go_ret
 exact ⟨tc3_, tc4_⟩

/-! ### impl_within: function 31 -/
def impl_within.f (a0 : Int) (a1 : Int) (a2 : Int) : Option (Bool) := if a1 ≤ a0 then (some (decide (a0 ≤ a2))) else (some false)
theorem impl_within.calls (a0 : Int) (a1 : Int) (a2 : Int) (r : Bool) (w : World) (h : impl_within.f a0 a1 a2 = some r) :
  Calls Try.prog 31 #[.int .i64 a0, .int .i64 a1, .int .i64 a2] w fun e w' => e = .returned (.bool r) ∧ Drawn0 w w' := by
 (try unfold impl_within.f at h); have H := h; clear h
 replace H := sp_ H; obtain ⟨c4b0, H⟩ | ⟨c4b0, H⟩ := H
 ·obtain rfl := Option.some.inj H; go_enter Try.func31, Try.ntmps31; go_wp2
  go_ret
  exact ⟨tc3_, tc4_⟩
 ·obtain rfl := Option.some.inj H; go_enter Try.func31, Try.ntmps31; go_wp2
  go_ret
  exact ⟨tc3_, tc4_⟩

/-! ### impl_isWeighted: function 28 -/
def impl_isWeighted.f (a0 : Int) : Option (Bool) := (impl_within.f a0 1 4).bind fun t101 => (some t101)
theorem impl_isWeighted.calls (a0 : Int) (r : Bool) (w : World) (h : impl_isWeighted.f a0 = some r) :
  Calls Try.prog 28 #[.int .i64 a0] w fun e w' => e = .returned (.bool r) ∧ Drawn0 w w' := by
 (try unfold impl_isWeighted.f at h); have H := h; clear h; replace H := bd_ H; obtain ⟨t101, A2, H⟩ := H; (try dsimp only at H); obtain rfl := Option.some.inj H; go_enter Try.func28, Try.ntmps28
 go_wp2_with (first | (refine gc_ (some 4) Try.func31 #[.int .i64 a0, .int .i64 1, .int .i64 4] ?_; (with_reducible refine (impl_within.calls a0 1 4 t101 _ A2.out).mono ?_); rintro e w' ⟨rfl, ⟨nd, rfl⟩⟩; refine ⟨_, rfl, ?_⟩))
 go_ret
 exact ⟨tc3_, tc4_⟩

/-! ### slices_Clone_int_int: function 49 (by hand) -/
def slices_Clone_int_int.f (l0 : List Int) : Option (List Int) := if l0.length < 17592186044416 then some l0 else none
set_option maxHeartbeats 1000000 in
theorem slices_Clone_int_int.calls (A0 : Option Addr) (c0 : Nat) (l0 : List Int) (r : List Int) (w : World) (hr0 : Kd.C (Kd.int .i64) w A0 l0.length l0) (hc0 : l0.length ≤ c0) (h : slices_Clone_int_int.f l0 = some r) :
    Calls Try.prog 49 #[.slice A0 l0.length c0] w fun e w' => ∃ v0_ : Value, e = .returned (v0_) ∧ Kd.R (Kd.int .i64) 3 w' w.heap.size (fun _ => True) v0_ r ∧ Below w.heap.size w w' := by
  have hlt : l0.length < 17592186044416 := by
    unfold slices_Clone_int_int.f at h
    split at h
    · assumption
    · cases h
  unfold slices_Clone_int_int.f at h
  rw [if_pos hlt] at h
  obtain rfl := Option.some.inj h
  have LMc2 := am_ (show ([] : List Int).length + l0.length < 17592186044416 by simpa using hlt)
  clear h hlt
  have HR0 := am_ hr0
  have HC0 := am_ hc0
  clear hr0 hc0
  have HB := am_ (Below.refl w.heap.size w)
  cases A0 with
  | none =>
    have hl : l0 = [] := by
      have h1 := HR0.out.2.2
      cases l0 with
      | nil => rfl
      | cons x xs =>
        obtain ⟨ad, e, _⟩ := h1 (by simp)
        cases e
    subst hl
    have hq := fun W : World => Lib.run_eql_slice_nil (P := Try.prog) W 28 3 none ([] : List Int).length c0 0 0 Try.underlying28
    simp only [Option.isNone_none, List.length_nil] at hq
    go_enter Try.func49, Try.ntmps49
    go_wp2
    go_ret
    exact ⟨_, rfl, Kd.R_nil _ _ _ _ _, Below.refl _ _⟩
  | some ad =>
    have hq := fun W : World => Lib.run_eql_slice_nil (P := Try.prog) W 28 3 (some ad) l0.length c0 0 0 Try.underlying28
    simp only [Option.isNone_some] at hq
    obtain ⟨y101, hy101⟩ : ∃ y_ : List Int, y_ = (([] : List Int)) := ⟨_, rfl⟩
    rw [← hy101] at LMc2
    have Ny101 := am_ hy101
    clear hy101
    obtain ⟨y104, hy104⟩ : ∃ y_ : List Int, y_ = (y101 ++ l0) := ⟨_, rfl⟩
    have Ny104 := am_ hy104
    clear hy104
    go_enter Try.func49, Try.ntmps49
    go_wp2_with (first | ((with_reducible refine gate_dst (N := 5) rfl ?_); refine Kd.R_lit (Kd.int .i64) _ 3 ?hg (N := 5) ?hd (xs := ([] : List Int)) (inner := []) (ok := fun _ => True) (okp := fun _ => True) ?hr ?hp (fun _ hk => hk) trivial (Below.refl _ _) (Nat.le_refl _) (by simp) ?_; (case hd => rfl); (case hg => rfl); (case hr => exact tc42_); (case hp => exact (Reps.none _ _)); intro v102 w3 ho4 hb hg_ hnew_; clear hg_ hnew_; (first | rw [← Ny101.out] at ho4 | (simp only [Int.reduceToNat] at ho4; rw [← Ny101.out] at ho4)); have HO103 := am_ (Kd.R_lower ho4 (below_size tc0_)); replace HB := am_ (below_step tc0_ hb); clear hb ho4) | ((with_reducible refine gate_builtin (b := .append) (xs := #[.tmp 5, .tmp 6]) rfl ?_); at_builtin; refine Kd.R_append_rows (Kd.int .i64) (w0 := w) w.heap.size rfl (.tmp 5) (.tmp 6) 28 3 (.int .i64 0) 8 rfl Try.underlying28 info3 rfl (by decide) (by omega) v102 y101 l0 _ _ _ (fun _ => True) (fun _ => False) rfl rfl ?aO ?aR (fun _ _ h => h) (fun _ h => h.elim) ?aF ?aB ?aS ?aL ?_; (case aR => exact tc34_); (case aB => exact tc13_); (case aF => exact (fun _ _ => trivial)); (case aO => exact tc31_); (case aS => exact tc14_); (case aL => have := LMc2.out; omega); intro v105 w5 ho hb hg hat; rw [← Ny104.out] at ho; replace HB := am_ (hb); have HO106 := am_ (ho); clear HO103; clear ho hb hg hat))
    go_ret
    have he : y104 = l0 := by rw [Ny104.out, Ny101.out]; rfl
    exact ⟨_, rfl, he ▸ HO106.out, by repeat (first | (with_reducible first | exact HB.out | apply below_alloc | apply pw_below_drewN | apply below_drew1) | exact HB.out)⟩

/-! ### impl_signRows_1: function 48 (by hand) -/
structure impl_signRows_1.St (w0 : World) (n : Int) (B2 B3 B4 T4 : Nat) (w : World) (u : Value) (out : Tb_) : Prop where
  b2 : w.heap[B2]? = some (.cells #[.int .i64 n] 3 (0, 0))
  b3 : w.heap[B3]? = some (.cells #[u] 25 (0, 0))
  b4 : w.heap[B4]? = some (.cells #[.func (.func 48) #[] #[.pointer (some ⟨B2, 0, none⟩), .pointer (some ⟨B3, 0, none⟩), .pointer (some ⟨B4, 0, none⟩)]] T4 (0, 0))
  ho : Kd.R (Kd.slice 3 (Kd.int .i64)) 28 w w0.heap.size (fun _ => True) u out
  hb : Below w0.heap.size w0 w
  ge : w0.heap.size ≤ B3
theorem impl_signRows_1.St.below {w0 : World} {n : Int} {B2 B3 B4 T4 : Nat} {w w1 : World} {u : Value} {out : Tb_} (h : impl_signRows_1.St w0 n B2 B3 B4 T4 w u out) (hb : Below w.heap.size w w1) : impl_signRows_1.St w0 n B2 B3 B4 T4 w1 u out :=
  ⟨blk_below h.b2 hb, blk_below h.b3 hb, blk_below h.b4 hb, Kd.R_below h.ho hb, below_step h.hb hb, h.ge⟩
theorem impl_signRows_1.St.drew {w0 : World} {n : Int} {B2 B3 B4 T4 : Nat} {w : World} {u : Value} {out : Tb_} (h : impl_signRows_1.St w0 n B2 B3 B4 T4 w u out) : impl_signRows_1.St w0 n B2 B3 B4 T4 w.drew u out :=
  h.below (below_drew (Below.refl _ _))
theorem impl_signRows_1.St.push {w0 : World} {n : Int} {B2 B3 B4 T4 : Nat} (hT4 : T4 ≠ 25 ∧ T4 ≠ 28) {w w5 : World} {u v : Value} {out : Tb_} {x : List Int} (h : impl_signRows_1.St w0 n B2 B3 B4 T4 w u out)
    (ho : Kd.R (Kd.slice 3 (Kd.int .i64)) 28 w5 w0.heap.size (fun _ => True) v (out ++ [x])) (hb : Below w0.heap.size w0 w5) (hg : w.grownBy w5 u.ownBlock) :
    impl_signRows_1.St w0 n B2 B3 B4 T4 (w5.setCell ⟨B3, 0, none⟩ v) v (out ++ [x]) ∧ Kept w (w5.setCell ⟨B3, 0, none⟩ v) (fun k => k = B3 ∨ some k = u.ownBlock) := by
  have n32 := blk_ne h.b3 h.b2 (by decide)
  have n34 := blk_ne h.b3 h.b4 (Ne.symm hT4.1)
  have b3 := blk_grown h.b3 hg (Kd.R_ne h.ho h.b3 (by decide))
  exact ⟨⟨blk_far (blk_grown h.b2 hg (Kd.R_ne h.ho h.b2 (by decide))) (Ne.symm n32) v, blk_set b3 0 v, blk_far (blk_grown h.b4 hg (Kd.R_ne h.ho h.b4 (Ne.symm hT4.2))) (Ne.symm n34) v, Kd.R_set ho b3 (by decide) 0 v, below_set hb h.ge, h.ge⟩,
    Kept.setCell (Kept.of_grown hg (Kept.refl _ _) (fun k hk => .inl (.inr hk.symm))) (.inl (.inl rfl)) v⟩
mutual
def impl_signRows_1.l0 : Nat → Int → List Int → Int → Int → Option Tb_
  | 0, _, _, _, _ => none
  | k + 1, n, l, s, x => if x ≤ 1 - s then (if -1 ≤ x then (if l.length < 1000000 then ((impl_signRows_1.f k n (l ++ [x]) (s + x)).bind fun a => (impl_signRows_1.l0 k n l s (x + 1)).bind fun b => some (a ++ b)) else none) else none) else some []
def impl_signRows_1.f : Nat → Int → List Int → Int → Option Tb_
  | 0, _, _, _ => none
  | k + 1, n, l, s => if (l.length : Int) = n then (if s = 1 then some [l] else some []) else (if 0 ≤ s then (if s ≤ 1 then impl_signRows_1.l0 k n l s (-s) else none) else none)
end
theorem impl_signRows_1.calls (k : Nat) : ∀ (A0 : Option Addr) (c0 : Nat) (l0 : List Int) (a1 n : Int) (B2 B3 B4 T4 : Nat) (hT4 : T4 ≠ 25 ∧ T4 ≠ 28) (u : Value) (out r : Tb_) (w0 w : World)
    (hs : impl_signRows_1.St w0 n B2 B3 B4 T4 w u out) (hl : Kd.R (Kd.int .i64) 3 w w0.heap.size (fun _ => True) (.slice A0 l0.length c0) l0) (hn : out.length + r.length < 5864062014805) (h : impl_signRows_1.f k n l0 a1 = some r),
    Calls Try.prog 48 (#[.slice A0 l0.length c0, .int .i64 a1] ++ #[.pointer (some ⟨B2, 0, none⟩), .pointer (some ⟨B3, 0, none⟩), .pointer (some ⟨B4, 0, none⟩)]) w fun e w' => e = .returned (.tuple #[]) ∧ ∃ u', impl_signRows_1.St w0 n B2 B3 B4 T4 w' u' (out ++ r) ∧ Kept w w' (fun k => k = B3 ∨ some k = u.ownBlock) ∧ (u'.ownBlock = u.ownBlock ∨ ∃ b, u'.ownBlock = some b ∧ w.heap.size ≤ b) := by
  induction k using Nat.strongRecOn with
  | _ k ih =>
  intro A0 c0 l0 a1 n B2 B3 B4 T4 hT4 u out r w0 w hs hl hn h
  cases k with
  | zero => exact absurd h (by simp [impl_signRows_1.f])
  | succ k =>
  simp only [impl_signRows_1.f] at h
  have HS := am_ hs
  have HL := am_ hl
  have HN := am_ hn
  have HC := am_ (Kd.R_reads' hl).2.1
  have n32 := blk_ne hs.b3 hs.b2 (by decide)
  have n34 := blk_ne hs.b3 hs.b4 (Ne.symm hT4.1)
  have hz0 : l0.length ≤ 9223372036854775807 := (Kd.R_reads' hl).2.2.2.1
  clear hs hl hn
  by_cases c1 : (l0.length : Int) = n
  · rw [if_pos c1] at h
    have c1b : ((l0.length : Int) == n) = true := beq_iff_eq.mpr c1
    clear c1
    by_cases c2 : a1 = 1
    · rw [if_pos c2] at h
      have c2b : (a1 == 1) = true := beq_iff_eq.mpr c2
      clear c2
      obtain rfl := Option.some.inj h
      clear h
      have hc2 : w.cell? ⟨B2, 0, none⟩ = some (.int .i64 n) := (blk_cell HS.out.b2 0).trans rfl
      have hc3 : w.cell? ⟨B3, 0, none⟩ = some u := (blk_cell HS.out.b3 0).trans rfl
      have hf3 := blk_frozen HS.out.b3 0
      go_enter Try.func48, Try.ntmps48
      go_wp2_with (first | ((with_reducible refine gate_builtin (b := .append) (xs := #[.tmp 14, .tmp 16]) rfl ?_); at_builtin; refine Kd.R_append (Kd.slice 3 (Kd.int .i64)) (w0 := w0) w0.heap.size rfl (.tmp 14) (.tmp 16) 25 28 (.slice none 0 0) 24 rfl Try.underlying25 info28 rfl (by decide) (by omega) u out l0 [.slice A0 l0.length c0] (fun _ => True) (fun k => True ∧ some k ≠ u.ownBlock) rfl rfl ⟨_, rfl, Kd.R_apart' HL.out (Kd.R_typed HS.out.ho) (by decide)⟩ (fun _ hk => hk) (fun _ _ => trivial) HS.out.ho HS.out.hb (below_size HS.out.hb) (by have := HN.out; simp at this; omega) ?_; intro v5 w5 ho5 hb5 hg5 hat5; have HO5 := am_ ho5; have HB5 := am_ hb5; have HG5 := am_ hg5; have HA5 := am_ hat5; clear ho5 hb5 hg5 hat5; obtain ⟨A5, k5, e5⟩ := Kd.R_slice HO5.out; subst e5; have hc35 : w5.cell? ⟨B3, 0, none⟩ = some u := (blk_cell (blk_grown HS.out.b3 HG5.out (Kd.R_ne HS.out.ho HS.out.b3 (by decide))) 0).trans rfl; have hf35 := blk_frozen (blk_grown HS.out.b3 HG5.out (Kd.R_ne HS.out.ho HS.out.b3 (by decide))) 0))
      obtain ⟨q1, q2⟩ := impl_signRows_1.St.push hT4 HS.out HO5.out HB5.out HG5.out
      rw [show (out ++ [l0]).length = out.length + 1 by simp] at q1 q2
      first | go_end0 | ((try simp only [Exit.inBlock, Exit.then]); refine bodyPost_ret (results_none rfl _ _ _) rfl ?_)
      exact ⟨rfl, _, q1, q2, by have := HA5.out; rwa [show (out ++ [l0]).length = out.length + 1 by simp] at this⟩
    · rw [if_neg c2] at h
      have c2b : (a1 == 1) = false := beq_eq_false_iff_ne.mpr c2
      clear c2
      obtain rfl := Option.some.inj h
      clear h
      have hc2 : w.cell? ⟨B2, 0, none⟩ = some (.int .i64 n) := (blk_cell HS.out.b2 0).trans rfl
      go_enter Try.func48, Try.ntmps48
      go_wp2
      first | go_end0 | ((try simp only [Exit.inBlock, Exit.then]); refine bodyPost_ret (results_none rfl _ _ _) rfl ?_)
      exact ⟨rfl, u, by simpa using HS.out, Kept.refl _ _, .inl rfl⟩
  · rw [if_neg c1] at h
    have c1b : ((l0.length : Int) == n) = false := beq_eq_false_iff_ne.mpr c1
    clear c1
    by_cases c3 : 0 ≤ a1
    · rw [if_pos c3] at h
      by_cases c4 : a1 ≤ 1
      · rw [if_pos c4] at h
        have HF := am_ h
        clear h
        have hc2 : w.cell? ⟨B2, 0, none⟩ = some (.int .i64 n) := (blk_cell HS.out.b2 0).trans rfl
        go_enter Try.func48, Try.ntmps48
        go_wp2
        go_loopg [7] k (fun kq v7 w' => ∃ (x7 : Int) (u' : Value) (acc rest : Tb_), v7 = .int .i64 x7 ∧ Aside0 (r = acc ++ rest) ∧ Aside0 (impl_signRows_1.l0 kq n l0 a1 x7 = some rest) ∧ Aside0 (kq ≤ k) ∧ Aside0 (impl_signRows_1.St w0 n B2 B3 B4 T4 w' u' (out ++ acc)) ∧ Aside0 (Kd.R (Kd.int .i64) 3 w' w0.heap.size (fun _ => True) (.slice A0 l0.length c0) l0) ∧ Aside0 (Kept w w' (fun k => k = B3 ∨ some k = u.ownBlock)) ∧ Aside0 (u'.ownBlock = u.ownBlock ∨ ∃ b, u'.ownBlock = some b ∧ w.heap.size ≤ b))
        case atStart => exact ⟨-a1, u, [], r, rfl, ⟨rfl⟩, HF, ⟨Nat.le_refl _⟩, ⟨by simpa using HS.out⟩, HL, ⟨Kept.refl _ _⟩, ⟨.inl rfl⟩⟩
        case round =>
          clear HF
          obtain ⟨x7, u2, acc, rest, rfl, HE, HF, HK, HS2, HL2, HKp, HA⟩ := hrel
          cases gk with
          | zero => exact absurd HF.out (by simp [impl_signRows_1.l0])
          | succ k1 =>
            have H := HF.out
            clear HF
            simp only [impl_signRows_1.l0] at H
            by_cases c5 : x7 ≤ 1 - a1
            · rw [if_pos c5] at H
              by_cases c6 : -1 ≤ x7
              case neg => rw [if_neg c6] at H; exact absurd H (by simp)
              rw [if_pos c6] at H
              by_cases c7 : l0.length < 1000000
              case neg => rw [if_neg c7] at H; exact absurd H (by simp)
              rw [if_pos c7] at H
              have LM := am_ c7
              obtain ⟨ra, ha, H⟩ := Option.bind_eq_some_iff.mp H
              obtain ⟨rb, hb, H⟩ := Option.bind_eq_some_iff.mp H
              have HR2 := am_ (Option.some.inj H).symm
              have HFa := am_ (show impl_signRows_1.f k1 n (l0 ++ [x7]) (wrap64 (a1 + x7)) = some ra by rw [show wrap64 (a1 + x7) = a1 + x7 by unfold wrap64; omega]; exact ha)
              have HFb := am_ hb
              clear H ha hb c7
              go_wp2_with fail
              have HS3 := am_ HS2.out.drew
              have HL3 := am_ (Kd.R_drew HL2.out)
              have HR := am_ (Kd.R_reads' HL3.out).2.2
              have HKp3 := am_ (HKp.out.drew)
              have HC4 := am_ ((blk_cell HS3.out.b4 0).trans rfl : wr.drew.cell? ⟨B4, 0, none⟩ = some (.func (.func 48) #[] #[.pointer (some ⟨B2, 0, none⟩), .pointer (some ⟨B3, 0, none⟩), .pointer (some ⟨B4, 0, none⟩)]))
              clear HS2 HL2 HKp
              refine start_ (n := 10) (S := fun w' => w'.cell? ⟨B4, 0, none⟩ = some (.func (.func 48) #[] #[.pointer (some ⟨B2, 0, none⟩), .pointer (some ⟨B3, 0, none⟩), .pointer (some ⟨B4, 0, none⟩)])) (ds := []) #[F_, F_, F_, F_, F_, F_, F_, F_, F_, F_] (by kernel_rfl) rfl rfl (HC4.out) (fun hHeld => ?_)
              generalize hW_ : wr.drew = W at HS3 HL3 HR HKp3 HC4 hHeld ⊢
              clear hW_
              refine pure_ (i := 1) (N := some 27) #[F_, T_, F_, F_, F_, F_, F_, F_, F_, F_] rfl rfl ak_ hq_ yi_ nm_ ?_
              refine pure_ (i := 3) (N := some 29) #[F_, T_, F_, T_, F_, F_, F_, F_, F_, F_] rfl rfl ak_ hq_ yi_ nm_ ?_
              refine pure_ (i := 6) (N := some 32) #[F_, T_, F_, T_, F_, F_, T_, F_, F_, F_] rfl rfl ak_ hq_ yi_ nm_ ?_
              refine pure_ (i := 7) (N := some 33) #[F_, T_, F_, T_, F_, F_, T_, T_, F_, F_] rfl rfl ak_ hq_ yi_ nm_ ?_
              refine pure_ (i := 8) (N := some 34) #[F_, T_, F_, T_, F_, F_, T_, T_, T_, F_] rfl rfl ak_ hq_ yi_ nm_ ?_
              refine take_ (i := 0) (N := some 26) #[T_, T_, F_, T_, F_, F_, T_, T_, T_, F_] rfl rfl ak_ hq_ yj1_ hHeld nm_ ?_
              refine join_ (σ := Value × Addr) 2 #[T_, T_, T_, T_, T_, F_, T_, T_, T_, F_] (fun s_ => [(28, s_.1), (30, .slice (some s_.2) 1 1)]) (fun s_ w' => Below W.heap.size W w' ∧ Kd.R (Kd.int .i64) 3 w' W.heap.size (fun _ => True) s_.1 l0 ∧ Kd.C (Kd.int .i64) w' (some s_.2) 1 [x7]) ?_ ?_
              rotate_left
              · intro hCont
                refine two_ (i := 2) (j := 4) (Ni := some 28) (Nj := some 30) #[T_, T_, T_, T_, F_, F_, T_, T_, T_, F_] #[T_, T_, F_, T_, T_, F_, T_, T_, T_, F_] rfl rfl rfl rfl (by kernel_rfl) (by decide) (by decide) (fun K hK => ?_) (fun K hK => ?_)
                · skip
                  refine goes_ Try.func49 (by kernel_rfl) rfl #[.slice A0 l0.length c0] (by rfl) rfl rfl tc30_ ?_
                  refine (slices_Clone_int_int.calls A0 c0 l0 l0 _ ?sc1 HC.out (if_pos (by have := LM.out; omega))).mono ?_
                  (case sc1 => exact (Kd.C_below HR.out (Below.refl _ _)))
                  rintro e w2 ⟨v28, rfl, ho, hb⟩
                  refine ⟨_, rfl, ?_⟩
                  have HB2 := am_ (below_step (Below.refl _ _) hb)
                  have HO2 := am_ (Kd.R_lower ho (below_size (Below.refl _ _)))
                  have hb2_ := am_ hb
                  clear ho hb
                  refine hK.out _ _ (cell_of_below HB2.out HC4.out) (fun hHeld => ?_)
                  clear hK K
                  refine norm_ (a' := ?_) ?_ ?_
                  rotate_left
                  · show Act.put _ (some 28) _ = _
                    simp only [Act.put, List.setIfInBounds_toArray, List.set_cons_zero, List.set_cons_succ, i64_w, i32_w]
                    rfl
                  refine one_ (i := 4) (N := some 30) #[T_, T_, T_, T_, T_, F_, T_, T_, T_, F_] rfl rfl (by kernel_rfl) (by decide) (fun K hK => ?_)
                  refine value_ (w1 := ?_) (v := ?_) (by rfl) rfl ?_ ?_
                  rotate_left 2
                  · go_simp
                    constructor
                    · rfl
                    · rfl
                  refine hK.out _ _ (cell_of_below (below_alloc HB2.out _) HC4.out) (fun hHeld => ?_)
                  clear hK K
                  refine norm_ (a' := ?_) ?_ ?_
                  rotate_left
                  · show Act.put _ (some 30) _ = _
                    simp only [Act.put, List.setIfInBounds_toArray, List.set_cons_zero, List.set_cons_succ, i64_w, i32_w]
                    rfl
                  exact norm_ (by simp only [putAll, Act.put, List.setIfInBounds_toArray, List.set_cons_zero, List.set_cons_succ]) (hCont (v28, ⟨w2.heap.size, 0, none⟩) _ ⟨below_alloc HB2.out _, Kd.R_alloc HO2.out _, C_box rfl rfl _⟩)
                · skip
                  refine value_ (w1 := ?_) (v := ?_) (by rfl) rfl ?_ ?_
                  rotate_left 2
                  · go_simp
                    constructor
                    · rfl
                    · rfl
                  refine hK.out _ _ (cell_of_below (below_alloc (Below.refl _ _) _) HC4.out) (fun hHeld => ?_)
                  clear hK K
                  refine norm_ (a' := ?_) ?_ ?_
                  rotate_left
                  · show Act.put _ (some 30) _ = _
                    simp only [Act.put, List.setIfInBounds_toArray, List.set_cons_zero, List.set_cons_succ, i64_w, i32_w]
                    rfl
                  refine one_ (i := 2) (N := some 28) #[T_, T_, T_, T_, T_, F_, T_, T_, T_, F_] rfl rfl (by kernel_rfl) (by decide) (fun K hK => ?_)
                  refine goes_ Try.func49 (by kernel_rfl) rfl #[.slice A0 l0.length c0] (by rfl) rfl rfl tc30_ ?_
                  refine (slices_Clone_int_int.calls A0 c0 l0 l0 _ ?sc1 HC.out (if_pos (by have := LM.out; omega))).mono ?_
                  (case sc1 => exact (Kd.C_below HR.out (below_alloc (Below.refl _ _) _)))
                  rintro e w2 ⟨v28, rfl, ho, hb⟩
                  refine ⟨_, rfl, ?_⟩
                  have HB2 := am_ (below_step (below_alloc (Below.refl _ _) _) hb)
                  have HO2 := am_ (Kd.R_lower ho (below_size (below_alloc (Below.refl _ _) _)))
                  have hb2_ := am_ hb
                  clear ho hb
                  refine hK.out _ _ (cell_of_below HB2.out HC4.out) (fun hHeld => ?_)
                  clear hK K
                  refine norm_ (a' := ?_) ?_ ?_
                  rotate_left
                  · show Act.put _ (some 28) _ = _
                    simp only [Act.put, List.setIfInBounds_toArray, List.set_cons_zero, List.set_cons_succ, i64_w, i32_w]
                    rfl
                  exact norm_ (by simp only [putAll, Act.put, List.setIfInBounds_toArray, List.set_cons_zero, List.set_cons_succ]) (hCont (v28, ⟨W.heap.size, 0, none⟩) _ ⟨HB2.out, HO2.out, Kd.C_below (C_box rfl rfl _) hb2_.out⟩)
              rintro ⟨v28, ad30⟩ w4 ⟨hb4_, ho4_, hc4_⟩
              have hHeld : w4.cell? ⟨B4, 0, none⟩ = some (.func (.func 48) #[] #[.pointer (some ⟨B2, 0, none⟩), .pointer (some ⟨B3, 0, none⟩), .pointer (some ⟨B4, 0, none⟩)]) := cell_of_below hb4_ HC4.out
              have HB4 := am_ hb4_
              have HO4 := am_ ho4_
              have HV4 := am_ hc4_
              clear hb4_ ho4_ hc4_
              refine norm_ (a' := ?_) ?_ ?_
              rotate_left
              · simp only [putAll, Act.put, List.setIfInBounds_toArray, List.set_cons_zero, List.set_cons_succ]
                rfl
              refine one_ (i := 5) (N := some 31) #[T_, T_, T_, T_, T_, T_, T_, T_, T_, F_] rfl rfl (by kernel_rfl) (by decide) (fun K hK => ?_)
              refine Kd.R_append_rows_step (Kd.int .i64) (w0 := W) W.heap.size (by rfl) (.tmp 28) (.tmp 30) 28 3 (.int .i64 0) 8 rfl Try.underlying28 info3 rfl (by decide) (by omega) v28 l0 [x7] _ _ _ (fun _ => True) (fun _ => False) rfl rfl HO4.out HV4.out (fun _ _ h => h) (fun _ h => h.elim) (fun _ _ => trivial) HB4.out (below_size HB4.out) (by have := LM.out; omega) ?_
              intro v31 w5 ho5 hb5 hg5 hat5
              clear hg5 hat5
              have HB5 := am_ hb5
              have HO5 := am_ ho5
              obtain ⟨A31, c31, e31⟩ := Kd.R_slice HO5.out
              subst e31
              clear ho5 hb5 HB4 HO4 HV4
              refine hK.out _ _ (cell_of_below HB5.out HC4.out) (fun hHeld => ?_)
              clear hK K
              refine norm_ (a' := ?_) ?_ ?_
              rotate_left
              · show Act.put _ (some 31) _ = _
                simp only [Act.put, List.setIfInBounds_toArray, List.set_cons_zero, List.set_cons_succ, i64_w, i32_w]
                rfl
              refine one_ (i := 9) (N := some 35) #[T_, T_, T_, T_, T_, T_, T_, T_, T_, T_] rfl rfl (by kernel_rfl) (by decide) (fun K hK => ?_)
              refine goesF_ (enters_of Try.func48 (by kernel_rfl) rfl) #[.slice A31 (l0 ++ [x7]).length c31, .int .i64 (wrap64 (a1 + x7))] (by rfl) rfl rfl (by first | rfl | (simp [Act.eval]; done)) tc30_ ?_
              refine (ih k1 (by have := HK.out; omega) A31 c31 (l0 ++ [x7]) (wrap64 (a1 + x7)) n B2 B3 B4 T4 hT4 u2 (out ++ acc) ra w0 w5 (HS3.out.below HB5.out) (Kd.R_lower HO5.out (below_size HS3.out.hb)) (by have := HN.out; rw [HE.out, HR2.out] at this; simp only [List.length_append] at this ⊢; omega) HFa.out).mono ?_
              rintro e w6 ⟨rfl, u3, hs6, hk6, hat6⟩
              refine ⟨_, rfl, ?_⟩
              have HS6 := am_ hs6
              have HK6 := am_ hk6
              have HT6 := am_ hat6
              clear hs6 hk6 hat6
              refine hK.out _ _ ((blk_cell HS6.out.b4 0).trans rfl) (fun hHeld => ?_)
              clear hK K
              refine norm_ (a' := ?_) ?_ ?_
              rotate_left
              · show Act.put _ (some 35) _ = _
                simp only [Act.put, List.setIfInBounds_toArray, List.set_cons_zero, List.set_cons_succ, i64_w, i32_w]
                rfl
              refine done_ (by kernel_rfl) ?_
              have HL6 := am_ (Kd.R_mono (Kd.R_kept (Kd.R_apart' (Kd.R_types (Kd.R_below HL3.out HB5.out) (HS3.out.below HB5.out).b3 (by decide)) (Kd.R_typed (HS3.out.below HB5.out).ho) (by decide)) HK6.out (fun k_ hk hS => hS.elim hk.1.2 hk.2)) (fun _ _ => trivial))
              have HKp6 := am_ ((HKp3.out.below HB5.out).then_ HK6.out (fun k_ hS => hS.elim (fun e => .inl (.inl e)) (fun e => HA.out.elim (fun ha => .inl (.inr (e.trans ha))) (fun ⟨b, hb, hle⟩ => .inr (by rw [hb] at e; injection e with e; omega)))))
              have HA6 : Aside0 (u3.ownBlock = u.ownBlock ∨ ∃ b, u3.ownBlock = some b ∧ w.heap.size ≤ b) := ⟨HT6.out.elim (fun h1 => HA.out.elim (fun h2 => .inl (h1.trans h2)) (fun ⟨b, h2, h3⟩ => .inr ⟨b, h1.trans h2, h3⟩)) (fun ⟨b, h2, h3⟩ => .inr ⟨b, h2, Nat.le_trans HKp3.out.1 (Nat.le_trans (below_size HB5.out) h3)⟩)⟩
              go_wp2
              go_roundg k1
              case measure => have := HK.out; omega
              case rel => exact ⟨x7 + 1, u3, acc ++ ra, rb, by go_num, ⟨by rw [HE.out, HR2.out, List.append_assoc]⟩, HFb, ⟨by have := HK.out; omega⟩, ⟨by rw [← List.append_assoc]; exact HS6.out⟩, HL6, HKp6, HA6⟩
            · rw [if_neg c5] at H
              obtain rfl := Option.some.inj H
              clear H
              go_wp2
              first | go_end0 | ((try simp only [Exit.inBlock, Exit.then]); refine bodyPost_ret (results_none rfl _ _ _) rfl ?_)
              exact ⟨rfl, u2, by have := HS2.out; rw [HE.out, List.append_nil]; exact this, HKp.out, HA.out⟩
      · rw [if_neg c4] at h
        exact absurd h (by simp)
    · rw [if_neg c3] at h
      exact absurd h (by simp)

/-! ### impl_signRows: function 34 (by hand) -/
def impl_signRows.f (k : Nat) (a0 : Int) : Option Tb_ := (impl_signRows_1.f k a0 [] 0).bind fun r => if r.length < 1000000 then some r else none
theorem impl_signRows.calls (k : Nat) (a0 : Int) (r : Tb_) (w : World) (h : impl_signRows.f k a0 = some r) :
    Calls Try.prog 34 #[.int .i64 a0] w fun e w' => ∃ v0_ : Value, e = .returned v0_ ∧ Kd.R (Kd.slice 3 (Kd.int .i64)) 28 w' w.heap.size (fun _ => True) v0_ r ∧ Below w.heap.size w w' := by
  obtain ⟨r', h1, h2⟩ := Option.bind_eq_some_iff.mp h
  have hr : r'.length < 1000000 := by
    split at h2
    · assumption
    · cases h2
  rw [if_pos hr] at h2
  obtain rfl := Option.some.inj h2
  have HF := am_ h1
  have HL := am_ hr
  clear h h1 h2 hr
  have HB := am_ (Below.refl w.heap.size w)
  go_enter Try.func34, Try.ntmps34
  go_wp2_with fail
  refine (impl_signRows_1.calls k none 0 [] 0 a0 w.heap.size (w.heap.size + 1 + 1) (w.heap.size + 1 + 1 + 1) 58 (by decide) (.slice (some ⟨w.heap.size + 1, 0, none⟩) 0 0) [] r' w _ ⟨?b2, ?b3, ?b4, ?ho, ?hb, by omega⟩ (Kd.R_nil _ _ _ _ _) (by have := HL.out; simp; omega) HF.out).mono ?_
  case b2 => exact blk_alloc (blk_alloc (blk_alloc (blk_new _ _) _) _) _
  case b3 => exact blk_alloc (blk_new' (by simp)) _
  case b4 => exact blk_new' (by simp)
  case ho => exact R_empty (blk_alloc (blk_alloc (blk_new' (by simp)) _) _) (by omega)
  case hb => exact below_alloc (below_alloc (below_alloc (below_alloc (Below.refl _ _) _) _) _) _
  rintro e w2 ⟨rfl, u2, hs2, _, _⟩
  have HS := am_ hs2
  clear hs2
  obtain ⟨A2, c2, e2⟩ := Kd.R_slice HS.out.ho
  subst e2
  have hc3 : w2.cell? ⟨w.heap.size + 1 + 1, 0, none⟩ = _ := (blk_cell HS.out.b3 0).trans rfl
  go_wp2
  go_ret
  exact ⟨_, rfl, HS.out.ho, HS.out.hb⟩

/-! ### impl_fitsSums: function 36 -/
def impl_fitsSums.l0 : Nat → List Int → Bool → List Int → Int → Int → Option (Bool)
 | 0, _, _, _, _, _ => none
 | k + 1, x0, x2, x10, x11, x12 => if x12 < x11 then (if 0 ≤ x12 then (if x12 < (x10.length : Int) then (if x12 < (x0.length : Int) then ((impl_within.f (wrap64 ((rd x0 x12) + (rd x10 x12))) 0 1).bind fun t103 => (if t103 = true then (if x2 = true then (if (wrap64 ((rd x0 x12) + (rd x10 x12))) = 1 then (impl_fitsSums.l0 k x0 x2 x10 x11 (wrap64 (x12 + 1))) else (some false)) else (impl_fitsSums.l0 k x0 x2 x10 x11 (wrap64 (x12 + 1)))) else (some false))) else (none)) else (none)) else (none)) else (some true)
def impl_fitsSums.f (k : Nat) (l0 : List Int) (l1 : List Int) (a2 : Bool) : Option (Bool) := impl_fitsSums.l0 k l0 a2 l1 (l1.length : Int) 0
theorem impl_fitsSums.calls (k : Nat) (A0 : Option Addr) (c0 : Nat) (l0 : List Int) (A1 : Option Addr) (c1 : Nat) (l1 : List Int) (a2 : Bool) (r : Bool) (w : World) (hr0 : Kd.C (Kd.int .i64) w A0 l0.length l0) (hc0 : l0.length ≤ c0) (hr1 : Kd.C (Kd.int .i64) w A1 l1.length l1) (hc1 : l1.length ≤ c1) (h : impl_fitsSums.f k l0 l1 a2 = some r) :
  Calls Try.prog 36 #[.slice A0 l0.length c0, .slice A1 l1.length c1, .bool a2] w fun e w' => e = .returned (.bool r) ∧ Drawn0 w w' := by
 have HR0 := am_ hr0; have HC0 := am_ hc0; clear hr0 hc0; have HR1 := am_ hr1; have HC1 := am_ hc1; clear hr1 hc1; (try unfold impl_fitsSums.f at h); have H := h; clear h; have H' := am_ H; clear H; go_enter Try.func36, Try.ntmps36; go_wp2
 go_loopg [12] k (fun kq v12 w' => ∃ (x12_1 : Int), v12 = .int .i64 x12_1 ∧ Aside0 (impl_fitsSums.l0 kq l0 a2 l1 (l1.length : Int) x12_1 = some r) ∧ Aside0 (kq ≤ k) ∧ Drawn0 w w')
 case atStart => exact ⟨(0), tc3_, H', ⟨Nat.le_refl _⟩, tc4_⟩
 case round =>
  clear H'; (try clear c1); (try clear p2); (try clear c3); obtain ⟨x12_1, rfl, HA, HK1, ⟨m1, rfl⟩⟩ := hrel
  cases gk with
  | zero => exact absurd HA.out (by simp [impl_fitsSums.l0])
  | succ k1 =>
   have H := HA.out; clear HA; simp only [impl_fitsSums.l0] at H
   replace H := sp_ H; obtain ⟨c4b0, H⟩ | ⟨c4b0, H⟩ := H
   ·replace H := ps_ H; obtain ⟨c5b0, H⟩ := H; replace H := ps_ H; obtain ⟨c6b0, H⟩ := H; replace H := ps_ H; obtain ⟨c7b0, H⟩ := H; replace H := bd_ H; obtain ⟨t103, A8, H⟩ := H; (try dsimp only at H)
    by_cases c9 : t103 = true
    ·subst c9; have H1 : (if a2 = true then (if (wrap64 ((rd l0 x12_1) + (rd l1 x12_1))) = 1 then (impl_fitsSums.l0 k1 l0 a2 l1 (l1.length : Int) (wrap64 (x12_1 + 1))) else (some false)) else (impl_fitsSums.l0 k1 l0 a2 l1 (l1.length : Int) (wrap64 (x12_1 + 1)))) = some r := tc33_; clear H; have H := H1; clear H1
     by_cases c10 : a2 = true
     ·subst c10; have H1 : (if (wrap64 ((rd l0 x12_1) + (rd l1 x12_1))) = 1 then (impl_fitsSums.l0 k1 l0 true l1 (l1.length : Int) (wrap64 (x12_1 + 1))) else (some false)) = some r := tc33_; clear H; have H := H1; clear H1
      replace H := pn_ H; obtain ⟨c11, H⟩ | ⟨c11, H⟩ := H
      ·have c11b0 : ((wrap64 ((rd l0 x12_1) + (rd l1 x12_1))) == 1) = true := beq_iff_eq.mpr c11; have c11b1 : ((wrap64 ((rd l0 x12_1) + (rd l1 x12_1))) != 1) = false := bne_eq_false_iff_eq.mpr c11; clear c11; have H' := am_ H; clear H; have p101 : 0 ≤ (x12_1 : Int) := od_; have q101 : x12_1 < (l1.length : Int) := od_; obtain ⟨ad101, e101, hx101_0⟩ := Kd.at_int HR1.out x12_1 p101 q101; cases e101; replace p101 := eq_true p101; replace q101 := eq_true q101; have p102 : 0 ≤ (x12_1 : Int) := od_; have q102 : x12_1 < (l0.length : Int) := od_; obtain ⟨ad102, e102, hx102_0⟩ := Kd.at_int HR0.out x12_1 p102 q102; cases e102; replace p102 := eq_true p102; replace q102 := eq_true q102
       go_wp2_with (first | (refine gc_ (some 24) Try.func31 #[.int .i64 (wrap64 ((rd l0 x12_1) + (rd l1 x12_1))), .int .i64 0, .int .i64 1] ?_; (with_reducible refine (impl_within.calls (wrap64 ((rd l0 x12_1) + (rd l1 x12_1))) 0 1 true _ A8.out).mono ?_); rintro e w' ⟨rfl, ⟨nd, rfl⟩⟩; refine ⟨_, rfl, ?_⟩))
       go_roundg k1
       case measure => have := HK1.out; omega
       case rel => exact ⟨(wrap64 (x12_1 + 1)), tc3_, H', ⟨tc56_⟩, tc4_⟩
      ·have c11b0 : ((wrap64 ((rd l0 x12_1) + (rd l1 x12_1))) == 1) = false := beq_eq_false_iff_ne.mpr c11; have c11b1 : ((wrap64 ((rd l0 x12_1) + (rd l1 x12_1))) != 1) = true := bne_iff_ne.mpr c11; obtain rfl := Option.some.inj H; have p101 : 0 ≤ (x12_1 : Int) := od_; have q101 : x12_1 < (l1.length : Int) := od_; obtain ⟨ad101, e101, hx101_0⟩ := Kd.at_int HR1.out x12_1 p101 q101; cases e101; replace p101 := eq_true p101; replace q101 := eq_true q101; have p102 : 0 ≤ (x12_1 : Int) := od_; have q102 : x12_1 < (l0.length : Int) := od_; obtain ⟨ad102, e102, hx102_0⟩ := Kd.at_int HR0.out x12_1 p102 q102; cases e102; replace p102 := eq_true p102; replace q102 := eq_true q102
       go_wp2_with (first | (refine gc_ (some 24) Try.func31 #[.int .i64 (wrap64 ((rd l0 x12_1) + (rd l1 x12_1))), .int .i64 0, .int .i64 1] ?_; (with_reducible refine (impl_within.calls (wrap64 ((rd l0 x12_1) + (rd l1 x12_1))) 0 1 true _ A8.out).mono ?_); rintro e w' ⟨rfl, ⟨nd, rfl⟩⟩; refine ⟨_, rfl, ?_⟩))
       go_ret
       exact ⟨tc3_, tc4_⟩
     ·replace c10 := Bool.eq_false_iff.mpr c10; subst c10; have H1 : (impl_fitsSums.l0 k1 l0 false l1 (l1.length : Int) (wrap64 (x12_1 + 1))) = some r := tc16_; clear H; have H := H1; clear H1; have H' := am_ H; clear H; have p101 : 0 ≤ (x12_1 : Int) := od_; have q101 : x12_1 < (l1.length : Int) := od_; obtain ⟨ad101, e101, hx101_0⟩ := Kd.at_int HR1.out x12_1 p101 q101; cases e101; replace p101 := eq_true p101; replace q101 := eq_true q101; have p102 : 0 ≤ (x12_1 : Int) := od_; have q102 : x12_1 < (l0.length : Int) := od_; obtain ⟨ad102, e102, hx102_0⟩ := Kd.at_int HR0.out x12_1 p102 q102; cases e102; replace p102 := eq_true p102; replace q102 := eq_true q102
      go_wp2_with (first | (refine gc_ (some 24) Try.func31 #[.int .i64 (wrap64 ((rd l0 x12_1) + (rd l1 x12_1))), .int .i64 0, .int .i64 1] ?_; (with_reducible refine (impl_within.calls (wrap64 ((rd l0 x12_1) + (rd l1 x12_1))) 0 1 true _ A8.out).mono ?_); rintro e w' ⟨rfl, ⟨nd, rfl⟩⟩; refine ⟨_, rfl, ?_⟩))
      go_roundg k1
      case measure => have := HK1.out; omega
      case rel => exact ⟨(wrap64 (x12_1 + 1)), tc3_, H', ⟨tc56_⟩, tc4_⟩
    ·replace c9 := Bool.eq_false_iff.mpr c9; subst c9; have H1 : (some false) = some r := tc16_; clear H; have H := H1; clear H1; obtain rfl := Option.some.inj H; have p101 : 0 ≤ (x12_1 : Int) := od_; have q101 : x12_1 < (l1.length : Int) := od_; obtain ⟨ad101, e101, hx101_0⟩ := Kd.at_int HR1.out x12_1 p101 q101; cases e101; replace p101 := eq_true p101; replace q101 := eq_true q101; have p102 : 0 ≤ (x12_1 : Int) := od_; have q102 : x12_1 < (l0.length : Int) := od_; obtain ⟨ad102, e102, hx102_0⟩ := Kd.at_int HR0.out x12_1 p102 q102; cases e102; replace p102 := eq_true p102; replace q102 := eq_true q102
     go_wp2_with (first | (refine gc_ (some 24) Try.func31 #[.int .i64 (wrap64 ((rd l0 x12_1) + (rd l1 x12_1))), .int .i64 0, .int .i64 1] ?_; (with_reducible refine (impl_within.calls (wrap64 ((rd l0 x12_1) + (rd l1 x12_1))) 0 1 false _ A8.out).mono ?_); rintro e w' ⟨rfl, ⟨nd, rfl⟩⟩; refine ⟨_, rfl, ?_⟩))
     go_ret
     exact ⟨tc3_, tc4_⟩
   ·obtain rfl := Option.some.inj H; go_wp2
    go_ret
    exact ⟨tc3_, tc4_⟩

/-! ### impl_eachSigns_1: function 35 (by hand) -/
structure impl_eachSigns_1.Fr (n : Int) (ge : Nat) (be : Array Value) (Ar : Option Addr) (cr : Nat) (rows : Tb_) (B1 B2 B3 B4 B5 T2 T5 gs : Nat) (S : Nat → Prop) (w : World) (sums : List Int) : Prop where
  b1 : w.heap[B1]? = some (.cells #[.int .i64 n] 3 (0, 0))
  b2 : w.heap[B2]? = some (.cells #[.func (.func ge) #[] be] T2 (0, 0))
  b3 : w.heap[B3]? = some (.cells #[.slice Ar rows.length cr] 25 (0, 0))
  b4 : w.heap[B4]? = some (.cells #[.slice (some ⟨gs, 0, none⟩) sums.length sums.length] 28 (0, 0))
  b5 : w.heap[B5]? = some (.cells #[.func (.func 35) #[] #[.pointer (some ⟨B1, 0, none⟩), .pointer (some ⟨B2, 0, none⟩), .pointer (some ⟨B3, 0, none⟩), .pointer (some ⟨B4, 0, none⟩), .pointer (some ⟨B5, 0, none⟩)]] T5 (0, 0))
  bs : w.heap[gs]? = some (.cells (nums .i64 sums).toArray 3 (0, 0))
  vr : Kd.V (Kd.slice 3 (Kd.int .i64)) 28 w 0 (fun k => ¬ S k ∧ k ≠ gs) (.slice Ar rows.length cr) rows
  s1 : ¬ S B1
  s2 : ¬ S B2
  s3 : ¬ S B3
  s4 : ¬ S B4
  s5 : ¬ S B5
  ss : ¬ S gs
  n1 : B1 ≠ gs
  t2 : T2 ≠ 3
  t5 : T5 ≠ 3
  sz : sums.length ≤ 9223372036854775807
section
variable {n : Int} {ge : Nat} {be : Array Value} {Ar : Option Addr} {cr : Nat} {rows : Tb_} {B1 B2 B3 B4 B5 T2 T5 gs : Nat} {S S' : Nat → Prop} {w w1 : World} {sums : List Int}
theorem impl_eachSigns_1.Fr.below (h : impl_eachSigns_1.Fr n ge be Ar cr rows B1 B2 B3 B4 B5 T2 T5 gs S w sums) (hb : Below w.heap.size w w1) : impl_eachSigns_1.Fr n ge be Ar cr rows B1 B2 B3 B4 B5 T2 T5 gs S w1 sums :=
  { h with b1 := blk_below h.b1 hb, b2 := blk_below h.b2 hb, b3 := blk_below h.b3 hb, b4 := blk_below h.b4 hb, b5 := blk_below h.b5 hb, bs := blk_below h.bs hb, vr := Kd.V_below h.vr hb }
theorem impl_eachSigns_1.Fr.kept (h : impl_eachSigns_1.Fr n ge be Ar cr rows B1 B2 B3 B4 B5 T2 T5 gs S w sums) (hk : Kp w w1 S) (hs : ∀ k, S' k → S k ∨ w.heap.size ≤ k) : impl_eachSigns_1.Fr n ge be Ar cr rows B1 B2 B3 B4 B5 T2 T5 gs S' w1 sums := by
  have no : ∀ k, ¬ S k → k < w.heap.size → ¬ S' k := fun k h1 h2 h3 => (hs k h3).elim h1 (fun h4 => by omega)
  exact ⟨blk_kept h.b1 hk.1 h.s1, blk_kept h.b2 hk.1 h.s2, blk_kept h.b3 hk.1 h.s3, blk_kept h.b4 hk.1 h.s4, blk_kept h.b5 hk.1 h.s5, blk_kept h.bs hk.1 h.ss, V_kept_to h.vr hk hs,
    no _ h.s1 (blk_lt h.b1), no _ h.s2 (blk_lt h.b2), no _ h.s3 (blk_lt h.b3), no _ h.s4 (blk_lt h.b4), no _ h.s5 (blk_lt h.b5), no _ h.ss (blk_lt h.bs), h.n1, h.t2, h.t5, h.sz⟩
theorem impl_eachSigns_1.Fr.store (h : impl_eachSigns_1.Fr n ge be Ar cr rows B1 B2 B3 B4 B5 T2 T5 gs S w sums) (i : Nat) (v : Int) : impl_eachSigns_1.Fr n ge be Ar cr rows B1 B2 B3 B4 B5 T2 T5 gs S (w.setCell ⟨gs, i, none⟩ (.int .i64 v)) (sums.set i v) :=
  { h with b1 := blk_far h.b1 h.n1 _, b2 := blk_far h.b2 (blk_ne h.b2 h.bs h.t2) _, b3 := blk_far h.b3 (blk_ne h.b3 h.bs (by decide)) _, b4 := by rw [List.length_set]; exact blk_far h.b4 (blk_ne h.b4 h.bs (by decide)) _,
           b5 := blk_far h.b5 (blk_ne h.b5 h.bs h.t5) _, bs := by have := blk_set h.bs i (.int .i64 v); rwa [nums_set] at this, vr := Kd.V_far h.vr (fun _ hk => hk.2) _, sz := by rw [List.length_set]; exact h.sz }
end
def impl_eachSigns_1.okRow (sums row : List Int) : Bool := decide (sums.length = row.length) && sums.all (fun s => decide (0 ≤ s) && decide (s ≤ 1)) && row.all (fun s => decide (-1 ≤ s) && decide (s ≤ 1))
mutual
def impl_eachSigns_1.l0 {σ : Type} : Nat → (σ → Tb_ → Option (σ × Bool)) → Int → Tb_ → List Int → Tb_ → σ → Int → Option (σ × Bool)
  | 0, _, _, _, _, _, _, _ => none
  | k + 1, p, n, rows, sums, m, s, i => if i < (rows.length : Int) then (if 0 ≤ i then ((impl_fitsSums.f k sums (rows.getD i.toNat []) ((m.length : Int) == n - 1)).bind fun t =>
      (if t = true then (if impl_eachSigns_1.okRow sums (rows.getD i.toNat []) = true then ((impl_eachSigns_1.f k p n rows (List.zipWith (· + ·) sums (rows.getD i.toNat [])) (m ++ [rows.getD i.toNat []]) s).bind fun q => (if q.2 = true then impl_eachSigns_1.l0 k p n rows sums m q.1 (i + 1) else some (q.1, false))) else none)
      else impl_eachSigns_1.l0 k p n rows sums m s (i + 1))) else none) else some (s, true)
def impl_eachSigns_1.f {σ : Type} : Nat → (σ → Tb_ → Option (σ × Bool)) → Int → Tb_ → List Int → Tb_ → σ → Option (σ × Bool)
  | 0, _, _, _, _, _, _ => none
  | k + 1, p, n, rows, sums, m, s => if (m.length : Int) = n then p s m else (if m.length < 1000 then impl_eachSigns_1.l0 k p n rows sums m s 0 else none)
end
theorem impl_eachSigns_1.zip_len {sums row : List Int} (h : impl_eachSigns_1.okRow sums row = true) : sums.length = row.length ∧ (List.zipWith (· + ·) sums row).length = row.length := by
  simp only [impl_eachSigns_1.okRow, Bool.and_eq_true, decide_eq_true_eq] at h
  exact ⟨h.1.1, by rw [List.length_zipWith, h.1.1, Nat.min_self]⟩
theorem impl_eachSigns_1.ok_at {sums row : List Int} (h : impl_eachSigns_1.okRow sums row = true) (j : Nat) (hj : j < row.length) : 0 ≤ sums.getD j 0 ∧ sums.getD j 0 ≤ 1 ∧ -1 ≤ row.getD j 0 ∧ row.getD j 0 ≤ 1 ∧ (List.zipWith (· + ·) sums row).getD j 0 = sums.getD j 0 + row.getD j 0 := by
  have hl := (impl_eachSigns_1.zip_len h).1
  simp only [impl_eachSigns_1.okRow, Bool.and_eq_true, List.all_eq_true, decide_eq_true_eq] at h
  have h1 := h.1.2 (sums.getD j 0) (by rw [List.getD_eq_getElem?_getD, List.getElem?_eq_getElem (by omega)]; exact List.getElem_mem _)
  have h2 := h.2 (row.getD j 0) (by rw [List.getD_eq_getElem?_getD, List.getElem?_eq_getElem hj]; exact List.getElem_mem _)
  refine ⟨h1.1, h1.2, h2.1, h2.2, ?_⟩
  simp [List.getD_eq_getElem?_getD, List.getElem?_zipWith, List.getElem?_eq_getElem hj, List.getElem?_eq_getElem (show j < sums.length by omega)]
/-- The first j numbers of one row, the others of the other one. -/
def impl_eachSigns_1.mid (a b : List Int) (j : Nat) : List Int := a.take j ++ b.drop j
theorem impl_eachSigns_1.mid_len {a b : List Int} (h : a.length = b.length) (j : Nat) : (impl_eachSigns_1.mid a b j).length = b.length := by
  simp [impl_eachSigns_1.mid]; omega
theorem impl_eachSigns_1.mid_at {a b : List Int} (h : a.length = b.length) (j : Nat) (hj : j < b.length) : (impl_eachSigns_1.mid a b j).getD j 0 = b.getD j 0 := by
  simp only [impl_eachSigns_1.mid, List.getD_eq_getElem?_getD]
  rw [List.getElem?_append_right (by simp; omega)]
  simp only [List.length_take, List.getElem?_drop]
  rw [show j + (j - min j a.length) = j by omega]
theorem impl_eachSigns_1.mid_set {a b : List Int} (h : a.length = b.length) (j : Nat) (hj : j < b.length) : (impl_eachSigns_1.mid a b j).set j (a.getD j 0) = impl_eachSigns_1.mid a b (j + 1) := by
  refine List.ext_getElem (by rw [List.length_set, impl_eachSigns_1.mid_len h, impl_eachSigns_1.mid_len h]) fun i h1 h2 => ?_
  rw [List.length_set, impl_eachSigns_1.mid_len h] at h1
  simp only [impl_eachSigns_1.mid, List.getElem_set, List.getElem_append, List.length_take, List.getElem_take, List.getElem_drop]
  by_cases e : j = i
  · subst e
    rw [if_pos rfl, dif_pos (by omega), List.getD_eq_getElem?_getD, List.getElem?_eq_getElem (by omega)]; rfl
  · rw [if_neg e]
    by_cases e2 : i < j
    · rw [dif_pos (by omega), dif_pos (by omega)]
    · rw [dif_neg (by omega), dif_neg (by omega)]
      congr 1
      omega
theorem impl_eachSigns_1.mid_zero {a b : List Int} : impl_eachSigns_1.mid a b 0 = b := by simp [impl_eachSigns_1.mid]
theorem impl_eachSigns_1.mid_all {a b : List Int} {j : Nat} (h : a.length = b.length) (hj : j = b.length) : impl_eachSigns_1.mid a b j = a := by
  subst hj
  simp only [impl_eachSigns_1.mid]
  rw [← h]
  simp
  omega
theorem impl_eachSigns_1.calls {σ : Type} (p : σ → Tb_ → Option (σ × Bool)) (Inv : σ → World → (Nat → Prop) → Prop) (n : Int) (hn0 : 0 ≤ n) (hn1 : n ≤ 1000) (ge : Nat) (be : Array Value) (hf : FnS (Kd.slice 28 (Kd.slice 3 (Kd.int .i64))) Value.bool Try.prog ge be p Inv) (Ar : Option Addr) (cr : Nat) (rows : Tb_) (B1 B2 B3 B4 B5 T2 T5 gs : Nat) (k : Nat) :
    ∀ (sums : List Int) (m : Tb_) (A0 : Option Addr) (c0 : Nat) (s s' : σ) (b : Bool) (S : Nat → Prop) (w : World)
    (hF : impl_eachSigns_1.Fr n ge be Ar cr rows B1 B2 B3 B4 B5 T2 T5 gs S w sums) (hI : Inv s w S) (hm : Kd.V (Kd.slice 3 (Kd.int .i64)) 28 w 0 (fun k => ¬ S k ∧ k ≠ gs) (.slice A0 m.length c0) m) (h : impl_eachSigns_1.f k p n rows sums m s = some (s', b)),
    Calls Try.prog 35 (#[.slice A0 m.length c0] ++ #[.pointer (some ⟨B1, 0, none⟩), .pointer (some ⟨B2, 0, none⟩), .pointer (some ⟨B3, 0, none⟩), .pointer (some ⟨B4, 0, none⟩), .pointer (some ⟨B5, 0, none⟩)]) w fun e w' => e = .returned (.bool b) ∧ ∃ S', Inv s' w' S' ∧ Kp w w' S ∧ ∀ k, S' k → S k ∨ w.heap.size ≤ k := by
  have HFS := am_ hf
  have eg := hf.eg
  clear hf
  induction k using Nat.strongRecOn with
  | _ k ih =>
  intro sums m A0 c0 s s' b S w hF hI hm h
  cases k with
  | zero => exact absurd h (by simp [impl_eachSigns_1.f])
  | succ k =>
  simp only [impl_eachSigns_1.f] at h
  have HF := am_ hF
  have HI := am_ hI
  have HM := am_ hm
  have hz0 : m.length ≤ 9223372036854775807 := (Kd.V_reads' hm).2.2.2.1
  have hz1 : m.length ≤ c0 := (Kd.V_reads' hm).2.1
  clear hF hI hm
  have hc1 : w.cell? ⟨B1, 0, none⟩ = some (.int .i64 n) := (blk_cell HF.out.b1 0).trans rfl
  by_cases c1 : (m.length : Int) = n
  · rw [if_pos c1] at h
    have c1b : ((m.length : Int) == n) = true := beq_iff_eq.mpr c1
    clear c1
    have HP := am_ h
    clear h
    have hc2 : w.cell? ⟨B2, 0, none⟩ = some (.func (.func ge) #[] be) := (blk_cell HF.out.b2 0).trans rfl
    go_enter Try.func35, Try.ntmps35
    go_wp2_with (go_at_fn ge; (refine (HFS.out.cl s w S HI.out m _ (K_slice (Kd.V_reads' HM.out).2.1 (Kd.V_reads' HM.out).2.2) s' b HP.out).mono ?_); rintro e w2 ⟨rfl, q2⟩; have HQ := am_ q2; clear q2)
    go_ret
    exact ⟨rfl, HQ.out⟩
  · rw [if_neg c1] at h
    have c1b : ((m.length : Int) == n) = false := beq_eq_false_iff_ne.mpr c1
    clear c1
    by_cases c2 : m.length < 1000
    · rw [if_pos c2] at h
      have LM := am_ c2
      have HL := am_ h
      clear h c2
      have hc3 : w.cell? ⟨B3, 0, none⟩ = some (.slice Ar rows.length cr) := (blk_cell HF.out.b3 0).trans rfl
      go_enter Try.func35, Try.ntmps35
      go_wp2
      go_loopg [24] k (fun kq v24 w' => ∃ (i : Int) (s1 : σ) (S1 : Nat → Prop), v24 = .int .i64 i ∧ Aside0 (impl_eachSigns_1.l0 kq p n rows sums m s1 i = some (s', b)) ∧ Aside0 (kq ≤ k) ∧ Aside0 (impl_eachSigns_1.Fr n ge be Ar cr rows B1 B2 B3 B4 B5 T2 T5 gs S1 w' sums) ∧ Aside0 (Inv s1 w' S1) ∧ Aside0 (Kd.V (Kd.slice 3 (Kd.int .i64)) 28 w' 0 (fun k => ¬ S1 k ∧ k ≠ gs) (.slice A0 m.length c0) m) ∧ Aside0 (Kp w w' S) ∧ Aside0 (∀ k, S1 k → S k ∨ w.heap.size ≤ k))
      case atStart => exact ⟨0, s, S, rfl, HL, ⟨Nat.le_refl _⟩, HF, HI, HM, ⟨Kp.refl _ _⟩, ⟨fun _ h => .inl h⟩⟩
      case round =>
        clear HL HF HI HM hc1 hc3
        obtain ⟨wo, rfl⟩ : ∃ wo : World, wo = wr := ⟨_, rfl⟩
        obtain ⟨i, s1, S1, rfl, HL, HK, HF, HI, HVm, HKp, HS⟩ := hrel
        cases gk with
        | zero => exact absurd HL.out (by simp [impl_eachSigns_1.l0])
        | succ k1 =>
          have H := HL.out
          clear HL
          simp only [impl_eachSigns_1.l0] at H
          by_cases c3 : i < (rows.length : Int)
          · rw [if_pos c3] at H
            by_cases c4 : 0 ≤ i
            case neg => rw [if_neg c4] at H; exact absurd H (by simp)
            rw [if_pos c4] at H
            obtain ⟨t, hT, H⟩ := Option.bind_eq_some_iff.mp H
            obtain ⟨ad, Aw, cw, eA, hxw, hVw⟩ := V_row (b' := 0) HF.out.vr i c4 c3
            obtain ⟨row, hrow⟩ : ∃ row : List Int, rows.getD i.toNat [] = row := ⟨_, rfl⟩
            rw [hrow] at hT H hxw hVw
            clear hrow
            subst eA
            have HVw := am_ hVw
            have HT := am_ hT
            have hz4 : rows.length ≤ 9223372036854775807 := (Kd.V_reads' HF.out.vr).2.2.2.1
            have hz3 : row.length ≤ 9223372036854775807 := (Kd.V_reads' hVw).2.2.2.1
            clear hVw hT
            have hb1 : wo.cell? ⟨B1, 0, none⟩ = some (.int .i64 n) := (blk_cell HF.out.b1 0).trans rfl
            have hb4 : wo.cell? ⟨B4, 0, none⟩ = some (.slice (some ⟨gs, 0, none⟩) sums.length sums.length) := (blk_cell HF.out.b4 0).trans rfl
            have hd3 : decide (i < (rows.length : Int)) = true := decide_eq_true c3
            have hd4 : decide (0 ≤ i) = true := decide_eq_true c4
            have HSZ := am_ (show sums.length ≤ 9223372036854775807 from HF.out.sz)
            cases t with
            | false =>
              rw [if_neg (by simp)] at H
              have HL4 := am_ H
              clear H
              go_wp2_with (go_at_call 36; (refine (impl_fitsSums.calls k1 _ _ sums _ _ row ((m.length : Int) == n - 1) false _ (C_nums HF.out.bs HSZ.out) (Nat.le_refl _) (Kd.V_reads' HVw.out).2.2 (Kd.V_reads' HVw.out).2.1 HT.out).mono ?_); rintro e w' ⟨rfl, ⟨nd, rfl⟩⟩)
              go_roundg k1
              case measure => have := HK.out; omega
              case rel => exact ⟨i + 1, s1, S1, by go_num, HL4, ⟨by have := HK.out; omega⟩, ⟨HF.out.below (pw_below_drewN (Below.refl _ _) _)⟩, ⟨HFS.out.st _ _ _ _ HI.out ((pw_below_drewN (Below.refl wo.heap.size wo) _).mono (Nat.zero_le _)) (fun _ _ => rfl)⟩, ⟨Kd.V_drewN HVm.out _⟩, ⟨HKp.out.drewN _⟩, HS⟩
            | true =>
              rw [if_pos rfl] at H
              by_cases c5 : impl_eachSigns_1.okRow sums row = true
              case neg => rw [if_neg c5] at H; exact absurd H (by simp)
              rw [if_pos c5] at H
              obtain ⟨q, hq, H⟩ := Option.bind_eq_some_iff.mp H
              have HO := am_ c5
              obtain ⟨sums2, he2⟩ : ∃ x : List Int, List.zipWith (· + ·) sums row = x := ⟨_, rfl⟩
              rw [he2] at hq
              have HZ := am_ (impl_eachSigns_1.zip_len c5)
              rw [he2] at HZ
              have HE2 := am_ he2
              have HQ := am_ hq
              clear c5 he2 hq
              go_wp2_with (go_at_call 36; (refine (impl_fitsSums.calls k1 _ _ sums _ _ row ((m.length : Int) == n - 1) true _ (C_nums HF.out.bs HSZ.out) (Nat.le_refl _) (Kd.V_reads' HVw.out).2.2 (Kd.V_reads' HVw.out).2.1 HT.out).mono ?_); rintro e w' ⟨rfl, ⟨nd, rfl⟩⟩)
              replace HF := am_ (HF.out.below (pw_below_drewN (Below.refl _ _) nd))
              replace HI := am_ (HFS.out.st _ _ _ (wo.drewN nd) HI.out ((pw_below_drewN (Below.refl wo.heap.size wo) nd).mono (Nat.zero_le _)) (fun _ _ => rfl))
              replace HVm := am_ (Kd.V_drewN HVm.out nd)
              replace HVw := am_ (Kd.V_drewN HVw.out nd)
              replace HKp := am_ (HKp.out.drewN nd)
              clear hb1 hb4 hxw
              generalize wo.drewN nd = wo2 at *
              go_loopg [39] row.length (fun gj v39 w' => ∃ j : Nat, v39 = .int .i64 (j : Int) ∧ Aside0 (j + gj = row.length) ∧ Aside0 (impl_eachSigns_1.Fr n ge be (some ad) cr rows B1 B2 B3 B4 B5 T2 T5 gs S1 w' (impl_eachSigns_1.mid sums2 sums j)) ∧ Aside0 (Kd.V (Kd.slice 3 (Kd.int .i64)) 28 w' 0 (fun k => ¬ S1 k ∧ k ≠ gs) (.slice A0 m.length c0) m) ∧ Aside0 (Kd.V (Kd.int .i64) 3 w' 0 (fun k => ¬ S1 k ∧ k ≠ gs) (.slice Aw row.length cw) row) ∧ Aside0 (Kp wo2 w' (fun k => k = gs)))
              case atStart => exact ⟨0, rfl, ⟨by omega⟩, ⟨by rw [impl_eachSigns_1.mid_zero]; exact HF.out⟩, HVm, HVw, ⟨Kp.refl _ _⟩⟩
              case round =>
                obtain ⟨w39, rfl⟩ : ∃ w_ : World, w_ = wr := ⟨_, rfl⟩
                obtain ⟨j, rfl, HJ, HFj, HVmj, HVwj, HKj⟩ := hrel
                have HLb := am_ (impl_eachSigns_1.mid_len (a := sums2) (b := sums) (HZ.out.2.trans HZ.out.1.symm) j)
                by_cases hj : j < row.length
                · obtain ⟨g1, rfl⟩ : ∃ g1, gk = g1 + 1 := ⟨gk - 1, by have := HJ.out; omega⟩
                  obtain ⟨adw, eAw, hcw⟩ := Kd.at_int (Kd.V_reads' HVwj.out).2.2 (j : Int) (by omega) (by omega)
                  subst eAw
                  obtain ⟨o1, o2, o3, o4, o5⟩ := impl_eachSigns_1.ok_at HO.out j hj
                  have hcs : w39.cell? ⟨gs, j, none⟩ = some (.int .i64 (sums.getD j 0)) := by
                    rw [blk_cell HFj.out.bs j]
                    have := impl_eachSigns_1.mid_at (a := sums2) (b := sums) (HZ.out.2.trans HZ.out.1.symm) j (by have := HZ.out; omega)
                    rw [← this]
                    have hlt : j < (impl_eachSigns_1.mid sums2 sums j).length := by have := HLb.out; have := HZ.out; omega
                    simp [nums, List.getElem?_eq_getElem hlt]
                  have hfs := blk_frozen HFj.out.bs j
                  have hb4 : w39.cell? ⟨B4, 0, none⟩ = some (.slice (some ⟨gs, 0, none⟩) row.length row.length) := by
                    rw [(blk_cell HFj.out.b4 0).trans rfl, HLb.out, HZ.out.1]; rfl
                  rw [show rd row (j : Int) = row.getD j 0 from rfl] at hcw
                  rw [Int.toNat_natCast] at hcw
                  have HST := am_ (impl_eachSigns_1.Fr.store HFj.out j (sums2.getD j 0))
                  have HMS := am_ (impl_eachSigns_1.mid_set (a := sums2) (b := sums) (HZ.out.2.trans HZ.out.1.symm) j (by have := HZ.out; omega))
                  have HVE := am_ (show sums2.getD j 0 = sums.getD j 0 + row.getD j 0 by rw [← HE2.out] at *; omega)
                  have hd1 : decide ((j : Int) < (row.length : Int)) = true := decide_eq_true (by omega)
                  have hd2 : decide (j < row.length) = true := decide_eq_true hj
                  rw [HE2.out] at o5
                  have o6 : -1 ≤ sums2.getD j 0 := by omega
                  have o7 : sums2.getD j 0 ≤ 2 := by omega
                  clear o5
                  generalize sums.getD j 0 = x at *
                  generalize row.getD j 0 = y at *
                  go_wp2
                  go_roundg g1
                  case measure => omega
                  case rel =>
                    refine ⟨j + 1, by go_num, ⟨by have := HJ.out; omega⟩, ⟨?_⟩, ⟨Kd.V_far HVmj.out (fun _ hk => hk.2) _⟩, ⟨Kd.V_far HVwj.out (fun _ hk => hk.2) _⟩, ⟨Kp.setCell HKj.out (.inl rfl) _⟩⟩
                    have := HST.out
                    rw [HMS.out] at this
                    rwa [HVE.out] at this
                · have ej : j = row.length := by have := HJ.out; omega
                  subst ej
                  have hd1 : decide ((row.length : Int) < (row.length : Int)) = false := decide_eq_false (by omega)
                  have hd2 : decide (row.length < row.length) = false := decide_eq_false (by omega)
                  have HFe := am_ HFj.out
                  rw [impl_eachSigns_1.mid_all (HZ.out.2.trans HZ.out.1.symm) (HZ.out.1.symm)] at HFe
                  clear HFj HJ HLb hj
                  have HF3 := am_ (HFe.out.below (below_drew (Below.refl _ _)))
                  have HVm := am_ (Kd.V_drew HVmj.out)
                  have HVw := am_ (Kd.V_drew HVwj.out)
                  have HKp3 := am_ (HKj.out.drew)
                  have HI3 := am_ (HFS.out.st _ _ _ _ HI.out HKp3.out.2 (fun k hk => HKp3.out.at k (HFS.out.bd _ _ _ HI.out k hk) (fun e => HF.out.ss (e ▸ hk))))
                  have HC5 := am_ ((blk_cell HF3.out.b5 0).trans rfl : w39.drew.cell? ⟨B5, 0, none⟩ = some (.func (.func 35) #[] #[.pointer (some ⟨B1, 0, none⟩), .pointer (some ⟨B2, 0, none⟩), .pointer (some ⟨B3, 0, none⟩), .pointer (some ⟨B4, 0, none⟩), .pointer (some ⟨B5, 0, none⟩)]))
                  clear HVmj HVwj HKj HFe
                  go_wp2_with fail
                  refine start_ (n := 12) (S := fun w' => w'.cell? ⟨B5, 0, none⟩ = some (.func (.func 35) #[] #[.pointer (some ⟨B1, 0, none⟩), .pointer (some ⟨B2, 0, none⟩), .pointer (some ⟨B3, 0, none⟩), .pointer (some ⟨B4, 0, none⟩), .pointer (some ⟨B5, 0, none⟩)])) (ds := []) #[F_, F_, F_, F_, F_, F_, F_, F_, F_, F_, F_, F_] (by kernel_rfl) rfl rfl (HC5.out) (fun hHeld => ?_)
                  generalize hW_ : w39.drew = W at HF3 HVm HVw HI3 HKp3 HC5 hHeld ⊢
                  clear hW_
                  refine pure_ (i := 1) (N := some 53) #[F_, T_, F_, F_, F_, F_, F_, F_, F_, F_, F_, F_] rfl rfl ak_ hq_ yi_ nm_ ?_
                  refine pure_ (i := 2) (N := some 54) #[F_, T_, T_, F_, F_, F_, F_, F_, F_, F_, F_, F_] rfl rfl ak_ hq_ yi_ nm_ ?_
                  refine pure_ (i := 3) (N := some 55) #[F_, T_, T_, T_, F_, F_, F_, F_, F_, F_, F_, F_] rfl rfl ak_ hq_ yi_ nm_ ?_
                  refine pure_ (i := 4) (N := some 56) #[F_, T_, T_, T_, T_, F_, F_, F_, F_, F_, F_, F_] rfl rfl ak_ hq_ yi_ nm_ ?_
                  refine pure_ (i := 5) (N := some 57) #[F_, T_, T_, T_, T_, T_, F_, F_, F_, F_, F_, F_] rfl rfl ak_ hq_ yi_ nm_ ?_
                  refine pure_ (i := 6) (N := some 58) #[F_, T_, T_, T_, T_, T_, T_, F_, F_, F_, F_, F_] rfl rfl ak_ hq_ yi_ nm_ ?_
                  refine pure_ (i := 7) (N := some 59) #[F_, T_, T_, T_, T_, T_, T_, T_, F_, F_, F_, F_] rfl rfl ak_ hq_ yi_ nm_ ?_
                  refine take_ (i := 0) (N := some 52) #[T_, T_, T_, T_, T_, T_, T_, T_, F_, F_, F_, F_] rfl rfl ak_ hq_ yj1_ hHeld nm_ ?_
                  refine one_ (i := 8) (N := some 60) #[T_, T_, T_, T_, T_, T_, T_, T_, T_, F_, F_, F_] rfl rfl (by kernel_rfl) (by decide) (fun K hK => ?_)
                  refine value_ (w1 := ?_) (v := ?_) (by rfl) rfl ?_ ?_
                  rotate_left 2
                  · go_simp
                    constructor
                    · rfl
                    · rfl
                  refine hK.out _ _ (cell_of_below (below_alloc (Below.refl _ _) _) HC5.out) (fun hHeld => ?_)
                  clear hK K
                  refine norm_ (a' := ?_) ?_ ?_
                  rotate_left
                  · show Act.put _ (some 60) _ = _
                    simp only [Act.put, List.setIfInBounds_toArray, List.set_cons_zero, List.set_cons_succ, i64_w, i32_w]
                    rfl
                  refine one_ (i := 9) (N := some 61) #[T_, T_, T_, T_, T_, T_, T_, T_, T_, T_, F_, F_] rfl rfl (by kernel_rfl) (by decide) (fun K hK => ?_)
                  refine V_push_step (d := Kd.slice 3 (Kd.int .i64)) (e := 28) (ok := fun k => ¬ S1 k ∧ k ≠ gs) rfl (.tmp 58) (.tmp 60) 25 rfl (.slice none 0 0) 24 Try.underlying25 info28 rfl rfl (xs := m) (y := row) (ad := ⟨W.heap.size, 0, none⟩) rfl (Kd.F_alloc (Kd.V_F HVm.out) _) rfl (Kd.FK_below (Kd.FK_slice_mk (Kd.V_reads' HVw.out).2.1 (Kd.V_F HVw.out)) (below_alloc (Below.refl _ _) _)) ((blk_cell (blk_new W _) 0).trans rfl) (by have := LM.out; omega) (by have := LM.out; omega) ?_
                  intro v61 w9 hN9 hb9
                  have HB9 := am_ (below_step (below_alloc (Below.refl _ _) _) hb9)
                  have HN9 := am_ hN9
                  clear hN9 hb9
                  obtain ⟨A61, c61, e61⟩ := Kd.N_slice HN9.out
                  subst e61
                  refine hK.out _ _ (cell_of_below HB9.out HC5.out) (fun hHeld => ?_)
                  clear hK K
                  refine norm_ (a' := ?_) ?_ ?_
                  rotate_left
                  · show Act.put _ (some 61) _ = _
                    simp only [Act.put, List.setIfInBounds_toArray, List.set_cons_zero, List.set_cons_succ, i64_w, i32_w]
                    rfl
                  refine one_ (i := 10) (N := some 62) #[T_, T_, T_, T_, T_, T_, T_, T_, T_, T_, T_, F_] rfl rfl (by kernel_rfl) (by decide) (fun K hK => ?_)
                  refine goesF_ (enters_of Try.func35 (by kernel_rfl) rfl) #[.slice A61 (m ++ [row]).length c61] (by rfl) rfl rfl (by first | rfl | (simp [Act.eval]; done)) tc30_ ?_
                  refine (ih k1 (by have := HK.out; omega) (sums2) (m ++ [row]) A61 c61 s1 q.1 q.2 S1 w9 (HF3.out.below HB9.out) (HFS.out.st _ _ _ _ HI3.out (HB9.out.mono (Nat.zero_le _)) (fun k hk => HB9.out.block k (HFS.out.bd _ _ _ HI3.out k hk))) (Kd.V_mono (Kd.N_V HN9.out) (fun k hk => hk.elim (fun h => h) (fun h => ⟨fun hs => by have := HFS.out.bd _ _ _ HI3.out k hs; simp at h; omega, fun e => by have := blk_lt HF3.out.bs; simp at h; omega⟩))) HQ.out).mono ?_
                  rintro e w10 ⟨rfl, S2, hI10, hK10, hS10⟩
                  refine ⟨_, rfl, ?_⟩
                  have HI10 := am_ hI10
                  have HK10 := am_ hK10
                  have HS10 := am_ hS10
                  clear hI10 hK10 hS10
                  have HF10 := am_ ((HF3.out.below HB9.out).kept HK10.out HS10.out)
                  refine hK.out _ _ ((blk_cell HF10.out.b5 0).trans rfl) (fun hHeld => ?_)
                  clear hK K
                  refine norm_ (a' := ?_) ?_ ?_
                  rotate_left
                  · show Act.put _ (some 62) _ = _
                    simp only [Act.put, List.setIfInBounds_toArray, List.set_cons_zero, List.set_cons_succ, i64_w, i32_w]
                    rfl
                  refine pure_ (i := 11) (N := some 12) #[T_, T_, T_, T_, T_, T_, T_, T_, T_, T_, T_, T_] rfl rfl ak_ hq_ yi_ nm_ ?_
                  refine done_ (by kernel_rfl) ?_
                  have HKr := am_ ((HKp3.out.mono (S' := fun k => S1 k ∨ k = gs) (fun k h => .inr h)).below HB9.out |>.then_ HK10.out (fun k h => .inl (.inl h)))
                  have HW9 := am_ (Nat.le_trans HKp3.out.sz (below_size HB9.out))
                  have HVm3 := am_ (V_kept_to (Kd.V_below HVm.out HB9.out) HK10.out HS10.out)
                  have HVw3 := am_ (V_kept_to (Kd.V_below HVw.out HB9.out) HK10.out HS10.out)
                  clear HVm HVw HKp3 HI3 HC5 HF3 HN9 HB9 HK10
                  go_wp2
                  go_loopg [65] row.length (fun gj v65 w' => ∃ j : Nat, v65 = .int .i64 (j : Int) ∧ Aside0 (j + gj = row.length) ∧ Aside0 (impl_eachSigns_1.Fr n ge be (some ad) cr rows B1 B2 B3 B4 B5 T2 T5 gs S2 w' (impl_eachSigns_1.mid sums sums2 j)) ∧ Aside0 (Kd.V (Kd.slice 3 (Kd.int .i64)) 28 w' 0 (fun k => ¬ S2 k ∧ k ≠ gs) (.slice A0 m.length c0) m) ∧ Aside0 (Kd.V (Kd.int .i64) 3 w' 0 (fun k => ¬ S2 k ∧ k ≠ gs) (.slice Aw row.length cw) row) ∧ Aside0 (Kp w10 w' (fun k => k = gs)))
                  case atStart => exact ⟨0, rfl, ⟨by omega⟩, ⟨by rw [impl_eachSigns_1.mid_zero]; exact HF10.out⟩, HVm3, HVw3, ⟨Kp.refl _ _⟩⟩
                  case round =>
                    obtain ⟨w65, rfl⟩ : ∃ w_ : World, w_ = wr := ⟨_, rfl⟩
                    obtain ⟨j, rfl, HJ, HFj, HVmj, HVwj, HKj⟩ := hrel
                    have HLb := am_ (impl_eachSigns_1.mid_len (a := sums) (b := sums2) (HZ.out.1.trans HZ.out.2.symm) j)
                    by_cases hj : j < row.length
                    · obtain ⟨g1, rfl⟩ : ∃ g1, gk = g1 + 1 := ⟨gk - 1, by have := HJ.out; omega⟩
                      obtain ⟨adw, eAw, hcw⟩ := Kd.at_int (Kd.V_reads' HVwj.out).2.2 (j : Int) (by omega) (by omega)
                      subst eAw
                      obtain ⟨o1, o2, o3, o4, o5⟩ := impl_eachSigns_1.ok_at HO.out j hj
                      have hcs : w65.cell? ⟨gs, j, none⟩ = some (.int .i64 (sums2.getD j 0)) := by
                        rw [blk_cell HFj.out.bs j]
                        have := impl_eachSigns_1.mid_at (a := sums) (b := sums2) (HZ.out.1.trans HZ.out.2.symm) j (by have := HZ.out; omega)
                        rw [← this]
                        have hlt : j < (impl_eachSigns_1.mid sums sums2 j).length := by have := HLb.out; have := HZ.out; omega
                        simp [nums, List.getElem?_eq_getElem hlt]
                      have hfs := blk_frozen HFj.out.bs j
                      have hb4 : w65.cell? ⟨B4, 0, none⟩ = some (.slice (some ⟨gs, 0, none⟩) row.length row.length) := by
                        rw [(blk_cell HFj.out.b4 0).trans rfl, HLb.out, HZ.out.2]; rfl
                      rw [show rd row (j : Int) = row.getD j 0 from rfl] at hcw
                      rw [Int.toNat_natCast] at hcw
                      have HST := am_ (impl_eachSigns_1.Fr.store HFj.out j (sums.getD j 0))
                      have HMS := am_ (impl_eachSigns_1.mid_set (a := sums) (b := sums2) (HZ.out.1.trans HZ.out.2.symm) j (by have := HZ.out; omega))
                      have HVE := am_ (show sums.getD j 0 = sums2.getD j 0 - row.getD j 0 by rw [← HE2.out] at *; omega)
                      have hd1 : decide ((j : Int) < (row.length : Int)) = true := decide_eq_true (by omega)
                      have hd2 : decide (j < row.length) = true := decide_eq_true hj
                      rw [HE2.out] at o5
                      have o6 : -1 ≤ sums2.getD j 0 := by omega
                      have o7 : sums2.getD j 0 ≤ 2 := by omega
                      clear o5
                      generalize sums2.getD j 0 = x at *
                      generalize row.getD j 0 = y at *
                      go_wp2
                      go_roundg g1
                      case measure => omega
                      case rel =>
                        refine ⟨j + 1, by go_num, ⟨by have := HJ.out; omega⟩, ⟨?_⟩, ⟨Kd.V_far HVmj.out (fun _ hk => hk.2) _⟩, ⟨Kd.V_far HVwj.out (fun _ hk => hk.2) _⟩, ⟨Kp.setCell HKj.out (.inl rfl) _⟩⟩
                        have := HST.out
                        rw [HMS.out] at this
                        rwa [HVE.out] at this
                    · have ej : j = row.length := by have := HJ.out; omega
                      subst ej
                      have hd1 : decide ((row.length : Int) < (row.length : Int)) = false := decide_eq_false (by omega)
                      have hd2 : decide (row.length < row.length) = false := decide_eq_false (by omega)
                      have HFe := am_ HFj.out
                      rw [impl_eachSigns_1.mid_all (HZ.out.1.trans HZ.out.2.symm) (HZ.out.2.symm)] at HFe
                      clear HFj HJ HLb hj
                      have HB3 := am_ (Kp.back ((HKr.out.then_ (S2 := fun k => k = gs) HKj.out (fun k h => .inl (.inr h)))) HF.out.bs HFe.out.bs)
                      have HKp4 := am_ (HKp.out.then_ HB3.out HS.out)
                      have HS4 := am_ (show ∀ k, S2 k → S k ∨ w.heap.size ≤ k from fun k h => (HS10.out k h).elim (fun h => HS.out k h) (fun h => .inr (Nat.le_trans HKp.out.sz (Nat.le_trans HW9.out h))))
                      have HI4 := am_ (HFS.out.st _ _ _ _ HI10.out HKj.out.2 (fun k hk => HKj.out.at k (HFS.out.bd _ _ _ HI10.out k hk) (fun e => HF10.out.ss (e ▸ hk))))
                      by_cases cq : q.2 = true
                      · rw [if_pos cq] at H
                        have HL4 := am_ H
                        clear H
                        rw [cq]
                        go_wp2
                        go_roundg k1
                        case measure => have := HK.out; omega
                        case rel => exact ⟨i + 1, q.1, S2, by go_num, HL4, ⟨by have := HK.out; omega⟩, HFe, HI4, HVmj, HKp4, HS4⟩
                      · rw [if_neg cq] at H
                        have e1 := Prod.mk.inj (Option.some.inj H)
                        have cq2 : q.2 = false := by simpa using cq
                        obtain ⟨e1, e2⟩ := e1
                        subst e2
                        clear H cq
                        rw [cq2]
                        go_wp2
                        go_ret
                        exact ⟨rfl, S2, e1 ▸ HI4.out, HKp4.out, HS4.out⟩
          · rw [if_neg c3] at H
            have hd3 : decide (i < (rows.length : Int)) = false := decide_eq_false c3
            have e1 := Prod.mk.inj (Option.some.inj H)
            obtain ⟨e1, e2⟩ := e1
            subst e2
            clear H
            go_wp2
            go_ret
            exact ⟨rfl, S1, e1 ▸ HI.out, HKp.out, HS.out⟩
    · rw [if_neg c2] at h
      exact absurd h (by simp)

/-! ### impl_eachSigns: function 20 (by hand) -/
def impl_eachSigns.f {σ : Type} (k : Nat) (a0 : Int) (p : σ → Tb_ → Option (σ × Bool)) (s : σ) : Option σ :=
  if 0 ≤ a0 then (if a0 ≤ 1000 then ((impl_signRows.f k a0).bind fun rows => (impl_eachSigns_1.f k p a0 rows (List.replicate a0.toNat 0) [] s).bind fun q => some q.1) else none) else none
def impl_eachSigns.T1 : Bool × List (List Nat × List Nat) := (true, [([], []), ([0], [0]), ([], []), ([2, 2], [2]), ([], []), ([], []), ([4, 1, 1, 0, 1, 4, 5], [1, 4]), ([5, 3, 6, 0, 1, 2, 3, 4, 5, 6], [3, 5])])
def impl_eachSigns.B1 : List Nat := [0, 1, 0, 4, 0, 0, 51, 127]
theorem impl_eachSigns.tab1 : rtab .any (opsOf Try.f20 1) = impl_eachSigns.T1 := by kernel_rfl
theorem impl_eachSigns.bits1 : waitsOk impl_eachSigns.T1.2 impl_eachSigns.B1 = true := by kernel_rfl
theorem impl_eachSigns.calls {σ : Type} (k : Nat) (a0 : Int) (ge : Nat) (be : Array Value) (p : σ → Tb_ → Option (σ × Bool)) (Inv : σ → World → (Nat → Prop) → Prop) (hf : FnS (Kd.slice 28 (Kd.slice 3 (Kd.int .i64))) Value.bool Try.prog ge be p Inv)
    (s s' : σ) (S : Nat → Prop) (w : World) (hI : Inv s w S) (h : impl_eachSigns.f k a0 p s = some s') :
    Calls Try.prog 20 #[.int .i64 a0, .func (.func ge) #[] be] w fun e w' => e = .returned (.tuple #[]) ∧ ∃ S', Inv s' w' S' ∧ Kp w w' S ∧ ∀ k, S' k → S k ∨ w.heap.size ≤ k := by
  unfold impl_eachSigns.f at h
  by_cases c1 : 0 ≤ a0
  · rw [if_pos c1] at h
    by_cases c2 : a0 ≤ 1000
    · rw [if_pos c2] at h
      obtain ⟨rows, h1, h⟩ := Option.bind_eq_some_iff.mp h
      obtain ⟨q, h2, h⟩ := Option.bind_eq_some_iff.mp h
      obtain rfl := Option.some.inj h
      have HFS := am_ hf
      have HI := am_ hI
      have HR := am_ h1
      have HQ := am_ h2
      clear hf hI h1 h2 h
      go_enter Try.func20, Try.ntmps20
      go_wp2
      obtain ⟨B1, hB1⟩ : ∃ B1, B1 = w.heap.size := ⟨_, rfl⟩
      obtain ⟨B2, hB2⟩ : ∃ B2, B2 = B1 + 1 := ⟨_, rfl⟩
      have HA0 := am_ c1
      have HA1 := am_ c2
      have HB1 := am_ (show (((w.alloc (Obj.cells #[Value.int IntKind.i64 a0] 3)).alloc (Obj.cells #[Value.func (Fn.func ge) #[] be] 40)).drew).heap[B1]? = some (.cells #[.int .i64 a0] 3 (0, 0)) from blk_drew (blk_alloc (blk_new' hB1.symm) _))
      have HB2 := am_ (show (((w.alloc (Obj.cells #[Value.int IntKind.i64 a0] 3)).alloc (Obj.cells #[Value.func (Fn.func ge) #[] be] 40)).drew).heap[B2]? = some (.cells #[.func (.func ge) #[] be] 40 (0, 0)) from blk_drew (blk_new' (by simp; omega)))
      have HC1 := am_ ((blk_cell HB1.out 0).trans rfl : (((w.alloc (Obj.cells #[Value.int IntKind.i64 a0] 3)).alloc (Obj.cells #[Value.func (Fn.func ge) #[] be] 40)).drew).cell? ⟨B1, 0, none⟩ = some (.int .i64 a0))
      have HBW := am_ (show Below w.heap.size w (((w.alloc (Obj.cells #[Value.int IntKind.i64 a0] 3)).alloc (Obj.cells #[Value.func (Fn.func ge) #[] be] 40)).drew) from below_drew1 (below_alloc (below_alloc (Below.refl _ _) _) _))
      have HP0 := am_ (show 0 < (((w.alloc (Obj.cells #[Value.int IntKind.i64 a0] 3)).alloc (Obj.cells #[Value.func (Fn.func ge) #[] be] 40)).drew).heap.size from Nat.lt_of_le_of_lt (Nat.zero_le _) (blk_lt HB1.out))
      rw [← hB1]
      rw [← hB2]
      have EB1 := am_ hB1
      have EB2 := am_ hB2
      clear hB1 hB2
      refine start_ (n := 8) (S := fun w' => True) (ds := []) #[F_, F_, F_, F_, F_, F_, F_, F_] (by kernel_rfl) rfl rfl trivial (fun hHeld => ?_)
      refine with_tabW impl_eachSigns.tab1 impl_eachSigns.bits1 (fun HT_ HW_ => ?_)
      generalize hW_ : World.drew _ = W at HB1 HB2 HBW HC1 HP0 ⊢
      clear hW_
      have FB := (show Below W.heap.size W W ∧ 0 < W.heap.size ∧ 0 < W.heap.size from ⟨Below.refl _ _, HP0.out, HP0.out⟩)
      refine inv_at [0, 1, 2, 3, 4, 5, 6, 7] (fun a0_ b a w' => ∃ (v8 : Value) (g10 : Nat) (g4 : Nat) (g5 : Nat) (m3_ : Value) (m4_ : Value) (m5_ : Value), a = putSel a0_ b [(0, 7, .int .i64 a0), (1, 8, v8), (2, 9, .int .i64 a0), (3, 10, m3_), (4, 4, m4_), (5, 5, m5_)] ∧ (Below W.heap.size W w' ∧ g10 < w'.heap.size ∧ g5 < w'.heap.size) ∧ (b 1 = true → Kd.R (Kd.slice 3 (Kd.int .i64)) 28 w' W.heap.size (fun k => k ≠ g10 ∧ k ≠ g5) v8 rows) ∧ (b 3 = true → w'.heap[g10]? = some (.cells (nums .i64 (List.replicate a0.toNat 0)).toArray 3 (0, 0)) ∧ W.heap.size ≤ g10) ∧ (b 4 = true → b 6 = false → w'.heap[g4]? = some (.cells #[.slice none 0 0] 25 (0, 0)) ∧ W.heap.size ≤ g4) ∧ (b 6 = true → w'.heap[g4]? = some (.cells #[v8] 25 (0, 0)) ∧ W.heap.size ≤ g4) ∧ (b 5 = true → b 7 = false → w'.heap[g5]? = some (.cells #[.slice none 0 0] 28 (0, 0)) ∧ W.heap.size ≤ g5) ∧ (b 7 = true → w'.heap[g5]? = some (.cells #[.slice (some ⟨g10, 0, none⟩) a0.toNat a0.toNat] 28 (0, 0)) ∧ W.heap.size ≤ g5) ∧ (b 3 = true → (m3_ : Value) = .slice (some ⟨g10, 0, none⟩) a0.toNat a0.toNat) ∧ (b 4 = true → (m4_ : Value) = .pointer (some ⟨g4, 0, none⟩)) ∧ (b 5 = true → (m5_ : Value) = .pointer (some ⟨g5, 0, none⟩))) HT_.out HW_.out (by kernel_rfl) (by kernel_rfl) ?_ ?_ ?_
      · exact ⟨.bool false, 0, 0, 0, .bool false, .bool false, .bool false, by simp only [putSel, Bool.false_eq_true, if_false], FB, fun h_ => absurd h_ (by decide), fun h_ => absurd h_ (by decide), fun h_ => absurd h_ (by decide), fun h_ => absurd h_ (by decide), fun h_ => absurd h_ (by decide), fun h_ => absurd h_ (by decide), fun h_ => absurd h_ (by decide), fun h_ => absurd h_ (by decide), fun h_ => absurd h_ (by decide)⟩
      · skip
        clear FB
        refine steps_cons ?_ ?_
        · rintro b a w' ⟨v8, g10, g4, g5, m3_, m4_, m5_, ha, Q_FB, Q_FR, Q_FS, Q_F4, Q_G4, Q_F5, Q_G5, Q_X3_, Q_X4_, Q_X5_⟩ hb_ hon hoff
          refine ⟨_, rfl, fun K hK => ?_⟩
          have e2 : a.tmps[2]? = some (.pointer (some ⟨B1, 0, none⟩)) := by rw [ha]; exact (putSel_off rfl).trans rfl
          replace ha := am_ ha
          have FB := am_ Q_FB
          have hc_ : w'.cell? ⟨B1, 0, none⟩ = some (.int .i64 a0) := cell_of_below FB.out.1 HC1.out
          refine value_ (w1 := w') (v := .int .i64 a0) (by rfl) rfl ?_ ?_
          · go_simp
            (try simp only [i64_w])
            try rfl
          refine hK.out _ _ ⟨v8, g10, g4, g5, m3_, m4_, m5_, (by rw [ha.out]; exact putSel_upk 0 hb_ rfl rfl rfl), Q_FB, fun h0_ => absurd ((hoff 1 (by kernel_rfl)).symm.trans h0_) (by decide), Q_FS, Q_F4, fun h0_ => absurd ((hoff 6 (by kernel_rfl)).symm.trans h0_) (by decide), Q_F5, fun h0_ => absurd ((hoff 7 (by kernel_rfl)).symm.trans h0_) (by decide), Q_X3_, Q_X4_, Q_X5_⟩
        refine steps_cons ?_ ?_
        · rintro b a w' ⟨v8, g10, g4, g5, m3_, m4_, m5_, ha, Q_FB, Q_FR, Q_FS, Q_F4, Q_G4, Q_F5, Q_G5, Q_X3_, Q_X4_, Q_X5_⟩ hb_ hon hoff
          refine ⟨_, rfl, fun K hK => ?_⟩
          have e7 : a.tmps[7]? = some (.int .i64 a0) := by rw [ha]; exact putSel_on (e := (0, 7, .int .i64 a0)) 0 rfl rfl (hon 0 (by kernel_rfl)) rfl
          replace ha := am_ ha
          have FB := am_ Q_FB
          refine goes_ Try.func34 (by kernel_rfl) rfl #[.int .i64 a0] (by rfl) rfl rfl (by first | (simp only [List.map_toArray, List.map_cons, List.map_nil, Act.eval, Array.getD_eq_getD_getElem?, Option.getD_some, e7]; done) | (simp only [List.map_toArray, List.map_cons, List.map_nil, Act.eval, Array.getD_eq_getD_getElem?, Option.getD_some, e7]; rfl)) ?_
          refine (impl_signRows.calls k a0 rows w' HR.out).mono ?_
          rintro e w3 ⟨v3, rfl, ho, hb⟩
          refine ⟨_, rfl, ?_⟩
          have hsz := below_size hb
          refine hK.out _ _ ⟨v3, g10, g4, g5, m3_, m4_, m5_, (by rw [ha.out]; exact putSel_upk 1 hb_ rfl rfl rfl), ⟨below_step FB.out.1 hb, Nat.lt_of_lt_of_le FB.out.2.1 hsz, Nat.lt_of_lt_of_le FB.out.2.2 hsz⟩, fun _ => Kd.R_lower (Kd.R_mono (Kd.R_bound ho) (fun k hk => ⟨by have := hk.2.1; have := FB.out.2; omega, by have := hk.2.1; have := FB.out.2; omega⟩)) (below_size FB.out.1), fun h0_ => ⟨blk_below (Q_FS h0_).1 hb, (Q_FS h0_).2⟩, fun h0_ h1_ => ⟨blk_below (Q_F4 h0_ h1_).1 hb, (Q_F4 h0_ h1_).2⟩, fun h0_ => absurd ((hoff 6 (by kernel_rfl)).symm.trans h0_) (by decide), fun h0_ h1_ => ⟨blk_below (Q_F5 h0_ h1_).1 hb, (Q_F5 h0_ h1_).2⟩, fun h0_ => absurd ((hoff 7 (by kernel_rfl)).symm.trans h0_) (by decide), Q_X3_, Q_X4_, Q_X5_⟩
        refine steps_cons ?_ ?_
        · rintro b a w' ⟨v8, g10, g4, g5, m3_, m4_, m5_, ha, Q_FB, Q_FR, Q_FS, Q_F4, Q_G4, Q_F5, Q_G5, Q_X3_, Q_X4_, Q_X5_⟩ hb_ hon hoff
          refine ⟨_, rfl, fun K hK => ?_⟩
          have e2 : a.tmps[2]? = some (.pointer (some ⟨B1, 0, none⟩)) := by rw [ha]; exact (putSel_off rfl).trans rfl
          replace ha := am_ ha
          have FB := am_ Q_FB
          have hc_ : w'.cell? ⟨B1, 0, none⟩ = some (.int .i64 a0) := cell_of_below FB.out.1 HC1.out
          refine value_ (w1 := w') (v := .int .i64 a0) (by rfl) rfl ?_ ?_
          · go_simp
            (try simp only [i64_w])
            try rfl
          refine hK.out _ _ ⟨v8, g10, g4, g5, m3_, m4_, m5_, (by rw [ha.out]; exact putSel_upk 2 hb_ rfl rfl rfl), Q_FB, Q_FR, fun h0_ => absurd ((hoff 3 (by kernel_rfl)).symm.trans h0_) (by decide), Q_F4, Q_G4, Q_F5, fun h0_ => absurd ((hoff 7 (by kernel_rfl)).symm.trans h0_) (by decide), fun h0_ => absurd ((hoff 3 (by kernel_rfl)).symm.trans h0_) (by decide), Q_X4_, Q_X5_⟩
        refine steps_cons ?_ ?_
        · rintro b a w' ⟨v8, g10, g4, g5, m3_, m4_, m5_, ha, Q_FB, Q_FR, Q_FS, Q_F4, Q_G4, Q_F5, Q_G5, Q_X3_, Q_X4_, Q_X5_⟩ hb_ hon hoff
          refine ⟨_, rfl, fun K hK => ?_⟩
          have e9 : a.tmps[9]? = some (.int .i64 a0) := by rw [ha]; exact putSel_on (e := (2, 9, .int .i64 a0)) 2 rfl rfl (hon 2 (by kernel_rfl)) rfl
          replace ha := am_ ha
          have FB := am_ Q_FB
          refine value_ (w1 := w'.alloc (.cells (nums .i64 (List.replicate a0.toNat 0)).toArray 3 (0, 0))) (v := .slice (some ⟨w'.heap.size, 0, none⟩) a0.toNat a0.toNat) (by rfl) rfl ?_ ?_
          · exact make_zeros (x := .tmp 9) rfl a0 (eval_of e9) Try.underlying28 info3 HA0.out (Int.le_trans HA1.out (by decide)) w'
          refine hK.out _ _ ⟨v8, w'.heap.size, g4, g5, (.slice (some ⟨w'.heap.size, 0, none⟩) a0.toNat a0.toNat), m4_, m5_, (by rw [ha.out]; exact putSel_upk 3 hb_ rfl rfl rfl), ⟨below_alloc FB.out.1 _, by simp, by simp; have := FB.out.2; omega⟩, fun h0_ => Kd.R_mono (Kd.R_bound (Q_FR h0_) |> fun h => Kd.R_alloc h _) (fun k hk => ⟨by have := hk.2.2.1; omega, hk.1.2⟩), fun _ => ⟨blk_new _ _, below_size FB.out.1⟩, fun h0_ h1_ => ⟨blk_alloc (Q_F4 h0_ h1_).1 _, (Q_F4 h0_ h1_).2⟩, fun h0_ => ⟨blk_alloc (Q_G4 h0_).1 _, (Q_G4 h0_).2⟩, fun h0_ h1_ => ⟨blk_alloc (Q_F5 h0_ h1_).1 _, (Q_F5 h0_ h1_).2⟩, fun h0_ => absurd ((hoff 7 (by kernel_rfl)).symm.trans h0_) (by decide), fun _ => rfl, Q_X4_, Q_X5_⟩
        refine steps_cons ?_ ?_
        · rintro b a w' ⟨v8, g10, g4, g5, m3_, m4_, m5_, ha, Q_FB, Q_FR, Q_FS, Q_F4, Q_G4, Q_F5, Q_G5, Q_X3_, Q_X4_, Q_X5_⟩ hb_ hon hoff
          refine ⟨_, rfl, fun K hK => ?_⟩
          replace ha := am_ ha
          have FB := am_ Q_FB
          refine value_ (w1 := ?_) (v := ?_) (by rfl) rfl ?_ ?_
          rotate_left 2
          · go_simp
            constructor
            · rfl
            · rfl
          refine hK.out _ _ ⟨v8, g10, w'.heap.size, g5, m3_, (.pointer (some ⟨w'.heap.size, 0, none⟩)), m5_, (by rw [ha.out]; exact putSel_upk 4 hb_ rfl rfl rfl), ⟨below_alloc FB.out.1 _, by simp; have := FB.out.2; omega, by simp; have := FB.out.2; omega⟩, fun h0_ => Kd.R_alloc (Q_FR h0_) _, fun h0_ => ⟨blk_alloc (Q_FS h0_).1 _, (Q_FS h0_).2⟩, fun _ _ => ⟨blk_new _ _, below_size FB.out.1⟩, fun h0_ => absurd ((hoff 6 (by kernel_rfl)).symm.trans h0_) (by decide), fun h0_ h1_ => ⟨blk_alloc (Q_F5 h0_ h1_).1 _, (Q_F5 h0_ h1_).2⟩, fun h0_ => absurd ((hoff 7 (by kernel_rfl)).symm.trans h0_) (by decide), Q_X3_, fun _ => rfl, Q_X5_⟩
        refine steps_cons ?_ ?_
        · rintro b a w' ⟨v8, g10, g4, g5, m3_, m4_, m5_, ha, Q_FB, Q_FR, Q_FS, Q_F4, Q_G4, Q_F5, Q_G5, Q_X3_, Q_X4_, Q_X5_⟩ hb_ hon hoff
          refine ⟨_, rfl, fun K hK => ?_⟩
          replace ha := am_ ha
          have FB := am_ Q_FB
          refine value_ (w1 := ?_) (v := ?_) (by rfl) rfl ?_ ?_
          rotate_left 2
          · go_simp
            constructor
            · rfl
            · rfl
          refine hK.out _ _ ⟨v8, g10, g4, w'.heap.size, m3_, m4_, (.pointer (some ⟨w'.heap.size, 0, none⟩)), (by rw [ha.out]; exact putSel_upk 5 hb_ rfl rfl rfl), ⟨below_alloc FB.out.1 _, by simp; have := FB.out.2; omega, by simp⟩, fun h0_ => Kd.R_mono (Kd.R_bound (Q_FR h0_) |> fun h => Kd.R_alloc h _) (fun k hk => ⟨hk.1.1, by have := hk.2.2.1; omega⟩), fun h0_ => ⟨blk_alloc (Q_FS h0_).1 _, (Q_FS h0_).2⟩, fun h0_ h1_ => ⟨blk_alloc (Q_F4 h0_ h1_).1 _, (Q_F4 h0_ h1_).2⟩, fun h0_ => absurd ((hoff 6 (by kernel_rfl)).symm.trans h0_) (by decide), fun _ _ => ⟨blk_new _ _, below_size FB.out.1⟩, fun h0_ => absurd ((hoff 7 (by kernel_rfl)).symm.trans h0_) (by decide), Q_X3_, Q_X4_, fun _ => rfl⟩
        refine steps_cons ?_ ?_
        · rintro b a w' ⟨v8, g10, g4, g5, m3_, m4_, m5_, ha, Q_FB, Q_FR, Q_FS, Q_F4, Q_G4, Q_F5, Q_G5, Q_X3_, Q_X4_, Q_X5_⟩ hb_ hon hoff
          refine ⟨_, rfl, fun K hK => ?_⟩
          have e4 : a.tmps[4]? = some (m4_) := by rw [ha]; exact putSel_on (e := (4, 4, m4_)) 4 rfl rfl (hon 4 (by kernel_rfl)) rfl
          rw [Q_X4_ (hon 4 (by kernel_rfl))] at e4
          have e8 : a.tmps[8]? = some (v8) := by rw [ha]; exact putSel_on (e := (1, 8, v8)) 1 rfl rfl (hon 1 (by kernel_rfl)) rfl
          replace ha := am_ ha
          have FB := am_ Q_FB
          have FR := am_ (Q_FR (hon 1 (by kernel_rfl)))
          have F4 := am_ (Q_F4 (hon 4 (by kernel_rfl)) hb_)
          have F5 := am_ (Q_F5 (hon 5 (by kernel_rfl)) (hoff 7 (by kernel_rfl)))
          obtain ⟨A8, c8, q8⟩ := Kd.R_slice FR.out
          subst q8
          have hc_ : w'.cell? ⟨g4, 0, none⟩ = some (.slice none 0 0) := (blk_cell F4.out.1 0).trans rfl
          have hf_ := blk_frozen F4.out.1 0
          refine skip_ (w1 := ?_) (by rfl) rfl ?_ ?_
          rotate_left
          · go_simp
            rfl
          refine hK.out _ _ ⟨(.slice A8 rows.length c8), g10, g4, g5, m3_, m4_, m5_, (by rw [ha.out]; exact putSel_none (v := undef) rfl), ⟨below_set FB.out.1 F4.out.2, by simp [World.setCell]; exact FB.out.2.1, by simp [World.setCell]; exact FB.out.2.2⟩, fun _ => Kd.R_set FR.out F4.out.1 (by decide) 0 _, fun h0_ => ⟨blk_far (Q_FS h0_).1 (blk_ne (Q_FS h0_).1 F4.out.1 (by decide)) _, (Q_FS h0_).2⟩, fun _ h1_ => absurd ((up_self b 6).symm.trans h1_) (by decide), fun _ => ⟨blk_set F4.out.1 0 _, F4.out.2⟩, fun _ _ => ⟨blk_far F5.out.1 (blk_ne F5.out.1 F4.out.1 (by decide)) _, F5.out.2⟩, fun h0_ => absurd ((hoff 7 (by kernel_rfl)).symm.trans h0_) (by decide), Q_X3_, Q_X4_, Q_X5_⟩
        refine steps_cons ?_ ?_
        · rintro b a w' ⟨v8, g10, g4, g5, m3_, m4_, m5_, ha, Q_FB, Q_FR, Q_FS, Q_F4, Q_G4, Q_F5, Q_G5, Q_X3_, Q_X4_, Q_X5_⟩ hb_ hon hoff
          refine ⟨_, rfl, fun K hK => ?_⟩
          have e5 : a.tmps[5]? = some (m5_) := by rw [ha]; exact putSel_on (e := (5, 5, m5_)) 5 rfl rfl (hon 5 (by kernel_rfl)) rfl
          rw [Q_X5_ (hon 5 (by kernel_rfl))] at e5
          have e10 : a.tmps[10]? = some (m3_) := by rw [ha]; exact putSel_on (e := (3, 10, m3_)) 3 rfl rfl (hon 3 (by kernel_rfl)) rfl
          rw [Q_X3_ (hon 3 (by kernel_rfl))] at e10
          replace ha := am_ ha
          have FB := am_ Q_FB
          have FR := am_ (Q_FR (hon 1 (by kernel_rfl)))
          have FS := am_ (Q_FS (hon 3 (by kernel_rfl)))
          have G4 := am_ (Q_G4 (hon 6 (by kernel_rfl)))
          have F5 := am_ (Q_F5 (hon 5 (by kernel_rfl)) hb_)
          have hc_ : w'.cell? ⟨g5, 0, none⟩ = some (.slice none 0 0) := (blk_cell F5.out.1 0).trans rfl
          have hf_ := blk_frozen F5.out.1 0
          refine skip_ (w1 := ?_) (by rfl) rfl ?_ ?_
          rotate_left
          · go_simp
            rfl
          refine hK.out _ _ ⟨v8, g10, g4, g5, m3_, m4_, m5_, (by rw [ha.out]; exact putSel_none (v := undef) rfl), ⟨below_set FB.out.1 F5.out.2, by simp [World.setCell]; exact FB.out.2.1, by simp [World.setCell]; exact FB.out.2.2⟩, fun _ => Kd.R_far (p := ⟨g5, 0, none⟩) FR.out (fun _ hk => hk.2) _, fun _ => ⟨blk_far FS.out.1 (blk_ne FS.out.1 F5.out.1 (by decide)) _, FS.out.2⟩, fun _ h1_ => absurd ((hon 6 (by kernel_rfl)).symm.trans h1_) (by decide), fun _ => ⟨blk_far G4.out.1 (blk_ne G4.out.1 F5.out.1 (by decide)) _, G4.out.2⟩, fun _ h1_ => absurd ((up_self b 7).symm.trans h1_) (by decide), fun _ => ⟨blk_set F5.out.1 0 _, F5.out.2⟩, Q_X3_, Q_X4_, Q_X5_⟩
        exact steps_nil
      · rintro b a w' hall ⟨v8, g10, g4, g5, m3_, m4_, m5_, ha, Q_FB, Q_FR, Q_FS, Q_F4, Q_G4, Q_F5, Q_G5, Q_X3_, Q_X4_, Q_X5_⟩
        clear FB
        have hb0_ := hall 0 (by kernel_rfl)
        have hb1_ := hall 1 (by kernel_rfl)
        have hb2_ := hall 2 (by kernel_rfl)
        have hb3_ := hall 3 (by kernel_rfl)
        have hb4_ := hall 4 (by kernel_rfl)
        have hb5_ := hall 5 (by kernel_rfl)
        have hb6_ := hall 6 (by kernel_rfl)
        have hb7_ := hall 7 (by kernel_rfl)
        subst ha
        obtain rfl := Q_X3_ hb3_
        obtain rfl := Q_X4_ hb4_
        obtain rfl := Q_X5_ hb5_
        simp only [putSel, hb0_, hb1_, hb2_, hb3_, hb4_, hb5_, hb6_, hb7_, if_true, Act.put, List.setIfInBounds_toArray, List.set_cons_zero, List.set_cons_succ]
        have FB := am_ Q_FB
        clear Q_FB
        have FR := am_ (Q_FR hb1_)
        clear Q_FR
        have FS := am_ (Q_FS hb3_)
        clear Q_FS
        clear Q_F4
        have G4 := am_ (Q_G4 hb6_)
        clear Q_G4
        clear Q_F5
        have G5 := am_ (Q_G5 hb7_)
        clear Q_G5
        clear hall hb0_ hb1_ hb2_ hb3_ hb4_ hb5_ hb6_ hb7_
        have n45 := blk_ne G4.out.1 G5.out.1 (by decide)
        have HSZ := below_size FB.out.1
        have hn1 := blk_lt HB1.out
        have hn2 := blk_lt HB2.out
        have HW1 := am_ (blk_below HB1.out FB.out.1)
        have HW2 := am_ (blk_below HB2.out FB.out.1)
        obtain ⟨A8, c8, q8⟩ := Kd.R_slice FR.out
        subst q8
        go_wp2_with fail
        have HWW := am_ (below_size HBW.out)
        have HBL := am_ (below_alloc (below_step HBW.out FB.out.1) (Obj.cells #[.func (.func 35) #[] #[.pointer (some ⟨B1, 0, none⟩), .pointer (some ⟨B2, 0, none⟩), .pointer (some ⟨g4, 0, none⟩), .pointer (some ⟨g5, 0, none⟩), .pointer (some ⟨w'.heap.size, 0, none⟩)]] 40))
        have HNS := am_ (fun (k : Nat) (hk : S k) => (HFS.out.bd _ _ _ HI.out k hk : k < w.heap.size))
        have hno : ∀ k, w.heap.size ≤ k → ¬ S k := fun k h1 h2 => by have := HNS.out k h2; omega
        refine (impl_eachSigns_1.calls p Inv a0 HA0.out HA1.out ge be HFS.out A8 c8 rows B1 B2 g4 g5 w'.heap.size 40 40 g10 k (List.replicate a0.toNat 0) [] none 0 s q.1 q.2 S _ ⟨?b1, ?b2, ?b3, ?b4, ?b5, ?bs, ?vr, ?s1, ?s2, ?s3, ?s4, ?s5, ?ss, ?n1, by decide, by decide, ?sz⟩ ?hI (Kd.V_nil _ _ _ _ _) HQ.out).mono ?_
        case b1 => exact blk_alloc HW1.out _
        case b2 => exact blk_alloc HW2.out _
        case b3 => exact blk_alloc G4.out.1 _
        case b4 => rw [List.length_replicate]; exact blk_alloc G5.out.1 _
        case b5 => exact blk_new _ _
        case bs => exact blk_alloc FS.out.1 _
        case vr => exact Kd.R_V (Kd.R_alloc (Kd.R_mono (Kd.R_bound FR.out) (fun k hk => ⟨hno k (Nat.le_trans HWW.out hk.2.1), hk.1.1⟩)) _)
        case s1 => exact hno _ (by have := EB1.out; omega)
        case s2 => exact hno _ (by have := EB1.out; have := EB2.out; omega)
        case s3 => exact hno _ (Nat.le_trans HWW.out G4.out.2)
        case s4 => exact hno _ (Nat.le_trans HWW.out G5.out.2)
        case s5 => exact hno _ (Nat.le_trans HWW.out HSZ)
        case ss => exact hno _ (Nat.le_trans HWW.out FS.out.2)
        case n1 => have := FS.out.2; omega
        case sz => rw [List.length_replicate]; have := HA0.out; have := HA1.out; omega
        case hI => exact HFS.out.st _ _ _ _ HI.out (HBL.out.mono (Nat.zero_le _)) (fun k hk => HBL.out.block k (HNS.out k hk))
        rintro e w3 ⟨rfl, S', h1, h2, h3⟩
        have H1 := am_ h1
        have H2 := am_ h2
        have H3 := am_ h3
        clear h1 h2 h3
        go_wp2
        first | go_end0 | ((try simp only [Exit.inBlock, Exit.then]); refine bodyPost_ret (results_none rfl _ _ _) rfl ?_)
        exact ⟨rfl, S', H1.out, (Kp.of_below HBL.out S).then_ H2.out (fun k h => .inl h), fun k h => (H3.out k h).elim .inl (fun h => .inr (Nat.le_trans (below_size HBL.out) h))⟩
    · rw [if_neg c2] at h
      exact absurd h (by simp)
  · rw [if_neg c1] at h
    exact absurd h (by simp)

/-! ### impl_tally_1: function 42 (by hand) -/
def impl_tally_1.l0 : Nat → Int → List Int → Option (List Int)
  | 0, _, _ => none
  | k + 1, a, x => if (x.length : Int) ≤ a then (if x.length < 17592186044416 then (impl_tally_1.l0 k a (x ++ [0])) else none) else (if 0 ≤ a then (if a < (x.length : Int) then some (x.set a.toNat (wrap64 (rd x a + 1))) else none) else none)
def impl_tally_1.step (k : Nat) (p : Tb_ → Option Int) (out : List Int) (m : Tb_) : Option (List Int × Bool) :=
  (p m).bind fun a => (impl_tally_1.l0 k a out).bind fun y => some (y, true)
theorem impl_tally_1.mono_l : ∀ k a x, LeO (impl_tally_1.l0 k a x) (impl_tally_1.l0 (k + 1) a x)
  | 0, _, _ => LeO.none _
  | k + 1, a, x => by
    unfold impl_tally_1.l0
    exact LeO.ite (LeO.ite (impl_tally_1.mono_l k _ _) (LeO.none _)) (LeO.refl _)
theorem impl_tally_1.calls (k : Nat) (A0 : Option Addr) (c0 : Nat) (l0 : Tb_) (B1 B2 T1 : Nat) (hT1 : T1 ≠ 3 ∧ T1 ≠ 28) (g : Nat) (b : Array Value) (p : Tb_ → Option Int) (u : Value) (out out' : List Int) (r : Bool) (base : Nat) (okS : Nat → Prop) (w : World) (hbase : base ≤ w.heap.size)
    (hr0 : Kd.C (Kd.slice 3 (Kd.int .i64)) w A0 l0.length l0) (hc0 : l0.length ≤ c0) (hb1 : w.heap[B1]? = some (.cells #[.func (.func g) #[] b] T1 (0, 0))) (hb2 : w.heap[B2]? = some (.cells #[u] 28 (0, 0)))
    (ho : Kd.R (Kd.int .i64) 3 w base okS u out) (hf : Fn1 (Kd.slice 28 (Kd.slice 3 (Kd.int .i64))) (Value.int .i64) Try.prog g b p w) (h : impl_tally_1.step k p out l0 = some (out', r)) :
    Calls Try.prog 42 #[.slice A0 l0.length c0, .pointer (some ⟨B1, 0, none⟩), .pointer (some ⟨B2, 0, none⟩)] w fun e w' => e = .returned (.bool r) ∧ ∃ u', w'.heap[B1]? = some (.cells #[.func (.func g) #[] b] T1 (0, 0)) ∧ w'.heap[B2]? = some (.cells #[u'] 28 (0, 0)) ∧ Kd.R (Kd.int .i64) 3 w' base (fun k_ => okS k_ ∨ w.heap.size ≤ k_) u' out' ∧ Kp w w' (fun k_ => k_ = B2 ∨ okS k_) := by
  obtain ⟨a, hacc, h⟩ := Option.bind_eq_some_iff.mp h
  obtain ⟨y, hy, h⟩ := Option.bind_eq_some_iff.mp h
  obtain ⟨rfl, rfl⟩ := Prod.mk.inj (Option.some.inj h)
  have HR := am_ hr0
  have HC := am_ hc0
  have H1 := am_ hb1
  have H2 := am_ hb2
  have HO := am_ ho
  have HF := am_ hf.cl
  have eg := hf.eg
  have HA := am_ hacc
  have HY := am_ hy
  have HBS := am_ hbase
  have n12 := blk_ne hb1 hb2 hT1.2
  clear hr0 hc0 hb1 hb2 ho hf hacc hbase h hy
  have hcB1 : w.cell? ⟨B1, 0, none⟩ = some (.func (.func g) #[] b) := (blk_cell H1.out 0).trans rfl
  go_enter Try.func42, Try.ntmps42
  go_wp2_with fail
  refine (HF.out w (Below.refl _ _) l0 _ (K_slice HC.out HR.out) a HA.out).mono ?_
  rintro e w6 ⟨rfl, hb⟩
  have HB := am_ hb
  clear hb hcB1
  go_wp2_with fail
  go_loopg [] k (fun kq w' => ∃ (u' : Value) (x : List Int), Aside0 (impl_tally_1.l0 kq a x = some y) ∧ Aside0 (kq ≤ k) ∧ Aside0 (w'.heap[B1]? = some (.cells #[.func (.func g) #[] b] T1 (0, 0))) ∧ Aside0 (w'.heap[B2]? = some (.cells #[u'] 28 (0, 0))) ∧ Aside0 (Kd.R (Kd.int .i64) 3 w' base (fun k_ => okS k_ ∨ w.heap.size ≤ k_) u' x) ∧ Aside0 (Kp w w' (fun k_ => k_ = B2 ∨ okS k_)))
  case atStart => exact ⟨u, out, HY, ⟨Nat.le_refl _⟩, ⟨blk_below H1.out HB.out⟩, ⟨blk_below H2.out HB.out⟩, ⟨Kd.R_mono (Kd.R_below HO.out HB.out) (fun _ hk => .inl hk)⟩, ⟨Kp.of_below HB.out _⟩⟩
  case round =>
    clear HY H1 H2 HO HB
    obtain ⟨u', x, HE, HK1, H1, H2, HO, HKp⟩ := hrel
    cases gk with
    | zero => exact absurd HE.out (by simp [impl_tally_1.l0])
    | succ k1 =>
      have H := HE.out
      clear HE
      simp only [impl_tally_1.l0] at H
      obtain ⟨Ao, co, eo⟩ := Kd.R_slice HO.out
      subst eo
      have hcB2 : wr.cell? ⟨B2, 0, none⟩ = some (.slice Ao x.length co) := (blk_cell H2.out 0).trans rfl
      by_cases c5 : (x.length : Int) ≤ a
      · rw [if_pos c5] at H
        have c5b0 : decide ((x.length : Int) ≤ a) = true := decide_eq_true c5
        by_cases c6 : x.length < 17592186044416
        case neg => rw [if_neg c6] at H; exact absurd H (by simp)
        rw [if_pos c6] at H
        have LM := am_ c6
        have H' := am_ H
        clear H c5 c6
        go_wp2_with ((with_reducible refine gate_builtin (b := .append) (xs := #[.tmp 13, .tmp 14]) rfl ?_); at_builtin; refine Kd.R_append (Kd.int .i64) (w0 := wr) base rfl (.tmp 13) (.tmp 14) 28 3 (.int .i64 0) 8 rfl Try.underlying28 info3 rfl (by decide) (by omega) (.slice Ao x.length co) x 0 [.int .i64 0] (fun k_ => okS k_ ∨ w.heap.size ≤ k_) (fun _ => False) rfl rfl ?aP (fun _ hk => hk.elim) ?aF ?aO ?aB ?aS ?aL ?_; (case aP => exact rfl); (case aB => exact Below.refl _ _); (case aF => exact (fun _ hk => .inr (Nat.le_trans HKp.out.sz hk))); (case aO => exact HO.out); (case aS => exact Nat.le_trans HBS.out HKp.out.sz); (case aL => have := LM.out; omega); intro v1 w8 ho hb hg hat; have HO8 := am_ ho; have HB8 := am_ hb; have HG8 := am_ hg; clear ho hb hg hat; obtain ⟨A8, c8, e8⟩ := Kd.R_slice HO8.out; subst e8; have H18 := am_ (blk_grown H1.out HG8.out (Kd.R_ne HO.out H1.out (Ne.symm hT1.1))); have H28 := am_ (blk_grown H2.out HG8.out (Kd.R_ne HO.out H2.out (by decide))); have hs8 : w8.cell? ⟨B2, 0, none⟩ = some (.slice Ao x.length co) := (blk_cell H28.out 0).trans rfl; have hf8 := blk_frozen H28.out 0)
        go_roundg k1
        case measure => have := HK1.out; omega
        case rel =>
          have ho8 := HO8.out
          rw [List.length_append, List.length_singleton] at ho8
          refine ⟨_, x ++ [0], H', ⟨by have := HK1.out; omega⟩, ⟨blk_far H18.out n12 _⟩, ⟨blk_set H28.out 0 _⟩, ⟨Kd.R_set ho8 H28.out (by decide) 0 _⟩, ⟨?_⟩⟩
          exact (HKp.out.then_ (S2 := fun k_ => k_ = B2 ∨ okS k_ ∨ w.heap.size ≤ k_) ⟨Kept.of_grown HG8.out (Kept.refl _ _) (fun k_ hk => .inl (.inr (HO.out.1 k_ hk))), HB8.out.mono (Nat.zero_le _)⟩ (fun k_ hk => hk.elim (fun h => .inl (.inl h)) (fun h => h.elim (fun h => .inl (.inr h)) .inr))).setCell (.inl (.inl rfl)) _
      · rw [if_neg c5] at H
        have c5b0 : decide ((x.length : Int) ≤ a) = false := decide_eq_false c5
        by_cases c9 : 0 ≤ a
        case neg => rw [if_neg c9] at H; exact absurd H (by simp)
        rw [if_pos c9] at H
        by_cases c10 : a < (x.length : Int)
        case neg => rw [if_neg c10] at H; exact absurd H (by simp)
        rw [if_pos c10] at H
        obtain rfl := Option.some.inj H
        clear H
        obtain ⟨ad, e107, hx0⟩ := Kd.at_int (Kd.R_reads' HO.out).2.2 a c9 c10
        cases e107
        obtain ⟨go11, co11, eo11, gb11, gl11, cl11, HG11⟩ := Kd.R_form HO.out (by omega)
        (first | cases eo11 | (injection eo11 with ea_ en_ ec_; (first | subst ea_ | (injection ea_ with ea_; subst ea_)); subst ec_; clear en_))
        have GB11 := am_ gb11
        have GG11 := am_ HG11
        clear gb11 gl11 HG11
        (first | simp only [add_plain] at hx0 | skip)
        obtain ⟨hx1, hf1⟩ := Kd.R_celln 0 HO.out a c9 c10
        have HP := Kd.R_putg HO.out a (wrap64 ((rd x a) + 1))
        go_wp2
        go_ret
        refine ⟨rfl, blk_far H1.out (fun e => Kd.R_ne HO.out H1.out (Ne.symm hT1.1) (by rw [e]; rfl)) _, _, blk_far H2.out (fun e => Kd.R_ne HO.out H2.out (by decide) (by rw [e]; rfl)) _, HP.1, HKp.out.setCell ?_ _⟩
        exact (HO.out.1 go11 rfl).elim (fun h => .inl (.inr h)) .inr

/-! ### impl_tally: function 29 (by hand) -/
def impl_tally.f (k : Nat) (a0 a1 : Int) (a2 : Tb_ → Option Int) : Option (List Int) := if 0 ≤ a1 then (if a1 ≤ 1000000 then impl_eachSigns.f k a0 (impl_tally_1.step k a2) (List.replicate a1.toNat 0) else none) else none
def impl_tally.Inv (w : World) (B1 B2 g : Nat) (b : Array Value) (out : List Int) (W : World) (S : Nat → Prop) : Prop :=
  ∃ (u : Value) (okS : Nat → Prop), Below w.heap.size w W ∧ W.heap[B1]? = some (.cells #[.func (.func g) #[] b] 39 (0, 0)) ∧ W.heap[B2]? = some (.cells #[u] 28 (0, 0)) ∧ Kd.R (Kd.int .i64) 3 W w.heap.size okS u out ∧ (∀ k, okS k → w.heap.size ≤ k ∧ k < W.heap.size) ∧ S = fun k => k < w.heap.size ∨ k = B1 ∨ k = B2 ∨ okS k
theorem impl_tally.fns (k : Nat) {w : World} {B1 B2 g : Nat} {b : Array Value} {p : Tb_ → Option Int} (h2 : w.heap.size ≤ B2) (hf : Fn1 (Kd.slice 28 (Kd.slice 3 (Kd.int .i64))) (Value.int .i64) Try.prog g b p w) :
    FnS (Kd.slice 28 (Kd.slice 3 (Kd.int .i64))) Value.bool Try.prog 42 #[.pointer (some ⟨B1, 0, none⟩), .pointer (some ⟨B2, 0, none⟩)] (impl_tally_1.step k p) (impl_tally.Inv w B1 B2 g b) where
  eg := enters_of Try.func42 (by kernel_rfl) rfl
  bd := by
    rintro s W S ⟨u, okS, hb, b1, b2, ho, hk, rfl⟩ k hk1
    rcases hk1 with hk1 | rfl | rfl | hk1
    · exact Nat.lt_of_lt_of_le hk1 hb.size
    · exact blk_lt b1
    · exact blk_lt b2
    · exact (hk k hk1).2
  st := by
    rintro s W S W' ⟨u, okS, hb, b1, b2, ho, hk, rfl⟩ h0 hs
    exact ⟨u, okS, ⟨h0.os.trans hb.os, h0.tape.trans hb.tape, h0.output.trans hb.output, Nat.le_trans hb.size h0.size, fun k hk => (hs k (.inl hk)).trans (hb.block k hk)⟩, (hs _ (.inr (.inl rfl))).trans b1, (hs _ (.inr (.inr (.inl rfl)))).trans b2, Kd.R_step ho (fun k hk _ => hs k (.inr (.inr (.inr hk)))), fun k h => ⟨(hk k h).1, Nat.lt_of_lt_of_le (hk k h).2 h0.size⟩, rfl⟩
  cl := by
    rintro s W S ⟨u, okS, hb, b1, b2, ho, hk, rfl⟩ x v hv s' r hp
    obtain ⟨A0, c0, e0, hc0, hr0⟩ := hv
    obtain rfl : v = .slice A0 x.length c0 := by simpa using e0
    refine (impl_tally_1.calls k A0 c0 x B1 B2 _ (by decide) g b p u s s' r w.heap.size okS W hb.size hr0 hc0 b1 b2 ho (hf.later hb) hp).mono ?_
    rintro e W' ⟨rfl, u', q1, q2, q3, q4⟩
    refine ⟨rfl, fun k => k < w.heap.size ∨ k = B1 ∨ k = B2 ∨ ((okS k ∨ W.heap.size ≤ k) ∧ w.heap.size ≤ k ∧ k < W'.heap.size), ⟨u', _, ?_, q1, q2, Kd.R_mono (Kd.R_bound q3) (fun k h => ⟨h.1, h.2.1, h.2.2.1⟩), fun k h => h.2, rfl⟩, q4.mono (fun k h => h.elim (fun h => .inr (.inr (.inl h))) (fun h => .inr (.inr (.inr h)))), fun k h => ?_⟩
    · exact hb.trans (q4.to_below hb.size (fun k h => h.elim (fun h => h ▸ h2) (fun h => (hk k h).1)))
    · rcases h with h | h | h | ⟨h | h, _⟩
      · exact .inl (.inl h)
      · exact .inl (.inr (.inl h))
      · exact .inl (.inr (.inr (.inl h)))
      · exact .inl (.inr (.inr (.inr h)))
      · exact .inr h
theorem impl_tally.calls (k : Nat) (a0 a1 : Int) (g1 : Nat) (b1 : Array Value) (a2 : Tb_ → Option Int) (r : List Int) (w : World) (hf1 : Fn1 (Kd.slice 28 (Kd.slice 3 (Kd.int .i64))) (Value.int .i64) Try.prog g1 b1 a2 w) (h : impl_tally.f k a0 a1 a2 = some r) :
    Calls Try.prog 29 #[.int .i64 a0, .int .i64 a1, .func (.func g1) #[] b1] w fun e w' => ∃ v0_ : Value, e = .returned v0_ ∧ Kd.R (Kd.int .i64) 3 w' w.heap.size (fun _ => True) v0_ r ∧ Below w.heap.size w w' := by
  have c0 : 0 ≤ a1 := Decidable.byContradiction fun c => by unfold impl_tally.f at h; rw [if_neg c] at h; exact absurd h (by simp)
  have c1 : a1 ≤ 1000000 := Decidable.byContradiction fun c => by unfold impl_tally.f at h; rw [if_pos c0, if_neg c] at h; exact absurd h (by simp)
  unfold impl_tally.f at h
  rw [if_pos c0, if_pos c1] at h
  have HO := am_ h
  have HC0 := am_ c0
  have HC1 := am_ c1
  have HF := am_ (impl_tally.fns k (w := w) (B1 := w.heap.size) (B2 := w.heap.size + 1 + 1) (by omega) hf1)
  clear h hf1 c0 c1
  go_enter Try.func29, Try.ntmps29
  go_wp2_with ((with_reducible refine gate_dst (N := 9) rfl ?_); refine Kd.event_run rfl (make_zeros (x := .tmp 8) rfl a1 rfl Try.underlying28 info3 HC0.out HC1.out _) ?_)
  have hb1_ := blk_alloc (blk_alloc (blk_new w (.cells #[.func (.func g1) #[] b1] 39 (0, 0))) (.cells (nums IntKind.i64 (List.replicate a1.toNat 0)).toArray 3 (0, 0))) (.cells #[.slice (some ⟨w.heap.size + 1, 0, none⟩) a1.toNat a1.toNat] 28 (0, 0))
  have hr_ := R_nums (k := .i64) (e := 3) (base := w.heap.size) (ok := fun k_ => k_ = w.heap.size + 1) (g := w.heap.size + 1) (xs := List.replicate a1.toNat 0) (w := ((w.alloc (.cells #[.func (.func g1) #[] b1] 39 (0, 0))).alloc (.cells (nums IntKind.i64 (List.replicate a1.toNat 0)).toArray 3 (0, 0))).alloc (.cells #[.slice (some ⟨w.heap.size + 1, 0, none⟩) a1.toNat a1.toNat] 28 (0, 0))) (blk_alloc (blk_new' (by simp)) _) (by omega) (by rw [List.length_replicate]; have := HC1.out; omega) rfl
  rw [List.length_replicate] at hr_
  refine (impl_eachSigns.calls k a0 _ _ _ _ HF.out (List.replicate a1.toNat 0) r _ _ ⟨.slice (some ⟨w.heap.size + 1, 0, none⟩) a1.toNat a1.toNat, fun k_ => k_ = w.heap.size + 1, below_alloc (below_alloc (below_alloc (Below.refl _ _) _) _) _, hb1_, blk_new' (by simp), hr_, fun k_ hk => ⟨by omega, by simp; omega⟩, rfl⟩ HO.out).mono ?_
  clear hb1_ hr_
  rintro e w3 ⟨rfl, S', ⟨u, okS, h1, h2, h3, h4, h5, h6⟩, _, _⟩
  have H1 := am_ h1
  have H4 := am_ h4
  obtain ⟨A3, c3, e3⟩ := Kd.R_slice h4
  subst e3
  have hc1 : w3.cell? ⟨w.heap.size + 1 + 1, 0, none⟩ = some (.slice A3 r.length c3) := (blk_cell h3 0).trans rfl
  clear h1 h2 h3 h4 h5 h6
  go_wp2
  go_ret
  exact ⟨_, rfl, Kd.R_mono H4.out (fun _ _ => trivial), H1.out⟩

/-! ### impl_MinusTable: function 8 -/
def impl_MinusTable.f (k : Nat) (a0 : Int) : Option (List Int × Bool) := (impl_isWeighted.f a0).bind fun t101 => (if t101 = true then ((impl_tally.f k a0 1 (fun x0_ => impl_minusOnes.f k x0_)).bind fun t102 => (some (t102, true))) else (some (([] : List Int), false)))
theorem impl_MinusTable.calls (k : Nat) (a0 : Int) (r1 : List Int) (r2 : Bool) (w : World) (h : impl_MinusTable.f k a0 = some (r1, r2)) :
  Calls Try.prog 8 #[.int .i64 a0] w fun e w' => ∃ v0_ : Value, e = .returned (.tuple #[v0_, .bool r2]) ∧ Kd.R (Kd.int .i64) 3 w' w.heap.size (fun _ => True) v0_ r1 ∧ Below w.heap.size w w' := by
 have HB := am_ (Below.refl w.heap.size w); (try unfold impl_MinusTable.f at h); have H := h; clear h; replace H := bd_ H; obtain ⟨t101, A2, H⟩ := H; (try dsimp only at H)
 by_cases c3 : t101 = true
 ·subst c3; have H1 : ((impl_tally.f k a0 1 (fun x0_ => impl_minusOnes.f k x0_)).bind fun t102 => (some (t102, true))) = some (r1, r2) := tc33_; clear H; have H := H1; clear H1; replace H := bd_ H; obtain ⟨t102, A4, H⟩ := H; (try dsimp only at H); simp only [Option.some.injEq, Prod.mk.injEq] at H; obtain ⟨rfl, rfl⟩ := H; go_enter Try.func8, Try.ntmps8
  go_wp2_with (first | (refine gc_ (some 5) Try.func28 #[.int .i64 a0] ?_; (with_reducible refine (impl_isWeighted.calls a0 true _ A2.out).mono ?_); rintro e w' ⟨rfl, ⟨nd, rfl⟩⟩; refine ⟨_, rfl, ?_⟩) | (refine gc_ (some 8) Try.func29 #[.int .i64 a0, .int .i64 1, .func (.func 23) #[] #[]] ?_; (with_reducible refine (impl_tally.calls k a0 1 _ _ (fun x0_ => impl_minusOnes.f k x0_) t102 _ ?side1 A4.out).mono ?_); (case side1 => refine ⟨enters_of Try.func23 (by kernel_rfl) rfl, fun W_ hW_ x0_ v0_ hK0_ r_ hr_ => ?_⟩; obtain ⟨A0_, c0_, e0_, hl0_, hC0_⟩ := hK0_; cases e0_; refine (impl_minusOnes.calls k A0_ c0_ x0_ r_ W_ hC0_ hl0_ hr_).mono ?_; exact fun _ _ h_ => ⟨h_.1, h_.2.below⟩); rintro e w5 ⟨v103, rfl, ho0, hb⟩; refine ⟨_, rfl, ?_⟩; have HO104 := am_ (Kd.R_lower ho0 (below_size tc0_)); replace HB := am_ (below_step tc0_ hb); (try clear hb ho0)))
  go_ret2
  exact ⟨_, tc6_, (by (with_reducible repeat (first | apply Kd.R_alloc | apply Kd.R_drewN | apply Kd.R_drew)); exact HO104.out), tc0_⟩
 ·replace c3 := Bool.eq_false_iff.mpr c3; subst c3; have H1 : (some (([] : List Int), false)) = some (r1, r2) := tc16_; clear H; have H := H1; clear H1; simp only [Option.some.injEq, Prod.mk.injEq] at H; obtain ⟨rfl, rfl⟩ := H; go_enter Try.func8, Try.ntmps8
  go_wp2_with (first | (refine gc_ (some 5) Try.func28 #[.int .i64 a0] ?_; (with_reducible refine (impl_isWeighted.calls a0 false _ A2.out).mono ?_); rintro e w' ⟨rfl, ⟨nd, rfl⟩⟩; refine ⟨_, rfl, ?_⟩))
  go_ret2
  exact ⟨_, tc6_, tc21_, tc0_⟩

/-! ### impl_table: function 18 -/
mutual
def impl_table.l0 : Nat → Int → (Int → Int → Option Int) → Tb_ → Int → Int → Option (Tb_)
 | 0, _, _, _, _, _ => none
 | k + 1, x1, x2, x7, x13, x14 => if x14 < x13 then (if 0 ≤ x1 then (if (x1 : Int).toNat ≤ 35184372088832 then (if 0 ≤ x14 then (if x14 < (x7.length : Int) then ((some (x7.set (x14 : Int).toNat (List.replicate (x1 : Int).toNat 0) : Tb_)).bind fun y107 => (impl_table.l1 k x1 x2 y107 x14 x13 x14 ((rd_L3 y107 x14).length : Int) 0)) else (none)) else (none)) else (none)) else (none)) else (some x7)
def impl_table.l1 : Nat → Int → (Int → Int → Option Int) → Tb_ → Int → Int → Int → Int → Int → Option (Tb_)
 | 0, _, _, _, _, _, _, _, _ => none
 | k + 1, x1, x2, x7, x8, x13, x14, x26, x27 => if x27 < x26 then (if 0 ≤ x8 then (if x8 < (x7.length : Int) then ((x2 x8 x27).bind fun t110 => (if 0 ≤ x27 then (if x27 < ((rd_L3 x7 x8).length : Int) then (impl_table.l1 k x1 x2 (x7.set (x8 : Int).toNat ((rd_L3 x7 x8).set (x27 : Int).toNat t110)) x8 x13 x14 x26 (wrap64 (x27 + 1))) else (none)) else (none))) else (none)) else (none)) else (impl_table.l0 k x1 x2 x7 x13 (wrap64 (x14 + 1)))
end
def impl_table.f (k : Nat) (a0 : Int) (a1 : Int) (a2 : (Int → Int → Option Int)) : Option (Tb_) := if 0 ≤ a0 then (if (a0 : Int).toNat ≤ 11728124029610 then ((some (List.replicate (a0 : Int).toNat [] : Tb_)).bind fun y101 => (impl_table.l0 k a1 a2 y101 (y101.length : Int) 0)) else (none)) else (none)
def impl_table.T9 : Bool × List (List Nat × List Nat) := (true, [([], []), ([], []), ([0, 1], [0, 1]), ([2], [2]), ([], []), ([], []), ([], []), ([], []), ([5, 6, 7], [5, 6, 7]), ([3, 4, 0, 1, 2, 3, 4, 5, 6, 7, 8], [3, 4]), ([9, 8, 8, 0, 1, 2, 3, 4, 5, 6, 7, 8], [8, 9])])
def impl_table.B9 : List Nat := [0, 0, 3, 7, 0, 0, 0, 0, 224, 511, 1023]
theorem impl_table.tab9 : rtab .any (opsOf Try.f18 9) = impl_table.T9 := by kernel_rfl
theorem impl_table.bits9 : waitsOk impl_table.T9.2 impl_table.B9 = true := by kernel_rfl
theorem impl_table.calls (k : Nat) (a0 : Int) (a1 : Int) (g2 : Nat) (b2 : Array Value) (a2 : (Int → Int → Option Int)) (r : Tb_) (w : World) (hf2 : Fn2 (Kd.int .i64) (Kd.int .i64) (Value.int .i64) Try.prog g2 b2 a2 w) (h : impl_table.f k a0 a1 a2 = some r) :
  Calls Try.prog 18 #[.int .i64 a0, .int .i64 a1, .func (.func g2) #[] b2] w fun e w' => ∃ v0_ : Value, e = .returned (v0_) ∧ Kd.S (Kd.slice 3 (Kd.int .i64)) 28 w' w.heap.size (fun _ => True) v0_ r ∧ Below w.heap.size w w' := by
 have HF2 := am_ hf2.cl; have eg2 := hf2.eg; clear hf2; have HB := am_ (Below.refl w.heap.size w); (try unfold impl_table.f at h); have H := h; clear h; replace H := pp_ H; obtain ⟨c4, H⟩ := H; have c4b0 := eq_true c4; have c4b1 : decide (0 ≤ a0) = true := decide_eq_true c4; clear c4; replace H := pp_ H; obtain ⟨c5, H⟩ := H; have c5b0 := eq_true c5; have c5b1 : decide ((a0 : Int).toNat ≤ 11728124029610) = true := decide_eq_true c5; clear c5; obtain ⟨y101, hy101⟩ : ∃ y_ : Tb_, y_ = (List.replicate (a0 : Int).toNat []) := ⟨_, rfl⟩; replace H : (impl_table.l0 k a1 a2 y101 (y101.length : Int) 0) = some r := tc15_; have Ny101 := am_ hy101; clear hy101; have H' := am_ H; clear H; go_enter Try.func18, Try.ntmps18
 go_wp2_with (first | ((with_reducible refine gate_dst (N := 11) rfl ?_); refine Kd.S_make (Kd.slice 3 (Kd.int .i64)) _ 28 rfl (N := 11) rfl 25 _ _ rfl a0 rfl rfl Try.underlying25 (.slice none 0 0) 24 info28 rfl (by decide) (by omega) [] (ok := fun _ => True) (okp := fun _ => True) ⟨_, rfl, Kd.R_nil _ _ _ _ _⟩ (fun _ hk => hk) trivial (od_) (Nat.le_trans (Nat.mul_le_mul_right _ (od_ : a0.toNat ≤ 11728124029610)) (by omega)) (Below.refl _ _) (Nat.le_refl _) ?_; intro v102 w6 ho7 hb hg_ hnew_; clear hg_ hnew_; (first | rw [← Ny101.out] at ho7 | (simp only [Int.reduceToNat] at ho7; rw [← Ny101.out] at ho7)); have HO103 := am_ (Kd.S_lower ho7 (below_size tc0_)); replace HB := am_ (below_step tc0_ hb); clear hb ho7; obtain ⟨Ao8, co8, eo8⟩ := Kd.S_slice HO103.out; subst eo8))
 go_loopg [14] k (fun kq v14 w' => ∃ (x7_1 : Tb_) (x14_1 : Int), v14 = .int .i64 x14_1 ∧ Aside0 (impl_table.l0 kq a1 a2 x7_1 (y101.length : Int) x14_1 = some r) ∧ Aside0 (kq ≤ k) ∧ Aside0 (Kd.S (Kd.slice 3 (Kd.int .i64)) 28 w' w.heap.size (fun _ => True) (.slice Ao8 y101.length co8) x7_1) ∧ Aside0 (Below w.heap.size w w'))
 case atStart => exact ⟨(y101), (0), tc3_, H', ⟨Nat.le_refl _⟩, ⟨(by (with_reducible repeat (first | apply Kd.S_alloc | apply Kd.S_drewN | apply Kd.S_drew)); exact HO103.out)⟩, ⟨tc0_⟩⟩
 case round =>
  clear H'; (try clear c1); (try clear p2); (try clear c4); (try clear c4b0); (try clear c4b1); (try clear c5); (try clear c5b0); (try clear c5b1); obtain ⟨x7_1, x14_1, rfl, HA, HK1, HO_7, HB⟩ := hrel; have hl7_1 := (Kd.S_reads' HO_7.out).1; rw [hl7_1] at HO_7; (try simp only [hl7_1])
  cases gk with
  | zero => exact absurd HA.out (by simp [impl_table.l0])
  | succ k1 =>
   have H := HA.out; clear HA; simp only [impl_table.l0] at H
   replace H := sp_ H; obtain ⟨c9b0, H⟩ | ⟨c9b0, H⟩ := H
   ·(try simp only [hl7_1] at c9b0); replace H := pp_ H; obtain ⟨c10, H⟩ := H; have c10b0 := eq_true c10; have c10b1 : decide (0 ≤ a1) = true := decide_eq_true c10; clear c10; replace H := pp_ H; obtain ⟨c11, H⟩ := H; have c11b0 := eq_true c11; have c11b1 : decide ((a1 : Int).toNat ≤ 35184372088832) = true := decide_eq_true c11; clear c11; obtain ⟨y104, hy104⟩ : ∃ y_ : List Int, y_ = (List.replicate (a1 : Int).toNat 0) := ⟨_, rfl⟩; replace H : (if 0 ≤ x14_1 then (if x14_1 < (x7_1.length : Int) then ((some (x7_1.set (x14_1 : Int).toNat y104 : Tb_)).bind fun y107 => (impl_table.l1 k1 a1 a2 y107 x14_1 (y101.length : Int) x14_1 ((rd_L3 y107 x14_1).length : Int) 0)) else (none)) else (none)) = some r := tc19_; have Ny104 := am_ hy104; clear hy104; replace H := ps_ H; obtain ⟨c12b0, H⟩ := H; replace H := ps_ H; obtain ⟨c13b0, H⟩ := H; (try simp only [hl7_1] at c13b0); obtain ⟨y107, hy107⟩ : ∃ y_ : Tb_, y_ = (x7_1.set (x14_1 : Int).toNat y104) := ⟨_, rfl⟩; replace H : (impl_table.l1 k1 a1 a2 y107 x14_1 (y101.length : Int) x14_1 ((rd_L3 y107 x14_1).length : Int) 0) = some r := (by first | (rw [hy107]; with_reducible exact H) | (have H2_ := (Option.bind_some _ _).symm.trans H; rw [hy107]; with_reducible exact H2_) | (have H2_ := (Option.bind_some _ _).symm.trans H; with_reducible exact H2_) | with_reducible exact H | (rw [hy107]; exact H) | exact H); have Ny107 := am_ hy107; clear hy107; have H' := am_ H; clear H
    go_wp2_with (first | ((with_reducible refine gate_dst (N := 20) rfl ?_); refine Kd.R_make (Kd.int .i64) _ 3 rfl (N := 20) rfl 28 _ _ rfl a1 rfl rfl Try.underlying28 (.int .i64 0) 8 info3 rfl (by decide) (by omega) 0 (ok := fun _ => True) (okp := fun _ => True) rfl (fun _ hk => hk) trivial (od_) (Nat.le_trans (Nat.mul_le_mul_right _ (od_ : a1.toNat ≤ 35184372088832)) (by omega)) (Below.refl _ _) (Nat.le_refl _) ?_; intro v105 w15 ho16 hb hg_ hnew_; clear hg_ hnew_; (first | rw [← Ny104.out] at ho16 | (simp only [Int.reduceToNat] at ho16; rw [← Ny104.out] at ho16)); replace HO_7 := am_ (Kd.S_elder' tc61_ (Kd.R_base ho16) hb); have HO106 := am_ (Kd.R_lower ho16 (below_size tc0_)); replace HB := am_ (below_step tc0_ hb); clear hb ho16; have p14 : 0 ≤ (x14_1 : Int) := od_; have q14 : (x14_1 : Int) < ((x7_1.length : Int) : Int) := od_; obtain ⟨go14, co14, eo14, gb14, gl14, cl14, HG14⟩ := Kd.S_form HO_7.out (by omega); (first | cases eo14 | (injection eo14 with ea_ en_ ec_; (first | subst ea_ | (injection ea_ with ea_; subst ea_)); subst ec_; clear en_)); have GB14 := am_ gb14; have GG14 := am_ HG14; clear gb14 gl14 HG14; obtain ⟨_, ce14, hcl14, hM14, hcc14, hfr14, _, _⟩ := Kd.S_elem HO_7.out [] (x14_1 : Int) p14 q14; obtain ⟨ve14_0, rfl, ge14_0⟩ := hM14; have hx14_0 := hcc14 0 _ rfl; have hf14_0 := hfr14 0; (try simp only [show ((Kd.slice 3 (Kd.int .i64))).sz = 1 from rfl, Nat.mul_one, Nat.add_zero] at hx14_0); (try simp only [show ((Kd.slice 3 (Kd.int .i64))).sz = 1 from rfl, Nat.mul_one, Nat.add_zero] at hf14_0); (try clear hcl14 hcc14 hfr14 hM14); replace p14 := eq_true p14; replace q14 := eq_true q14; obtain ⟨Ao19, co19, eo19⟩ := Kd.R_slice HO106.out; subst eo19; have n_ := am_ (Kd.S_mono (ok' := (fun k_ => some k_ ≠ (.slice Ao19 y104.length co19 : Value).ownBlock)) HO_7.out (fun k_ hk => hk.2)); clear HO_7; have HO_7 := n_; clear n_; have HX17 := am_ (show Kd.S (Kd.slice 3 (Kd.int .i64)) 28 w15 w.heap.size (fun k_ => ((fun _ => True)) k_ ∧ ¬ ((fun k_ => some k_ = (.slice Ao19 y104.length co19 : Value).ownBlock)) k_) (.slice (some ⟨go14, 0, none⟩) x7_1.length co8) x7_1 from (by (with_reducible repeat (first | apply Kd.S_alloc | apply Kd.S_drewN | apply Kd.S_drew)); exact Kd.S_mono HO_7.out (fun k_ hk => ⟨trivial, fun e_ => hk e_⟩))); obtain ⟨oki17, ce17, hcl17, hM17, hcc17, hfr17, hoki17, hH17⟩ := Kd.S_elem HX17.out [] (x14_1 : Int) (od_) (by have h_ : (x14_1 : Int) < ((x7_1.length : Int) : Int) := od_; first | exact h_ | (have e_ := (Kd.S_reads' HO_7.out).1; omega) | simpa using h_); obtain ⟨ve17_0, rfl, ge17_0⟩ := hM17; have HP17 := Kd.S_seg hH17 (od_) (by have h_ : (x14_1 : Int) < ((x7_1.length : Int) : Int) := od_; first | exact h_ | (have e_ := (Kd.S_reads' HO_7.out).1; omega) | simpa using h_) (seg := [.slice Ao19 y104.length co19]) (j := 0) (show 1 ≤ 1 from (by decide)) (x' := y104) (Kd.M_row (Kd.R_mono (Kd.R_tight rfl (Kd.R_mono (ok' := fun k_ => ((fun _ => True)) k_ ∧ k_ ≠ go14) (Kd.R_apart' (HO106.out) (Kd.S_typed HO_7.out) (by decide)) (fun k_ hk => ⟨trivial, fun e_ => (hk.2) (by rw [e_]; rfl)⟩))) (fun _ h_ => Or.inr (h_)))) (fun _ hk => hk) (fun k_ hk_ => ((Kd.R_mono (ok' := fun k_ => ((fun _ => True)) k_ ∧ k_ ≠ go14) (Kd.R_apart' (HO106.out) (Kd.S_typed HO_7.out) (by decide)) (fun k_ hk => ⟨trivial, fun e_ => (hk.2) (by rw [e_]; rfl)⟩))).1 k_ hk_.symm); have hx17_0 := hcc17 0 _ rfl; (try simp only [show ((Kd.slice 3 (Kd.int .i64))).sz = 1 from rfl, Nat.mul_one, Nat.add_zero] at hx17_0); have hf17_0 := hfr17 0; (try simp only [show ((Kd.slice 3 (Kd.int .i64))).sz = 1 from rfl, Nat.mul_one, Nat.add_zero] at hf17_0); (try clear hcl17 hcc17 hfr17 hM17 hoki17 hH17); (try simp only [show ((Kd.slice 3 (Kd.int .i64))).sz = 1 from rfl, Nat.mul_one, Nat.add_zero] at HP17)) | ((with_reducible refine gate_store (t := 28) (p := 21) rfl ?_); refine store_event (t := 28) (p := 21) (v := ?vo_w18) (w1 := (w15.setCell ⟨go14, (x14_1 : Int).toNat, none⟩ (.slice Ao19 y104.length co19))) ?hg ?ho ?hn ?hr ?_; (case ho => rfl); (case hg => rfl); (case hn => rfl); (case hr => exact tc42_); intro w18 hw; have hg : w15.grownBy w18 (some go14) := (by rw [hw]; exact HP17.2); have hp_ : Kd.S (Kd.slice 3 (Kd.int .i64)) 28 w18 w.heap.size (fun _ => True) (.slice (some ⟨go14, 0, none⟩) x7_1.length co8) y107 := (by rw [hw, Ny107.out]; exact HP17.1); clear HP17; replace HO_7 := am_ (hp_); replace HB := am_ ((by rw [hw]; exact below_set (HB.out) GB14.out : Below w.heap.size w w18)); clear HO106; clear hg hw hp_; have p108 : 0 ≤ (x14_1 : Int) := od_; have q108 : x14_1 < (y107.length : Int) := (by have h_ : (x14_1 : Int) < ((x7_1.length : Int) : Int) := od_; first | (have e_ := (Kd.S_reads' HO_7.out).1; omega) | simpa only [Ny107.out, List.length_set] using h_); have ql108 : ((x14_1 : Int) < ((x7_1.length : Int) : Int)) = True := eq_true (od_); obtain ⟨ad108, A108_0, c108_0, e108, hx108_0, hl108_0, hi108_0⟩ := at_L3 (Kd.S_reads' HO_7.out).2.2 x14_1 p108 q108; obtain rfl : (⟨go14, 0, none⟩ : Addr) = ad108 := (by injection e108); obtain ⟨ce108, hce108, hMe108, hcc108⟩ := Kd.S_get HO_7.out [] x14_1 p108 (by first | exact q108 | exact od_ | (have e_ := (Kd.S_reads' HO_7.out).1; omega)); obtain ⟨ve108_0, rfl, ge108_0⟩ := hMe108; have hv108_0 := hcc108 0 _ rfl; rw [Nat.add_zero, show ((Kd.slice 3 (Kd.int .i64))).sz = 1 from rfl, Nat.mul_one] at hv108_0; replace hv108_0 := Option.some.inj (hv108_0.symm.trans hx108_0); rw [hv108_0] at ge108_0; have HL108_0 := am_ (show Kd.R (Kd.int .i64) 3 _ _ _ _ (rd_L3 y107 x14_1) from ge108_0); clear hv108_0 ge108_0; have HX108_0 := am_ hx108_0; clear hcc108 hce108; (first | simp only [add_plain] at hx108_0 | simp only [add_at] at hx108_0 | simp only [Addr.add, Nat.zero_add] at hx108_0 | skip); have HR108_0 := am_ hi108_0; have HC108_0 := am_ hl108_0; clear hi108_0 hl108_0; replace p108 := eq_true p108; replace q108 := eq_true q108))
    go_loopg [27] k1 (fun kq v27 w' => ∃ (x7_2 : Tb_) (x27_2 : Int), v27 = .int .i64 x27_2 ∧ Aside0 (impl_table.l1 kq a1 a2 x7_2 x14_1 (y101.length : Int) x14_1 ((rd_L3 y107 x14_1).length : Int) x27_2 = some r) ∧ Aside0 (kq ≤ k1) ∧ Aside0 (Kd.S (Kd.slice 3 (Kd.int .i64)) 28 w' w.heap.size (fun _ => True) (.slice (some ⟨go14, 0, none⟩) x7_1.length co8) x7_2) ∧ Aside0 (Below w.heap.size w w'))
    case atStart => exact ⟨(y107), (0), tc3_, H', ⟨Nat.le_refl _⟩, ⟨(by (try simp only [hl7_1]); (with_reducible repeat (first | apply Kd.S_alloc | apply Kd.S_drewN | apply Kd.S_drew)); exact HO_7.out)⟩, ⟨tc0_⟩⟩
    case round =>
     clear H'; (try clear c1); (try clear p1); (try clear q1); (try clear hx1); (try clear p2); (try clear c4); (try clear c4b0); (try clear c4b1); (try clear c5); (try clear c5b0); (try clear c5b1); (try clear c9); (try clear c9b0); (try clear c10); (try clear c10b0); (try clear c10b1); (try clear p10); (try clear q10); (try clear hx10); (try clear c11); (try clear c11b0); (try clear c11b1); (try clear c12); (try clear c12b0); (try clear c13); (try clear c13b0); (try clear c14); (try clear p14); (try clear q14); (try clear hx14); (try clear hf14); (try clear c17); (try clear hx17); (try clear hf17); (try clear c18); (try clear hx108_0); (try clear hx14_0); (try clear hx17_0); (try clear p108); (try clear p14); (try clear p2); (try clear q108); (try clear q14); obtain ⟨x7_2, x27_2, rfl, HA, HK2, HO_7, HB⟩ := hrel; have hl7_2 := (Kd.S_reads' HO_7.out).1; rw [hl7_2] at HO_7; (try simp only [hl7_2])
     cases gk with
     | zero => exact absurd HA.out (by simp [impl_table.l1])
     | succ k2 =>
      have H := HA.out; clear HA; simp only [impl_table.l1] at H
      replace H := sp_ H; obtain ⟨c20b0, H⟩ | ⟨c20b0, H⟩ := H
      ·(try simp only [hl7_1, hl7_2] at c20b0); replace H := ps_ H; obtain ⟨c21b0, H⟩ := H; replace H := ps_ H; obtain ⟨c22b0, H⟩ := H; (try simp only [hl7_1, hl7_2] at c22b0); replace H := bd_ H; obtain ⟨t110, A23, H⟩ := H; (try dsimp only at H); replace H := ps_ H; obtain ⟨c24b0, H⟩ := H; replace H := ps_ H; obtain ⟨c25b0, H⟩ := H; (try simp only [hl7_1, hl7_2] at c25b0); obtain ⟨y111, hy111⟩ : ∃ y_ : List Int, y_ = ((rd_L3 x7_2 x14_1).set (x27_2 : Int).toNat t110) := ⟨_, rfl⟩; replace H : (impl_table.l1 k2 a1 a2 (x7_2.set (x14_1 : Int).toNat y111) x14_1 (y101.length : Int) x14_1 ((rd_L3 y107 x14_1).length : Int) (wrap64 (x27_2 + 1))) = some r := (by first | (rw [hy111]; with_reducible exact H) | (have H2_ := (Option.bind_some _ _).symm.trans H; rw [hy111]; with_reducible exact H2_) | (have H2_ := (Option.bind_some _ _).symm.trans H; with_reducible exact H2_) | with_reducible exact H | (rw [hy111]; exact H) | exact H); have Ny111 := am_ hy111; clear hy111; obtain ⟨y113, hy113⟩ : ∃ y_ : Tb_, y_ = (x7_2.set (x14_1 : Int).toNat y111) := ⟨_, rfl⟩; replace H : (impl_table.l1 k2 a1 a2 y113 x14_1 (y101.length : Int) x14_1 ((rd_L3 y107 x14_1).length : Int) (wrap64 (x27_2 + 1))) = some r := tc40_; have Ny113 := am_ hy113; clear hy113; have H' := am_ H; clear H
       try go_wp2
       replace HO_7 := am_ (Kd.S_drew HO_7.out); replace HB := am_ (below_drew1 HB.out); have p109 : 0 ≤ (x14_1 : Int) := od_; have q109 : x14_1 < (x7_2.length : Int) := od_; obtain ⟨ad109, A109_0, c109_0, e109, hx109_0, hl109_0, hi109_0⟩ := at_L3 (Kd.S_reads' HO_7.out).2.2 x14_1 p109 q109; obtain rfl : (⟨go14, 0, none⟩ : Addr) = ad109 := (by injection e109); obtain ⟨ce109, hce109, hMe109, hcc109⟩ := Kd.S_get HO_7.out [] x14_1 p109 (by first | exact q109 | exact od_ | (have e_ := (Kd.S_reads' HO_7.out).1; omega)); obtain ⟨ve109_0, rfl, ge109_0⟩ := hMe109; have hv109_0 := hcc109 0 _ rfl; rw [Nat.add_zero, show ((Kd.slice 3 (Kd.int .i64))).sz = 1 from rfl, Nat.mul_one] at hv109_0; replace hv109_0 := Option.some.inj (hv109_0.symm.trans hx109_0); rw [hv109_0] at ge109_0; have HL109_0 := am_ (show Kd.R (Kd.int .i64) 3 _ _ _ _ (rd_L3 x7_2 x14_1) from ge109_0); clear hv109_0 ge109_0; have HX109_0 := am_ hx109_0; clear hcc109 hce109; (first | simp only [add_plain] at hx109_0 | simp only [add_at] at hx109_0 | simp only [Addr.add, Nat.zero_add] at hx109_0 | skip); have HR109_0 := am_ hi109_0; have HC109_0 := am_ hl109_0; clear hi109_0 hl109_0; replace p109 := eq_true p109; replace q109 := eq_true q109; refine start_ (n := 11) (S := fun w' => w'.cell? ⟨go14, (x14_1).toNat, none⟩ = some (.slice A109_0 (rd_L3 x7_2 x14_1).length c109_0)) (ds := [10]) #[F,F,F,F,F,F,F,F,F,F,F] (by kernel_rfl) rfl rfl (hx109_0) (fun hHeld => ?_); refine with_tabW impl_table.tab9 impl_table.bits9 (fun HT_ HW_ => ?_); generalize wr.drew = w27 at HO_7 HB HL109_0 HR109_0 HX109_0 hx109_0 hHeld ⊢; refine pure_ (i := 0) (N := some 30) #[T,F,F,F,F,F,F,F,F,F,F] rfl rfl an_ hq_ yi_ nm_ ?_; refine pure_ (i := 1) (N := some 31) #[T,T,F,F,F,F,F,F,F,F,F] rfl rfl an_ hq_ yi_ nm_ ?_; refine pure_ (i := 2) (N := some 32) #[T,T,T,F,F,F,F,F,F,F,F] rfl rfl an_ hq_ yi_ nm_ ?_; refine pure_ (i := 4) (N := some 34) #[T,T,T,F,T,F,F,F,F,F,F] rfl rfl an_ hq_ yi_ nm_ ?_; refine pure_ (i := 5) (N := some 35) #[T,T,T,F,T,T,F,F,F,F,F] rfl rfl an_ hq_ yi_ nm_ ?_; refine pure_ (i := 6) (N := some 36) #[T,T,T,F,T,T,T,F,F,F,F] rfl rfl an_ hq_ yi_ nm_ ?_; refine pure_ (i := 7) (N := some 37) #[T,T,T,F,T,T,T,T,F,F,F] rfl rfl an_ hq_ yi_ nm_ ?_; refine take_ (i := 3) (N := some 33) #[T,T,T,T,T,T,T,T,F,F,F] rfl rfl av_ hq_ yj1_ hHeld nm_ ?_; refine one_ (i := 8) (N := some 38) #[T,T,T,T,T,T,T,T,T,F,F] rfl rfl (one_of HT_.out (by kernel_rfl)) (by decide) (fun K hK => ?_); refine goesF_ eg2 #[.int .i64 x14_1, .int .i64 x27_2] (by rfl) rfl rfl (by first | rfl | (simp [Act.eval]; done)) tc30_ ?_; refine (HF2.out _ ?side1 x14_1 _ K_int x27_2 _ K_int t110 A23.out).mono ?_
       (case side1 => exact tc13_)
       rintro e w28 ⟨rfl, hb⟩; have HS0_ := (hb.cell (World.block_lt_of_cell? _ _ (hHeld))).trans (hHeld); refine ⟨_, rfl, ?_⟩; replace HO_7 := am_ (Kd.S_below tc61_ hb); replace HL109_0 := am_ (Kd.R_below (by (with_reducible repeat (first | apply Kd.R_alloc | apply Kd.R_drewN | apply Kd.R_drew)); exact HL109_0.out) hb); replace HR109_0 := am_ (Kd.C_below (by repeat (first | (with_reducible exact HR109_0.out) | (with_reducible refine Kd.C_alloc ?_ _) | (with_reducible refine Kd.C_drewN ?_ _) | (with_reducible refine Kd.C_drew ?_) | exact HR109_0.out)) hb); replace HX109_0 := am_ (pw_cell_below hb HX109_0.out); replace HB := am_ (below_step tc0_ hb); (try clear hb); (try clear hb2); (try clear hk); (try clear hi); have p26 : 0 ≤ (x27_2 : Int) := od_; have q26 : (x27_2 : Int) < (((rd_L3 x7_2 x14_1).length : Int) : Int) := od_; obtain ⟨go26, co26, eo26, gb26, gl26, cl26, HG26⟩ := Kd.R_form HL109_0.out (by omega); (first | cases eo26 | (injection eo26 with ea_ en_ ec_; (first | subst ea_ | (injection ea_ with ea_; subst ea_)); subst ec_; clear en_)); have GB26 := am_ gb26; have GG26 := am_ HG26; clear gb26 gl26 HG26; obtain ⟨hx26_0, hf26_0⟩ := Kd.R_celln 0 HL109_0.out (x27_2 : Int) p26 q26; replace p26 := eq_true p26; replace q26 := eq_true q26; have hq29 : (x14_1 : Int) < (x7_2.length : Int) := (by have h_ : (x14_1 : Int) < ((x7_2.length : Int) : Int) := od_; first | exact h_ | (have e_ := (Kd.S_reads' HO_7.out).1; omega) | simpa only [List.length_set, List.length_set] using h_); obtain ⟨oki29, ce29, hcl29, hM29, hcc29, hok29, hbk29⟩ := Kd.S_borrow HO_7.out [] (x14_1 : Int) (od_) hq29; obtain ⟨ve29_0, rfl, ge29_0⟩ := hM29; have hv29 := hcc29 0 _ rfl; rw [Nat.add_zero, show ((Kd.slice 3 (Kd.int .i64))).sz = 1 from rfl, Nat.mul_one] at hv29; replace hv29 := Option.some.inj (hv29.symm.trans HX109_0.out); subst hv29; clear hcc29 hcl29; replace ge29_0 := (show Kd.R (Kd.int .i64) 3 _ _ _ _ (rd_L3 x7_2 x14_1) from ge29_0); have HP29 := Kd.R_putg ge29_0 (x27_2 : Int) t110; rw [← Ny111.out] at HP29; have HS29 := hbk29 HP29.2 (fun k_ e_ => by injection e_ with e_; subst e_; exact ge29_0.1 _ rfl) (x' := y111) (Kd.M_row HP29.1); rw [← Ny113.out] at HS29; have HQ29 := am_ HS29; clear HP29 HS29 hbk29 hok29; refine hK.out _ _ (HS0_) (fun hHeld => ?_); clear hK K; refine norm_ (a' := ?_) ?_ ?_; rotate_left
       ·show Act.put _ (some 38) _ = _
        simp only [Act.put, List.setIfInBounds_toArray, List.set_cons_zero, List.set_cons_succ, i64_w, i32_w]
        rfl
       refine pure_ (i := 9) (N := some 39) #[T,T,T,T,T,T,T,T,T,T,F] rfl rfl an_ hq_ yi_ nm_ ?_; refine last_ (i := 10) (N := none) #[T,T,T,T,T,T,T,T,T,T,T] rfl rfl (one_of HT_.out (by kernel_rfl)) (by decide) (fun K hK => ?_); refine skip_ (w1 := ?_) (by rfl) rfl ?_ ?_; rotate_left
       ·go_simp
        rfl
       refine hK.out _ _ ?_; clear hK K; refine done_ (done_of HT_.out (by kernel_rfl)) ?_
       try go_wp2
       (try simp only [← hl7_2])
       go_roundg k2
       case measure => have := HK1.out; have := HK2.out; omega
       case rel => exact ⟨(y113), (wrap64 (x27_2 + 1)), tc3_, H', ⟨tc38_⟩, ⟨(by (try simp only [hl7_1]); (try simp only [hl7_2]); (with_reducible repeat (first | apply Kd.S_alloc | apply Kd.S_drewN | apply Kd.S_drew)); exact HQ29.out)⟩, ⟨(by repeat (first | (with_reducible first | exact HB.out | apply below_alloc | apply pw_below_drewN | apply below_drew1 | refine below_set ?_ GB26.out) | exact HB.out))⟩⟩
      ·(try simp only [hl7_1, hl7_2] at c20b0); have H' := am_ H; clear H; go_wp2; (try simp only [← hl7_1, ← hl7_2])
       go_roundg k2
       case measure => have := HK1.out; have := HK2.out; omega
       case rel => exact ⟨(x7_2), (wrap64 (x14_1 + 1)), tc3_, H', ⟨tc38_⟩, ⟨(by (try simp only [hl7_1]); (try simp only [hl7_2]); (with_reducible repeat (first | apply Kd.S_alloc | apply Kd.S_drewN | apply Kd.S_drew)); exact HO_7.out)⟩, ⟨tc0_⟩⟩
   ·(try simp only [hl7_1] at c9b0); obtain rfl := Option.some.inj H; go_wp2
    go_ret
    exact ⟨_, tc6_, tc61_, tc0_⟩

/-! ### impl_JointTable_1: function 19 -/
def impl_JointTable_1.f (a0 : Int) (a1 : Int) : Option (Int) := some 0
theorem impl_JointTable_1.calls (a0 : Int) (a1 : Int) (r : Int) (w : World) (h : impl_JointTable_1.f a0 a1 = some r) :
  Calls Try.prog 19 #[.int .i64 a0, .int .i64 a1] w fun e w' => e = .returned (.int .i64 r) ∧ Drawn0 w w' := by
 (try unfold impl_JointTable_1.f at h); have H := h; clear h; obtain rfl := Option.some.inj H; go_enter Try.func19, Try.ntmps19; go_wp2
 go_ret
 exact ⟨tc3_, tc4_⟩

/-! ### impl_sum: function 37 -/
def impl_sum.l0 : Nat → Int → List Int → Int → Int → Option (Int)
 | 0, _, _, _, _ => none
 | k + 1, x3, x6, x7, x8 => if x8 < x7 then (if 0 ≤ x8 then (if x8 < (x6.length : Int) then (impl_sum.l0 k (wrap64 (x3 + (rd x6 x8))) x6 x7 (wrap64 (x8 + 1))) else (none)) else (none)) else (some x3)
def impl_sum.f (k : Nat) (l0 : List Int) : Option (Int) := impl_sum.l0 k 0 l0 (l0.length : Int) 0
theorem impl_sum.mono_l : ∀ k, (∀ y0 y1 y2 y3, LeO (impl_sum.l0 k y0 y1 y2 y3) (impl_sum.l0 (k + 1) y0 y1 y2 y3))
 | 0 => fun _ _ _ _ r h => by simp [impl_sum.l0] at h
 | k + 1 => by
  have ih0 := impl_sum.mono_l k
  ·intro y0 y1 y2 y3; unfold impl_sum.l0
   repeat' first
   | (with_reducible exact ih0 _ _ _ _)
   | (with_reducible exact LeO.refl _)
   | (with_reducible exact LeO.none _)
   | (with_reducible refine LeO.ite ?_ ?_)
   | (with_reducible refine LeO.bind ?_ (fun _ => ?_))
   | exact ih0 _ _ _ _
   | exact LeO.none _
   | refine LeO.ite ?_ ?_
   | refine LeO.bind ?_ (fun _ => ?_)
theorem impl_sum.mono : ∀ a0  k, LeO (impl_sum.f k a0) (impl_sum.f (k + 1) a0) := by
 intro a0 k; have ih0 := impl_sum.mono_l k; unfold impl_sum.f
 repeat' first
   | (with_reducible exact ih0 _ _ _ _)
   | (with_reducible exact LeO.refl _)
   | (with_reducible exact LeO.none _)
   | (with_reducible refine LeO.ite ?_ ?_)
   | (with_reducible refine LeO.bind ?_ (fun _ => ?_))
   | exact ih0 _ _ _ _
   | exact LeO.none _
   | refine LeO.ite ?_ ?_
   | refine LeO.bind ?_ (fun _ => ?_)
theorem impl_sum.calls (k : Nat) (A0 : Option Addr) (c0 : Nat) (l0 : List Int) (r : Int) (w : World) (hr0 : Kd.C (Kd.int .i64) w A0 l0.length l0) (hc0 : l0.length ≤ c0) (h : impl_sum.f k l0 = some r) :
  Calls Try.prog 37 #[.slice A0 l0.length c0] w fun e w' => e = .returned (.int .i64 r) ∧ Drawn0 w w' := by
 have HR0 := am_ hr0; have HC0 := am_ hc0; clear hr0 hc0; (try unfold impl_sum.f at h); have H := h; clear h; have H' := am_ H; clear H; go_enter Try.func37, Try.ntmps37; go_wp2
 go_loopg [3, 8] k (fun kq v3 v8 w' => ∃ (x3_1 : Int) (x8_1 : Int), v3 = .int .i64 x3_1 ∧ v8 = .int .i64 x8_1 ∧ Aside0 (impl_sum.l0 kq x3_1 l0 (l0.length : Int) x8_1 = some r) ∧ Aside0 (kq ≤ k) ∧ Drawn0 w w')
 case atStart => exact ⟨(0), (0), tc3_, tc3_, H', ⟨Nat.le_refl _⟩, tc4_⟩
 case round =>
  clear H'; obtain ⟨x3_1, x8_1, rfl, rfl, HA, HK1, ⟨m1, rfl⟩⟩ := hrel
  cases gk with
  | zero => exact absurd HA.out (by simp [impl_sum.l0])
  | succ k1 =>
   have H := HA.out; clear HA; simp only [impl_sum.l0] at H
   replace H := sp_ H; obtain ⟨c2b0, H⟩ | ⟨c2b0, H⟩ := H
   ·replace H := ps_ H; obtain ⟨c3b0, H⟩ := H; replace H := ps_ H; obtain ⟨c4b0, H⟩ := H; have H' := am_ H; clear H; have p101 : 0 ≤ (x8_1 : Int) := od_; have q101 : x8_1 < (l0.length : Int) := od_; obtain ⟨ad101, e101, hx101_0⟩ := Kd.at_int HR0.out x8_1 p101 q101; cases e101; replace p101 := eq_true p101; replace q101 := eq_true q101; go_wp2
    go_roundg k1
    case measure => have := HK1.out; omega
    case rel => exact ⟨(wrap64 (x3_1 + (rd l0 x8_1))), (wrap64 (x8_1 + 1)), tc3_, tc3_, H', ⟨tc56_⟩, tc4_⟩
   ·obtain rfl := Option.some.inj H; go_wp2
    go_ret
    exact ⟨tc3_, tc4_⟩

end Go.Proofs.Ytbdkfmpfghcilaa.X
