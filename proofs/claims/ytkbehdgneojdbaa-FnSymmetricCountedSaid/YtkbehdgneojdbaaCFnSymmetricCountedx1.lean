-- Written by a program of this session (wip/xprint.py) that drives the kit's print; the contracts of what it does not take are this session's own.
import Derived.Test.YtkbehdgneojdbaaCFnSymmetricCountedx0
namespace Go.Proofs.Ytkbehdgneojdbaa.X
open Go.RowKit Go.Proofs.YtkbehdgneojdbaaW.PrintWords Go.Proofs.YtkbehdgneojdbaaW.PrintLast Go.Proofs.YtkbehdgneojdbaaW.PrintMore
attribute [local go_sem] max2_int min2_int max_two min_two max_three min_three max_four min_four   -- for this text's walks alone
set_option linter.unusedVariables false
set_option linter.unusedSimpArgs false

/-! ### at_1: function 0 -/
/-! ### What is asked of function values, and plain words -/
/-- A function value of one parameter that answers as p says, wherever memory has only grown. -/
structure Fn1 {α ρ : Type} (d : Kd α) (enc : ρ → Value) (P : Program) (g : Nat) (lb : Array Value) (p : α → Option ρ) (w : World) : Prop where
 eg : ∀ args w, (callFunc g args).run P w = .ok (.enter g args) w
 cl : ∀ W, Below w.heap.size w W → ∀ x v, d.K W x [v] → ∀ r, p x = some r → Calls P g (#[v] ++ lb) W fun e W' => e = .returned (enc r) ∧ Below W.heap.size W W'
/-- .. of two. -/
structure Fn2 {α β ρ : Type} (d : Kd α) (d2 : Kd β) (enc : ρ → Value) (P : Program) (g : Nat) (lb : Array Value) (p : α → β → Option ρ) (w : World) : Prop where
 eg : ∀ args w, (callFunc g args).run P w = .ok (.enter g args) w
 cl : ∀ W, Below w.heap.size w W → ∀ x v, d.K W x [v] → ∀ y u, d2.K W y [u] → ∀ r, p x y = some r → Calls P g (#[v, u] ++ lb) W fun e W' => e = .returned (enc r) ∧ Below W.heap.size W W'
theorem quiet_drawn {P : Program} {f : FuncId} {args : Array Value} {w : World} {n : Nat} {v : Value}
  (h : Calls P f args (w.drewN n) fun e w' => e = .returned v ∧ Drawn0 (w.drewN n) w') : Calls P f args (w.drewN n) fun e w'' => e = .returned v ∧ ∃ m, w'' = w.drewN m :=
 h.mono fun _ _ ⟨he, hm⟩ => by
  obtain ⟨m, rfl⟩ := hm
  exact ⟨he, n + m, World.drewN_drewN ..⟩
theorem drawn_keep {w w' : World} (h : Drawn0 w w') (g : Nat) (row : Option Nat) : KeepBut w w' g row := by
 obtain ⟨n, rfl⟩ := h
 exact ⟨Nat.le_refl _, fun _ _ _ _ => rfl⟩
theorem region_tail {P : Program} {id : Nat} {Q : Exit → Act → World → Prop} {a : Act} {w : World} {l : List Oper} (n : Nat) (hm : P.follows .mixedOrders = true) (hB : Region.lexTailB .any l.toArray n = true)
  (h : ∀ w', w' = w.drew → wpStill P l.toArray w' (fun a' => wpList P l.toArray Q (l.drop n) a' w') (l.take n) a) : (Code.region id l.toArray true).wp P Q a w :=
 wp_region_still_tail n hm hB (h _ rfl)
theorem Fn1.later {α ρ : Type} {d : Kd α} {enc : ρ → Value} {P : Program} {g : Nat} {lb : Array Value} {p : α → Option ρ} {w W : World} (h : Fn1 d enc P g lb p w) (hb : Below w.heap.size w W) : Fn1 d enc P g lb p W :=
 ⟨h.eg, fun W' hb' => h.cl W' (hb.trans (hb'.mono hb.size))⟩
theorem Fn2.later {α β ρ : Type} {d : Kd α} {d2 : Kd β} {enc : ρ → Value} {P : Program} {g : Nat} {lb : Array Value} {p : α → β → Option ρ} {w W : World} (h : Fn2 d d2 enc P g lb p w) (hb : Below w.heap.size w W) : Fn2 d d2 enc P g lb p W :=
 ⟨h.eg, fun W' hb' => h.cl W' (hb.trans (hb'.mono hb.size))⟩
theorem K_int {k : IntKind} {w : World} {x : Int} : (Kd.int k).K w x [.int k x] := rfl
theorem K_slice {α : Type} {e : Nat} {d : Kd α} {w : World} {xs : List α} {A : Option Addr} {c : Nat} (h1 : xs.length ≤ c) (h2 : d.C w A xs.length xs) : (Kd.slice e d).K w xs [.slice A xs.length c] := ⟨A, c, rfl, h1, h2⟩
/-- A call of a function value that lies in a slot, as one step of a region that draws. -/
theorem goesF_ {P : Program} {ops : Array Oper} {Q : Exit → Act → World → Prop} {oi : Oper} {N : Option Tmp} {a : Act} {w : World} {K : Act → World → Prop} {g : Nat} {lb : Array Value} {fo : Operand} {aa : Array Operand} {ts : Array TypeId} (eg : ∀ args w, (callFunc g args).run P w = .ok (.enter g args) w) (args : Array Value)
  (hw : Region.wanted oi (yielded ops a.tmps) = true) (hN : oi.dst = N) (hop : oi.op = .call { callee := .value fo, args := aa, argTypes := ts }) (hf : a.eval fo = .func (.func g) #[] lb) (hargs : aa.map a.eval = args)
  (h : Calls P g (args ++ lb) w fun e w' => ∃ v, e = .returned v ∧ K (a.put N v) w') : if Region.wanted oi (yielded ops a.tmps) = true then Oper.wp P oi a w K Q else K (a.put N undef) w := by
 refine call_ g (args ++ lb) hw hN ?_ h
 have he := eg (args ++ lb) w
 unfold execOp
 simp [hop, resolve, Deferred.ofValue, invoke, hargs, he, hf]

/-! ### at_2: function 0 -/
section
variable {α : Type} {d : Kd α} {e : Nat} {w0 w w1 : World} {lo hi lo' hi' : Nat} {v : Value} {x : List α} {S : Nat → Prop}
/-- A row of this call's own whose blocks lie between two sizes of the heap. -/
def ObS (d : Kd α) (e : Nat) (w0 w : World) (lo hi : Nat) (v : Value) (x : List α) : Prop := hi ≤ w.heap.size ∧ Kd.S d e w w0.heap.size (fun k => lo ≤ k ∧ k < hi) v x
def ObR (d : Kd α) (e : Nat) (w0 w : World) (lo hi : Nat) (v : Value) (x : List α) : Prop := hi ≤ w.heap.size ∧ d.R e w w0.heap.size (fun k => lo ≤ k ∧ k < hi) v x
theorem ObS.later (h : ObS d e w0 w lo hi v x) (hb : Below w.heap.size w w1) : ObS d e w0 w1 lo hi v x := ⟨Nat.le_trans h.1 hb.size, Kd.S_below h.2 hb⟩
theorem ObR.later (h : ObR d e w0 w lo hi v x) (hb : Below w.heap.size w w1) : ObR d e w0 w1 lo hi v x := ⟨Nat.le_trans h.1 hb.size, Kd.R_below h.2 hb⟩
end
/-! ### at_3: function 0 -/
section
variable {α : Type} {d : Kd α} {e : Nat} {w0 w w1 : World} {A : Option Addr} {n c : Nat} {l : List α} {x : α} {S : Nat → Prop}
/-- A block of one cell, just made, as a row that is read. -/
theorem C_box (hs : d.sz = 1) {v : Value} (hK : d.K w x [v]) (t : TypeId) : d.C (w.alloc (.cells #[v] t)) (some ⟨w.heap.size, 0, none⟩) 1 [x] := by
  refine ⟨rfl, by omega, fun _ => ⟨_, rfl, fun j p hj => ?_⟩⟩
  cases j with
  | succ j => simp at hj
  | zero =>
    obtain rfl : x = p := by simpa using hj
    refine ⟨[v], hs.symm, d.K_below (below_alloc (Below.refl _ _) _) hK, fun i u hu => ?_⟩
    cases i with
    | succ i => simp at hu
    | zero =>
      obtain rfl : v = u := by simpa using hu
      rw [Nat.zero_mul, Nat.add_zero, Addr.add_lit]
      exact (blk_cell (blk_new w (.cells #[v] t)) 0).trans rfl
/-- An empty row, just made. -/
theorem R_empty {g base : Nat} {ok : Nat → Prop} (hg : w.heap[g]? = some (.cells #[] e (0, 0))) (hb : base ≤ g) (hok : ok g := by trivial) : d.R e w base ok (.slice (some ⟨g, 0, none⟩) 0 0) [] :=
  ⟨fun k hk => by (have e : g = k := by simpa [Value.ownBlock] using hk); exact e ▸ hok, [], ⟨by simp, .inr ⟨g, 0, #[], rfl, hb, hg, Nat.le_refl _, by unfold maxLen; omega, by simp, by simp⟩⟩, Reps.none _ _⟩
theorem blk_new' {o : Obj} {n : Nat} (h : w.heap.size = n) : (w.alloc o).heap[n]? = some o := h ▸ blk_new w o
theorem cell_of_below {a : Addr} {v : Value} (hb : Below w.heap.size w w1) (h : w.cell? a = some v) : w1.cell? a = some v := (hb.cell (World.block_lt_of_cell? _ _ h)).trans h
/-- A row whose cells have just been copied into a new block. -/
theorem N_grown {W : World} {ok : Nat → Prop} {v1 : Value} {xs : List α} {inner : List Value} (h : Reps (fun x c => Kd.FK d W ok x c) d.sz xs inner) (hown : w1.ownsRow W.heap.size e d.sz v1 xs.length inner) (hg : W.grownBy w1 none) :
    Kd.N d e w1 W.heap.size (fun k => ok k ∨ W.heap.size ≤ k) v1 xs := by
  refine ⟨fun k hk => .inr (own_base hown k hk), Kd.chunks d.sz xs.length inner, Kd.chunks_length _ _ _, ⟨fun k hk => hk.symm, inner, by rw [Kd.chunks_length]; exact hown, Kd.reps_raw h (fun x c hp => ⟨d.K_len (Kd.FK_now hp), d.K_one (Kd.FK_now hp)⟩)⟩, fun j x c hx hc => ?_⟩
  rw [Kd.chunks_get hc]
  refine Kd.FK_mono (Kd.FK_step (Kd.FK_bound (h.2 j x hx)) (fun k hk hlt => hg.block k hlt (by simp))) (fun k hk => ⟨.inl hk.1, fun he => ?_⟩)
  have := own_base hown k he.symm
  have := hk.2
  omega
/-- append onto a row that has no room left: a new row, the old one is only read. -/
theorem V_push_step {P : Program} {ops : Array Oper} {o : Oper} {a : Act} {W : World} {K : Act → World → Prop} {Q : Exit → Act → World → Prop} {E : Prop} {ok : Nat → Prop}
    (hg : o.guard = none) (s x : Operand) (t : TypeId) (hop : o.op = Op.call { callee := Callee.builtin Builtin.append, args := #[s, x], argTypes := #[t, t] }) (z : Value) (bytes : Nat)
    (h1 : P.underlying t = some (.slice e)) (h2 : (P.info? e).map (fun i => (i.zero, i.size, i.bytes)) = some (some z, 1, bytes)) (h6 : z.cells.size = 1) (hs1 : d.sz = 1)
    {A : Option Addr} {xs : List α} {y : α} {u : Value} {ad : Addr} (hs : a.eval s = .slice A xs.length xs.length) (hF : Kd.F d W ok A xs.length xs) (hx : a.eval x = .slice (some ad) 1 1) (hK : Kd.FK d W ok y [u]) (hc : W.cell? ad = some u)
    (b2 : (xs.length + 1) * bytes ≤ 140737488355328) (b3 : xs.length + 1 ≤ 140737488355328)
    (h : ∀ v1 w1, Kd.N d e w1 W.heap.size (fun k => ok k ∨ W.heap.size ≤ k) v1 (xs ++ [y]) → Below W.heap.size W w1 → K (a.put o.dst v1) w1) :
    if Region.wanted o (yielded ops a.tmps) = true then Oper.wp P o a W K Q else E := by
  obtain ⟨i0, hi, hzz⟩ := Option.map_eq_some_iff.1 h2
  simp only [Prod.mk.injEq] at hzz
  obtain ⟨hz0, hz1, hz2⟩ := hzz
  have hone : ∀ w ∈ [u], w.oneCell' = true := d.K_one (Kd.FK_now hK)
  have hol : ∃ olds, Reps (fun x c => Kd.FK d W ok x c) d.sz xs olds ∧ ∀ b, A = some b → ∀ j u, olds[j]? = some u → W.cell? (b.add j) = some u := by
    cases A with
    | some b =>
      obtain ⟨olds, h3, h4⟩ := ReadsRow.inner_ (Kd.F_rows hF)
      exact ⟨olds, h3, fun b' hb => by injection hb with hb; subst hb; exact h4⟩
    | none =>
      have h0 : xs = [] := by
        have h1 := (Kd.F_now hF).2.2
        cases xs with
        | nil => rfl
        | cons x xs =>
          obtain ⟨ad, e, _⟩ := h1 (by simp)
          cases e
      subst h0
      exact ⟨[], Reps.none _ _, fun b hb => by cases hb⟩
  obtain ⟨olds, hr, hcells⟩ := hol
  have hnone : A = none → xs.length = 0 ∧ xs.length = 0 := by
    rintro rfl
    have h1 := (Kd.F_now hF).2.2
    rcases Nat.eq_zero_or_pos xs.length with h0 | h0
    · exact ⟨h0, h0⟩
    · obtain ⟨ad, e, _⟩ := h1 h0
      cases e
  refine step_append_grows hg s x t hop e i0 z 1 bytes h1 hi hz0 hz1 hz2 h6 (by omega) A xs.length xs.length olds hs hnone (by rw [hr.1, hs1]) hcells ad 1 1 [u] hx rfl ?_ hone (by omega) (by simp only [maxLen]; omega) b2 ?_
  · intro j v hv
    cases j with
    | zero =>
      obtain rfl : u = v := by simpa using hv
      simpa [Addr.add] using hc
    | succ j => simp at hv
  · intro v1 w1 hown hgr
    have hr2 := hr.snoc hK (by rw [hs1]; rfl)
    have hown2 : w1.ownsRow W.heap.size e d.sz v1 (xs ++ [y]).length (olds ++ [u]) := by
      rw [hs1, List.length_append]
      exact hown
    exact h v1 w1 (N_grown hr2 hown2 hgr) ((Below.refl _ _).grown hgr (Nat.le_refl _) (fun _ h => by cases h))
/-- Kept, and the streams are as they were. -/
def Kp (w W : World) (S : Nat → Prop) : Prop := Kept w W S ∧ Below 0 w W
theorem Kp.refl (w : World) (S : Nat → Prop) : Kp w w S := ⟨Kept.refl _ _, Below.refl _ _⟩
theorem Kp.sz {W : World} (h : Kp w W S) : w.heap.size ≤ W.heap.size := h.1.1
theorem Kp.at {W : World} (h : Kp w W S) (k : Nat) (hk : k < w.heap.size) (hn : ¬ S k) : W.heap[k]? = w.heap[k]? := h.1.2 k hk hn
theorem Kp.mono {W : World} {S' : Nat → Prop} (h : Kp w W S) (hs : ∀ k, S k → S' k) : Kp w W S' := ⟨h.1.mono hs, h.2⟩
theorem Kp.then_ {W W2 : World} {S2 : Nat → Prop} (h : Kp w W S) (k : Kp W W2 S2) (hs : ∀ k, S2 k → S k ∨ w.heap.size ≤ k) : Kp w W2 S := ⟨h.1.then_ k.1 hs, h.2.trans k.2⟩
theorem Kp.below {W W2 : World} (h : Kp w W S) (hb : Below W.heap.size W W2) : Kp w W2 S := ⟨h.1.below hb, h.2.trans (hb.mono (Nat.zero_le _))⟩
theorem Kp.of_below {W : World} (h : Below w.heap.size w W) (S : Nat → Prop) : Kp w W S := ⟨Kept.of_below h S, h.mono (Nat.zero_le _)⟩
theorem Kp.drew {W : World} (h : Kp w W S) : Kp w W.drew S := ⟨h.1, h.2.drew⟩
theorem Kp.drewN {W : World} (h : Kp w W S) (m : Nat) : Kp w (W.drewN m) S := h.below (pw_below_drewN (Below.refl _ _) m)
theorem Kp.setCell {W : World} (h : Kp w W S) {p : Addr} (hp : S p.block ∨ w.heap.size ≤ p.block) (u : Value) : Kp w (W.setCell p u) S := ⟨h.1.setCell hp u, h.2.setCell (Nat.zero_le _) u⟩
/-- What lies below all of S is as it was. -/
theorem Kp.to_below {W : World} {B : Nat} (h : Kp w W S) (hB : B ≤ w.heap.size) (hs : ∀ k, S k → B ≤ k) : Below B w W :=
  ⟨h.2.os, h.2.tape, h.2.output, h.2.size, fun k hk => h.1.2 k (by omega) (fun h1 => by have := hs k h1; omega)⟩
/-- An element of a row of rows. -/
theorem V_row {W : World} {ok : Nat → Prop} {e' b b' cc : Nat} {xs : List (List α)} (h : Kd.V (Kd.slice e d) e' W b ok (.slice A xs.length cc) xs) (i : Int) (h0 : 0 ≤ i) (h1 : i < xs.length) :
    ∃ ad Aw cw, A = some ad ∧ W.cell? (ad.add i.toNat) = some (.slice Aw (xs.getD i.toNat []).length cw) ∧ Kd.V d e W b' ok (.slice Aw (xs.getD i.toNat []).length cw) (xs.getD i.toNat []) := by
  obtain ⟨ad, cs, he, _, hK, hcc, _⟩ := Kd.F_get (Kd.V_F h) [] i h0 (by simpa using h1)
  obtain ⟨Aw, cw, rfl, hl, hf⟩ := Kd.FK_slice_open hK
  have hx := hcc 0 _ rfl
  rw [show (Kd.slice e d).sz = 1 from rfl, Nat.mul_one, Nat.add_zero] at hx
  exact ⟨ad, Aw, cw, he, hx, Kd.V_mk hl hf⟩
theorem V_kept_to {W : World} {S' : Nat → Prop} {v : Value} {xs : List α} {b g : Nat} (h : Kd.V d e W b (fun k => ¬ S k ∧ k ≠ g) v xs) (hk : Kp W w1 S) (hs : ∀ k, S' k → S k ∨ W.heap.size ≤ k) : Kd.V d e w1 b (fun k => ¬ S' k ∧ k ≠ g) v xs :=
  Kd.V_mono (Kd.V_kept (Kd.V_bound h) hk.1 (fun k hk => hk.1.1)) (fun k hk => ⟨fun h' => (hs k h').elim hk.1.1 (fun h2 => by have := hk.2; omega), hk.1.2⟩)
/-- A block of numbers, whole, as a row that is read. -/
theorem C_nums {k : IntKind} {g t : Nat} {xs : List Int} (h : w.heap[g]? = some (.cells (nums k xs).toArray t (0, 0))) (hl : xs.length ≤ 9223372036854775807) : (Kd.int k).C w (some ⟨g, 0, none⟩) xs.length xs := by
  refine ⟨rfl, hl, fun _ => ⟨_, rfl, fun j p hj => ⟨[.int k p], rfl, rfl, fun i u hu => ?_⟩⟩⟩
  cases i with
  | succ i => simp at hu
  | zero =>
    obtain rfl : Value.int k p = u := by simpa using hu
    have hx := blk_cell h j
    rw [show j * (Kd.int k).sz + 0 = j from by show j * 1 + 0 = j; omega, Addr.add_lit, Nat.zero_add, hx]
    simp [nums, hj]
theorem nums_set {k : IntKind} {xs : List Int} (i : Nat) (v : Int) : (nums k xs).toArray.setIfInBounds i (.int k v) = (nums k (xs.set i v)).toArray := by
  simp [nums, List.map_set]
/-- make([]int, n): a block of zeros. -/
theorem make_zeros {P : Program} {o : Oper} {a : Act} {x : Operand} {ty e0 : TypeId} (ho : o.op = .makeSlice ty x x) (n : Int) (hx : a.eval x = .int .i64 n) (ht : P.underlying ty = some (.slice e0))
    (hinfo : (P.info? e0).map (fun i => (i.zero, i.size, i.bytes)) = some (some (.int .i64 0), 1, 8)) (h0 : 0 ≤ n) (h1 : n ≤ 1000000) (W : World) :
    (execOp a.eval o).run P W = .ok (.value (.slice (some ⟨W.heap.size, 0, none⟩) n.toNat n.toNat)) (W.alloc (.cells (nums .i64 (List.replicate n.toNat 0)).toArray e0)) := by
  obtain ⟨i0, hi, hzz⟩ := Option.map_eq_some_iff.1 hinfo
  simp only [Prod.mk.injEq] at hzz
  obtain ⟨hz0, hz1, hz2⟩ := hzz
  have hr := run_make (P := P) W ty e0 i0 _ ht hi hz0 .i64 .i64 n n h0 (Int.le_refl _) (by rw [hz2]; omega) (by omega)
  have hm : madeCells (Value.int .i64 0).cells (n.toNat * i0.size) = (nums .i64 (List.replicate n.toNat 0)).toArray := by
    rw [hz1, Nat.mul_one]
    refine Array.ext (by simp [madeCells, nums]) fun i h1 h2 => ?_
    simp [madeCells, nums, Value.cells, Nat.mod_one]
  rw [hm] at hr
  simp [execOp, ho, hx, hr]
/-- What was written and then put back. -/
theorem Kp.back {W : World} {g : Nat} {o : Obj} (h : Kp w W (fun k => S k ∨ k = g)) (h1 : w.heap[g]? = some o) (h2 : W.heap[g]? = some o) : Kp w W S :=
  ⟨⟨h.sz, fun i hi hn => by
    by_cases hg : i = g
    · subst hg; rw [h1, h2]
    · exact h.at i hi (fun hs => hs.elim hn hg)⟩, h.2⟩
/-- A function value with a state of its own: what it holds in memory is told by Inv over the blocks of S. -/
structure FnS {σ α ρ : Type} (d : Kd α) (enc : ρ → Value) (P : Program) (g : Nat) (lb : Array Value) (p : σ → α → Option (σ × ρ)) (Inv : σ → World → (Nat → Prop) → Prop) : Prop where
  eg : ∀ args w, (callFunc g args).run P w = .ok (.enter g args) w
  bd : ∀ s W S, Inv s W S → ∀ k, S k → k < W.heap.size
  st : ∀ s W S W', Inv s W S → Below 0 W W' → (∀ k, S k → W'.heap[k]? = W.heap[k]?) → Inv s W' S
  cl : ∀ s W S, Inv s W S → ∀ x v, d.K W x [v] → ∀ s' r, p s x = some (s', r) → Calls P g (#[v] ++ lb) W fun e W' => e = .returned (enc r) ∧ ∃ S', Inv s' W' S' ∧ Kp W W' S ∧ ∀ k, S' k → S k ∨ W.heap.size ≤ k
end
def rowOk (sums row : List Int) : Bool := decide (sums.length = row.length) && sums.all (fun s => decide (0 ≤ s) && decide (s ≤ 1)) && row.all (fun s => decide (-1 ≤ s) && decide (s ≤ 1))
theorem rowOk_len {sums row : List Int} (h : rowOk sums row = true) : sums.length = row.length ∧ (List.zipWith (· + ·) sums row).length = row.length := by
  simp only [rowOk, Bool.and_eq_true, decide_eq_true_eq] at h
  exact ⟨h.1.1, by rw [List.length_zipWith, h.1.1, Nat.min_self]⟩
theorem rowOk_at {sums row : List Int} (h : rowOk sums row = true) (j : Nat) (hj : j < row.length) : 0 ≤ sums.getD j 0 ∧ sums.getD j 0 ≤ 1 ∧ -1 ≤ row.getD j 0 ∧ row.getD j 0 ≤ 1 ∧ (List.zipWith (· + ·) sums row).getD j 0 = sums.getD j 0 + row.getD j 0 := by
  have hl := (rowOk_len h).1
  simp only [rowOk, Bool.and_eq_true, List.all_eq_true, decide_eq_true_eq] at h
  have h1 := h.1.2 (sums.getD j 0) (by rw [List.getD_eq_getElem?_getD, List.getElem?_eq_getElem (by omega)]; exact List.getElem_mem _)
  have h2 := h.2 (row.getD j 0) (by rw [List.getD_eq_getElem?_getD, List.getElem?_eq_getElem hj]; exact List.getElem_mem _)
  refine ⟨h1.1, h1.2, h2.1, h2.2, ?_⟩
  simp [List.getD_eq_getElem?_getD, List.getElem?_zipWith, List.getElem?_eq_getElem hj, List.getElem?_eq_getElem (show j < sums.length by omega)]
/-- The first j numbers of one row, the others of the other one. -/
def rowMid (a b : List Int) (j : Nat) : List Int := a.take j ++ b.drop j
theorem rowMid_len {a b : List Int} (h : a.length = b.length) (j : Nat) : (rowMid a b j).length = b.length := by
  simp [rowMid]; omega
theorem rowMid_at {a b : List Int} (h : a.length = b.length) (j : Nat) (hj : j < b.length) : (rowMid a b j).getD j 0 = b.getD j 0 := by
  simp only [rowMid, List.getD_eq_getElem?_getD]
  rw [List.getElem?_append_right (by simp; omega)]
  simp only [List.length_take, List.getElem?_drop]
  rw [show j + (j - min j a.length) = j by omega]
theorem rowMid_set {a b : List Int} (h : a.length = b.length) (j : Nat) (hj : j < b.length) : (rowMid a b j).set j (a.getD j 0) = rowMid a b (j + 1) := by
  refine List.ext_getElem (by rw [List.length_set, rowMid_len h, rowMid_len h]) fun i h1 h2 => ?_
  rw [List.length_set, rowMid_len h] at h1
  simp only [rowMid, List.getElem_set, List.getElem_append, List.length_take, List.getElem_take, List.getElem_drop]
  by_cases e : j = i
  · subst e
    rw [if_pos rfl, dif_pos (by omega), List.getD_eq_getElem?_getD, List.getElem?_eq_getElem (by omega)]; rfl
  · rw [if_neg e]
    by_cases e2 : i < j
    · rw [dif_pos (by omega), dif_pos (by omega)]
    · rw [dif_neg (by omega), dif_neg (by omega)]
      congr 1
      omega
theorem rowMid_zero {a b : List Int} : rowMid a b 0 = b := by simp [rowMid]
theorem rowMid_all {a b : List Int} {j : Nat} (h : a.length = b.length) (hj : j = b.length) : rowMid a b j = a := by
  subst hj
  simp only [rowMid]
  rw [← h]
  simp
  omega

/-! ### at_4: function 0 -/
/-- Rows whose own rows lie apart: as Kd.slice, what is owned told by S. -/
def sliceS {α : Type} (e : Nat) (d : Kd α) : Kd (List α) where
  sz := 1
  E := e :: d.E
  K := (Kd.slice e d).K
  M := fun w base ok xs cs => ∃ v, cs = [v] ∧ Kd.S d e w base ok v xs
  K_len := fun h => (Kd.slice e d).K_len h
  K_one := fun h => (Kd.slice e d).K_one h
  K_below := fun hb h => (Kd.slice e d).K_below hb h
  K_of_M := by
    rintro w base ok x cs ⟨v, rfl, h⟩
    obtain ⟨A, c, rfl, hl, hr⟩ := Kd.S_reads h
    exact ⟨A, c, rfl, hl, hr⟩
  M_mono := by
    rintro w base ok ok' x cs hok ⟨v, rfl, h⟩
    exact ⟨v, rfl, Kd.S_mono h hok⟩
  M_bound := by
    rintro w base ok x cs ⟨v, rfl, h⟩
    exact ⟨v, rfl, Kd.S_bound h⟩
  M_move := by
    rintro w w1 base ok x cs hm ⟨v, rfl, h⟩
    exact ⟨v, rfl, Kd.S_move h hm⟩
  M_lower := by
    rintro w base base' ok x cs hb ⟨v, rfl, h⟩
    exact ⟨v, rfl, Kd.S_lower h hb⟩
section
variable {α : Type} {d : Kd α} {e lo hi lo' hi' : Nat} {w0 w w1 : World} {v : Value} {x : List α}
/-- A new row whose rows may be one another's, that is only read: its blocks lie between lo and hi. -/
def ObN (d : Kd α) (e : Nat) (w0 w : World) (lo hi : Nat) (v : Value) (x : List α) : Prop := hi ≤ w.heap.size ∧ Kd.N d e w w0.heap.size (fun k => lo ≤ k ∧ k < hi) v x
theorem ObN.later (h : ObN d e w0 w lo hi v x) (hb : Below w.heap.size w w1) : ObN d e w0 w1 lo hi v x := ⟨Nat.le_trans h.1 hb.size, Kd.N_below h.2 hb⟩
end

/-! ### laws_big: function 7 -/
def laws_big.f (l0 : List Int) (l1 : List Int) : Option (Bool) := if (l0.length : Int) > 1048576 then (some true) else (some (decide ((l1.length : Int) > (wrap64 (1048576 - (l0.length : Int))))))
set_option maxHeartbeats 8000000 in
set_option maxRecDepth 100000 in
theorem laws_big.calls (A0 : Option Addr) (c0 : Nat) (l0 : List Int) (A1 : Option Addr) (c1 : Nat) (l1 : List Int) (r : Bool) (w : World) (hr0 : Kd.C (Kd.int .u8) w A0 l0.length l0) (hc0 : l0.length ≤ c0) (hr1 : Kd.C (Kd.int .u8) w A1 l1.length l1) (hc1 : l1.length ≤ c1) (h : laws_big.f l0 l1 = some r) :
  Calls Try.prog 7 #[.slice A0 l0.length c0, .slice A1 l1.length c1] w fun e w' => e = .returned (.bool r) ∧ Drawn0 w w' := by
 have HR0 := am_ hr0
 have HC0 := am_ hc0
 clear hr0 hc0
 have HR1 := am_ hr1
 have HC1 := am_ hc1
 clear hr1 hc1
 have H : (if (l0.length : Int) > 1048576 then (some true) else (some (decide ((l1.length : Int) > (wrap64 (1048576 - (l0.length : Int))))))) = some r := h
 clear h
 by_cases c3 : (l0.length : Int) > 1048576
 ·rw [if_pos c3] at H
  have c3b0 : decide (1048576 < (l0.length : Int)) = true := decide_eq_true c3
  have c3b1 : decide (1048576 < l0.length) = true := decide_eq_true (by omega)
  clear c3
  obtain rfl := Option.some.inj H
  go_enter Try.func7, Try.ntmps7
  go_wp2
  go_ret
  exact ⟨by first | rfl | (simp; done) | (simp [*]; done), by repeat (first | exact Drawn0.refl _ | apply Drawn0.step)⟩
 ·rw [if_neg c3] at H
  have c3b0 : decide (1048576 < (l0.length : Int)) = false := decide_eq_false c3
  have c3b1 : decide (1048576 < l0.length) = false := decide_eq_false (by omega)
  clear c3
  obtain rfl := Option.some.inj H
  go_enter Try.func7, Try.ntmps7
  go_wp2
  go_ret
  exact ⟨by first | rfl | (simp; done) | (simp [*]; done), by repeat (first | exact Drawn0.refl _ | apply Drawn0.step)⟩

/-- A state of type 74 at block g of W; what its slices lead to came in by w0. -/
def IsS74 (w0 W : World) (g : Nat) (f0 : List Int) (f1 : Int) (f2 : Int) : Prop := ∃ A0 c0, W.heap[g]? = some (.cells #[.slice A0 f0.length c0, .int .i64 f1, .int .u64 f2] 74 (0, 0)) ∧ w0.heap.size ≤ g ∧ Kd.C (Kd.int .u8) w0 A0 f0.length f0
theorem IsS74.grown {w0 W : World} {g : Nat} {f0 : List Int} {f1 : Int} {f2 : Int} {W1 : World} {row : Option Nat} (h : IsS74 w0 W g f0 f1 f2) (hw : W.grownBy W1 row) (hne : some g ≠ row) : IsS74 w0 W1 g f0 f1 f2 := by
 obtain ⟨A0, c0, hb, hg, hr0⟩ := h
 exact ⟨A0, c0, blk_grown hb hw hne, hg, hr0⟩
theorem IsS74.own_neN {w0 W : World} {g : Nat} {f0 : List Int} {f1 : Int} {f2 : Int} {α : Type} {d : Kd α} {e : Nat} {base : Nat} {ok : Nat → Prop} {v : Value} {xs : List α} (h : IsS74 w0 W g f0 f1 f2) (ho : Kd.N d e W base ok v xs) (ht : e ≠ 74) : some g ≠ v.ownBlock := by
 obtain ⟨A0, c0, hb, hg, hr0⟩ := h
 exact Kd.N_ne ho hb ht
theorem IsS74.fresh {w0 W : World} {g : Nat} {f0 : List Int} {f1 : Int} {f2 : Int} (h : IsS74 w0 W g f0 f1 f2) : ∀ k, W.heap.size ≤ k → k ≠ g := by
 obtain ⟨A0, c0, hb, hg, hr0⟩ := h
 exact Kd.freshB hb
theorem IsS74.kept {w0 W : World} {g : Nat} {f0 : List Int} {f1 : Int} {f2 : Int} {W1 : World} {S : Nat → Prop} (h : IsS74 w0 W g f0 f1 f2) (hk : Kept W W1 S) (hne : ¬ S g) : IsS74 w0 W1 g f0 f1 f2 := by
 obtain ⟨A0, c0, hb, hg, hr0⟩ := h
 exact ⟨A0, c0, blk_kept hb hk hne, hg, hr0⟩
theorem IsS74.below {w0 W : World} {g : Nat} {f0 : List Int} {f1 : Int} {f2 : Int} {W1 : World} (h : IsS74 w0 W g f0 f1 f2) (hw : Below W.heap.size W W1) : IsS74 w0 W1 g f0 f1 f2 := h.grown (grown_of_below hw none) (by simp)
theorem IsS74.alloc {w0 W : World} {g : Nat} {f0 : List Int} {f1 : Int} {f2 : Int} (h : IsS74 w0 W g f0 f1 f2) (o : Obj) : IsS74 w0 (W.alloc o) g f0 f1 f2 := h.below (below_alloc (Below.refl _ _) o)
theorem IsS74.drewN {w0 W : World} {g : Nat} {f0 : List Int} {f1 : Int} {f2 : Int} (h : IsS74 w0 W g f0 f1 f2) (m : Nat) : IsS74 w0 (W.drewN m) g f0 f1 f2 := h
theorem IsS74.drew {w0 W : World} {g : Nat} {f0 : List Int} {f1 : Int} {f2 : Int} (h : IsS74 w0 W g f0 f1 f2) : IsS74 w0 W.drew g f0 f1 f2 := h
theorem IsS74.at_ {w0 W : World} {g : Nat} {f0 : List Int} {f1 : Int} {f2 : Int} {w' : World} {m : Nat} (hq : W.drewN m = w') (h : IsS74 w0 W g f0 f1 f2) : IsS74 w0 w' g f0 f1 f2 := by subst hq; exact IsS74.drewN h m
theorem IsS74.apart {w0 W : World} {g : Nat} {f0 : List Int} {f1 : Int} {f2 : Int} {α : Type} {d : Kd α} {e : Nat} {base : Nat} {ok : Nat → Prop} {v : Value} {xs : List α} (h : IsS74 w0 W g f0 f1 f2) (ho : d.R e W base ok v xs) (ht : ∀ q, q ∈ e :: d.E → q ≠ 74) : d.R e W base (fun k => ok k ∧ k ≠ g) v xs := by
 obtain ⟨A0, c0, hb, hg, hr0⟩ := h
 exact Kd.R_types ho hb ht
theorem IsS74.own_ne {w0 W : World} {g : Nat} {f0 : List Int} {f1 : Int} {f2 : Int} {α : Type} {d : Kd α} {e : Nat} {base : Nat} {ok : Nat → Prop} {v : Value} {xs : List α} (h : IsS74 w0 W g f0 f1 f2) (ho : d.R e W base ok v xs) (ht : e ≠ 74) : some g ≠ v.ownBlock := by
 obtain ⟨A0, c0, hb, hg, hr0⟩ := h
 exact Kd.R_ne ho hb ht
theorem IsS74.apartQ {w0 W : World} {g : Nat} {f0 : List Int} {f1 : Int} {f2 : Int} {α : Type} {d : Kd α} {e : Nat} {base : Nat} {ok : Nat → Prop} {v : Value} {xs : List α} (h : IsS74 w0 W g f0 f1 f2) (ho : d.Q e W base ok v xs) (ht : ∀ q, q ∈ e :: d.E → q ≠ 74) : d.Q e W base (fun k => ok k ∧ k ≠ g) v xs := by
 obtain ⟨A0, c0, hb, hg, hr0⟩ := h
 exact Kd.Q_types ho hb ht
theorem IsS74.own_neQ {w0 W : World} {g : Nat} {f0 : List Int} {f1 : Int} {f2 : Int} {α : Type} {d : Kd α} {e : Nat} {base : Nat} {ok : Nat → Prop} {v : Value} {xs : List α} (h : IsS74 w0 W g f0 f1 f2) (ho : d.Q e W base ok v xs) (ht : e ≠ 74) : some g ≠ v.ownBlock := by
 obtain ⟨A0, c0, hb, hg, hr0⟩ := h
 exact Kd.Q_ne ho hb ht
theorem IsS74.apartS {w0 W : World} {g : Nat} {f0 : List Int} {f1 : Int} {f2 : Int} {α : Type} {d : Kd α} {e : Nat} {base : Nat} {ok : Nat → Prop} {v : Value} {xs : List α} (h : IsS74 w0 W g f0 f1 f2) (ho : d.S e W base ok v xs) (ht : ∀ q, q ∈ e :: d.E → q ≠ 74) : d.S e W base (fun k => ok k ∧ k ≠ g) v xs := by
 obtain ⟨A0, c0, hb, hg, hr0⟩ := h
 exact Kd.S_types ho hb ht
theorem IsS74.own_neS {w0 W : World} {g : Nat} {f0 : List Int} {f1 : Int} {f2 : Int} {α : Type} {d : Kd α} {e : Nat} {base : Nat} {ok : Nat → Prop} {v : Value} {xs : List α} (h : IsS74 w0 W g f0 f1 f2) (ho : d.S e W base ok v xs) (ht : e ≠ 74) : some g ≠ v.ownBlock := by
 obtain ⟨A0, c0, hb, hg, hr0⟩ := h
 exact Kd.S_ne ho hb ht
theorem IsS74.lt {w0 W : World} {g : Nat} {f0 : List Int} {f1 : Int} {f2 : Int} (h : IsS74 w0 W g f0 f1 f2) : g < W.heap.size := by
 obtain ⟨A0, c0, hb, hg, hr0⟩ := h
 exact blk_lt hb
theorem IsS74.ge {w0 W : World} {g : Nat} {f0 : List Int} {f1 : Int} {f2 : Int} (h : IsS74 w0 W g f0 f1 f2) : w0.heap.size ≤ g := by
 obtain ⟨A0, c0, hb, hg, hr0⟩ := h
 exact hg
theorem IsS74.ne_blk {w0 W : World} {g : Nat} {f0 : List Int} {f1 : Int} {f2 : Int} {a : Nat} {cs : Array Value} {t : TypeId} {fr : Nat × Nat} (h : IsS74 w0 W g f0 f1 f2) (hb2 : W.heap[a]? = some (.cells cs t fr)) (ht : t ≠ 74) : g ≠ a := by
 obtain ⟨A0, c0, hb, hg, hr0⟩ := h
 rintro rfl
 rw [hb] at hb2
 injection hb2 with hb2
 injection hb2 with _ ht2
 exact ht ht2.symm
theorem IsS74.far {w0 W : World} {g : Nat} {f0 : List Int} {f1 : Int} {f2 : Int} {p : Addr} (h : IsS74 w0 W g f0 f1 f2) (hne : g ≠ p.block) (u : Value) : IsS74 w0 (W.setCell p u) g f0 f1 f2 := by
 obtain ⟨A0, c0, hb, hg, hr0⟩ := h
 exact ⟨A0, c0, blk_far hb hne u, hg, hr0⟩
theorem cellS74_0 {W : World} {g : Nat} {A0 : Option Addr} {c0 : Nat} {f0 : List Int} {f1 : Int} {f2 : Int} (h : W.heap[g]? = some (.cells #[.slice A0 f0.length c0, .int .i64 f1, .int .u64 f2] 74 (0, 0))) : W.cell? ⟨g, 0, none⟩ = some (.slice A0 f0.length c0) := (blk_cell h 0).trans rfl
theorem cellS74_1 {W : World} {g : Nat} {A0 : Option Addr} {c0 : Nat} {f0 : List Int} {f1 : Int} {f2 : Int} (h : W.heap[g]? = some (.cells #[.slice A0 f0.length c0, .int .i64 f1, .int .u64 f2] 74 (0, 0))) : W.cell? ⟨g, 1, none⟩ = some (.int .i64 f1) := (blk_cell h 1).trans rfl
theorem IsS74.set_1 {w0 W : World} {g : Nat} {f0 : List Int} {f1 : Int} {f2 : Int} (h : IsS74 w0 W g f0 f1 f2) (x : Int) : IsS74 w0 (W.setCell ⟨g, 1, none⟩ (.int .i64 x)) g f0 x f2 := by
 obtain ⟨A0, c0, hb, hg, hr0⟩ := h
 exact ⟨A0, c0, by simpa using blk_set hb 1 (.int .i64 x), hg, hr0⟩
theorem cellS74_2 {W : World} {g : Nat} {A0 : Option Addr} {c0 : Nat} {f0 : List Int} {f1 : Int} {f2 : Int} (h : W.heap[g]? = some (.cells #[.slice A0 f0.length c0, .int .i64 f1, .int .u64 f2] 74 (0, 0))) : W.cell? ⟨g, 2, none⟩ = some (.int .u64 f2) := (blk_cell h 2).trans rfl
theorem IsS74.set_2 {w0 W : World} {g : Nat} {f0 : List Int} {f1 : Int} {f2 : Int} (h : IsS74 w0 W g f0 f1 f2) (x : Int) : IsS74 w0 (W.setCell ⟨g, 2, none⟩ (.int .u64 x)) g f0 f1 x := by
 obtain ⟨A0, c0, hb, hg, hr0⟩ := h
 exact ⟨A0, c0, by simpa using blk_set hb 2 (.int .u64 x), hg, hr0⟩
theorem IsS74.new (w0 W : World) (A0 : Option Addr) (c0 : Nat) (f0 : List Int) (f1 : Int) (f2 : Int) (hB : Below w0.heap.size w0 W) (hr0 : Kd.C (Kd.int .u8) w0 A0 f0.length f0) : IsS74 w0 (W.alloc (.cells #[.slice A0 f0.length c0, .int .i64 f1, .int .u64 f2] 74)) W.heap.size f0 f1 f2 := ⟨A0, c0, by simpa using heap_alloc_new W _, hB.size, hr0⟩

/-! ### spec_l1Cur_next: function 192 -/
def spec_l1Cur_next.f (s0_0 : List Int) (s0_1 : Int) (s0_2 : Int) : Option (Int × Int × Int) := if s0_1 < (s0_0.length : Int) then (if 0 ≤ s0_1 then (if (wrap64 (s0_1 + 1)) ≤ (s0_0.length : Int) then (some (wrap64 (rd s0_0 s0_1), wrap64 (s0_1 + 1), IntKind.u64.wrap ((IntKind.u64.wrap ((IntKind.u64.wrap (s0_2 * 6364136223846793005)) + (IntKind.u64.wrap (wrap64 (rd s0_0 s0_1))))) + 1442695040888963407))) else (some (wrap64 (Go.bits .and .u64 ((IntKind.u64.wrap ((IntKind.u64.wrap ((IntKind.u64.wrap (s0_2 * 6364136223846793005)) + (IntKind.u64.wrap (wrap64 (rd s0_0 s0_1))))) + 1442695040888963407)) / 1099511627776) 255), wrap64 (s0_1 + 1), IntKind.u64.wrap ((IntKind.u64.wrap ((IntKind.u64.wrap (s0_2 * 6364136223846793005)) + (IntKind.u64.wrap (wrap64 (rd s0_0 s0_1))))) + 1442695040888963407)))) else (none)) else (if (wrap64 (s0_1 + 1)) ≤ (s0_0.length : Int) then (some (0, wrap64 (s0_1 + 1), IntKind.u64.wrap ((IntKind.u64.wrap ((IntKind.u64.wrap (s0_2 * 6364136223846793005)) + 0)) + 1442695040888963407))) else (some (wrap64 (Go.bits .and .u64 ((IntKind.u64.wrap ((IntKind.u64.wrap ((IntKind.u64.wrap (s0_2 * 6364136223846793005)) + 0)) + 1442695040888963407)) / 1099511627776) 255), wrap64 (s0_1 + 1), IntKind.u64.wrap ((IntKind.u64.wrap ((IntKind.u64.wrap (s0_2 * 6364136223846793005)) + 0)) + 1442695040888963407))))
set_option maxHeartbeats 8000000 in
set_option maxRecDepth 100000 in
theorem spec_l1Cur_next.calls (g : Nat) (s0_0 : List Int) (s0_1 : Int) (s0_2 : Int) (r1 : Int) (r2 : Int) (r3 : Int) (w0 w : World) (hI : IsS74 w0 w g s0_0 s0_1 s0_2) (hB : Below w0.heap.size w0 w) (h : spec_l1Cur_next.f s0_0 s0_1 s0_2 = some (r1, r2, r3)) :
  Calls Try.prog 192 #[.pointer (some ⟨g, 0, none⟩)] w fun e w' => e = .returned (.int .i64 r1) ∧ IsS74 w0 w' g s0_0 r2 r3 ∧ Below w0.heap.size w0 w' ∧ KeepBut w w' g none := by
 have HI0 := am_ hI
 have HK := am_ (KeepBut.refl w g none)
 have HL := am_ hB.size
 clear hI
 have HW0 := am_ hB.size
 have HB := am_ hB
 clear hB
 have H : (if s0_1 < (s0_0.length : Int) then (if 0 ≤ s0_1 then (if (wrap64 (s0_1 + 1)) ≤ (s0_0.length : Int) then (some (wrap64 (rd s0_0 s0_1), wrap64 (s0_1 + 1), IntKind.u64.wrap ((IntKind.u64.wrap ((IntKind.u64.wrap (s0_2 * 6364136223846793005)) + (IntKind.u64.wrap (wrap64 (rd s0_0 s0_1))))) + 1442695040888963407))) else (some (wrap64 (Go.bits .and .u64 ((IntKind.u64.wrap ((IntKind.u64.wrap ((IntKind.u64.wrap (s0_2 * 6364136223846793005)) + (IntKind.u64.wrap (wrap64 (rd s0_0 s0_1))))) + 1442695040888963407)) / 1099511627776) 255), wrap64 (s0_1 + 1), IntKind.u64.wrap ((IntKind.u64.wrap ((IntKind.u64.wrap (s0_2 * 6364136223846793005)) + (IntKind.u64.wrap (wrap64 (rd s0_0 s0_1))))) + 1442695040888963407)))) else (none)) else (if (wrap64 (s0_1 + 1)) ≤ (s0_0.length : Int) then (some (0, wrap64 (s0_1 + 1), IntKind.u64.wrap ((IntKind.u64.wrap ((IntKind.u64.wrap (s0_2 * 6364136223846793005)) + 0)) + 1442695040888963407))) else (some (wrap64 (Go.bits .and .u64 ((IntKind.u64.wrap ((IntKind.u64.wrap ((IntKind.u64.wrap (s0_2 * 6364136223846793005)) + 0)) + 1442695040888963407)) / 1099511627776) 255), wrap64 (s0_1 + 1), IntKind.u64.wrap ((IntKind.u64.wrap ((IntKind.u64.wrap (s0_2 * 6364136223846793005)) + 0)) + 1442695040888963407))))) = some (r1, r2, r3) := h
 clear h
 by_cases c2 : s0_1 < (s0_0.length : Int)
 ·rw [if_pos c2] at H
  have c2b0 : decide (s0_1 < (s0_0.length : Int)) = true := decide_eq_true c2
  clear c2
  by_cases c3 : 0 ≤ s0_1
  ·rw [if_pos c3] at H
   have c3b0 : decide (0 ≤ s0_1) = true := decide_eq_true c3
   clear c3
   by_cases c4 : (wrap64 (s0_1 + 1)) ≤ (s0_0.length : Int)
   ·rw [if_pos c4] at H
    have c4b0 : decide ((wrap64 (s0_1 + 1)) ≤ (s0_0.length : Int)) = true := decide_eq_true c4
    clear c4
    simp only [Option.some.injEq, Prod.mk.injEq] at H
    obtain ⟨rfl, rfl, rfl⟩ := H
    obtain ⟨ASz5_0, cSz5_0, HGz5, hgz5, HSz5_0⟩ := HI0.out
    have hcz5_0 := cellS74_0 HGz5
    have hcz5_1 := cellS74_1 HGz5
    have hcz5_2 := cellS74_2 HGz5
    have hfz5_1 := blk_frozen HGz5 1
    have hfz5_2 := blk_frozen HGz5 2
    clear HGz5 hgz5
    have p101 : 0 ≤ (s0_1 : Int) := of_decide_eq_true tc3_
    have q101 : s0_1 < (s0_0.length : Int) := of_decide_eq_true tc3_
    obtain ⟨ad101, e101, hx101_0⟩ := Kd.at_int HSz5_0 s0_1 p101 q101
    cases e101
    replace hx101_0 := pw_cell_below HB.out hx101_0
    replace p101 := eq_true p101
    replace q101 := eq_true q101
    go_enter Try.func192, Try.ntmps192
    go_wp2
    repeat (go_quiet (fail); try go_wp2)
    go_ret
    exact ⟨by first | rfl | (simp [errW_none, errW_some] <;> rfl) | (simp [*, errW_none, errW_some] <;> rfl), by (try simp only [Int.add_zero]); repeat (first | (with_reducible first | exact HI0.out | apply IsS74.alloc | apply IsS74.drewN | apply IsS74.drew | apply IsS74.set_1 | apply IsS74.set_2) | exact HI0.out), by repeat (first | (with_reducible first | exact HB.out | apply below_alloc | apply pw_below_drewN | apply below_drew1 | refine below_set ?_ (IsS74.ge HI0.out)) | exact HB.out), by repeat (first | (with_reducible first | exact HK.out | apply KeepBut.set_ | apply keep_drewN | apply keep_drew | apply keep_alloc) | exact HK.out)⟩
   ·rw [if_neg c4] at H
    have c4b0 : decide ((wrap64 (s0_1 + 1)) ≤ (s0_0.length : Int)) = false := decide_eq_false c4
    clear c4
    simp only [Option.some.injEq, Prod.mk.injEq] at H
    obtain ⟨rfl, rfl, rfl⟩ := H
    obtain ⟨ASz6_0, cSz6_0, HGz6, hgz6, HSz6_0⟩ := HI0.out
    have hcz6_0 := cellS74_0 HGz6
    have hcz6_1 := cellS74_1 HGz6
    have hcz6_2 := cellS74_2 HGz6
    have hfz6_1 := blk_frozen HGz6 1
    have hfz6_2 := blk_frozen HGz6 2
    clear HGz6 hgz6
    have p101 : 0 ≤ (s0_1 : Int) := of_decide_eq_true tc3_
    have q101 : s0_1 < (s0_0.length : Int) := of_decide_eq_true tc3_
    obtain ⟨ad101, e101, hx101_0⟩ := Kd.at_int HSz6_0 s0_1 p101 q101
    cases e101
    replace hx101_0 := pw_cell_below HB.out hx101_0
    replace p101 := eq_true p101
    replace q101 := eq_true q101
    go_enter Try.func192, Try.ntmps192
    go_wp2
    repeat (go_quiet (fail); try go_wp2)
    go_ret
    exact ⟨by first | rfl | (simp [errW_none, errW_some] <;> rfl) | (simp [*, errW_none, errW_some] <;> rfl), by (try simp only [Int.add_zero]); repeat (first | (with_reducible first | exact HI0.out | apply IsS74.alloc | apply IsS74.drewN | apply IsS74.drew | apply IsS74.set_1 | apply IsS74.set_2) | exact HI0.out), by repeat (first | (with_reducible first | exact HB.out | apply below_alloc | apply pw_below_drewN | apply below_drew1 | refine below_set ?_ (IsS74.ge HI0.out)) | exact HB.out), by repeat (first | (with_reducible first | exact HK.out | apply KeepBut.set_ | apply keep_drewN | apply keep_drew | apply keep_alloc) | exact HK.out)⟩
  ·rw [if_neg c3] at H
   exact absurd H (by simp)
 ·rw [if_neg c2] at H
  have c2b0 : decide (s0_1 < (s0_0.length : Int)) = false := decide_eq_false c2
  clear c2
  by_cases c7 : (wrap64 (s0_1 + 1)) ≤ (s0_0.length : Int)
  ·rw [if_pos c7] at H
   have c7b0 : decide ((wrap64 (s0_1 + 1)) ≤ (s0_0.length : Int)) = true := decide_eq_true c7
   clear c7
   simp only [Option.some.injEq, Prod.mk.injEq] at H
   obtain ⟨rfl, rfl, rfl⟩ := H
   obtain ⟨ASz8_0, cSz8_0, HGz8, hgz8, HSz8_0⟩ := HI0.out
   have hcz8_0 := cellS74_0 HGz8
   have hcz8_1 := cellS74_1 HGz8
   have hcz8_2 := cellS74_2 HGz8
   have hfz8_1 := blk_frozen HGz8 1
   have hfz8_2 := blk_frozen HGz8 2
   clear HGz8 hgz8
   go_enter Try.func192, Try.ntmps192
   go_wp2
   repeat (go_quiet (fail); try go_wp2)
   go_ret
   exact ⟨by first | rfl | (simp [errW_none, errW_some] <;> rfl) | (simp [*, errW_none, errW_some] <;> rfl), by (try simp only [Int.add_zero]); repeat (first | (with_reducible first | exact HI0.out | apply IsS74.alloc | apply IsS74.drewN | apply IsS74.drew | apply IsS74.set_1 | apply IsS74.set_2) | exact HI0.out), by repeat (first | (with_reducible first | exact HB.out | apply below_alloc | apply pw_below_drewN | apply below_drew1 | refine below_set ?_ (IsS74.ge HI0.out)) | exact HB.out), by repeat (first | (with_reducible first | exact HK.out | apply KeepBut.set_ | apply keep_drewN | apply keep_drew | apply keep_alloc) | exact HK.out)⟩
  ·rw [if_neg c7] at H
   have c7b0 : decide ((wrap64 (s0_1 + 1)) ≤ (s0_0.length : Int)) = false := decide_eq_false c7
   clear c7
   simp only [Option.some.injEq, Prod.mk.injEq] at H
   obtain ⟨rfl, rfl, rfl⟩ := H
   obtain ⟨ASz9_0, cSz9_0, HGz9, hgz9, HSz9_0⟩ := HI0.out
   have hcz9_0 := cellS74_0 HGz9
   have hcz9_1 := cellS74_1 HGz9
   have hcz9_2 := cellS74_2 HGz9
   have hfz9_1 := blk_frozen HGz9 1
   have hfz9_2 := blk_frozen HGz9 2
   clear HGz9 hgz9
   go_enter Try.func192, Try.ntmps192
   go_wp2
   repeat (go_quiet (fail); try go_wp2)
   go_ret
   exact ⟨by first | rfl | (simp [errW_none, errW_some] <;> rfl) | (simp [*, errW_none, errW_some] <;> rfl), by (try simp only [Int.add_zero]); repeat (first | (with_reducible first | exact HI0.out | apply IsS74.alloc | apply IsS74.drewN | apply IsS74.drew | apply IsS74.set_1 | apply IsS74.set_2) | exact HI0.out), by repeat (first | (with_reducible first | exact HB.out | apply below_alloc | apply pw_below_drewN | apply below_drew1 | refine below_set ?_ (IsS74.ge HI0.out)) | exact HB.out), by repeat (first | (with_reducible first | exact HK.out | apply KeepBut.set_ | apply keep_drewN | apply keep_drew | apply keep_alloc) | exact HK.out)⟩

/-! ### spec_l1Cur_pick: function 162 -/
def spec_l1Cur_pick.f (s0_0 : List Int) (s0_1 : Int) (s0_2 : Int) (a1 : Int) : Option (Int × Int × Int) := if a1 ≤ 1 then (some (0, s0_1, s0_2)) else ((spec_l1Cur_next.f s0_0 s0_1 s0_2).bind fun bt101 => (if a1 > 200 then ((spec_l1Cur_next.f s0_0 bt101.2.1 bt101.2.2).bind fun bt104 => (if a1 = 0 then (none) else (some (Int.tmod (wrap64 ((wrap64 (bt101.1 * 256)) + bt104.1)) a1, bt104.2.1, bt104.2.2)))) else (if a1 = 0 then (none) else (some (Int.tmod bt101.1 a1, bt101.2.1, bt101.2.2)))))
set_option maxHeartbeats 8000000 in
set_option maxRecDepth 100000 in
theorem spec_l1Cur_pick.calls (g : Nat) (s0_0 : List Int) (s0_1 : Int) (s0_2 : Int) (a1 : Int) (r1 : Int) (r2 : Int) (r3 : Int) (w0 w : World) (hI : IsS74 w0 w g s0_0 s0_1 s0_2) (hB : Below w0.heap.size w0 w) (h : spec_l1Cur_pick.f s0_0 s0_1 s0_2 a1 = some (r1, r2, r3)) :
  Calls Try.prog 162 #[.pointer (some ⟨g, 0, none⟩), .int .i64 a1] w fun e w' => e = .returned (.int .i64 r1) ∧ IsS74 w0 w' g s0_0 r2 r3 ∧ Below w0.heap.size w0 w' ∧ KeepBut w w' g none := by
 have HI0 := am_ hI
 have HK := am_ (KeepBut.refl w g none)
 have HL := am_ hB.size
 clear hI
 have HW0 := am_ hB.size
 have HB := am_ hB
 clear hB
 have H : (if a1 ≤ 1 then (some (0, s0_1, s0_2)) else ((spec_l1Cur_next.f s0_0 s0_1 s0_2).bind fun bt101 => (if a1 > 200 then ((spec_l1Cur_next.f s0_0 bt101.2.1 bt101.2.2).bind fun bt104 => (if a1 = 0 then (none) else (some (Int.tmod (wrap64 ((wrap64 (bt101.1 * 256)) + bt104.1)) a1, bt104.2.1, bt104.2.2)))) else (if a1 = 0 then (none) else (some (Int.tmod bt101.1 a1, bt101.2.1, bt101.2.2)))))) = some (r1, r2, r3) := h
 clear h
 by_cases c3 : a1 ≤ 1
 ·rw [if_pos c3] at H
  have c3b0 : decide (a1 ≤ 1) = true := decide_eq_true c3
  clear c3
  simp only [Option.some.injEq, Prod.mk.injEq] at H
  obtain ⟨rfl, rfl, rfl⟩ := H
  go_enter Try.func162, Try.ntmps162
  go_wp2
  go_ret
  exact ⟨by first | rfl | (simp [errW_none, errW_some] <;> rfl) | (simp [*, errW_none, errW_some] <;> rfl), by repeat (first | (with_reducible first | exact HI0.out | apply IsS74.alloc | apply IsS74.drewN | apply IsS74.drew | apply IsS74.set_1 | apply IsS74.set_2) | exact HI0.out), by repeat (first | (with_reducible first | exact HB.out | apply below_alloc | apply pw_below_drewN | apply below_drew1 | refine below_set ?_ (IsS74.ge HI0.out)) | exact HB.out), by repeat (first | (with_reducible first | exact HK.out | apply KeepBut.set_ | apply keep_drewN | apply keep_drew | apply keep_alloc) | exact HK.out)⟩
 ·rw [if_neg c3] at H
  have c3b0 : decide (a1 ≤ 1) = false := decide_eq_false c3
  clear c3
  replace H := Option.bind_eq_some_iff.mp H
  obtain ⟨⟨t101, t102, t103⟩, A40, H⟩ := H
  replace H : (if a1 > 200 then ((spec_l1Cur_next.f s0_0 t102 t103).bind fun bt104 => (if a1 = 0 then (none) else (some (Int.tmod (wrap64 ((wrap64 (t101 * 256)) + bt104.1)) a1, bt104.2.1, bt104.2.2)))) else (if a1 = 0 then (none) else (some (Int.tmod t101 a1, t102, t103)))) = some (r1, r2, r3) := H
  have A4 := am_ A40
  clear A40
  by_cases c5 : a1 > 200
  ·rw [if_pos c5] at H
   have c5b0 : decide (200 < a1) = true := decide_eq_true c5
   clear c5
   replace H := Option.bind_eq_some_iff.mp H
   obtain ⟨⟨t104, t105, t106⟩, A60, H⟩ := H
   replace H : (if a1 = 0 then (none) else (some (Int.tmod (wrap64 ((wrap64 (t101 * 256)) + t104)) a1, t105, t106))) = some (r1, r2, r3) := H
   have A6 := am_ A60
   clear A60
   by_cases c7 : a1 = 0
   ·rw [if_pos c7] at H
    exact absurd H (by simp)
   ·rw [if_neg c7] at H
    have c7b0 : (a1 == 0) = false := beq_eq_false_iff_ne.mpr c7
    have c7b1 : (a1 != 0) = true := bne_iff_ne.mpr c7
    simp only [Option.some.injEq, Prod.mk.injEq] at H
    obtain ⟨rfl, rfl, rfl⟩ := H
    go_enter Try.func162, Try.ntmps162
    go_wp2_with (first | ((with_reducible refine gate_callee (f := 192) rfl ?_); refine goesL_ (some 9) rfl rfl Try.func192 (by kernel_rfl) rfl #[.pointer (some ⟨g, 0, none⟩)] rfl tc1_ ?_; (with_reducible refine (spec_l1Cur_next.calls g s0_0 s0_1 s0_2 t101 t102 t103 w0 _ ?side1 ?side2 A4.out).mono ?_); (case side1 => exact tc20_); (case side2 => exact tc21_); rintro e w8 ⟨rfl, hi, hb, hk⟩; refine ⟨_, rfl, ?_⟩; have n0_ := am_ (KeepBut.trans tc24_ hk (.inl rfl)); have n1_ := am_ (hb); have n2_ := am_ (hi); clear HK HB HI0; have HK := n0_; have HB := n1_; have HI0 := n2_; clear n0_ n1_ n2_; (try clear hb hk hi)) | ((with_reducible refine gate_callee (f := 192) rfl ?_); refine goesL_ (some 15) rfl rfl Try.func192 (by kernel_rfl) rfl #[.pointer (some ⟨g, 0, none⟩)] rfl tc1_ ?_; (with_reducible refine (spec_l1Cur_next.calls g s0_0 t102 t103 t104 t105 t106 w0 _ ?side1 ?side2 A6.out).mono ?_); (case side1 => exact tc20_); (case side2 => exact tc21_); rintro e w9 ⟨rfl, hi, hb, hk⟩; refine ⟨_, rfl, ?_⟩; have n0_ := am_ (KeepBut.trans tc24_ hk (.inl rfl)); have n1_ := am_ (hb); have n2_ := am_ (hi); clear HK HB HI0; have HK := n0_; have HB := n1_; have HI0 := n2_; clear n0_ n1_ n2_; (try clear hb hk hi)))
    go_ret
    exact ⟨by first | rfl | (simp [errW_none, errW_some] <;> rfl) | (simp [*, errW_none, errW_some] <;> rfl), by repeat (first | (with_reducible first | exact HI0.out | apply IsS74.alloc | apply IsS74.drewN | apply IsS74.drew | apply IsS74.set_1 | apply IsS74.set_2) | exact HI0.out), by repeat (first | (with_reducible first | exact HB.out | apply below_alloc | apply pw_below_drewN | apply below_drew1 | refine below_set ?_ (IsS74.ge HI0.out)) | exact HB.out), by repeat (first | (with_reducible first | exact HK.out | apply KeepBut.set_ | apply keep_drewN | apply keep_drew | apply keep_alloc) | exact HK.out)⟩
  ·rw [if_neg c5] at H
   have c5b0 : decide (200 < a1) = false := decide_eq_false c5
   clear c5
   by_cases c10 : a1 = 0
   ·rw [if_pos c10] at H
    exact absurd H (by simp)
   ·rw [if_neg c10] at H
    have c10b0 : (a1 == 0) = false := beq_eq_false_iff_ne.mpr c10
    have c10b1 : (a1 != 0) = true := bne_iff_ne.mpr c10
    simp only [Option.some.injEq, Prod.mk.injEq] at H
    obtain ⟨rfl, rfl, rfl⟩ := H
    go_enter Try.func162, Try.ntmps162
    go_wp2_with (first | ((with_reducible refine gate_callee (f := 192) rfl ?_); refine goesL_ (some 9) rfl rfl Try.func192 (by kernel_rfl) rfl #[.pointer (some ⟨g, 0, none⟩)] rfl tc1_ ?_; (with_reducible refine (spec_l1Cur_next.calls g s0_0 s0_1 s0_2 t101 t102 t103 w0 _ ?side1 ?side2 A4.out).mono ?_); (case side1 => exact tc20_); (case side2 => exact tc21_); rintro e w11 ⟨rfl, hi, hb, hk⟩; refine ⟨_, rfl, ?_⟩; have n0_ := am_ (KeepBut.trans tc24_ hk (.inl rfl)); have n1_ := am_ (hb); have n2_ := am_ (hi); clear HK HB HI0; have HK := n0_; have HB := n1_; have HI0 := n2_; clear n0_ n1_ n2_; (try clear hb hk hi)))
    go_ret
    exact ⟨by first | rfl | (simp [errW_none, errW_some] <;> rfl) | (simp [*, errW_none, errW_some] <;> rfl), by repeat (first | (with_reducible first | exact HI0.out | apply IsS74.alloc | apply IsS74.drewN | apply IsS74.drew | apply IsS74.set_1 | apply IsS74.set_2) | exact HI0.out), by repeat (first | (with_reducible first | exact HB.out | apply below_alloc | apply pw_below_drewN | apply below_drew1 | refine below_set ?_ (IsS74.ge HI0.out)) | exact HB.out), by repeat (first | (with_reducible first | exact HK.out | apply KeepBut.set_ | apply keep_drewN | apply keep_drew | apply keep_alloc) | exact HK.out)⟩

/-! ### spec_l1Cur_one: function 131 -/
def spec_l1Cur_one.f (s0_0 : List Int) (s0_1 : Int) (s0_2 : Int) (a1 : Int) : Option (Bool × Int × Int) := (spec_l1Cur_pick.f s0_0 s0_1 s0_2 a1).bind fun bt101 => (some ((bt101.1 == 0), bt101.2.1, bt101.2.2))
set_option maxHeartbeats 8000000 in
set_option maxRecDepth 100000 in
theorem spec_l1Cur_one.calls (g : Nat) (s0_0 : List Int) (s0_1 : Int) (s0_2 : Int) (a1 : Int) (r1 : Bool) (r2 : Int) (r3 : Int) (w0 w : World) (hI : IsS74 w0 w g s0_0 s0_1 s0_2) (hB : Below w0.heap.size w0 w) (h : spec_l1Cur_one.f s0_0 s0_1 s0_2 a1 = some (r1, r2, r3)) :
  Calls Try.prog 131 #[.pointer (some ⟨g, 0, none⟩), .int .i64 a1] w fun e w' => e = .returned (.bool r1) ∧ IsS74 w0 w' g s0_0 r2 r3 ∧ Below w0.heap.size w0 w' ∧ KeepBut w w' g none := by
 have HI0 := am_ hI
 have HK := am_ (KeepBut.refl w g none)
 have HL := am_ hB.size
 clear hI
 have HW0 := am_ hB.size
 have HB := am_ hB
 clear hB
 have H : ((spec_l1Cur_pick.f s0_0 s0_1 s0_2 a1).bind fun bt101 => (some ((bt101.1 == 0), bt101.2.1, bt101.2.2))) = some (r1, r2, r3) := h
 clear h
 replace H := Option.bind_eq_some_iff.mp H
 obtain ⟨⟨t101, t102, t103⟩, A30, H⟩ := H
 replace H : (some ((t101 == 0), t102, t103)) = some (r1, r2, r3) := H
 have A3 := am_ A30
 clear A30
 simp only [Option.some.injEq, Prod.mk.injEq] at H
 obtain ⟨rfl, rfl, rfl⟩ := H
 go_enter Try.func131, Try.ntmps131
 go_wp2_with (first | ((with_reducible refine gate_callee (f := 162) rfl ?_); refine goesL_ (some 7) rfl rfl Try.func162 (by kernel_rfl) rfl #[.pointer (some ⟨g, 0, none⟩), .int .i64 a1] rfl tc1_ ?_; (with_reducible refine (spec_l1Cur_pick.calls g s0_0 s0_1 s0_2 a1 t101 t102 t103 w0 _ ?side1 ?side2 A3.out).mono ?_); (case side1 => exact tc20_); (case side2 => exact tc21_); rintro e w4 ⟨rfl, hi, hb, hk⟩; refine ⟨_, rfl, ?_⟩; have n0_ := am_ (KeepBut.trans tc24_ hk (.inl rfl)); have n1_ := am_ (hb); have n2_ := am_ (hi); clear HK HB HI0; have HK := n0_; have HB := n1_; have HI0 := n2_; clear n0_ n1_ n2_; (try clear hb hk hi)))
 go_ret
 exact ⟨by first | rfl | (simp [errW_none, errW_some] <;> rfl) | (simp [*, errW_none, errW_some] <;> rfl), by repeat (first | (with_reducible first | exact HI0.out | apply IsS74.alloc | apply IsS74.drewN | apply IsS74.drew | apply IsS74.set_1 | apply IsS74.set_2) | exact HI0.out), by repeat (first | (with_reducible first | exact HB.out | apply below_alloc | apply pw_below_drewN | apply below_drew1 | refine below_set ?_ (IsS74.ge HI0.out)) | exact HB.out), by repeat (first | (with_reducible first | exact HK.out | apply KeepBut.set_ | apply keep_drewN | apply keep_drew | apply keep_alloc) | exact HK.out)⟩

/-! ### spec_l1Cur_among: function 132 -/
def spec_l1Cur_among.f (s0_0 : List Int) (s0_1 : Int) (s0_2 : Int) (l1 : List Int) : Option (Int × Int × Int) := (spec_l1Cur_pick.f s0_0 s0_1 s0_2 (l1.length : Int)).bind fun bt101 => (if 0 ≤ bt101.1 then (if bt101.1 < (l1.length : Int) then (some (rd l1 bt101.1, bt101.2.1, bt101.2.2)) else (none)) else (none))
set_option maxHeartbeats 8000000 in
set_option maxRecDepth 100000 in
theorem spec_l1Cur_among.calls (g : Nat) (s0_0 : List Int) (s0_1 : Int) (s0_2 : Int) (A1 : Option Addr) (c1 : Nat) (l1 : List Int) (r1 : Int) (r2 : Int) (r3 : Int) (w0 w : World) (hI : IsS74 w0 w g s0_0 s0_1 s0_2) (hB : Below w0.heap.size w0 w) (hr1 : Kd.C (Kd.int .i64) w A1 l1.length l1) (hc1 : l1.length ≤ c1) (hf1 : ∀ ad, A1 = some ad → 0 < l1.length → ad.block ≠ g) (h : spec_l1Cur_among.f s0_0 s0_1 s0_2 l1 = some (r1, r2, r3)) :
  Calls Try.prog 132 #[.pointer (some ⟨g, 0, none⟩), .slice A1 l1.length c1] w fun e w' => e = .returned (.int .i64 r1) ∧ IsS74 w0 w' g s0_0 r2 r3 ∧ Below w0.heap.size w0 w' ∧ KeepBut w w' g none := by
 have HR1 := am_ hr1
 have HC1 := am_ hc1
 clear hr1 hc1
 have HI0 := am_ hI
 have HK := am_ (KeepBut.refl w g none)
 have HL := am_ hB.size
 clear hI
 have HW0 := am_ hB.size
 have HB := am_ hB
 clear hB
 have H : ((spec_l1Cur_pick.f s0_0 s0_1 s0_2 (l1.length : Int)).bind fun bt101 => (if 0 ≤ bt101.1 then (if bt101.1 < (l1.length : Int) then (some (rd l1 bt101.1, bt101.2.1, bt101.2.2)) else (none)) else (none))) = some (r1, r2, r3) := h
 clear h
 replace H := Option.bind_eq_some_iff.mp H
 obtain ⟨⟨t101, t102, t103⟩, A30, H⟩ := H
 replace H : (if 0 ≤ t101 then (if t101 < (l1.length : Int) then (some (rd l1 t101, t102, t103)) else (none)) else (none)) = some (r1, r2, r3) := H
 have A3 := am_ A30
 clear A30
 by_cases c4 : 0 ≤ t101
 ·rw [if_pos c4] at H
  have c4b0 : decide (0 ≤ t101) = true := decide_eq_true c4
  clear c4
  by_cases c5 : t101 < (l1.length : Int)
  ·rw [if_pos c5] at H
   have c5b0 : decide (t101 < (l1.length : Int)) = true := decide_eq_true c5
   clear c5
   simp only [Option.some.injEq, Prod.mk.injEq] at H
   obtain ⟨rfl, rfl, rfl⟩ := H
   go_enter Try.func132, Try.ntmps132
   go_wp2_with (first | ((with_reducible refine gate_callee (f := 162) rfl ?_); refine goesL_ (some 9) rfl rfl Try.func162 (by kernel_rfl) rfl #[.pointer (some ⟨g, 0, none⟩), .int .i64 (l1.length : Int)] rfl tc1_ ?_; (with_reducible refine (spec_l1Cur_pick.calls g s0_0 s0_1 s0_2 (l1.length : Int) t101 t102 t103 w0 _ ?side1 ?side2 A3.out).mono ?_); (case side1 => exact tc20_); (case side2 => exact tc21_); rintro e w6 ⟨rfl, hi, hb, hk⟩; refine ⟨_, rfl, ?_⟩; have n0_ := am_ (KeepBut.trans tc24_ hk (.inl rfl)); have n1_ := am_ (hb); have n2_ := am_ (hi); clear HK HB HI0; have HK := n0_; have HB := n1_; have HI0 := n2_; clear n0_ n1_ n2_; (try clear hb hk hi); have p104 : 0 ≤ (t101 : Int) := of_decide_eq_true tc3_; have q104 : t101 < (l1.length : Int) := of_decide_eq_true tc3_; obtain ⟨ad104, e104, hx104_0⟩ := Kd.at_int HR1.out t101 p104 q104; cases e104; replace hx104_0 := keep_cell HK.out hx104_0 (by first | (rw [add_block]; exact hf1 _ rfl (by omega)) | exact hf1 _ rfl (by omega) | exact hf1 ad104 rfl (by omega)); replace p104 := eq_true p104; replace q104 := eq_true q104))
   go_ret
   exact ⟨by first | rfl | (simp [errW_none, errW_some] <;> rfl) | (simp [*, errW_none, errW_some] <;> rfl), by repeat (first | (with_reducible first | exact HI0.out | apply IsS74.alloc | apply IsS74.drewN | apply IsS74.drew | apply IsS74.set_1 | apply IsS74.set_2) | exact HI0.out), by repeat (first | (with_reducible first | exact HB.out | apply below_alloc | apply pw_below_drewN | apply below_drew1 | refine below_set ?_ (IsS74.ge HI0.out)) | exact HB.out), by repeat (first | (with_reducible first | exact HK.out | apply KeepBut.set_ | apply keep_drewN | apply keep_drew | apply keep_alloc) | exact HK.out)⟩
  ·rw [if_neg c5] at H
   exact absurd H (by simp)
 ·rw [if_neg c4] at H
  exact absurd H (by simp)

/-! ### spec_l1Cur_side: function 105 -/
def spec_l1Cur_side.f (s0_0 : List Int) (s0_1 : Int) (s0_2 : Int) (a1 : Int) : Option (Int × Int × Int) := (spec_l1Cur_one.f s0_0 s0_1 s0_2 8).bind fun bt101 => (if bt101.1 = true then ((spec_l1Cur_among.f s0_0 bt101.2.1 bt101.2.2 (([(-1), 0, 1, a1, wrap64 (a1 + 1)] : List Int))).bind fun bt107 => (some (bt107.1, bt107.2.1, bt107.2.2))) else ((spec_l1Cur_pick.f s0_0 bt101.2.1 bt101.2.2 a1).bind fun bt110 => (some (wrap64 (1 + bt110.1), bt110.2.1, bt110.2.2))))
set_option maxHeartbeats 8000000 in
set_option maxRecDepth 100000 in
theorem spec_l1Cur_side.calls (g : Nat) (s0_0 : List Int) (s0_1 : Int) (s0_2 : Int) (a1 : Int) (r1 : Int) (r2 : Int) (r3 : Int) (w0 w : World) (hI : IsS74 w0 w g s0_0 s0_1 s0_2) (hB : Below w0.heap.size w0 w) (h : spec_l1Cur_side.f s0_0 s0_1 s0_2 a1 = some (r1, r2, r3)) :
  Calls Try.prog 105 #[.pointer (some ⟨g, 0, none⟩), .int .i64 a1] w fun e w' => e = .returned (.int .i64 r1) ∧ IsS74 w0 w' g s0_0 r2 r3 ∧ Below w0.heap.size w0 w' ∧ KeepBut w w' g none := by
 have HI0 := am_ hI
 have HK := am_ (KeepBut.refl w g none)
 have HL := am_ hB.size
 clear hI
 have HW0 := am_ hB.size
 have HB := am_ hB
 clear hB
 have H : ((spec_l1Cur_one.f s0_0 s0_1 s0_2 8).bind fun bt101 => (if bt101.1 = true then ((spec_l1Cur_among.f s0_0 bt101.2.1 bt101.2.2 (([(-1), 0, 1, a1, wrap64 (a1 + 1)] : List Int))).bind fun bt107 => (some (bt107.1, bt107.2.1, bt107.2.2))) else ((spec_l1Cur_pick.f s0_0 bt101.2.1 bt101.2.2 a1).bind fun bt110 => (some (wrap64 (1 + bt110.1), bt110.2.1, bt110.2.2))))) = some (r1, r2, r3) := h
 clear h
 replace H := Option.bind_eq_some_iff.mp H
 obtain ⟨⟨t101, t102, t103⟩, A30, H⟩ := H
 replace H : (if t101 = true then ((spec_l1Cur_among.f s0_0 t102 t103 (([(-1), 0, 1, a1, wrap64 (a1 + 1)] : List Int))).bind fun bt107 => (some (bt107.1, bt107.2.1, bt107.2.2))) else ((spec_l1Cur_pick.f s0_0 t102 t103 a1).bind fun bt110 => (some (wrap64 (1 + bt110.1), bt110.2.1, bt110.2.2)))) = some (r1, r2, r3) := H
 have A3 := am_ A30
 clear A30
 by_cases c4 : t101 = true
 ·subst c4
  have H1 : ((spec_l1Cur_among.f s0_0 t102 t103 (([(-1), 0, 1, a1, wrap64 (a1 + 1)] : List Int))).bind fun bt107 => (some (bt107.1, bt107.2.1, bt107.2.2))) = some (r1, r2, r3) := by rw [if_pos rfl] at H; exact H
  clear H
  have H := H1
  clear H1
  obtain ⟨y104, hy104⟩ : ∃ y_ : List Int, y_ = (([(-1), 0, 1, a1, wrap64 (a1 + 1)] : List Int)) := ⟨_, rfl⟩
  replace H : ((spec_l1Cur_among.f s0_0 t102 t103 y104).bind fun bt107 => (some (bt107.1, bt107.2.1, bt107.2.2))) = some (r1, r2, r3) := by first | (rw [hy104]; with_reducible exact H) | (have H2_ := (Option.bind_some _ _).symm.trans H; rw [hy104]; with_reducible exact H2_) | (have H2_ := (Option.bind_some _ _).symm.trans H; with_reducible exact H2_) | with_reducible exact H | (rw [hy104]; exact H) | exact H
  have Ny104 := am_ hy104
  clear hy104
  replace H := Option.bind_eq_some_iff.mp H
  obtain ⟨⟨t107, t108, t109⟩, A50, H⟩ := H
  replace H : (some (t107, t108, t109)) = some (r1, r2, r3) := H
  have A5 := am_ A50
  clear A50
  simp only [Option.some.injEq, Prod.mk.injEq] at H
  obtain ⟨rfl, rfl, rfl⟩ := H
  go_enter Try.func105, Try.ntmps105
  go_wp2_with (first | ((with_reducible refine gate_callee (f := 131) rfl ?_); refine goesL_ (some 6) rfl rfl Try.func131 (by kernel_rfl) rfl #[.pointer (some ⟨g, 0, none⟩), .int .i64 8] rfl tc1_ ?_; (with_reducible refine (spec_l1Cur_one.calls g s0_0 s0_1 s0_2 8 true t102 t103 w0 _ ?side1 ?side2 A3.out).mono ?_); (case side1 => exact tc20_); (case side2 => exact tc21_); rintro e w6 ⟨rfl, hi, hb, hk⟩; refine ⟨_, rfl, ?_⟩; have n0_ := am_ (KeepBut.trans tc24_ hk (.inl rfl)); have n1_ := am_ (hb); have n2_ := am_ (hi); clear HK HB HI0; have HK := n0_; have HB := n1_; have HI0 := n2_; clear n0_ n1_ n2_; (try clear hb hk hi)) | ((with_reducible refine gate_dst (N := 11) rfl ?_); refine Kd.R_lit (Kd.int .i64) _ 3 ?hg (N := 11) ?hd (xs := ([(-1), 0, 1, a1, wrap64 (a1 + 1)] : List Int)) (inner := [.int .i64 (-1), .int .i64 0, .int .i64 1, .int .i64 a1, .int .i64 (wrap64 (a1 + 1))]) (ok := fun _ => True) (okp := fun _ => True) ?hr ?hp (fun _ hk => hk) trivial (Below.refl _ _) (Nat.le_refl _) (by simp) ?_; (case hd => rfl); (case hg => rfl); (case hr => exact tc19_); (case hp => exact (Reps.one (show Kd.M (Kd.int .i64) _ _ _ (-1) [.int .i64 (-1)] from rfl) (Reps.one (show Kd.M (Kd.int .i64) _ _ _ 0 [.int .i64 0] from rfl) (Reps.one (show Kd.M (Kd.int .i64) _ _ _ 1 [.int .i64 1] from rfl) (Reps.one (show Kd.M (Kd.int .i64) _ _ _ a1 [.int .i64 a1] from rfl) (Reps.one (show Kd.M (Kd.int .i64) _ _ _ (wrap64 (a1 + 1)) [.int .i64 (wrap64 (a1 + 1))] from rfl) (Reps.none _ _))))))); intro v105 w7 ho8 hb hg_ hnew_; clear hg_ hnew_; (first | rw [← Ny104.out] at ho8 | (simp only [Int.reduceToNat] at ho8; rw [← Ny104.out] at ho8)); have n0_ := am_ (Kd.R_lower ho8 (keep_size (w := w) (g := g) (row := none) tc24_)); have n1_ := am_ (IsS74.below tc20_ hb); have n2_ := am_ (KeepBut.trans tc24_ (KeepBut.of_below hb g none) (.inl rfl)); have n3_ := am_ (below_step tc21_ hb); clear HI0 HK HB; have HO106 := n0_; have HI0 := n1_; have HK := n2_; have HB := n3_; clear n0_ n1_ n2_ n3_; clear hb ho8; obtain ⟨Ao9, co9, eo9⟩ := Kd.R_slice HO106.out; subst eo9) | ((with_reducible refine gate_callee (f := 132) rfl ?_); refine goesL_ (some 12) rfl rfl Try.func132 (by kernel_rfl) rfl #[.pointer (some ⟨g, 0, none⟩), .slice Ao9 y104.length co9] rfl tc1_ ?_; (with_reducible refine (spec_l1Cur_among.calls g s0_0 t102 t103 _ _ y104 t107 t108 t109 w0 _ ?side1 ?side2 ?side3 ?side4 ?side5 A5.out).mono ?_); (case side1 => exact tc20_); (case side2 => exact tc21_); (case side3 => repeat (first | exact (Kd.R_reads' HO106.out).2.2 | (with_reducible refine Kd.C_alloc ?_ _) | (with_reducible refine Kd.C_drewN ?_ _) | (with_reducible refine Kd.C_drew ?_))); (case side4 => exact (Kd.R_reads' HO106.out).2.1); (case side5 => exact far_slice (IsS74.own_ne HI0.out HO106.out (by decide))); rintro e w10 ⟨rfl, hi, hb, hk⟩; refine ⟨_, rfl, ?_⟩; have n0_ := am_ (Kd.R_mono (Kd.R_keep (IsS74.apart (show IsS74 w0 _ g s0_0 t102 t103 from tc20_) (by (with_reducible repeat (first | apply Kd.R_alloc | apply Kd.R_drewN | apply Kd.R_drew)); exact HO106.out) (by decide)) hk (fun _ h => h.2)) (fun _ h => h.1)); have n1_ := am_ (KeepBut.trans tc24_ hk (.inl rfl)); have n2_ := am_ (hb); have n3_ := am_ (hi); clear HO106 HK; clear HB HI0; have HO106 := n0_; have HK := n1_; have HB := n2_; have HI0 := n3_; clear n0_ n1_ n2_ n3_; (try clear hb hk hi)))
  go_ret
  exact ⟨by first | rfl | (simp [errW_none, errW_some] <;> rfl) | (simp [*, errW_none, errW_some] <;> rfl), by repeat (first | (with_reducible first | exact HI0.out | apply IsS74.alloc | apply IsS74.drewN | apply IsS74.drew | apply IsS74.set_1 | apply IsS74.set_2) | exact HI0.out), by repeat (first | (with_reducible first | exact HB.out | apply below_alloc | apply pw_below_drewN | apply below_drew1 | refine below_set ?_ (IsS74.ge HI0.out)) | exact HB.out), by repeat (first | (with_reducible first | exact HK.out | apply KeepBut.set_ | apply keep_drewN | apply keep_drew | apply keep_alloc) | exact HK.out)⟩
 ·replace c4 := Bool.eq_false_iff.mpr c4
  subst c4
  have H1 : ((spec_l1Cur_pick.f s0_0 t102 t103 a1).bind fun bt110 => (some (wrap64 (1 + bt110.1), bt110.2.1, bt110.2.2))) = some (r1, r2, r3) := by rw [if_neg (show ¬ (false = true) by decide)] at H; exact H
  clear H
  have H := H1
  clear H1
  replace H := Option.bind_eq_some_iff.mp H
  obtain ⟨⟨t110, t111, t112⟩, A110, H⟩ := H
  replace H : (some (wrap64 (1 + t110), t111, t112)) = some (r1, r2, r3) := H
  have A11 := am_ A110
  clear A110
  simp only [Option.some.injEq, Prod.mk.injEq] at H
  obtain ⟨rfl, rfl, rfl⟩ := H
  go_enter Try.func105, Try.ntmps105
  go_wp2_with (first | ((with_reducible refine gate_callee (f := 131) rfl ?_); refine goesL_ (some 6) rfl rfl Try.func131 (by kernel_rfl) rfl #[.pointer (some ⟨g, 0, none⟩), .int .i64 8] rfl tc1_ ?_; (with_reducible refine (spec_l1Cur_one.calls g s0_0 s0_1 s0_2 8 false t102 t103 w0 _ ?side1 ?side2 A3.out).mono ?_); (case side1 => exact tc20_); (case side2 => exact tc21_); rintro e w12 ⟨rfl, hi, hb, hk⟩; refine ⟨_, rfl, ?_⟩; have n0_ := am_ (KeepBut.trans tc24_ hk (.inl rfl)); have n1_ := am_ (hb); have n2_ := am_ (hi); clear HK HB HI0; have HK := n0_; have HB := n1_; have HI0 := n2_; clear n0_ n1_ n2_; (try clear hb hk hi)) | ((with_reducible refine gate_callee (f := 162) rfl ?_); refine goesL_ (some 15) rfl rfl Try.func162 (by kernel_rfl) rfl #[.pointer (some ⟨g, 0, none⟩), .int .i64 a1] rfl tc1_ ?_; (with_reducible refine (spec_l1Cur_pick.calls g s0_0 t102 t103 a1 t110 t111 t112 w0 _ ?side1 ?side2 A11.out).mono ?_); (case side1 => exact tc20_); (case side2 => exact tc21_); rintro e w13 ⟨rfl, hi, hb, hk⟩; refine ⟨_, rfl, ?_⟩; have n0_ := am_ (KeepBut.trans tc24_ hk (.inl rfl)); have n1_ := am_ (hb); have n2_ := am_ (hi); clear HK HB HI0; have HK := n0_; have HB := n1_; have HI0 := n2_; clear n0_ n1_ n2_; (try clear hb hk hi)))
  go_ret
  exact ⟨by first | rfl | (simp [errW_none, errW_some] <;> rfl) | (simp [*, errW_none, errW_some] <;> rfl), by repeat (first | (with_reducible first | exact HI0.out | apply IsS74.alloc | apply IsS74.drewN | apply IsS74.drew | apply IsS74.set_1 | apply IsS74.set_2) | exact HI0.out), by repeat (first | (with_reducible first | exact HB.out | apply below_alloc | apply pw_below_drewN | apply below_drew1 | refine below_set ?_ (IsS74.ge HI0.out)) | exact HB.out), by repeat (first | (with_reducible first | exact HK.out | apply KeepBut.set_ | apply keep_drewN | apply keep_drew | apply keep_alloc) | exact HK.out)⟩

/-! ### spec_l1Cur_kind: function 106 -/
def spec_l1Cur_kind.f (s0_0 : List Int) (s0_1 : Int) (s0_2 : Int) : Option (Int × Int × Int) := (spec_l1Cur_pick.f s0_0 s0_1 s0_2 7).bind fun bt101 => ((spec_l1Cur_pick.f s0_0 bt101.2.1 bt101.2.2 9).bind fun bt104 => (some (wrap64 (bt101.1 - (wrap64 (Int.tdiv bt104.1 8))), bt104.2.1, bt104.2.2)))
set_option maxHeartbeats 8000000 in
set_option maxRecDepth 100000 in
theorem spec_l1Cur_kind.calls (g : Nat) (s0_0 : List Int) (s0_1 : Int) (s0_2 : Int) (r1 : Int) (r2 : Int) (r3 : Int) (w0 w : World) (hI : IsS74 w0 w g s0_0 s0_1 s0_2) (hB : Below w0.heap.size w0 w) (h : spec_l1Cur_kind.f s0_0 s0_1 s0_2 = some (r1, r2, r3)) :
  Calls Try.prog 106 #[.pointer (some ⟨g, 0, none⟩)] w fun e w' => e = .returned (.int .i64 r1) ∧ IsS74 w0 w' g s0_0 r2 r3 ∧ Below w0.heap.size w0 w' ∧ KeepBut w w' g none := by
 have HI0 := am_ hI
 have HK := am_ (KeepBut.refl w g none)
 have HL := am_ hB.size
 clear hI
 have HW0 := am_ hB.size
 have HB := am_ hB
 clear hB
 have H : ((spec_l1Cur_pick.f s0_0 s0_1 s0_2 7).bind fun bt101 => ((spec_l1Cur_pick.f s0_0 bt101.2.1 bt101.2.2 9).bind fun bt104 => (some (wrap64 (bt101.1 - (wrap64 (Int.tdiv bt104.1 8))), bt104.2.1, bt104.2.2)))) = some (r1, r2, r3) := h
 clear h
 replace H := Option.bind_eq_some_iff.mp H
 obtain ⟨⟨t101, t102, t103⟩, A20, H⟩ := H
 replace H : ((spec_l1Cur_pick.f s0_0 t102 t103 9).bind fun bt104 => (some (wrap64 (t101 - (wrap64 (Int.tdiv bt104.1 8))), bt104.2.1, bt104.2.2))) = some (r1, r2, r3) := H
 have A2 := am_ A20
 clear A20
 replace H := Option.bind_eq_some_iff.mp H
 obtain ⟨⟨t104, t105, t106⟩, A30, H⟩ := H
 replace H : (some (wrap64 (t101 - (wrap64 (Int.tdiv t104 8))), t105, t106)) = some (r1, r2, r3) := H
 have A3 := am_ A30
 clear A30
 simp only [Option.some.injEq, Prod.mk.injEq] at H
 obtain ⟨rfl, rfl, rfl⟩ := H
 go_enter Try.func106, Try.ntmps106
 go_wp2_with (first | ((with_reducible refine gate_callee (f := 162) rfl ?_); refine goesL_ (some 4) rfl rfl Try.func162 (by kernel_rfl) rfl #[.pointer (some ⟨g, 0, none⟩), .int .i64 7] rfl tc1_ ?_; (with_reducible refine (spec_l1Cur_pick.calls g s0_0 s0_1 s0_2 7 t101 t102 t103 w0 _ ?side1 ?side2 A2.out).mono ?_); (case side1 => exact tc20_); (case side2 => exact tc21_); rintro e w4 ⟨rfl, hi, hb, hk⟩; refine ⟨_, rfl, ?_⟩; have n0_ := am_ (KeepBut.trans tc24_ hk (.inl rfl)); have n1_ := am_ (hb); have n2_ := am_ (hi); clear HK HB HI0; have HK := n0_; have HB := n1_; have HI0 := n2_; clear n0_ n1_ n2_; (try clear hb hk hi)) | ((with_reducible refine gate_callee (f := 162) rfl ?_); refine goesL_ (some 6) rfl rfl Try.func162 (by kernel_rfl) rfl #[.pointer (some ⟨g, 0, none⟩), .int .i64 9] rfl tc1_ ?_; (with_reducible refine (spec_l1Cur_pick.calls g s0_0 t102 t103 9 t104 t105 t106 w0 _ ?side1 ?side2 A3.out).mono ?_); (case side1 => exact tc20_); (case side2 => exact tc21_); rintro e w5 ⟨rfl, hi, hb, hk⟩; refine ⟨_, rfl, ?_⟩; have n0_ := am_ (KeepBut.trans tc24_ hk (.inl rfl)); have n1_ := am_ (hb); have n2_ := am_ (hi); clear HK HB HI0; have HK := n0_; have HB := n1_; have HI0 := n2_; clear n0_ n1_ n2_; (try clear hb hk hi)))
 go_ret
 exact ⟨by first | rfl | (simp [errW_none, errW_some] <;> rfl) | (simp [*, errW_none, errW_some] <;> rfl), by repeat (first | (with_reducible first | exact HI0.out | apply IsS74.alloc | apply IsS74.drewN | apply IsS74.drew | apply IsS74.set_1 | apply IsS74.set_2) | exact HI0.out), by repeat (first | (with_reducible first | exact HB.out | apply below_alloc | apply pw_below_drewN | apply below_drew1 | refine below_set ?_ (IsS74.ge HI0.out)) | exact HB.out), by repeat (first | (with_reducible first | exact HK.out | apply KeepBut.set_ | apply keep_drewN | apply keep_drew | apply keep_alloc) | exact HK.out)⟩

/-! ### spec_DrawListSymmetric: function 45 -/
def spec_DrawListSymmetric.f (l0 : List Int) : Option (Int × Int) := (spec_l1Cur_side.f l0 0 0 5).bind fun bt102 => ((spec_l1Cur_kind.f l0 bt102.2.1 bt102.2.2).bind fun bt105 => (some (bt102.1, bt105.1)))
set_option maxHeartbeats 8000000 in
set_option maxRecDepth 100000 in
theorem spec_DrawListSymmetric.calls (A0 : Option Addr) (c0 : Nat) (l0 : List Int) (r1 : Int) (r2 : Int) (w : World) (hr0 : Kd.C (Kd.int .u8) w A0 l0.length l0) (hc0 : l0.length ≤ c0) (h : spec_DrawListSymmetric.f l0 = some (r1, r2)) :
  Calls Try.prog 45 #[.slice A0 l0.length c0] w fun e w' => e = .returned (.tuple #[.int .i64 r1, .int .i64 r2]) ∧ Below w.heap.size w w' := by
 have hu74 := Try.underlying74
 have HR0 := am_ hr0
 have HC0 := am_ hc0
 clear hr0 hc0
 have HB := am_ (Below.refl w.heap.size w)
 have H : ((spec_l1Cur_side.f l0 0 0 5).bind fun bt102 => ((spec_l1Cur_kind.f l0 bt102.2.1 bt102.2.2).bind fun bt105 => (some (bt102.1, bt105.1)))) = some (r1, r2) := h
 clear h
 replace H := Option.bind_eq_some_iff.mp H
 obtain ⟨⟨t102, t103, t104⟩, A20, H⟩ := H
 replace H : ((spec_l1Cur_kind.f l0 t103 t104).bind fun bt105 => (some (t102, bt105.1))) = some (r1, r2) := H
 have A2 := am_ A20
 clear A20
 replace H := Option.bind_eq_some_iff.mp H
 obtain ⟨⟨t105, t106, t107⟩, A30, H⟩ := H
 replace H : (some (t102, t105)) = some (r1, r2) := H
 have A3 := am_ A30
 clear A30
 simp only [Option.some.injEq, Prod.mk.injEq] at H
 obtain ⟨rfl, rfl⟩ := H
 go_enter Try.func45, Try.ntmps45
 go_wp2_with (first | ((with_reducible refine gate_dst (N := 7) rfl ?_); refine box_event ?hg (N := 7) ?hd (cs := #[.slice A0 l0.length c0, .int .i64 0, .int .u64 0]) (t := 74) ?hr ?_; (case hd => rfl); (case hg => rfl); (case hr => exact tc19_); intro gb101 hg w4 hbox hb; have n0_ := am_ (below_step tc0_ hb); have n1_ := am_ ((by rw [hg]; exact (below_size tc0_) : w.heap.size ≤ gb101)); have n2_ := am_ ((by rw [hg]; exact (below_size tc0_) : w.heap.size ≤ gb101)); have n3_ := am_ ((show IsS74 w w4 gb101 l0 0 0 from ⟨A0, c0, hbox, (by rw [hg]; exact (below_size tc0_) : w.heap.size ≤ gb101), HR0.out⟩)); clear HB; have HB := n0_; have GW101 := n1_; have GE101 := n2_; have HI101 := n3_; clear n0_ n1_ n2_ n3_; clear hb hbox hg) | ((with_reducible refine gate_callee (f := 105) rfl ?_); refine goesL_ (some 9) rfl rfl Try.func105 (by kernel_rfl) rfl #[.pointer (some ⟨gb101, 0, none⟩), .int .i64 5] rfl tc1_ ?_; (with_reducible refine (spec_l1Cur_side.calls gb101 l0 0 0 5 t102 t103 t104 w _ ?side1 ?side2 A2.out).mono ?_); (case side1 => exact tc17_); (case side2 => exact tc18_); rintro e w5 ⟨rfl, hi, hb, hk⟩; refine ⟨_, rfl, ?_⟩; have n0_ := am_ (hb); have n1_ := am_ (hi); clear HB HI101; have HB := n0_; have HI101 := n1_; clear n0_ n1_; (try clear hb hk hi)) | ((with_reducible refine gate_callee (f := 106) rfl ?_); refine goesL_ (some 11) rfl rfl Try.func106 (by kernel_rfl) rfl #[.pointer (some ⟨gb101, 0, none⟩)] rfl tc1_ ?_; (with_reducible refine (spec_l1Cur_kind.calls gb101 l0 t103 t104 t105 t106 t107 w _ ?side1 ?side2 A3.out).mono ?_); (case side1 => exact tc17_); (case side2 => exact tc18_); rintro e w6 ⟨rfl, hi, hb, hk⟩; refine ⟨_, rfl, ?_⟩; have n0_ := am_ (hb); have n1_ := am_ (hi); clear HB HI101; have HB := n0_; have HI101 := n1_; clear n0_ n1_; (try clear hb hk hi)))
 go_ret2
 exact ⟨by first | rfl | (simp [errW_none, errW_some] <;> rfl) | (simp [*, errW_none, errW_some] <;> rfl), by repeat (first | (with_reducible first | exact HB.out | apply below_alloc | apply pw_below_drewN | apply below_drew1 | refine below_set ?_ (IsS74.ge HI101.out)) | exact HB.out)⟩

/-! ### impl_within: function 107 -/
def impl_within.f (a0 : Int) (a1 : Int) (a2 : Int) : Option (Bool) := if a1 ≤ a0 then (some (decide (a0 ≤ a2))) else (some false)
set_option maxHeartbeats 8000000 in
set_option maxRecDepth 100000 in
theorem impl_within.calls (a0 : Int) (a1 : Int) (a2 : Int) (r : Bool) (w : World) (h : impl_within.f a0 a1 a2 = some r) :
  Calls Try.prog 107 #[.int .i64 a0, .int .i64 a1, .int .i64 a2] w fun e w' => e = .returned (.bool r) ∧ Drawn0 w w' := by
 have H : (if a1 ≤ a0 then (some (decide (a0 ≤ a2))) else (some false)) = some r := h
 clear h
 by_cases c4 : a1 ≤ a0
 ·rw [if_pos c4] at H
  have c4b0 : decide (a1 ≤ a0) = true := decide_eq_true c4
  clear c4
  obtain rfl := Option.some.inj H
  go_enter Try.func107, Try.ntmps107
  go_wp2
  go_ret
  exact ⟨by first | rfl | (simp; done) | (simp [*]; done), by repeat (first | exact Drawn0.refl _ | apply Drawn0.step)⟩
 ·rw [if_neg c4] at H
  have c4b0 : decide (a1 ≤ a0) = false := decide_eq_false c4
  clear c4
  obtain rfl := Option.some.inj H
  go_enter Try.func107, Try.ntmps107
  go_wp2
  go_ret
  exact ⟨by first | rfl | (simp; done) | (simp [*]; done), by repeat (first | exact Drawn0.refl _ | apply Drawn0.step)⟩

/-! ### impl_isKind: function 108 -/
def impl_isKind.f (a0 : Int) : Option (Bool) := (impl_within.f a0 0 4).bind fun t101 => (some t101)
set_option maxHeartbeats 8000000 in
set_option maxRecDepth 100000 in
theorem impl_isKind.calls (a0 : Int) (r : Bool) (w : World) (h : impl_isKind.f a0 = some r) :
  Calls Try.prog 108 #[.int .i64 a0] w fun e w' => e = .returned (.bool r) ∧ Drawn0 w w' := by
 have H : ((impl_within.f a0 0 4).bind fun t101 => (some t101)) = some r := h
 clear h
 replace H := Option.bind_eq_some_iff.mp H
 obtain ⟨t101, A20, H⟩ := H
 replace H : (some t101) = some r := H
 have A2 := am_ A20
 clear A20
 obtain rfl := Option.some.inj H
 go_enter Try.func108, Try.ntmps108
 go_wp2_with (first | ((with_reducible refine gate_callee (f := 107) rfl ?_); refine goesL_ (some 4) rfl rfl Try.func107 (by kernel_rfl) rfl #[.int .i64 a0, .int .i64 0, .int .i64 4] rfl tc1_ ?_; (with_reducible refine (impl_within.calls a0 0 4 t101 _ A2.out).mono ?_); rintro e w' ⟨rfl, ⟨nd, rfl⟩⟩; refine ⟨_, rfl, ?_⟩))
 go_ret
 exact ⟨by first | rfl | (simp; done) | (simp [*]; done), by repeat (first | exact Drawn0.refl _ | apply Drawn0.step)⟩

/-! ### slices_Clone_int_int: function 154 (by hand) -/
def slices_Clone_int_int.f (l0 : List Int) : Option (List Int) := if l0.length < 17592186044416 then some l0 else none
set_option maxHeartbeats 1000000 in
set_option maxRecDepth 100000 in
theorem slices_Clone_int_int.calls (A0 : Option Addr) (c0 : Nat) (l0 : List Int) (r : List Int) (w : World) (hr0 : Kd.C (Kd.int .i64) w A0 l0.length l0) (hc0 : l0.length ≤ c0) (h : slices_Clone_int_int.f l0 = some r) :
    Calls Try.prog 154 #[.slice A0 l0.length c0] w fun e w' => ∃ v0_ : Value, e = .returned (v0_) ∧ Kd.R (Kd.int .i64) 3 w' w.heap.size (fun _ => True) v0_ r ∧ Below w.heap.size w w' := by
  have hlt : l0.length < 17592186044416 := by
    unfold slices_Clone_int_int.f at h
    split at h
    · assumption
    · cases h
  unfold slices_Clone_int_int.f at h
  rw [if_pos hlt] at h
  obtain rfl := Option.some.inj h
  have LMc2 := am_ (show ([] : List Int).length + l0.length < 17592186044416 by simpa using hlt)
  clear h hlt
  have HR0 := am_ hr0
  have HC0 := am_ hc0
  clear hr0 hc0
  have HB := am_ (Below.refl w.heap.size w)
  cases A0 with
  | none =>
    have hl : l0 = [] := by
      have h1 := HR0.out.2.2
      cases l0 with
      | nil => rfl
      | cons x xs =>
        obtain ⟨ad, e, _⟩ := h1 (by simp)
        cases e
    subst hl
    have hq := fun W : World => Lib.run_eql_slice_nil (P := Try.prog) W 35 3 none ([] : List Int).length c0 0 0 Try.underlying35
    simp only [Option.isNone_none, List.length_nil] at hq
    go_enter Try.func154, Try.ntmps154
    go_wp2
    go_ret
    exact ⟨_, rfl, Kd.R_nil _ _ _ _ _, Below.refl _ _⟩
  | some ad =>
    have hq := fun W : World => Lib.run_eql_slice_nil (P := Try.prog) W 35 3 (some ad) l0.length c0 0 0 Try.underlying35
    simp only [Option.isNone_some] at hq
    obtain ⟨y101, hy101⟩ : ∃ y_ : List Int, y_ = (([] : List Int)) := ⟨_, rfl⟩
    rw [← hy101] at LMc2
    have Ny101 := am_ hy101
    clear hy101
    obtain ⟨y104, hy104⟩ : ∃ y_ : List Int, y_ = (y101 ++ l0) := ⟨_, rfl⟩
    have Ny104 := am_ hy104
    clear hy104
    go_enter Try.func154, Try.ntmps154
    go_wp2_with (first | ((with_reducible refine gate_dst (N := 5) rfl ?_); refine Kd.R_lit (Kd.int .i64) _ 3 ?hg (N := 5) ?hd (xs := ([] : List Int)) (inner := []) (ok := fun _ => True) (okp := fun _ => True) ?hr ?hp (fun _ hk => hk) trivial (Below.refl _ _) (Nat.le_refl _) (by simp) ?_; (case hd => rfl); (case hg => rfl); (case hr => exact tc19_); (case hp => exact (Reps.none _ _)); intro v102 w3 ho4 hb hg_ hnew_; clear hg_ hnew_; (first | rw [← Ny101.out] at ho4 | (simp only [Int.reduceToNat] at ho4; rw [← Ny101.out] at ho4)); have n0_ := am_ (Kd.R_lower ho4 (below_size tc0_)); have n1_ := am_ (below_step tc0_ hb); clear HB; have HO103 := n0_; have HB := n1_; clear n0_ n1_; clear hb ho4) | ((with_reducible refine gate_builtin (b := .append) (xs := #[.tmp 5, .tmp 6]) rfl ?_); at_builtin; refine Kd.R_append_rows (Kd.int .i64) (w0 := w) w.heap.size rfl (.tmp 5) (.tmp 6) 35 3 (.int .i64 0) 8 rfl Try.underlying35 info3 rfl (by decide) (by omega) v102 y101 l0 _ _ _ (fun _ => True) (fun _ => False) rfl rfl ?aO ?aR (fun _ _ h => h) (fun _ h => h.elim) ?aF ?aB ?aS ?aL ?_; (case aR => exact tc12_); (case aB => exact tc13_); (case aF => exact tc70_); (case aO => exact (by (with_reducible repeat (first | apply Kd.R_alloc | apply Kd.R_drewN | apply Kd.R_drew)); exact HO103.out)); (case aS => exact tc16_); (case aL => have := LMc2.out; omega); intro v105 w5 ho hb hg hat; rw [← Ny104.out] at ho; have n0_ := am_ (hb); have n1_ := am_ (ho); clear HB HO103; have HB := n0_; have HO106 := n1_; clear n0_ n1_; clear ho hb hg hat))
    go_ret
    have he : y104 = l0 := by rw [Ny104.out, Ny101.out]; rfl
    exact ⟨_, rfl, he ▸ HO106.out, by repeat (first | (with_reducible first | exact HB.out | apply below_alloc | apply pw_below_drewN | apply below_drew1) | exact HB.out)⟩

/-! ### impl_signRows_1: function 207 (by hand) -/
structure impl_signRows_1.St (w0 : World) (n : Int) (B2 B3 B4 T4 : Nat) (w : World) (u : Value) (out : List (List Int)) : Prop where
  b2 : w.heap[B2]? = some (.cells #[.int .i64 n] 3 (0, 0))
  b3 : w.heap[B3]? = some (.cells #[u] 24 (0, 0))
  b4 : w.heap[B4]? = some (.cells #[.func (.func 207) #[] #[.pointer (some ⟨B2, 0, none⟩), .pointer (some ⟨B3, 0, none⟩), .pointer (some ⟨B4, 0, none⟩)]] T4 (0, 0))
  ho : Kd.R (Kd.slice 3 (Kd.int .i64)) 35 w w0.heap.size (fun _ => True) u out
  hb : Below w0.heap.size w0 w
  ge : w0.heap.size ≤ B3
theorem impl_signRows_1.St.below {w0 : World} {n : Int} {B2 B3 B4 T4 : Nat} {w w1 : World} {u : Value} {out : List (List Int)} (h : impl_signRows_1.St w0 n B2 B3 B4 T4 w u out) (hb : Below w.heap.size w w1) : impl_signRows_1.St w0 n B2 B3 B4 T4 w1 u out :=
  ⟨blk_below h.b2 hb, blk_below h.b3 hb, blk_below h.b4 hb, Kd.R_below h.ho hb, below_step h.hb hb, h.ge⟩
theorem impl_signRows_1.St.drew {w0 : World} {n : Int} {B2 B3 B4 T4 : Nat} {w : World} {u : Value} {out : List (List Int)} (h : impl_signRows_1.St w0 n B2 B3 B4 T4 w u out) : impl_signRows_1.St w0 n B2 B3 B4 T4 w.drew u out :=
  h.below (below_drew (Below.refl _ _))
theorem impl_signRows_1.St.push {w0 : World} {n : Int} {B2 B3 B4 T4 : Nat} (hT4 : T4 ≠ 24 ∧ T4 ≠ 35) {w w5 : World} {u v : Value} {out : List (List Int)} {x : List Int} (h : impl_signRows_1.St w0 n B2 B3 B4 T4 w u out)
    (ho : Kd.R (Kd.slice 3 (Kd.int .i64)) 35 w5 w0.heap.size (fun _ => True) v (out ++ [x])) (hb : Below w0.heap.size w0 w5) (hg : w.grownBy w5 u.ownBlock) :
    impl_signRows_1.St w0 n B2 B3 B4 T4 (w5.setCell ⟨B3, 0, none⟩ v) v (out ++ [x]) ∧ Kept w (w5.setCell ⟨B3, 0, none⟩ v) (fun k => k = B3 ∨ some k = u.ownBlock) := by
  have n32 := blk_ne h.b3 h.b2 (by decide)
  have n34 := blk_ne h.b3 h.b4 (Ne.symm hT4.1)
  have b3 := blk_grown h.b3 hg (Kd.R_ne h.ho h.b3 (by decide))
  exact ⟨⟨blk_far (blk_grown h.b2 hg (Kd.R_ne h.ho h.b2 (by decide))) (Ne.symm n32) v, blk_set b3 0 v, blk_far (blk_grown h.b4 hg (Kd.R_ne h.ho h.b4 (Ne.symm hT4.2))) (Ne.symm n34) v, Kd.R_set ho b3 (by decide) 0 v, below_set hb h.ge, h.ge⟩,
    Kept.setCell (Kept.of_grown hg (Kept.refl _ _) (fun k hk => .inl (.inr hk.symm))) (.inl (.inl rfl)) v⟩
mutual
def impl_signRows_1.l0 : Nat → Int → List Int → Int → Int → Option (List (List Int))
  | 0, _, _, _, _ => none
  | k + 1, n, l, s, x => if x ≤ 1 - s then (if -1 ≤ x then (if l.length < 1000000 then ((impl_signRows_1.f k n (l ++ [x]) (s + x)).bind fun a => (impl_signRows_1.l0 k n l s (x + 1)).bind fun b => some (a ++ b)) else none) else none) else some []
def impl_signRows_1.f : Nat → Int → List Int → Int → Option (List (List Int))
  | 0, _, _, _ => none
  | k + 1, n, l, s => if (l.length : Int) = n then (if s = 1 then some [l] else some []) else (if 0 ≤ s then (if s ≤ 1 then impl_signRows_1.l0 k n l s (-s) else none) else none)
end
set_option maxHeartbeats 4000000 in
set_option maxRecDepth 100000 in
theorem impl_signRows_1.calls (k : Nat) : ∀ (A0 : Option Addr) (c0 : Nat) (l0 : List Int) (a1 n : Int) (B2 B3 B4 T4 : Nat) (hT4 : T4 ≠ 24 ∧ T4 ≠ 35) (u : Value) (out r : List (List Int)) (w0 w : World)
    (hs : impl_signRows_1.St w0 n B2 B3 B4 T4 w u out) (hl : Kd.R (Kd.int .i64) 3 w w0.heap.size (fun _ => True) (.slice A0 l0.length c0) l0) (hn : out.length + r.length < 5864062014805) (h : impl_signRows_1.f k n l0 a1 = some r),
    Calls Try.prog 207 (#[.slice A0 l0.length c0, .int .i64 a1] ++ #[.pointer (some ⟨B2, 0, none⟩), .pointer (some ⟨B3, 0, none⟩), .pointer (some ⟨B4, 0, none⟩)]) w fun e w' => e = .returned (.tuple #[]) ∧ ∃ u', impl_signRows_1.St w0 n B2 B3 B4 T4 w' u' (out ++ r) ∧ Kept w w' (fun k => k = B3 ∨ some k = u.ownBlock) ∧ (u'.ownBlock = u.ownBlock ∨ ∃ b, u'.ownBlock = some b ∧ w.heap.size ≤ b) := by
  induction k using Nat.strongRecOn with
  | _ k ih =>
  intro A0 c0 l0 a1 n B2 B3 B4 T4 hT4 u out r w0 w hs hl hn h
  cases k with
  | zero => exact absurd h (by simp [impl_signRows_1.f])
  | succ k =>
  simp only [impl_signRows_1.f] at h
  have HS := am_ hs
  have HL := am_ hl
  have HN := am_ hn
  have HC := am_ (Kd.R_reads' hl).2.1
  have n32 := blk_ne hs.b3 hs.b2 (by decide)
  have n34 := blk_ne hs.b3 hs.b4 (Ne.symm hT4.1)
  have hz0 : l0.length ≤ 9223372036854775807 := (Kd.R_reads' hl).2.2.2.1
  clear hs hl hn
  by_cases c1 : (l0.length : Int) = n
  · rw [if_pos c1] at h
    have c1b : ((l0.length : Int) == n) = true := beq_iff_eq.mpr c1
    clear c1
    by_cases c2 : a1 = 1
    · rw [if_pos c2] at h
      have c2b : (a1 == 1) = true := beq_iff_eq.mpr c2
      clear c2
      obtain rfl := Option.some.inj h
      clear h
      have hc2 : w.cell? ⟨B2, 0, none⟩ = some (.int .i64 n) := (blk_cell HS.out.b2 0).trans rfl
      have hc3 : w.cell? ⟨B3, 0, none⟩ = some u := (blk_cell HS.out.b3 0).trans rfl
      have hf3 := blk_frozen HS.out.b3 0
      go_enter Try.func207, Try.ntmps207
      go_wp2_with (first | ((with_reducible refine gate_builtin (b := .append) (xs := #[.tmp 14, .tmp 16]) rfl ?_); at_builtin; refine Kd.R_append (Kd.slice 3 (Kd.int .i64)) (w0 := w0) w0.heap.size rfl (.tmp 14) (.tmp 16) 24 35 (.slice none 0 0) 24 rfl Try.underlying24 info35 rfl (by decide) (by omega) u out l0 [.slice A0 l0.length c0] (fun _ => True) (fun k => True ∧ some k ≠ u.ownBlock) rfl rfl ⟨_, rfl, Kd.R_apart' HL.out (Kd.R_typed HS.out.ho) (by decide)⟩ (fun _ hk => hk) (fun _ _ => trivial) HS.out.ho HS.out.hb (below_size HS.out.hb) (by have := HN.out; simp at this; omega) ?_; intro v5 w5 ho5 hb5 hg5 hat5; have HO5 := am_ ho5; have HB5 := am_ hb5; have HG5 := am_ hg5; have HA5 := am_ hat5; clear ho5 hb5 hg5 hat5; obtain ⟨A5, k5, e5⟩ := Kd.R_slice HO5.out; subst e5; have hc35 : w5.cell? ⟨B3, 0, none⟩ = some u := (blk_cell (blk_grown HS.out.b3 HG5.out (Kd.R_ne HS.out.ho HS.out.b3 (by decide))) 0).trans rfl; have hf35 := blk_frozen (blk_grown HS.out.b3 HG5.out (Kd.R_ne HS.out.ho HS.out.b3 (by decide))) 0))
      obtain ⟨q1, q2⟩ := impl_signRows_1.St.push hT4 HS.out HO5.out HB5.out HG5.out
      rw [show (out ++ [l0]).length = out.length + 1 by simp] at q1 q2
      first | go_end0 | ((try simp only [Exit.inBlock, Exit.then]); refine bodyPost_ret (results_none rfl _ _ _) rfl ?_)
      exact ⟨rfl, _, q1, q2, by have := HA5.out; rwa [show (out ++ [l0]).length = out.length + 1 by simp] at this⟩
    · rw [if_neg c2] at h
      have c2b : (a1 == 1) = false := beq_eq_false_iff_ne.mpr c2
      clear c2
      obtain rfl := Option.some.inj h
      clear h
      have hc2 : w.cell? ⟨B2, 0, none⟩ = some (.int .i64 n) := (blk_cell HS.out.b2 0).trans rfl
      go_enter Try.func207, Try.ntmps207
      go_wp2
      first | go_end0 | ((try simp only [Exit.inBlock, Exit.then]); refine bodyPost_ret (results_none rfl _ _ _) rfl ?_)
      exact ⟨rfl, u, by simpa using HS.out, Kept.refl _ _, .inl rfl⟩
  · rw [if_neg c1] at h
    have c1b : ((l0.length : Int) == n) = false := beq_eq_false_iff_ne.mpr c1
    clear c1
    by_cases c3 : 0 ≤ a1
    · rw [if_pos c3] at h
      by_cases c4 : a1 ≤ 1
      · rw [if_pos c4] at h
        have HF := am_ h
        clear h
        have hc2 : w.cell? ⟨B2, 0, none⟩ = some (.int .i64 n) := (blk_cell HS.out.b2 0).trans rfl
        go_enter Try.func207, Try.ntmps207
        go_wp2
        go_loopg [7] k (fun kq v7 w' => ∃ (x7 : Int) (u' : Value) (acc rest : List (List Int)), v7 = .int .i64 x7 ∧ Aside0 (r = acc ++ rest) ∧ Aside0 (impl_signRows_1.l0 kq n l0 a1 x7 = some rest) ∧ Aside0 (kq ≤ k) ∧ Aside0 (impl_signRows_1.St w0 n B2 B3 B4 T4 w' u' (out ++ acc)) ∧ Aside0 (Kd.R (Kd.int .i64) 3 w' w0.heap.size (fun _ => True) (.slice A0 l0.length c0) l0) ∧ Aside0 (Kept w w' (fun k => k = B3 ∨ some k = u.ownBlock)) ∧ Aside0 (u'.ownBlock = u.ownBlock ∨ ∃ b, u'.ownBlock = some b ∧ w.heap.size ≤ b))
        case atStart => exact ⟨-a1, u, [], r, rfl, ⟨rfl⟩, HF, ⟨Nat.le_refl _⟩, ⟨by simpa using HS.out⟩, HL, ⟨Kept.refl _ _⟩, ⟨.inl rfl⟩⟩
        case round =>
          clear HF
          obtain ⟨x7, u2, acc, rest, rfl, HE, HF, HK, HS2, HL2, HKp, HA⟩ := hrel
          cases gk with
          | zero => exact absurd HF.out (by simp [impl_signRows_1.l0])
          | succ k1 =>
            have H := HF.out
            clear HF
            simp only [impl_signRows_1.l0] at H
            by_cases c5 : x7 ≤ 1 - a1
            · rw [if_pos c5] at H
              by_cases c6 : -1 ≤ x7
              · rw [if_pos c6] at H
                by_cases c7 : l0.length < 1000000
                · rw [if_pos c7] at H
                  have LM := am_ c7
                  obtain ⟨ra, ha, H⟩ := Option.bind_eq_some_iff.mp H
                  obtain ⟨rb, hb, H⟩ := Option.bind_eq_some_iff.mp H
                  have HR2 := am_ (Option.some.inj H).symm
                  have HFa := am_ (show impl_signRows_1.f k1 n (l0 ++ [x7]) (wrap64 (a1 + x7)) = some ra by rw [show wrap64 (a1 + x7) = a1 + x7 by unfold wrap64; omega]; exact ha)
                  have HFb := am_ hb
                  clear H ha hb c7
                  go_wp2_with fail
                  have HS3 := am_ HS2.out.drew
                  have HL3 := am_ (Kd.R_drew HL2.out)
                  have HR := am_ (Kd.R_reads' HL3.out).2.2
                  have HKp3 := am_ (HKp.out.drew)
                  have HC4 := am_ ((blk_cell HS3.out.b4 0).trans rfl : wr.drew.cell? ⟨B4, 0, none⟩ = some (.func (.func 207) #[] #[.pointer (some ⟨B2, 0, none⟩), .pointer (some ⟨B3, 0, none⟩), .pointer (some ⟨B4, 0, none⟩)]))
                  clear HS2 HL2 HKp
                  refine start_ (n := 10) (S := fun w' => w'.cell? ⟨B4, 0, none⟩ = some (.func (.func 207) #[] #[.pointer (some ⟨B2, 0, none⟩), .pointer (some ⟨B3, 0, none⟩), .pointer (some ⟨B4, 0, none⟩)])) (ds := []) #[false, false, false, false, false, false, false, false, false, false] (by kernel_rfl) rfl rfl (HC4.out) (fun hHeld => ?_)
                  generalize hW_ : wr.drew = W at HS3 HL3 HR HKp3 HC4 hHeld ⊢
                  clear hW_
                  refine pure_ (i := 1) (N := some 27) (v := ?_) (a' := ?_) #[false, true, false, false, false, false, false, false, false, false] rfl rfl (by kernel_rfl) (fun _ _ _ h => h) (Or.inl ⟨by rfl, ?_⟩) ?_ ?_
                  rotate_left
                  · intro w'
                    go_simp
                    with_reducible rfl
                  rotate_left
                  · simp only [Act.put, List.setIfInBounds_toArray, List.set_cons_zero, List.set_cons_succ, i64_w, i32_w]
                    rfl
                  refine pure_ (i := 3) (N := some 29) (v := ?_) (a' := ?_) #[false, true, false, true, false, false, false, false, false, false] rfl rfl (by kernel_rfl) (fun _ _ _ h => h) (Or.inl ⟨by rfl, ?_⟩) ?_ ?_
                  rotate_left
                  · intro w'
                    go_simp
                    with_reducible rfl
                  rotate_left
                  · simp only [Act.put, List.setIfInBounds_toArray, List.set_cons_zero, List.set_cons_succ, i64_w, i32_w]
                    rfl
                  refine pure_ (i := 6) (N := some 32) (v := ?_) (a' := ?_) #[false, true, false, true, false, false, true, false, false, false] rfl rfl (by kernel_rfl) (fun _ _ _ h => h) (Or.inl ⟨by rfl, ?_⟩) ?_ ?_
                  rotate_left
                  · intro w'
                    go_simp
                    with_reducible rfl
                  rotate_left
                  · simp only [Act.put, List.setIfInBounds_toArray, List.set_cons_zero, List.set_cons_succ, i64_w, i32_w]
                    rfl
                  refine pure_ (i := 7) (N := some 33) (v := ?_) (a' := ?_) #[false, true, false, true, false, false, true, true, false, false] rfl rfl (by kernel_rfl) (fun _ _ _ h => h) (Or.inl ⟨by rfl, ?_⟩) ?_ ?_
                  rotate_left
                  · intro w'
                    go_simp
                    with_reducible rfl
                  rotate_left
                  · simp only [Act.put, List.setIfInBounds_toArray, List.set_cons_zero, List.set_cons_succ, i64_w, i32_w]
                    rfl
                  refine pure_ (i := 8) (N := some 34) (v := ?_) (a' := ?_) #[false, true, false, true, false, false, true, true, true, false] rfl rfl (by kernel_rfl) (fun _ _ _ h => h) (Or.inl ⟨by rfl, ?_⟩) ?_ ?_
                  rotate_left
                  · intro w'
                    go_simp
                    with_reducible rfl
                  rotate_left
                  · simp only [Act.put, List.setIfInBounds_toArray, List.set_cons_zero, List.set_cons_succ, i64_w, i32_w]
                    rfl
                  refine take_ (i := 0) (N := some 26) (v := ?_) (a' := ?_) #[true, true, false, true, false, false, true, true, true, false] rfl rfl (by kernel_rfl) (fun _ _ _ h => h) (Or.inl ⟨by rfl, ?_⟩) hHeld ?_ ?_
                  rotate_left
                  · intro w' s0
                    go_simp
                    with_reducible rfl
                  rotate_left
                  · simp only [Act.put, List.setIfInBounds_toArray, List.set_cons_zero, List.set_cons_succ, i64_w, i32_w]
                    rfl
                  refine join_ (σ := Value × Addr) 2 #[true, true, true, true, true, false, true, true, true, false] (fun s_ => [(28, s_.1), (30, .slice (some s_.2) 1 1)]) (fun s_ w' => Below W.heap.size W w' ∧ Kd.R (Kd.int .i64) 3 w' W.heap.size (fun _ => True) s_.1 l0 ∧ Kd.C (Kd.int .i64) w' (some s_.2) 1 [x7]) ?_ ?_
                  rotate_left
                  · intro hCont
                    refine two_ (i := 2) (j := 4) (Ni := some 28) (Nj := some 30) #[true, true, true, true, false, false, true, true, true, false] #[true, true, false, true, true, false, true, true, true, false] rfl rfl rfl rfl (by kernel_rfl) (by decide) (by decide) (fun K hK => ?_) (fun K hK => ?_)
                    · skip
                      refine goes_ Try.func154 (by kernel_rfl) rfl #[.slice A0 l0.length c0] (by rfl) rfl rfl tc54_ ?_
                      refine (slices_Clone_int_int.calls A0 c0 l0 l0 _ ?sc1 HC.out (if_pos (by have := LM.out; omega))).mono ?_
                      (case sc1 => exact (Kd.C_below HR.out (Below.refl _ _)))
                      rintro e w2 ⟨v28, rfl, ho, hb⟩
                      refine ⟨_, rfl, ?_⟩
                      have HB2 := am_ (below_step (Below.refl _ _) hb)
                      have HO2 := am_ (Kd.R_lower ho (below_size (Below.refl _ _)))
                      have hb2_ := am_ hb
                      clear ho hb
                      refine hK.out _ _ (cell_of_below HB2.out HC4.out) (fun hHeld => ?_)
                      clear hK K
                      refine norm_ (a' := ?_) ?_ ?_
                      rotate_left
                      · show Act.put _ (some 28) _ = _
                        simp only [Act.put, List.setIfInBounds_toArray, List.set_cons_zero, List.set_cons_succ, i64_w, i32_w]
                        rfl
                      refine one_ (i := 4) (N := some 30) #[true, true, true, true, true, false, true, true, true, false] rfl rfl (by kernel_rfl) (by decide) (fun K hK => ?_)
                      refine value_ (w1 := ?_) (v := ?_) (by rfl) rfl ?_ ?_
                      rotate_left 2
                      · go_simp
                        constructor
                        · rfl
                        · rfl
                      refine hK.out _ _ (cell_of_below (below_alloc HB2.out _) HC4.out) (fun hHeld => ?_)
                      clear hK K
                      refine norm_ (a' := ?_) ?_ ?_
                      rotate_left
                      · show Act.put _ (some 30) _ = _
                        simp only [Act.put, List.setIfInBounds_toArray, List.set_cons_zero, List.set_cons_succ, i64_w, i32_w]
                        rfl
                      exact norm_ (by simp only [putAll, Act.put, List.setIfInBounds_toArray, List.set_cons_zero, List.set_cons_succ]) (hCont (v28, ⟨w2.heap.size, 0, none⟩) _ ⟨below_alloc HB2.out _, Kd.R_alloc HO2.out _, C_box rfl rfl _⟩)
                    · skip
                      refine value_ (w1 := ?_) (v := ?_) (by rfl) rfl ?_ ?_
                      rotate_left 2
                      · go_simp
                        constructor
                        · rfl
                        · rfl
                      refine hK.out _ _ (cell_of_below (below_alloc (Below.refl _ _) _) HC4.out) (fun hHeld => ?_)
                      clear hK K
                      refine norm_ (a' := ?_) ?_ ?_
                      rotate_left
                      · show Act.put _ (some 30) _ = _
                        simp only [Act.put, List.setIfInBounds_toArray, List.set_cons_zero, List.set_cons_succ, i64_w, i32_w]
                        rfl
                      refine one_ (i := 2) (N := some 28) #[true, true, true, true, true, false, true, true, true, false] rfl rfl (by kernel_rfl) (by decide) (fun K hK => ?_)
                      refine goes_ Try.func154 (by kernel_rfl) rfl #[.slice A0 l0.length c0] (by rfl) rfl rfl tc54_ ?_
                      refine (slices_Clone_int_int.calls A0 c0 l0 l0 _ ?sc1 HC.out (if_pos (by have := LM.out; omega))).mono ?_
                      (case sc1 => exact (Kd.C_below HR.out (below_alloc (Below.refl _ _) _)))
                      rintro e w2 ⟨v28, rfl, ho, hb⟩
                      refine ⟨_, rfl, ?_⟩
                      have HB2 := am_ (below_step (below_alloc (Below.refl _ _) _) hb)
                      have HO2 := am_ (Kd.R_lower ho (below_size (below_alloc (Below.refl _ _) _)))
                      have hb2_ := am_ hb
                      clear ho hb
                      refine hK.out _ _ (cell_of_below HB2.out HC4.out) (fun hHeld => ?_)
                      clear hK K
                      refine norm_ (a' := ?_) ?_ ?_
                      rotate_left
                      · show Act.put _ (some 28) _ = _
                        simp only [Act.put, List.setIfInBounds_toArray, List.set_cons_zero, List.set_cons_succ, i64_w, i32_w]
                        rfl
                      exact norm_ (by simp only [putAll, Act.put, List.setIfInBounds_toArray, List.set_cons_zero, List.set_cons_succ]) (hCont (v28, ⟨W.heap.size, 0, none⟩) _ ⟨HB2.out, HO2.out, Kd.C_below (C_box rfl rfl _) hb2_.out⟩)
                  rintro ⟨v28, ad30⟩ w4 ⟨hb4_, ho4_, hc4_⟩
                  have hHeld : w4.cell? ⟨B4, 0, none⟩ = some (.func (.func 207) #[] #[.pointer (some ⟨B2, 0, none⟩), .pointer (some ⟨B3, 0, none⟩), .pointer (some ⟨B4, 0, none⟩)]) := cell_of_below hb4_ HC4.out
                  have HB4 := am_ hb4_
                  have HO4 := am_ ho4_
                  have HV4 := am_ hc4_
                  clear hb4_ ho4_ hc4_
                  refine norm_ (a' := ?_) ?_ ?_
                  rotate_left
                  · simp only [putAll, Act.put, List.setIfInBounds_toArray, List.set_cons_zero, List.set_cons_succ]
                    rfl
                  refine one_ (i := 5) (N := some 31) #[true, true, true, true, true, true, true, true, true, false] rfl rfl (by kernel_rfl) (by decide) (fun K hK => ?_)
                  refine Kd.R_append_rows_step (Kd.int .i64) (w0 := W) W.heap.size (by rfl) (.tmp 28) (.tmp 30) 35 3 (.int .i64 0) 8 rfl Try.underlying35 info3 rfl (by decide) (by omega) v28 l0 [x7] _ _ _ (fun _ => True) (fun _ => False) rfl rfl HO4.out HV4.out (fun _ _ h => h) (fun _ h => h.elim) (fun _ _ => trivial) HB4.out (below_size HB4.out) (by have := LM.out; omega) ?_
                  intro v31 w5 ho5 hb5 hg5 hat5
                  clear hg5 hat5
                  have HB5 := am_ hb5
                  have HO5 := am_ ho5
                  obtain ⟨A31, c31, e31⟩ := Kd.R_slice HO5.out
                  subst e31
                  clear ho5 hb5 HB4 HO4 HV4
                  refine hK.out _ _ (cell_of_below HB5.out HC4.out) (fun hHeld => ?_)
                  clear hK K
                  refine norm_ (a' := ?_) ?_ ?_
                  rotate_left
                  · show Act.put _ (some 31) _ = _
                    simp only [Act.put, List.setIfInBounds_toArray, List.set_cons_zero, List.set_cons_succ, i64_w, i32_w]
                    rfl
                  refine one_ (i := 9) (N := some 35) #[true, true, true, true, true, true, true, true, true, true] rfl rfl (by kernel_rfl) (by decide) (fun K hK => ?_)
                  refine goesF_ (enters_of Try.func207 (by kernel_rfl) rfl) #[.slice A31 (l0 ++ [x7]).length c31, .int .i64 (wrap64 (a1 + x7))] (by rfl) rfl rfl (by first | rfl | (simp [Act.eval]; done)) tc54_ ?_
                  refine (ih k1 (by have := HK.out; omega) A31 c31 (l0 ++ [x7]) (wrap64 (a1 + x7)) n B2 B3 B4 T4 hT4 u2 (out ++ acc) ra w0 w5 (HS3.out.below HB5.out) (Kd.R_lower HO5.out (below_size HS3.out.hb)) (by have := HN.out; rw [HE.out, HR2.out] at this; simp only [List.length_append] at this ⊢; omega) HFa.out).mono ?_
                  rintro e w6 ⟨rfl, u3, hs6, hk6, hat6⟩
                  refine ⟨_, rfl, ?_⟩
                  have HS6 := am_ hs6
                  have HK6 := am_ hk6
                  have HT6 := am_ hat6
                  clear hs6 hk6 hat6
                  refine hK.out _ _ ((blk_cell HS6.out.b4 0).trans rfl) (fun hHeld => ?_)
                  clear hK K
                  refine norm_ (a' := ?_) ?_ ?_
                  rotate_left
                  · show Act.put _ (some 35) _ = _
                    simp only [Act.put, List.setIfInBounds_toArray, List.set_cons_zero, List.set_cons_succ, i64_w, i32_w]
                    rfl
                  refine done_ (by kernel_rfl) ?_
                  have HL6 := am_ (Kd.R_mono (Kd.R_kept (Kd.R_apart' (Kd.R_types (Kd.R_below HL3.out HB5.out) (HS3.out.below HB5.out).b3 (by decide)) (Kd.R_typed (HS3.out.below HB5.out).ho) (by decide)) HK6.out (fun k_ hk hS => hS.elim hk.1.2 hk.2)) (fun _ _ => trivial))
                  have HKp6 := am_ ((HKp3.out.below HB5.out).then_ HK6.out (fun k_ hS => hS.elim (fun e => .inl (.inl e)) (fun e => HA.out.elim (fun ha => .inl (.inr (e.trans ha))) (fun ⟨b, hb, hle⟩ => .inr (by rw [hb] at e; injection e with e; omega)))))
                  have HA6 : Aside0 (u3.ownBlock = u.ownBlock ∨ ∃ b, u3.ownBlock = some b ∧ w.heap.size ≤ b) := ⟨HT6.out.elim (fun h1 => HA.out.elim (fun h2 => .inl (h1.trans h2)) (fun ⟨b, h2, h3⟩ => .inr ⟨b, h1.trans h2, h3⟩)) (fun ⟨b, h2, h3⟩ => .inr ⟨b, h2, Nat.le_trans HKp3.out.1 (Nat.le_trans (below_size HB5.out) h3)⟩)⟩
                  go_wp2
                  go_roundg k1
                  case measure => have := HK.out; omega
                  case rel => exact ⟨x7 + 1, u3, acc ++ ra, rb, by go_num, ⟨by rw [HE.out, HR2.out, List.append_assoc]⟩, HFb, ⟨by have := HK.out; omega⟩, ⟨by rw [← List.append_assoc]; exact HS6.out⟩, HL6, HKp6, HA6⟩
                · rw [if_neg c7] at H
                  exact absurd H (by simp)
              · rw [if_neg c6] at H
                exact absurd H (by simp)
            · rw [if_neg c5] at H
              obtain rfl := Option.some.inj H
              clear H
              go_wp2
              first | go_end0 | ((try simp only [Exit.inBlock, Exit.then]); refine bodyPost_ret (results_none rfl _ _ _) rfl ?_)
              exact ⟨rfl, u2, by have := HS2.out; rw [HE.out, List.append_nil]; exact this, HKp.out, HA.out⟩
      · rw [if_neg c4] at h
        exact absurd h (by simp)
    · rw [if_neg c3] at h
      exact absurd h (by simp)

/-! ### impl_signRows: function 197 (by hand) -/
def impl_signRows.f (k : Nat) (a0 : Int) : Option (List (List Int)) := (impl_signRows_1.f k a0 [] 0).bind fun r => if r.length < 1000000 then some r else none
set_option maxHeartbeats 4000000 in
set_option maxRecDepth 100000 in
theorem impl_signRows.calls (k : Nat) (a0 : Int) (r : List (List Int)) (w : World) (h : impl_signRows.f k a0 = some r) :
    Calls Try.prog 197 #[.int .i64 a0] w fun e w' => ∃ v0_ : Value, e = .returned v0_ ∧ Kd.R (Kd.slice 3 (Kd.int .i64)) 35 w' w.heap.size (fun _ => True) v0_ r ∧ Below w.heap.size w w' := by
  obtain ⟨r', h1, h2⟩ := Option.bind_eq_some_iff.mp h
  have hr : r'.length < 1000000 := by
    split at h2
    · assumption
    · cases h2
  rw [if_pos hr] at h2
  obtain rfl := Option.some.inj h2
  have HF := am_ h1
  have HL := am_ hr
  clear h h1 h2 hr
  have HB := am_ (Below.refl w.heap.size w)
  go_enter Try.func197, Try.ntmps197
  go_wp2_with fail
  refine (impl_signRows_1.calls k none 0 [] 0 a0 w.heap.size (w.heap.size + 1 + 1) (w.heap.size + 1 + 1 + 1) 119 (by decide) (.slice (some ⟨w.heap.size + 1, 0, none⟩) 0 0) [] r' w _ ⟨?b2, ?b3, ?b4, ?ho, ?hb, by omega⟩ (Kd.R_nil _ _ _ _ _) (by have := HL.out; simp; omega) HF.out).mono ?_
  case b2 => exact blk_alloc (blk_alloc (blk_alloc (blk_new _ _) _) _) _
  case b3 => exact blk_alloc (blk_new' (by simp)) _
  case b4 => exact blk_new' (by simp)
  case ho => exact R_empty (blk_alloc (blk_alloc (blk_new' (by simp)) _) _) (by omega)
  case hb => exact below_alloc (below_alloc (below_alloc (below_alloc (Below.refl _ _) _) _) _) _
  rintro e w2 ⟨rfl, u2, hs2, _, _⟩
  have HS := am_ hs2
  clear hs2
  obtain ⟨A2, c2, e2⟩ := Kd.R_slice HS.out.ho
  subst e2
  have hc3 : w2.cell? ⟨w.heap.size + 1 + 1, 0, none⟩ = _ := (blk_cell HS.out.b3 0).trans rfl
  go_wp2
  go_ret
  exact ⟨_, rfl, HS.out.ho, HS.out.hb⟩

/-! ### impl_fitsSums: function 199 -/
def impl_fitsSums.l0 : Nat → List Int → Bool → List Int → Int → Int → Option (Bool)
 | 0, _, _, _, _, _ => none
 | k + 1, x0, x2, x10, x11, x12 => if x12 < x11 then (if 0 ≤ x12 then (if x12 < (x10.length : Int) then (if x12 < (x0.length : Int) then ((impl_within.f (wrap64 ((rd x0 x12) + (rd x10 x12))) 0 1).bind fun t103 => (if t103 = true then (if x2 = true then (if (wrap64 ((rd x0 x12) + (rd x10 x12))) = 1 then (impl_fitsSums.l0 k x0 x2 x10 x11 (wrap64 (x12 + 1))) else (some false)) else (impl_fitsSums.l0 k x0 x2 x10 x11 (wrap64 (x12 + 1)))) else (some false))) else (none)) else (none)) else (none)) else (some true)
def impl_fitsSums.f (k : Nat) (l0 : List Int) (l1 : List Int) (a2 : Bool) : Option (Bool) := impl_fitsSums.l0 k l0 a2 l1 (l1.length : Int) 0
set_option maxHeartbeats 8000000 in
set_option maxRecDepth 100000 in
theorem impl_fitsSums.calls (k : Nat) (A0 : Option Addr) (c0 : Nat) (l0 : List Int) (A1 : Option Addr) (c1 : Nat) (l1 : List Int) (a2 : Bool) (r : Bool) (w : World) (hr0 : Kd.C (Kd.int .i64) w A0 l0.length l0) (hc0 : l0.length ≤ c0) (hr1 : Kd.C (Kd.int .i64) w A1 l1.length l1) (hc1 : l1.length ≤ c1) (h : impl_fitsSums.f k l0 l1 a2 = some r) :
  Calls Try.prog 199 #[.slice A0 l0.length c0, .slice A1 l1.length c1, .bool a2] w fun e w' => e = .returned (.bool r) ∧ Drawn0 w w' := by
 have HR0 := am_ hr0
 have HC0 := am_ hc0
 clear hr0 hc0
 have HR1 := am_ hr1
 have HC1 := am_ hc1
 clear hr1 hc1
 have H : (impl_fitsSums.l0 k l0 a2 l1 (l1.length : Int) 0) = some r := h
 clear h
 have H' := am_ H
 clear H
 go_enter Try.func199, Try.ntmps199
 go_wp2
 go_loopg [12] k (fun kq v12 w' => ∃ (x12_1 : Int), v12 = .int .i64 x12_1 ∧ Aside0 (impl_fitsSums.l0 kq l0 a2 l1 (l1.length : Int) x12_1 = some r) ∧ Aside0 (kq ≤ k) ∧ Drawn0 w w')
 case atStart => exact ⟨(0), tc7_, H', ⟨Nat.le_refl _⟩, by repeat (first | exact Drawn0.refl _ | apply Drawn0.step)⟩
 case round =>
  clear H'
  try clear c1
  try clear p2
  obtain ⟨x12_1, rfl, HA, HK1, ⟨m1, rfl⟩⟩ := hrel
  cases gk with
  | zero => exact absurd HA.out (by simp [impl_fitsSums.l0])
  | succ k1 =>
   have H := HA.out
   clear HA
   simp only [impl_fitsSums.l0] at H
   by_cases c4 : x12_1 < (l1.length : Int)
   ·rw [if_pos c4] at H
    have c4b0 : decide (x12_1 < (l1.length : Int)) = true := decide_eq_true c4
    clear c4
    by_cases c5 : 0 ≤ x12_1
    ·rw [if_pos c5] at H
     have c5b0 : decide (0 ≤ x12_1) = true := decide_eq_true c5
     clear c5
     by_cases c6 : x12_1 < (l1.length : Int)
     ·rw [if_pos c6] at H
      have c6b0 : decide (x12_1 < (l1.length : Int)) = true := decide_eq_true c6
      clear c6
      by_cases c7 : x12_1 < (l0.length : Int)
      ·rw [if_pos c7] at H
       have c7b0 : decide (x12_1 < (l0.length : Int)) = true := decide_eq_true c7
       clear c7
       replace H := Option.bind_eq_some_iff.mp H
       obtain ⟨t103, A80, H⟩ := H
       replace H : (if t103 = true then (if a2 = true then (if (wrap64 ((rd l0 x12_1) + (rd l1 x12_1))) = 1 then (impl_fitsSums.l0 k1 l0 a2 l1 (l1.length : Int) (wrap64 (x12_1 + 1))) else (some false)) else (impl_fitsSums.l0 k1 l0 a2 l1 (l1.length : Int) (wrap64 (x12_1 + 1)))) else (some false)) = some r := H
       have A8 := am_ A80
       clear A80
       by_cases c9 : t103 = true
       ·subst c9
        have H1 : (if a2 = true then (if (wrap64 ((rd l0 x12_1) + (rd l1 x12_1))) = 1 then (impl_fitsSums.l0 k1 l0 a2 l1 (l1.length : Int) (wrap64 (x12_1 + 1))) else (some false)) else (impl_fitsSums.l0 k1 l0 a2 l1 (l1.length : Int) (wrap64 (x12_1 + 1)))) = some r := by rw [if_pos rfl] at H; exact H
        clear H
        have H := H1
        clear H1
        by_cases c10 : a2 = true
        ·subst c10
         have H1 : (if (wrap64 ((rd l0 x12_1) + (rd l1 x12_1))) = 1 then (impl_fitsSums.l0 k1 l0 true l1 (l1.length : Int) (wrap64 (x12_1 + 1))) else (some false)) = some r := by rw [if_pos rfl] at H; exact H
         clear H
         have H := H1
         clear H1
         by_cases c11 : (wrap64 ((rd l0 x12_1) + (rd l1 x12_1))) = 1
         ·rw [if_pos c11] at H
          have c11b0 : ((wrap64 ((rd l0 x12_1) + (rd l1 x12_1))) == 1) = true := beq_iff_eq.mpr c11
          have c11b1 : ((wrap64 ((rd l0 x12_1) + (rd l1 x12_1))) != 1) = false := bne_eq_false_iff_eq.mpr c11
          clear c11
          have H' := am_ H
          clear H
          have p101 : 0 ≤ (x12_1 : Int) := of_decide_eq_true tc3_
          have q101 : x12_1 < (l1.length : Int) := of_decide_eq_true tc3_
          obtain ⟨ad101, e101, hx101_0⟩ := Kd.at_int HR1.out x12_1 p101 q101
          cases e101
          replace p101 := eq_true p101
          replace q101 := eq_true q101
          have p102 : 0 ≤ (x12_1 : Int) := of_decide_eq_true tc3_
          have q102 : x12_1 < (l0.length : Int) := of_decide_eq_true tc3_
          obtain ⟨ad102, e102, hx102_0⟩ := Kd.at_int HR0.out x12_1 p102 q102
          cases e102
          replace p102 := eq_true p102
          replace q102 := eq_true q102
          go_wp2_with (first | ((with_reducible refine gate_callee (f := 107) rfl ?_); refine goesL_ (some 24) rfl rfl Try.func107 (by kernel_rfl) rfl #[.int .i64 (wrap64 ((rd l0 x12_1) + (rd l1 x12_1))), .int .i64 0, .int .i64 1] rfl tc1_ ?_; (with_reducible refine (impl_within.calls (wrap64 ((rd l0 x12_1) + (rd l1 x12_1))) 0 1 true _ A8.out).mono ?_); rintro e w' ⟨rfl, ⟨nd, rfl⟩⟩; refine ⟨_, rfl, ?_⟩))
          go_roundg k1
          case measure => have := HK1.out; omega
          case rel => exact ⟨(wrap64 (x12_1 + 1)), tc7_, H', ⟨by have := HK1.out; omega⟩, by repeat (first | exact Drawn0.refl _ | apply Drawn0.step)⟩
         ·rw [if_neg c11] at H
          have c11b0 : ((wrap64 ((rd l0 x12_1) + (rd l1 x12_1))) == 1) = false := beq_eq_false_iff_ne.mpr c11
          have c11b1 : ((wrap64 ((rd l0 x12_1) + (rd l1 x12_1))) != 1) = true := bne_iff_ne.mpr c11
          obtain rfl := Option.some.inj H
          have p101 : 0 ≤ (x12_1 : Int) := of_decide_eq_true tc3_
          have q101 : x12_1 < (l1.length : Int) := of_decide_eq_true tc3_
          obtain ⟨ad101, e101, hx101_0⟩ := Kd.at_int HR1.out x12_1 p101 q101
          cases e101
          replace p101 := eq_true p101
          replace q101 := eq_true q101
          have p102 : 0 ≤ (x12_1 : Int) := of_decide_eq_true tc3_
          have q102 : x12_1 < (l0.length : Int) := of_decide_eq_true tc3_
          obtain ⟨ad102, e102, hx102_0⟩ := Kd.at_int HR0.out x12_1 p102 q102
          cases e102
          replace p102 := eq_true p102
          replace q102 := eq_true q102
          go_wp2_with (first | ((with_reducible refine gate_callee (f := 107) rfl ?_); refine goesL_ (some 24) rfl rfl Try.func107 (by kernel_rfl) rfl #[.int .i64 (wrap64 ((rd l0 x12_1) + (rd l1 x12_1))), .int .i64 0, .int .i64 1] rfl tc1_ ?_; (with_reducible refine (impl_within.calls (wrap64 ((rd l0 x12_1) + (rd l1 x12_1))) 0 1 true _ A8.out).mono ?_); rintro e w' ⟨rfl, ⟨nd, rfl⟩⟩; refine ⟨_, rfl, ?_⟩))
          go_ret
          exact ⟨by first | rfl | (simp; done) | (simp [*]; done), by repeat (first | exact Drawn0.refl _ | apply Drawn0.step)⟩
        ·replace c10 := Bool.eq_false_iff.mpr c10
         subst c10
         have H1 : (impl_fitsSums.l0 k1 l0 false l1 (l1.length : Int) (wrap64 (x12_1 + 1))) = some r := by rw [if_neg (show ¬ (false = true) by decide)] at H; exact H
         clear H
         have H := H1
         clear H1
         have H' := am_ H
         clear H
         have p101 : 0 ≤ (x12_1 : Int) := of_decide_eq_true tc3_
         have q101 : x12_1 < (l1.length : Int) := of_decide_eq_true tc3_
         obtain ⟨ad101, e101, hx101_0⟩ := Kd.at_int HR1.out x12_1 p101 q101
         cases e101
         replace p101 := eq_true p101
         replace q101 := eq_true q101
         have p102 : 0 ≤ (x12_1 : Int) := of_decide_eq_true tc3_
         have q102 : x12_1 < (l0.length : Int) := of_decide_eq_true tc3_
         obtain ⟨ad102, e102, hx102_0⟩ := Kd.at_int HR0.out x12_1 p102 q102
         cases e102
         replace p102 := eq_true p102
         replace q102 := eq_true q102
         go_wp2_with (first | ((with_reducible refine gate_callee (f := 107) rfl ?_); refine goesL_ (some 24) rfl rfl Try.func107 (by kernel_rfl) rfl #[.int .i64 (wrap64 ((rd l0 x12_1) + (rd l1 x12_1))), .int .i64 0, .int .i64 1] rfl tc1_ ?_; (with_reducible refine (impl_within.calls (wrap64 ((rd l0 x12_1) + (rd l1 x12_1))) 0 1 true _ A8.out).mono ?_); rintro e w' ⟨rfl, ⟨nd, rfl⟩⟩; refine ⟨_, rfl, ?_⟩))
         go_roundg k1
         case measure => have := HK1.out; omega
         case rel => exact ⟨(wrap64 (x12_1 + 1)), tc7_, H', ⟨by have := HK1.out; omega⟩, by repeat (first | exact Drawn0.refl _ | apply Drawn0.step)⟩
       ·replace c9 := Bool.eq_false_iff.mpr c9
        subst c9
        have H1 : (some false) = some r := by rw [if_neg (show ¬ (false = true) by decide)] at H; exact H
        clear H
        have H := H1
        clear H1
        obtain rfl := Option.some.inj H
        have p101 : 0 ≤ (x12_1 : Int) := of_decide_eq_true tc3_
        have q101 : x12_1 < (l1.length : Int) := of_decide_eq_true tc3_
        obtain ⟨ad101, e101, hx101_0⟩ := Kd.at_int HR1.out x12_1 p101 q101
        cases e101
        replace p101 := eq_true p101
        replace q101 := eq_true q101
        have p102 : 0 ≤ (x12_1 : Int) := of_decide_eq_true tc3_
        have q102 : x12_1 < (l0.length : Int) := of_decide_eq_true tc3_
        obtain ⟨ad102, e102, hx102_0⟩ := Kd.at_int HR0.out x12_1 p102 q102
        cases e102
        replace p102 := eq_true p102
        replace q102 := eq_true q102
        go_wp2_with (first | ((with_reducible refine gate_callee (f := 107) rfl ?_); refine goesL_ (some 24) rfl rfl Try.func107 (by kernel_rfl) rfl #[.int .i64 (wrap64 ((rd l0 x12_1) + (rd l1 x12_1))), .int .i64 0, .int .i64 1] rfl tc1_ ?_; (with_reducible refine (impl_within.calls (wrap64 ((rd l0 x12_1) + (rd l1 x12_1))) 0 1 false _ A8.out).mono ?_); rintro e w' ⟨rfl, ⟨nd, rfl⟩⟩; refine ⟨_, rfl, ?_⟩))
        go_ret
        exact ⟨by first | rfl | (simp; done) | (simp [*]; done), by repeat (first | exact Drawn0.refl _ | apply Drawn0.step)⟩
      ·rw [if_neg c7] at H
       exact absurd H (by simp)
     ·rw [if_neg c6] at H
      exact absurd H (by simp)
    ·rw [if_neg c5] at H
     exact absurd H (by simp)
   ·rw [if_neg c4] at H
    have c4b0 : decide (x12_1 < (l1.length : Int)) = false := decide_eq_false c4
    clear c4
    obtain rfl := Option.some.inj H
    go_wp2
    go_ret
    exact ⟨by first | rfl | (simp; done) | (simp [*]; done), by repeat (first | exact Drawn0.refl _ | apply Drawn0.step)⟩

/-! ### impl_eachSigns_1: function 198 (by hand) -/
structure impl_eachSigns_1.Fr (n : Int) (ge : Nat) (be : Array Value) (Ar : Option Addr) (cr : Nat) (rows : List (List Int)) (B1 B2 B3 B4 B5 T2 T5 gs : Nat) (S : Nat → Prop) (w : World) (sums : List Int) : Prop where
  b1 : w.heap[B1]? = some (.cells #[.int .i64 n] 3 (0, 0))
  b2 : w.heap[B2]? = some (.cells #[.func (.func ge) #[] be] T2 (0, 0))
  b3 : w.heap[B3]? = some (.cells #[.slice Ar rows.length cr] 24 (0, 0))
  b4 : w.heap[B4]? = some (.cells #[.slice (some ⟨gs, 0, none⟩) sums.length sums.length] 35 (0, 0))
  b5 : w.heap[B5]? = some (.cells #[.func (.func 198) #[] #[.pointer (some ⟨B1, 0, none⟩), .pointer (some ⟨B2, 0, none⟩), .pointer (some ⟨B3, 0, none⟩), .pointer (some ⟨B4, 0, none⟩), .pointer (some ⟨B5, 0, none⟩)]] T5 (0, 0))
  bs : w.heap[gs]? = some (.cells (nums .i64 sums).toArray 3 (0, 0))
  vr : Kd.V (Kd.slice 3 (Kd.int .i64)) 35 w 0 (fun k => ¬ S k ∧ k ≠ gs) (.slice Ar rows.length cr) rows
  s1 : ¬ S B1
  s2 : ¬ S B2
  s3 : ¬ S B3
  s4 : ¬ S B4
  s5 : ¬ S B5
  ss : ¬ S gs
  n1 : B1 ≠ gs
  t2 : T2 ≠ 3
  t5 : T5 ≠ 3
  sz : sums.length ≤ 9223372036854775807
section
variable {n : Int} {ge : Nat} {be : Array Value} {Ar : Option Addr} {cr : Nat} {rows : List (List Int)} {B1 B2 B3 B4 B5 T2 T5 gs : Nat} {S S' : Nat → Prop} {w w1 : World} {sums : List Int}
theorem impl_eachSigns_1.Fr.below (h : impl_eachSigns_1.Fr n ge be Ar cr rows B1 B2 B3 B4 B5 T2 T5 gs S w sums) (hb : Below w.heap.size w w1) : impl_eachSigns_1.Fr n ge be Ar cr rows B1 B2 B3 B4 B5 T2 T5 gs S w1 sums :=
  { h with b1 := blk_below h.b1 hb, b2 := blk_below h.b2 hb, b3 := blk_below h.b3 hb, b4 := blk_below h.b4 hb, b5 := blk_below h.b5 hb, bs := blk_below h.bs hb, vr := Kd.V_below h.vr hb }
theorem impl_eachSigns_1.Fr.kept (h : impl_eachSigns_1.Fr n ge be Ar cr rows B1 B2 B3 B4 B5 T2 T5 gs S w sums) (hk : Kp w w1 S) (hs : ∀ k, S' k → S k ∨ w.heap.size ≤ k) : impl_eachSigns_1.Fr n ge be Ar cr rows B1 B2 B3 B4 B5 T2 T5 gs S' w1 sums := by
  have no : ∀ k, ¬ S k → k < w.heap.size → ¬ S' k := fun k h1 h2 h3 => (hs k h3).elim h1 (fun h4 => by omega)
  exact ⟨blk_kept h.b1 hk.1 h.s1, blk_kept h.b2 hk.1 h.s2, blk_kept h.b3 hk.1 h.s3, blk_kept h.b4 hk.1 h.s4, blk_kept h.b5 hk.1 h.s5, blk_kept h.bs hk.1 h.ss, V_kept_to h.vr hk hs,
    no _ h.s1 (blk_lt h.b1), no _ h.s2 (blk_lt h.b2), no _ h.s3 (blk_lt h.b3), no _ h.s4 (blk_lt h.b4), no _ h.s5 (blk_lt h.b5), no _ h.ss (blk_lt h.bs), h.n1, h.t2, h.t5, h.sz⟩
theorem impl_eachSigns_1.Fr.store (h : impl_eachSigns_1.Fr n ge be Ar cr rows B1 B2 B3 B4 B5 T2 T5 gs S w sums) (i : Nat) (v : Int) : impl_eachSigns_1.Fr n ge be Ar cr rows B1 B2 B3 B4 B5 T2 T5 gs S (w.setCell ⟨gs, i, none⟩ (.int .i64 v)) (sums.set i v) :=
  { h with b1 := blk_far h.b1 h.n1 _, b2 := blk_far h.b2 (blk_ne h.b2 h.bs h.t2) _, b3 := blk_far h.b3 (blk_ne h.b3 h.bs (by decide)) _, b4 := by rw [List.length_set]; exact blk_far h.b4 (blk_ne h.b4 h.bs (by decide)) _,
           b5 := blk_far h.b5 (blk_ne h.b5 h.bs h.t5) _, bs := by have := blk_set h.bs i (.int .i64 v); rwa [nums_set] at this, vr := Kd.V_far h.vr (fun _ hk => hk.2) _, sz := by rw [List.length_set]; exact h.sz }
end
def impl_eachSigns_1.okRow (sums row : List Int) : Bool := decide (sums.length = row.length) && sums.all (fun s => decide (0 ≤ s) && decide (s ≤ 1)) && row.all (fun s => decide (-1 ≤ s) && decide (s ≤ 1))
mutual
def impl_eachSigns_1.l0 {σ : Type} : Nat → (σ → List (List Int) → Option (σ × Bool)) → Int → List (List Int) → List Int → List (List Int) → σ → Int → Option (σ × Bool)
  | 0, _, _, _, _, _, _, _ => none
  | k + 1, p, n, rows, sums, m, s, i => if i < (rows.length : Int) then (if 0 ≤ i then ((impl_fitsSums.f k sums (rows.getD i.toNat []) ((m.length : Int) == n - 1)).bind fun t =>
      (if t = true then (if impl_eachSigns_1.okRow sums (rows.getD i.toNat []) = true then ((impl_eachSigns_1.f k p n rows (List.zipWith (· + ·) sums (rows.getD i.toNat [])) (m ++ [rows.getD i.toNat []]) s).bind fun q => (if q.2 = true then impl_eachSigns_1.l0 k p n rows sums m q.1 (i + 1) else some (q.1, false))) else none)
      else impl_eachSigns_1.l0 k p n rows sums m s (i + 1))) else none) else some (s, true)
def impl_eachSigns_1.f {σ : Type} : Nat → (σ → List (List Int) → Option (σ × Bool)) → Int → List (List Int) → List Int → List (List Int) → σ → Option (σ × Bool)
  | 0, _, _, _, _, _, _ => none
  | k + 1, p, n, rows, sums, m, s => if (m.length : Int) = n then p s m else (if m.length < 1000 then impl_eachSigns_1.l0 k p n rows sums m s 0 else none)
end
theorem impl_eachSigns_1.zip_len {sums row : List Int} (h : impl_eachSigns_1.okRow sums row = true) : sums.length = row.length ∧ (List.zipWith (· + ·) sums row).length = row.length := by
  simp only [impl_eachSigns_1.okRow, Bool.and_eq_true, decide_eq_true_eq] at h
  exact ⟨h.1.1, by rw [List.length_zipWith, h.1.1, Nat.min_self]⟩
theorem impl_eachSigns_1.ok_at {sums row : List Int} (h : impl_eachSigns_1.okRow sums row = true) (j : Nat) (hj : j < row.length) : 0 ≤ sums.getD j 0 ∧ sums.getD j 0 ≤ 1 ∧ -1 ≤ row.getD j 0 ∧ row.getD j 0 ≤ 1 ∧ (List.zipWith (· + ·) sums row).getD j 0 = sums.getD j 0 + row.getD j 0 := by
  have hl := (impl_eachSigns_1.zip_len h).1
  simp only [impl_eachSigns_1.okRow, Bool.and_eq_true, List.all_eq_true, decide_eq_true_eq] at h
  have h1 := h.1.2 (sums.getD j 0) (by rw [List.getD_eq_getElem?_getD, List.getElem?_eq_getElem (by omega)]; exact List.getElem_mem _)
  have h2 := h.2 (row.getD j 0) (by rw [List.getD_eq_getElem?_getD, List.getElem?_eq_getElem hj]; exact List.getElem_mem _)
  refine ⟨h1.1, h1.2, h2.1, h2.2, ?_⟩
  simp [List.getD_eq_getElem?_getD, List.getElem?_zipWith, List.getElem?_eq_getElem hj, List.getElem?_eq_getElem (show j < sums.length by omega)]
/-- The first j numbers of one row, the others of the other one. -/
def impl_eachSigns_1.mid (a b : List Int) (j : Nat) : List Int := a.take j ++ b.drop j
theorem impl_eachSigns_1.mid_len {a b : List Int} (h : a.length = b.length) (j : Nat) : (impl_eachSigns_1.mid a b j).length = b.length := by
  simp [impl_eachSigns_1.mid]; omega
theorem impl_eachSigns_1.mid_at {a b : List Int} (h : a.length = b.length) (j : Nat) (hj : j < b.length) : (impl_eachSigns_1.mid a b j).getD j 0 = b.getD j 0 := by
  simp only [impl_eachSigns_1.mid, List.getD_eq_getElem?_getD]
  rw [List.getElem?_append_right (by simp; omega)]
  simp only [List.length_take, List.getElem?_drop]
  rw [show j + (j - min j a.length) = j by omega]
theorem impl_eachSigns_1.mid_set {a b : List Int} (h : a.length = b.length) (j : Nat) (hj : j < b.length) : (impl_eachSigns_1.mid a b j).set j (a.getD j 0) = impl_eachSigns_1.mid a b (j + 1) := by
  refine List.ext_getElem (by rw [List.length_set, impl_eachSigns_1.mid_len h, impl_eachSigns_1.mid_len h]) fun i h1 h2 => ?_
  rw [List.length_set, impl_eachSigns_1.mid_len h] at h1
  simp only [impl_eachSigns_1.mid, List.getElem_set, List.getElem_append, List.length_take, List.getElem_take, List.getElem_drop]
  by_cases e : j = i
  · subst e
    rw [if_pos rfl, dif_pos (by omega), List.getD_eq_getElem?_getD, List.getElem?_eq_getElem (by omega)]; rfl
  · rw [if_neg e]
    by_cases e2 : i < j
    · rw [dif_pos (by omega), dif_pos (by omega)]
    · rw [dif_neg (by omega), dif_neg (by omega)]
      congr 1
      omega
theorem impl_eachSigns_1.mid_zero {a b : List Int} : impl_eachSigns_1.mid a b 0 = b := by simp [impl_eachSigns_1.mid]
theorem impl_eachSigns_1.mid_all {a b : List Int} {j : Nat} (h : a.length = b.length) (hj : j = b.length) : impl_eachSigns_1.mid a b j = a := by
  subst hj
  simp only [impl_eachSigns_1.mid]
  rw [← h]
  simp
  omega
set_option maxHeartbeats 4000000 in
set_option maxRecDepth 100000 in
theorem impl_eachSigns_1.calls {σ : Type} (p : σ → List (List Int) → Option (σ × Bool)) (Inv : σ → World → (Nat → Prop) → Prop) (n : Int) (hn0 : 0 ≤ n) (hn1 : n ≤ 1000) (ge : Nat) (be : Array Value) (hf : FnS (Kd.slice 35 (Kd.slice 3 (Kd.int .i64))) Value.bool Try.prog ge be p Inv) (Ar : Option Addr) (cr : Nat) (rows : List (List Int)) (B1 B2 B3 B4 B5 T2 T5 gs : Nat) (k : Nat) :
    ∀ (sums : List Int) (m : List (List Int)) (A0 : Option Addr) (c0 : Nat) (s s' : σ) (b : Bool) (S : Nat → Prop) (w : World)
    (hF : impl_eachSigns_1.Fr n ge be Ar cr rows B1 B2 B3 B4 B5 T2 T5 gs S w sums) (hI : Inv s w S) (hm : Kd.V (Kd.slice 3 (Kd.int .i64)) 35 w 0 (fun k => ¬ S k ∧ k ≠ gs) (.slice A0 m.length c0) m) (h : impl_eachSigns_1.f k p n rows sums m s = some (s', b)),
    Calls Try.prog 198 (#[.slice A0 m.length c0] ++ #[.pointer (some ⟨B1, 0, none⟩), .pointer (some ⟨B2, 0, none⟩), .pointer (some ⟨B3, 0, none⟩), .pointer (some ⟨B4, 0, none⟩), .pointer (some ⟨B5, 0, none⟩)]) w fun e w' => e = .returned (.bool b) ∧ ∃ S', Inv s' w' S' ∧ Kp w w' S ∧ ∀ k, S' k → S k ∨ w.heap.size ≤ k := by
  have HFS := am_ hf
  have eg := hf.eg
  clear hf
  induction k using Nat.strongRecOn with
  | _ k ih =>
  intro sums m A0 c0 s s' b S w hF hI hm h
  cases k with
  | zero => exact absurd h (by simp [impl_eachSigns_1.f])
  | succ k =>
  simp only [impl_eachSigns_1.f] at h
  have HF := am_ hF
  have HI := am_ hI
  have HM := am_ hm
  have hz0 : m.length ≤ 9223372036854775807 := (Kd.V_reads' hm).2.2.2.1
  have hz1 : m.length ≤ c0 := (Kd.V_reads' hm).2.1
  clear hF hI hm
  have hc1 : w.cell? ⟨B1, 0, none⟩ = some (.int .i64 n) := (blk_cell HF.out.b1 0).trans rfl
  by_cases c1 : (m.length : Int) = n
  · rw [if_pos c1] at h
    have c1b : ((m.length : Int) == n) = true := beq_iff_eq.mpr c1
    clear c1
    have HP := am_ h
    clear h
    have hc2 : w.cell? ⟨B2, 0, none⟩ = some (.func (.func ge) #[] be) := (blk_cell HF.out.b2 0).trans rfl
    go_enter Try.func198, Try.ntmps198
    go_wp2_with (go_at_fn ge; (refine (HFS.out.cl s w S HI.out m _ (K_slice (Kd.V_reads' HM.out).2.1 (Kd.V_reads' HM.out).2.2) s' b HP.out).mono ?_); rintro e w2 ⟨rfl, q2⟩; have HQ := am_ q2; clear q2)
    go_ret
    exact ⟨rfl, HQ.out⟩
  · rw [if_neg c1] at h
    have c1b : ((m.length : Int) == n) = false := beq_eq_false_iff_ne.mpr c1
    clear c1
    by_cases c2 : m.length < 1000
    · rw [if_pos c2] at h
      have LM := am_ c2
      have HL := am_ h
      clear h c2
      have hc3 : w.cell? ⟨B3, 0, none⟩ = some (.slice Ar rows.length cr) := (blk_cell HF.out.b3 0).trans rfl
      go_enter Try.func198, Try.ntmps198
      go_wp2
      go_loopg [24] k (fun kq v24 w' => ∃ (i : Int) (s1 : σ) (S1 : Nat → Prop), v24 = .int .i64 i ∧ Aside0 (impl_eachSigns_1.l0 kq p n rows sums m s1 i = some (s', b)) ∧ Aside0 (kq ≤ k) ∧ Aside0 (impl_eachSigns_1.Fr n ge be Ar cr rows B1 B2 B3 B4 B5 T2 T5 gs S1 w' sums) ∧ Aside0 (Inv s1 w' S1) ∧ Aside0 (Kd.V (Kd.slice 3 (Kd.int .i64)) 35 w' 0 (fun k => ¬ S1 k ∧ k ≠ gs) (.slice A0 m.length c0) m) ∧ Aside0 (Kp w w' S) ∧ Aside0 (∀ k, S1 k → S k ∨ w.heap.size ≤ k))
      case atStart => exact ⟨0, s, S, rfl, HL, ⟨Nat.le_refl _⟩, HF, HI, HM, ⟨Kp.refl _ _⟩, ⟨fun _ h => .inl h⟩⟩
      case round =>
        clear HL HF HI HM hc1 hc3
        obtain ⟨wo, rfl⟩ : ∃ wo : World, wo = wr := ⟨_, rfl⟩
        obtain ⟨i, s1, S1, rfl, HL, HK, HF, HI, HVm, HKp, HS⟩ := hrel
        cases gk with
        | zero => exact absurd HL.out (by simp [impl_eachSigns_1.l0])
        | succ k1 =>
          have H := HL.out
          clear HL
          simp only [impl_eachSigns_1.l0] at H
          by_cases c3 : i < (rows.length : Int)
          · rw [if_pos c3] at H
            by_cases c4 : 0 ≤ i
            · rw [if_pos c4] at H
              obtain ⟨t, hT, H⟩ := Option.bind_eq_some_iff.mp H
              obtain ⟨ad, Aw, cw, eA, hxw, hVw⟩ := V_row (b' := 0) HF.out.vr i c4 c3
              obtain ⟨row, hrow⟩ : ∃ row : List Int, rows.getD i.toNat [] = row := ⟨_, rfl⟩
              rw [hrow] at hT H hxw hVw
              clear hrow
              subst eA
              have HVw := am_ hVw
              have HT := am_ hT
              have hz4 : rows.length ≤ 9223372036854775807 := (Kd.V_reads' HF.out.vr).2.2.2.1
              have hz3 : row.length ≤ 9223372036854775807 := (Kd.V_reads' hVw).2.2.2.1
              clear hVw hT
              have hb1 : wo.cell? ⟨B1, 0, none⟩ = some (.int .i64 n) := (blk_cell HF.out.b1 0).trans rfl
              have hb4 : wo.cell? ⟨B4, 0, none⟩ = some (.slice (some ⟨gs, 0, none⟩) sums.length sums.length) := (blk_cell HF.out.b4 0).trans rfl
              have hd3 : decide (i < (rows.length : Int)) = true := decide_eq_true c3
              have hd4 : decide (0 ≤ i) = true := decide_eq_true c4
              have HSZ := am_ (show sums.length ≤ 9223372036854775807 from HF.out.sz)
              cases t with
              | false =>
                rw [if_neg (by simp)] at H
                have HL4 := am_ H
                clear H
                go_wp2_with (go_at_call 199; (refine (impl_fitsSums.calls k1 _ _ sums _ _ row ((m.length : Int) == n - 1) false _ (C_nums HF.out.bs HSZ.out) (Nat.le_refl _) (Kd.V_reads' HVw.out).2.2 (Kd.V_reads' HVw.out).2.1 HT.out).mono ?_); rintro e w' ⟨rfl, ⟨nd, rfl⟩⟩)
                go_roundg k1
                case measure => have := HK.out; omega
                case rel => exact ⟨i + 1, s1, S1, by go_num, HL4, ⟨by have := HK.out; omega⟩, ⟨HF.out.below (pw_below_drewN (Below.refl _ _) _)⟩, ⟨HFS.out.st _ _ _ _ HI.out ((pw_below_drewN (Below.refl wo.heap.size wo) _).mono (Nat.zero_le _)) (fun _ _ => rfl)⟩, ⟨Kd.V_drewN HVm.out _⟩, ⟨HKp.out.drewN _⟩, HS⟩
              | true =>
                rw [if_pos rfl] at H
                by_cases c5 : impl_eachSigns_1.okRow sums row = true
                · rw [if_pos c5] at H
                  obtain ⟨q, hq, H⟩ := Option.bind_eq_some_iff.mp H
                  have HO := am_ c5
                  obtain ⟨sums2, he2⟩ : ∃ x : List Int, List.zipWith (· + ·) sums row = x := ⟨_, rfl⟩
                  rw [he2] at hq
                  have HZ := am_ (impl_eachSigns_1.zip_len c5)
                  rw [he2] at HZ
                  have HE2 := am_ he2
                  have HQ := am_ hq
                  clear c5 he2 hq
                  go_wp2_with (go_at_call 199; (refine (impl_fitsSums.calls k1 _ _ sums _ _ row ((m.length : Int) == n - 1) true _ (C_nums HF.out.bs HSZ.out) (Nat.le_refl _) (Kd.V_reads' HVw.out).2.2 (Kd.V_reads' HVw.out).2.1 HT.out).mono ?_); rintro e w' ⟨rfl, ⟨nd, rfl⟩⟩)
                  replace HF := am_ (HF.out.below (pw_below_drewN (Below.refl _ _) nd))
                  replace HI := am_ (HFS.out.st _ _ _ (wo.drewN nd) HI.out ((pw_below_drewN (Below.refl wo.heap.size wo) nd).mono (Nat.zero_le _)) (fun _ _ => rfl))
                  replace HVm := am_ (Kd.V_drewN HVm.out nd)
                  replace HVw := am_ (Kd.V_drewN HVw.out nd)
                  replace HKp := am_ (HKp.out.drewN nd)
                  clear hb1 hb4 hxw
                  generalize wo.drewN nd = wo2 at *
                  go_loopg [39] row.length (fun gj v39 w' => ∃ j : Nat, v39 = .int .i64 (j : Int) ∧ Aside0 (j + gj = row.length) ∧ Aside0 (impl_eachSigns_1.Fr n ge be (some ad) cr rows B1 B2 B3 B4 B5 T2 T5 gs S1 w' (impl_eachSigns_1.mid sums2 sums j)) ∧ Aside0 (Kd.V (Kd.slice 3 (Kd.int .i64)) 35 w' 0 (fun k => ¬ S1 k ∧ k ≠ gs) (.slice A0 m.length c0) m) ∧ Aside0 (Kd.V (Kd.int .i64) 3 w' 0 (fun k => ¬ S1 k ∧ k ≠ gs) (.slice Aw row.length cw) row) ∧ Aside0 (Kp wo2 w' (fun k => k = gs)))
                  case atStart => exact ⟨0, rfl, ⟨by omega⟩, ⟨by rw [impl_eachSigns_1.mid_zero]; exact HF.out⟩, HVm, HVw, ⟨Kp.refl _ _⟩⟩
                  case round =>
                    obtain ⟨w39, rfl⟩ : ∃ w_ : World, w_ = wr := ⟨_, rfl⟩
                    obtain ⟨j, rfl, HJ, HFj, HVmj, HVwj, HKj⟩ := hrel
                    have HLb := am_ (impl_eachSigns_1.mid_len (a := sums2) (b := sums) (HZ.out.2.trans HZ.out.1.symm) j)
                    by_cases hj : j < row.length
                    · obtain ⟨g1, rfl⟩ : ∃ g1, gk = g1 + 1 := ⟨gk - 1, by have := HJ.out; omega⟩
                      obtain ⟨adw, eAw, hcw⟩ := Kd.at_int (Kd.V_reads' HVwj.out).2.2 (j : Int) (by omega) (by omega)
                      subst eAw
                      obtain ⟨o1, o2, o3, o4, o5⟩ := impl_eachSigns_1.ok_at HO.out j hj
                      have hcs : w39.cell? ⟨gs, j, none⟩ = some (.int .i64 (sums.getD j 0)) := by
                        rw [blk_cell HFj.out.bs j]
                        have := impl_eachSigns_1.mid_at (a := sums2) (b := sums) (HZ.out.2.trans HZ.out.1.symm) j (by have := HZ.out; omega)
                        rw [← this]
                        have hlt : j < (impl_eachSigns_1.mid sums2 sums j).length := by have := HLb.out; have := HZ.out; omega
                        simp [nums, List.getElem?_eq_getElem hlt]
                      have hfs := blk_frozen HFj.out.bs j
                      have hb4 : w39.cell? ⟨B4, 0, none⟩ = some (.slice (some ⟨gs, 0, none⟩) row.length row.length) := by
                        rw [(blk_cell HFj.out.b4 0).trans rfl, HLb.out, HZ.out.1]; rfl
                      rw [show rd row (j : Int) = row.getD j 0 from rfl] at hcw
                      rw [Int.toNat_natCast] at hcw
                      have HST := am_ (impl_eachSigns_1.Fr.store HFj.out j (sums2.getD j 0))
                      have HMS := am_ (impl_eachSigns_1.mid_set (a := sums2) (b := sums) (HZ.out.2.trans HZ.out.1.symm) j (by have := HZ.out; omega))
                      have HVE := am_ (show sums2.getD j 0 = sums.getD j 0 + row.getD j 0 by rw [← HE2.out] at *; omega)
                      have hd1 : decide ((j : Int) < (row.length : Int)) = true := decide_eq_true (by omega)
                      have hd2 : decide (j < row.length) = true := decide_eq_true hj
                      rw [HE2.out] at o5
                      have o6 : -1 ≤ sums2.getD j 0 := by omega
                      have o7 : sums2.getD j 0 ≤ 2 := by omega
                      clear o5
                      generalize sums.getD j 0 = x at *
                      generalize row.getD j 0 = y at *
                      go_wp2
                      go_roundg g1
                      case measure => omega
                      case rel =>
                        refine ⟨j + 1, by go_num, ⟨by have := HJ.out; omega⟩, ⟨?_⟩, ⟨Kd.V_far HVmj.out (fun _ hk => hk.2) _⟩, ⟨Kd.V_far HVwj.out (fun _ hk => hk.2) _⟩, ⟨Kp.setCell HKj.out (.inl rfl) _⟩⟩
                        have := HST.out
                        rw [HMS.out] at this
                        rwa [HVE.out] at this
                    · have ej : j = row.length := by have := HJ.out; omega
                      subst ej
                      have hd1 : decide ((row.length : Int) < (row.length : Int)) = false := decide_eq_false (by omega)
                      have hd2 : decide (row.length < row.length) = false := decide_eq_false (by omega)
                      have HFe := am_ HFj.out
                      rw [impl_eachSigns_1.mid_all (HZ.out.2.trans HZ.out.1.symm) (HZ.out.1.symm)] at HFe
                      clear HFj HJ HLb hj
                      have HF3 := am_ (HFe.out.below (below_drew (Below.refl _ _)))
                      have HVm := am_ (Kd.V_drew HVmj.out)
                      have HVw := am_ (Kd.V_drew HVwj.out)
                      have HKp3 := am_ (HKj.out.drew)
                      have HI3 := am_ (HFS.out.st _ _ _ _ HI.out HKp3.out.2 (fun k hk => HKp3.out.at k (HFS.out.bd _ _ _ HI.out k hk) (fun e => HF.out.ss (e ▸ hk))))
                      have HC5 := am_ ((blk_cell HF3.out.b5 0).trans rfl : w39.drew.cell? ⟨B5, 0, none⟩ = some (.func (.func 198) #[] #[.pointer (some ⟨B1, 0, none⟩), .pointer (some ⟨B2, 0, none⟩), .pointer (some ⟨B3, 0, none⟩), .pointer (some ⟨B4, 0, none⟩), .pointer (some ⟨B5, 0, none⟩)]))
                      clear HVmj HVwj HKj HFe
                      go_wp2_with fail
                      refine start_ (n := 12) (S := fun w' => w'.cell? ⟨B5, 0, none⟩ = some (.func (.func 198) #[] #[.pointer (some ⟨B1, 0, none⟩), .pointer (some ⟨B2, 0, none⟩), .pointer (some ⟨B3, 0, none⟩), .pointer (some ⟨B4, 0, none⟩), .pointer (some ⟨B5, 0, none⟩)])) (ds := []) #[false, false, false, false, false, false, false, false, false, false, false, false] (by kernel_rfl) rfl rfl (HC5.out) (fun hHeld => ?_)
                      generalize hW_ : w39.drew = W at HF3 HVm HVw HI3 HKp3 HC5 hHeld ⊢
                      clear hW_
                      refine pure_ (i := 1) (N := some 53) (v := ?_) (a' := ?_) #[false, true, false, false, false, false, false, false, false, false, false, false] rfl rfl (by kernel_rfl) (fun _ _ _ h => h) (Or.inl ⟨by rfl, ?_⟩) ?_ ?_
                      rotate_left
                      · intro w'
                        go_simp
                        with_reducible rfl
                      rotate_left
                      · simp only [Act.put, List.setIfInBounds_toArray, List.set_cons_zero, List.set_cons_succ, i64_w, i32_w]
                        rfl
                      refine pure_ (i := 2) (N := some 54) (v := ?_) (a' := ?_) #[false, true, true, false, false, false, false, false, false, false, false, false] rfl rfl (by kernel_rfl) (fun _ _ _ h => h) (Or.inl ⟨by rfl, ?_⟩) ?_ ?_
                      rotate_left
                      · intro w'
                        go_simp
                        with_reducible rfl
                      rotate_left
                      · simp only [Act.put, List.setIfInBounds_toArray, List.set_cons_zero, List.set_cons_succ, i64_w, i32_w]
                        rfl
                      refine pure_ (i := 3) (N := some 55) (v := ?_) (a' := ?_) #[false, true, true, true, false, false, false, false, false, false, false, false] rfl rfl (by kernel_rfl) (fun _ _ _ h => h) (Or.inl ⟨by rfl, ?_⟩) ?_ ?_
                      rotate_left
                      · intro w'
                        go_simp
                        with_reducible rfl
                      rotate_left
                      · simp only [Act.put, List.setIfInBounds_toArray, List.set_cons_zero, List.set_cons_succ, i64_w, i32_w]
                        rfl
                      refine pure_ (i := 4) (N := some 56) (v := ?_) (a' := ?_) #[false, true, true, true, true, false, false, false, false, false, false, false] rfl rfl (by kernel_rfl) (fun _ _ _ h => h) (Or.inl ⟨by rfl, ?_⟩) ?_ ?_
                      rotate_left
                      · intro w'
                        go_simp
                        with_reducible rfl
                      rotate_left
                      · simp only [Act.put, List.setIfInBounds_toArray, List.set_cons_zero, List.set_cons_succ, i64_w, i32_w]
                        rfl
                      refine pure_ (i := 5) (N := some 57) (v := ?_) (a' := ?_) #[false, true, true, true, true, true, false, false, false, false, false, false] rfl rfl (by kernel_rfl) (fun _ _ _ h => h) (Or.inl ⟨by rfl, ?_⟩) ?_ ?_
                      rotate_left
                      · intro w'
                        go_simp
                        with_reducible rfl
                      rotate_left
                      · simp only [Act.put, List.setIfInBounds_toArray, List.set_cons_zero, List.set_cons_succ, i64_w, i32_w]
                        rfl
                      refine pure_ (i := 6) (N := some 58) (v := ?_) (a' := ?_) #[false, true, true, true, true, true, true, false, false, false, false, false] rfl rfl (by kernel_rfl) (fun _ _ _ h => h) (Or.inl ⟨by rfl, ?_⟩) ?_ ?_
                      rotate_left
                      · intro w'
                        go_simp
                        with_reducible rfl
                      rotate_left
                      · simp only [Act.put, List.setIfInBounds_toArray, List.set_cons_zero, List.set_cons_succ, i64_w, i32_w]
                        rfl
                      refine pure_ (i := 7) (N := some 59) (v := ?_) (a' := ?_) #[false, true, true, true, true, true, true, true, false, false, false, false] rfl rfl (by kernel_rfl) (fun _ _ _ h => h) (Or.inl ⟨by rfl, ?_⟩) ?_ ?_
                      rotate_left
                      · intro w'
                        go_simp
                        with_reducible rfl
                      rotate_left
                      · simp only [Act.put, List.setIfInBounds_toArray, List.set_cons_zero, List.set_cons_succ, i64_w, i32_w]
                        rfl
                      refine take_ (i := 0) (N := some 52) (v := ?_) (a' := ?_) #[true, true, true, true, true, true, true, true, false, false, false, false] rfl rfl (by kernel_rfl) (fun _ _ _ h => h) (Or.inl ⟨by rfl, ?_⟩) hHeld ?_ ?_
                      rotate_left
                      · intro w' s0
                        go_simp
                        with_reducible rfl
                      rotate_left
                      · simp only [Act.put, List.setIfInBounds_toArray, List.set_cons_zero, List.set_cons_succ, i64_w, i32_w]
                        rfl
                      refine one_ (i := 8) (N := some 60) #[true, true, true, true, true, true, true, true, true, false, false, false] rfl rfl (by kernel_rfl) (by decide) (fun K hK => ?_)
                      refine value_ (w1 := ?_) (v := ?_) (by rfl) rfl ?_ ?_
                      rotate_left 2
                      · go_simp
                        constructor
                        · rfl
                        · rfl
                      refine hK.out _ _ (cell_of_below (below_alloc (Below.refl _ _) _) HC5.out) (fun hHeld => ?_)
                      clear hK K
                      refine norm_ (a' := ?_) ?_ ?_
                      rotate_left
                      · show Act.put _ (some 60) _ = _
                        simp only [Act.put, List.setIfInBounds_toArray, List.set_cons_zero, List.set_cons_succ, i64_w, i32_w]
                        rfl
                      refine one_ (i := 9) (N := some 61) #[true, true, true, true, true, true, true, true, true, true, false, false] rfl rfl (by kernel_rfl) (by decide) (fun K hK => ?_)
                      refine V_push_step (d := Kd.slice 3 (Kd.int .i64)) (e := 35) (ok := fun k => ¬ S1 k ∧ k ≠ gs) rfl (.tmp 58) (.tmp 60) 24 rfl (.slice none 0 0) 24 Try.underlying24 info35 rfl rfl (xs := m) (y := row) (ad := ⟨W.heap.size, 0, none⟩) rfl (Kd.F_alloc (Kd.V_F HVm.out) _) rfl (Kd.FK_below (Kd.FK_slice_mk (Kd.V_reads' HVw.out).2.1 (Kd.V_F HVw.out)) (below_alloc (Below.refl _ _) _)) ((blk_cell (blk_new W _) 0).trans rfl) (by have := LM.out; omega) (by have := LM.out; omega) ?_
                      intro v61 w9 hN9 hb9
                      have HB9 := am_ (below_step (below_alloc (Below.refl _ _) _) hb9)
                      have HN9 := am_ hN9
                      clear hN9 hb9
                      obtain ⟨A61, c61, e61⟩ := Kd.N_slice HN9.out
                      subst e61
                      refine hK.out _ _ (cell_of_below HB9.out HC5.out) (fun hHeld => ?_)
                      clear hK K
                      refine norm_ (a' := ?_) ?_ ?_
                      rotate_left
                      · show Act.put _ (some 61) _ = _
                        simp only [Act.put, List.setIfInBounds_toArray, List.set_cons_zero, List.set_cons_succ, i64_w, i32_w]
                        rfl
                      refine one_ (i := 10) (N := some 62) #[true, true, true, true, true, true, true, true, true, true, true, false] rfl rfl (by kernel_rfl) (by decide) (fun K hK => ?_)
                      refine goesF_ (enters_of Try.func198 (by kernel_rfl) rfl) #[.slice A61 (m ++ [row]).length c61] (by rfl) rfl rfl (by first | rfl | (simp [Act.eval]; done)) tc54_ ?_
                      refine (ih k1 (by have := HK.out; omega) (sums2) (m ++ [row]) A61 c61 s1 q.1 q.2 S1 w9 (HF3.out.below HB9.out) (HFS.out.st _ _ _ _ HI3.out (HB9.out.mono (Nat.zero_le _)) (fun k hk => HB9.out.block k (HFS.out.bd _ _ _ HI3.out k hk))) (Kd.V_mono (Kd.N_V HN9.out) (fun k hk => hk.elim (fun h => h) (fun h => ⟨fun hs => by have := HFS.out.bd _ _ _ HI3.out k hs; simp at h; omega, fun e => by have := blk_lt HF3.out.bs; simp at h; omega⟩))) HQ.out).mono ?_
                      rintro e w10 ⟨rfl, S2, hI10, hK10, hS10⟩
                      refine ⟨_, rfl, ?_⟩
                      have HI10 := am_ hI10
                      have HK10 := am_ hK10
                      have HS10 := am_ hS10
                      clear hI10 hK10 hS10
                      have HF10 := am_ ((HF3.out.below HB9.out).kept HK10.out HS10.out)
                      refine hK.out _ _ ((blk_cell HF10.out.b5 0).trans rfl) (fun hHeld => ?_)
                      clear hK K
                      refine norm_ (a' := ?_) ?_ ?_
                      rotate_left
                      · show Act.put _ (some 62) _ = _
                        simp only [Act.put, List.setIfInBounds_toArray, List.set_cons_zero, List.set_cons_succ, i64_w, i32_w]
                        rfl
                      refine pure_ (i := 11) (N := some 12) (v := ?_) (a' := ?_) #[true, true, true, true, true, true, true, true, true, true, true, true] rfl rfl (by kernel_rfl) (fun _ _ _ h => h) (Or.inl ⟨by rfl, ?_⟩) ?_ ?_
                      rotate_left
                      · intro w'
                        go_simp
                        with_reducible rfl
                      rotate_left
                      · simp only [Act.put, List.setIfInBounds_toArray, List.set_cons_zero, List.set_cons_succ, i64_w, i32_w]
                        rfl
                      refine done_ (by kernel_rfl) ?_
                      have HKr := am_ ((HKp3.out.mono (S' := fun k => S1 k ∨ k = gs) (fun k h => .inr h)).below HB9.out |>.then_ HK10.out (fun k h => .inl (.inl h)))
                      have HW9 := am_ (Nat.le_trans HKp3.out.sz (below_size HB9.out))
                      have HVm3 := am_ (V_kept_to (Kd.V_below HVm.out HB9.out) HK10.out HS10.out)
                      have HVw3 := am_ (V_kept_to (Kd.V_below HVw.out HB9.out) HK10.out HS10.out)
                      clear HVm HVw HKp3 HI3 HC5 HF3 HN9 HB9 HK10
                      go_wp2
                      go_loopg [65] row.length (fun gj v65 w' => ∃ j : Nat, v65 = .int .i64 (j : Int) ∧ Aside0 (j + gj = row.length) ∧ Aside0 (impl_eachSigns_1.Fr n ge be (some ad) cr rows B1 B2 B3 B4 B5 T2 T5 gs S2 w' (impl_eachSigns_1.mid sums sums2 j)) ∧ Aside0 (Kd.V (Kd.slice 3 (Kd.int .i64)) 35 w' 0 (fun k => ¬ S2 k ∧ k ≠ gs) (.slice A0 m.length c0) m) ∧ Aside0 (Kd.V (Kd.int .i64) 3 w' 0 (fun k => ¬ S2 k ∧ k ≠ gs) (.slice Aw row.length cw) row) ∧ Aside0 (Kp w10 w' (fun k => k = gs)))
                      case atStart => exact ⟨0, rfl, ⟨by omega⟩, ⟨by rw [impl_eachSigns_1.mid_zero]; exact HF10.out⟩, HVm3, HVw3, ⟨Kp.refl _ _⟩⟩
                      case round =>
                        obtain ⟨w65, rfl⟩ : ∃ w_ : World, w_ = wr := ⟨_, rfl⟩
                        obtain ⟨j, rfl, HJ, HFj, HVmj, HVwj, HKj⟩ := hrel
                        have HLb := am_ (impl_eachSigns_1.mid_len (a := sums) (b := sums2) (HZ.out.1.trans HZ.out.2.symm) j)
                        by_cases hj : j < row.length
                        · obtain ⟨g1, rfl⟩ : ∃ g1, gk = g1 + 1 := ⟨gk - 1, by have := HJ.out; omega⟩
                          obtain ⟨adw, eAw, hcw⟩ := Kd.at_int (Kd.V_reads' HVwj.out).2.2 (j : Int) (by omega) (by omega)
                          subst eAw
                          obtain ⟨o1, o2, o3, o4, o5⟩ := impl_eachSigns_1.ok_at HO.out j hj
                          have hcs : w65.cell? ⟨gs, j, none⟩ = some (.int .i64 (sums2.getD j 0)) := by
                            rw [blk_cell HFj.out.bs j]
                            have := impl_eachSigns_1.mid_at (a := sums) (b := sums2) (HZ.out.1.trans HZ.out.2.symm) j (by have := HZ.out; omega)
                            rw [← this]
                            have hlt : j < (impl_eachSigns_1.mid sums sums2 j).length := by have := HLb.out; have := HZ.out; omega
                            simp [nums, List.getElem?_eq_getElem hlt]
                          have hfs := blk_frozen HFj.out.bs j
                          have hb4 : w65.cell? ⟨B4, 0, none⟩ = some (.slice (some ⟨gs, 0, none⟩) row.length row.length) := by
                            rw [(blk_cell HFj.out.b4 0).trans rfl, HLb.out, HZ.out.2]; rfl
                          rw [show rd row (j : Int) = row.getD j 0 from rfl] at hcw
                          rw [Int.toNat_natCast] at hcw
                          have HST := am_ (impl_eachSigns_1.Fr.store HFj.out j (sums.getD j 0))
                          have HMS := am_ (impl_eachSigns_1.mid_set (a := sums) (b := sums2) (HZ.out.1.trans HZ.out.2.symm) j (by have := HZ.out; omega))
                          have HVE := am_ (show sums.getD j 0 = sums2.getD j 0 - row.getD j 0 by rw [← HE2.out] at *; omega)
                          have hd1 : decide ((j : Int) < (row.length : Int)) = true := decide_eq_true (by omega)
                          have hd2 : decide (j < row.length) = true := decide_eq_true hj
                          rw [HE2.out] at o5
                          have o6 : -1 ≤ sums2.getD j 0 := by omega
                          have o7 : sums2.getD j 0 ≤ 2 := by omega
                          clear o5
                          generalize sums2.getD j 0 = x at *
                          generalize row.getD j 0 = y at *
                          go_wp2
                          go_roundg g1
                          case measure => omega
                          case rel =>
                            refine ⟨j + 1, by go_num, ⟨by have := HJ.out; omega⟩, ⟨?_⟩, ⟨Kd.V_far HVmj.out (fun _ hk => hk.2) _⟩, ⟨Kd.V_far HVwj.out (fun _ hk => hk.2) _⟩, ⟨Kp.setCell HKj.out (.inl rfl) _⟩⟩
                            have := HST.out
                            rw [HMS.out] at this
                            rwa [HVE.out] at this
                        · have ej : j = row.length := by have := HJ.out; omega
                          subst ej
                          have hd1 : decide ((row.length : Int) < (row.length : Int)) = false := decide_eq_false (by omega)
                          have hd2 : decide (row.length < row.length) = false := decide_eq_false (by omega)
                          have HFe := am_ HFj.out
                          rw [impl_eachSigns_1.mid_all (HZ.out.1.trans HZ.out.2.symm) (HZ.out.2.symm)] at HFe
                          clear HFj HJ HLb hj
                          have HB3 := am_ (Kp.back ((HKr.out.then_ (S2 := fun k => k = gs) HKj.out (fun k h => .inl (.inr h)))) HF.out.bs HFe.out.bs)
                          have HKp4 := am_ (HKp.out.then_ HB3.out HS.out)
                          have HS4 := am_ (show ∀ k, S2 k → S k ∨ w.heap.size ≤ k from fun k h => (HS10.out k h).elim (fun h => HS.out k h) (fun h => .inr (Nat.le_trans HKp.out.sz (Nat.le_trans HW9.out h))))
                          have HI4 := am_ (HFS.out.st _ _ _ _ HI10.out HKj.out.2 (fun k hk => HKj.out.at k (HFS.out.bd _ _ _ HI10.out k hk) (fun e => HF10.out.ss (e ▸ hk))))
                          by_cases cq : q.2 = true
                          · rw [if_pos cq] at H
                            have HL4 := am_ H
                            clear H
                            rw [cq]
                            go_wp2
                            go_roundg k1
                            case measure => have := HK.out; omega
                            case rel => exact ⟨i + 1, q.1, S2, by go_num, HL4, ⟨by have := HK.out; omega⟩, HFe, HI4, HVmj, HKp4, HS4⟩
                          · rw [if_neg cq] at H
                            have e1 := Prod.mk.inj (Option.some.inj H)
                            have cq2 : q.2 = false := by simpa using cq
                            obtain ⟨e1, e2⟩ := e1
                            subst e2
                            clear H cq
                            rw [cq2]
                            go_wp2
                            go_ret
                            exact ⟨rfl, S2, e1 ▸ HI4.out, HKp4.out, HS4.out⟩
                · rw [if_neg c5] at H
                  exact absurd H (by simp)
            · rw [if_neg c4] at H
              exact absurd H (by simp)
          · rw [if_neg c3] at H
            have hd3 : decide (i < (rows.length : Int)) = false := decide_eq_false c3
            have e1 := Prod.mk.inj (Option.some.inj H)
            obtain ⟨e1, e2⟩ := e1
            subst e2
            clear H
            go_wp2
            go_ret
            exact ⟨rfl, S1, e1 ▸ HI.out, HKp.out, HS.out⟩
    · rw [if_neg c2] at h
      exact absurd h (by simp)

/-! ### impl_eachSigns: function 171 (by hand) -/
def impl_eachSigns.f {σ : Type} (k : Nat) (a0 : Int) (p : σ → List (List Int) → Option (σ × Bool)) (s : σ) : Option σ :=
  if 0 ≤ a0 then (if a0 ≤ 1000 then ((impl_signRows.f k a0).bind fun rows => (impl_eachSigns_1.f k p a0 rows (List.replicate a0.toNat 0) [] s).bind fun q => some q.1) else none) else none
def impl_eachSigns.T1 : Bool × List (List Nat × List Nat) := (true, [([], []), ([0], [0]), ([], []), ([2, 2], [2]), ([], []), ([], []), ([4, 1, 1, 0, 1, 4, 5], [1, 4]), ([5, 3, 6, 0, 1, 2, 3, 4, 5, 6], [3, 5])])
def impl_eachSigns.B1 : List Nat := [0, 1, 0, 4, 0, 0, 51, 127]
theorem impl_eachSigns.tab1 : rtab .any (opsOf Try.f171 1) = impl_eachSigns.T1 := by kernel_rfl
theorem impl_eachSigns.bits1 : waitsOk impl_eachSigns.T1.2 impl_eachSigns.B1 = true := by kernel_rfl
set_option maxHeartbeats 4000000 in
set_option maxRecDepth 100000 in
theorem impl_eachSigns.calls {σ : Type} (k : Nat) (a0 : Int) (ge : Nat) (be : Array Value) (p : σ → List (List Int) → Option (σ × Bool)) (Inv : σ → World → (Nat → Prop) → Prop) (hf : FnS (Kd.slice 35 (Kd.slice 3 (Kd.int .i64))) Value.bool Try.prog ge be p Inv)
    (s s' : σ) (S : Nat → Prop) (w : World) (hI : Inv s w S) (h : impl_eachSigns.f k a0 p s = some s') :
    Calls Try.prog 171 #[.int .i64 a0, .func (.func ge) #[] be] w fun e w' => e = .returned (.tuple #[]) ∧ ∃ S', Inv s' w' S' ∧ Kp w w' S ∧ ∀ k, S' k → S k ∨ w.heap.size ≤ k := by
  unfold impl_eachSigns.f at h
  by_cases c1 : 0 ≤ a0
  · rw [if_pos c1] at h
    by_cases c2 : a0 ≤ 1000
    · rw [if_pos c2] at h
      obtain ⟨rows, h1, h⟩ := Option.bind_eq_some_iff.mp h
      obtain ⟨q, h2, h⟩ := Option.bind_eq_some_iff.mp h
      obtain rfl := Option.some.inj h
      have HFS := am_ hf
      have HI := am_ hI
      have HR := am_ h1
      have HQ := am_ h2
      clear hf hI h1 h2 h
      go_enter Try.func171, Try.ntmps171
      go_wp2
      obtain ⟨B1, hB1⟩ : ∃ B1, B1 = w.heap.size := ⟨_, rfl⟩
      obtain ⟨B2, hB2⟩ : ∃ B2, B2 = B1 + 1 := ⟨_, rfl⟩
      have HA0 := am_ c1
      have HA1 := am_ c2
      have HB1 := am_ (show (((w.alloc (Obj.cells #[Value.int IntKind.i64 a0] 3)).alloc (Obj.cells #[Value.func (Fn.func ge) #[] be] 40)).drew).heap[B1]? = some (.cells #[.int .i64 a0] 3 (0, 0)) from blk_drew (blk_alloc (blk_new' hB1.symm) _))
      have HB2 := am_ (show (((w.alloc (Obj.cells #[Value.int IntKind.i64 a0] 3)).alloc (Obj.cells #[Value.func (Fn.func ge) #[] be] 40)).drew).heap[B2]? = some (.cells #[.func (.func ge) #[] be] 40 (0, 0)) from blk_drew (blk_new' (by simp; omega)))
      have HC1 := am_ ((blk_cell HB1.out 0).trans rfl : (((w.alloc (Obj.cells #[Value.int IntKind.i64 a0] 3)).alloc (Obj.cells #[Value.func (Fn.func ge) #[] be] 40)).drew).cell? ⟨B1, 0, none⟩ = some (.int .i64 a0))
      have HBW := am_ (show Below w.heap.size w (((w.alloc (Obj.cells #[Value.int IntKind.i64 a0] 3)).alloc (Obj.cells #[Value.func (Fn.func ge) #[] be] 40)).drew) from below_drew1 (below_alloc (below_alloc (Below.refl _ _) _) _))
      have HP0 := am_ (show 0 < (((w.alloc (Obj.cells #[Value.int IntKind.i64 a0] 3)).alloc (Obj.cells #[Value.func (Fn.func ge) #[] be] 40)).drew).heap.size from Nat.lt_of_le_of_lt (Nat.zero_le _) (blk_lt HB1.out))
      rw [← hB1]
      rw [← hB2]
      have EB1 := am_ hB1
      have EB2 := am_ hB2
      clear hB1 hB2
      refine start_ (n := 8) (S := fun w' => True) (ds := []) #[false, false, false, false, false, false, false, false] (by kernel_rfl) rfl rfl trivial (fun hHeld => ?_)
      refine with_tabW impl_eachSigns.tab1 impl_eachSigns.bits1 (fun HT_ HW_ => ?_)
      generalize hW_ : World.drew _ = W at HB1 HB2 HBW HC1 HP0 ⊢
      clear hW_
      have FB := (show Below W.heap.size W W ∧ 0 < W.heap.size ∧ 0 < W.heap.size from ⟨Below.refl _ _, HP0.out, HP0.out⟩)
      refine inv_at [0, 1, 2, 3, 4, 5, 6, 7] (fun a0_ b a w' => ∃ (v8 : Value) (g10 : Nat) (g4 : Nat) (g5 : Nat) (m3_ : Value) (m4_ : Value) (m5_ : Value), a = putSel a0_ b [(0, 7, .int .i64 a0), (1, 8, v8), (2, 9, .int .i64 a0), (3, 10, m3_), (4, 4, m4_), (5, 5, m5_)] ∧ (Below W.heap.size W w' ∧ g10 < w'.heap.size ∧ g5 < w'.heap.size) ∧ (b 1 = true → Kd.R (Kd.slice 3 (Kd.int .i64)) 35 w' W.heap.size (fun k => k ≠ g10 ∧ k ≠ g5) v8 rows) ∧ (b 3 = true → w'.heap[g10]? = some (.cells (nums .i64 (List.replicate a0.toNat 0)).toArray 3 (0, 0)) ∧ W.heap.size ≤ g10) ∧ (b 4 = true → b 6 = false → w'.heap[g4]? = some (.cells #[.slice none 0 0] 24 (0, 0)) ∧ W.heap.size ≤ g4) ∧ (b 6 = true → w'.heap[g4]? = some (.cells #[v8] 24 (0, 0)) ∧ W.heap.size ≤ g4) ∧ (b 5 = true → b 7 = false → w'.heap[g5]? = some (.cells #[.slice none 0 0] 35 (0, 0)) ∧ W.heap.size ≤ g5) ∧ (b 7 = true → w'.heap[g5]? = some (.cells #[.slice (some ⟨g10, 0, none⟩) a0.toNat a0.toNat] 35 (0, 0)) ∧ W.heap.size ≤ g5) ∧ (b 3 = true → (m3_ : Value) = .slice (some ⟨g10, 0, none⟩) a0.toNat a0.toNat) ∧ (b 4 = true → (m4_ : Value) = .pointer (some ⟨g4, 0, none⟩)) ∧ (b 5 = true → (m5_ : Value) = .pointer (some ⟨g5, 0, none⟩))) HT_.out HW_.out (by kernel_rfl) (by kernel_rfl) ?_ ?_ ?_
      · exact ⟨.bool false, 0, 0, 0, .bool false, .bool false, .bool false, by simp only [putSel, Bool.false_eq_true, if_false], FB, fun h_ => absurd h_ (by decide), fun h_ => absurd h_ (by decide), fun h_ => absurd h_ (by decide), fun h_ => absurd h_ (by decide), fun h_ => absurd h_ (by decide), fun h_ => absurd h_ (by decide), fun h_ => absurd h_ (by decide), fun h_ => absurd h_ (by decide), fun h_ => absurd h_ (by decide)⟩
      · skip
        clear FB
        refine steps_cons ?_ ?_
        · rintro b a w' ⟨v8, g10, g4, g5, m3_, m4_, m5_, ha, Q_FB, Q_FR, Q_FS, Q_F4, Q_G4, Q_F5, Q_G5, Q_X3_, Q_X4_, Q_X5_⟩ hb_ hon hoff
          refine ⟨_, rfl, fun K hK => ?_⟩
          have e2 : a.tmps[2]? = some (.pointer (some ⟨B1, 0, none⟩)) := by rw [ha]; exact (putSel_off rfl).trans rfl
          replace ha := am_ ha
          have FB := am_ Q_FB
          have hc_ : w'.cell? ⟨B1, 0, none⟩ = some (.int .i64 a0) := cell_of_below FB.out.1 HC1.out
          refine value_ (w1 := w') (v := .int .i64 a0) (by rfl) rfl ?_ ?_
          · go_simp
            (try simp only [i64_w])
            try rfl
          refine hK.out _ _ ⟨v8, g10, g4, g5, m3_, m4_, m5_, (by rw [ha.out]; exact putSel_upk 0 hb_ rfl rfl rfl), Q_FB, fun h0_ => absurd ((hoff 1 (by kernel_rfl)).symm.trans h0_) (by decide), Q_FS, Q_F4, fun h0_ => absurd ((hoff 6 (by kernel_rfl)).symm.trans h0_) (by decide), Q_F5, fun h0_ => absurd ((hoff 7 (by kernel_rfl)).symm.trans h0_) (by decide), Q_X3_, Q_X4_, Q_X5_⟩
        refine steps_cons ?_ ?_
        · rintro b a w' ⟨v8, g10, g4, g5, m3_, m4_, m5_, ha, Q_FB, Q_FR, Q_FS, Q_F4, Q_G4, Q_F5, Q_G5, Q_X3_, Q_X4_, Q_X5_⟩ hb_ hon hoff
          refine ⟨_, rfl, fun K hK => ?_⟩
          have e7 : a.tmps[7]? = some (.int .i64 a0) := by rw [ha]; exact putSel_on (e := (0, 7, .int .i64 a0)) 0 rfl rfl (hon 0 (by kernel_rfl)) rfl
          replace ha := am_ ha
          have FB := am_ Q_FB
          refine goes_ Try.func197 (by kernel_rfl) rfl #[.int .i64 a0] (by rfl) rfl rfl (by first | (simp only [List.map_toArray, List.map_cons, List.map_nil, Act.eval, Array.getD_eq_getD_getElem?, Option.getD_some, e7]; done) | (simp only [List.map_toArray, List.map_cons, List.map_nil, Act.eval, Array.getD_eq_getD_getElem?, Option.getD_some, e7]; rfl)) ?_
          refine (impl_signRows.calls k a0 rows w' HR.out).mono ?_
          rintro e w3 ⟨v3, rfl, ho, hb⟩
          refine ⟨_, rfl, ?_⟩
          have hsz := below_size hb
          refine hK.out _ _ ⟨v3, g10, g4, g5, m3_, m4_, m5_, (by rw [ha.out]; exact putSel_upk 1 hb_ rfl rfl rfl), ⟨below_step FB.out.1 hb, Nat.lt_of_lt_of_le FB.out.2.1 hsz, Nat.lt_of_lt_of_le FB.out.2.2 hsz⟩, fun _ => Kd.R_lower (Kd.R_mono (Kd.R_bound ho) (fun k hk => ⟨by have := hk.2.1; have := FB.out.2; omega, by have := hk.2.1; have := FB.out.2; omega⟩)) (below_size FB.out.1), fun h0_ => ⟨blk_below (Q_FS h0_).1 hb, (Q_FS h0_).2⟩, fun h0_ h1_ => ⟨blk_below (Q_F4 h0_ h1_).1 hb, (Q_F4 h0_ h1_).2⟩, fun h0_ => absurd ((hoff 6 (by kernel_rfl)).symm.trans h0_) (by decide), fun h0_ h1_ => ⟨blk_below (Q_F5 h0_ h1_).1 hb, (Q_F5 h0_ h1_).2⟩, fun h0_ => absurd ((hoff 7 (by kernel_rfl)).symm.trans h0_) (by decide), Q_X3_, Q_X4_, Q_X5_⟩
        refine steps_cons ?_ ?_
        · rintro b a w' ⟨v8, g10, g4, g5, m3_, m4_, m5_, ha, Q_FB, Q_FR, Q_FS, Q_F4, Q_G4, Q_F5, Q_G5, Q_X3_, Q_X4_, Q_X5_⟩ hb_ hon hoff
          refine ⟨_, rfl, fun K hK => ?_⟩
          have e2 : a.tmps[2]? = some (.pointer (some ⟨B1, 0, none⟩)) := by rw [ha]; exact (putSel_off rfl).trans rfl
          replace ha := am_ ha
          have FB := am_ Q_FB
          have hc_ : w'.cell? ⟨B1, 0, none⟩ = some (.int .i64 a0) := cell_of_below FB.out.1 HC1.out
          refine value_ (w1 := w') (v := .int .i64 a0) (by rfl) rfl ?_ ?_
          · go_simp
            (try simp only [i64_w])
            try rfl
          refine hK.out _ _ ⟨v8, g10, g4, g5, m3_, m4_, m5_, (by rw [ha.out]; exact putSel_upk 2 hb_ rfl rfl rfl), Q_FB, Q_FR, fun h0_ => absurd ((hoff 3 (by kernel_rfl)).symm.trans h0_) (by decide), Q_F4, Q_G4, Q_F5, fun h0_ => absurd ((hoff 7 (by kernel_rfl)).symm.trans h0_) (by decide), fun h0_ => absurd ((hoff 3 (by kernel_rfl)).symm.trans h0_) (by decide), Q_X4_, Q_X5_⟩
        refine steps_cons ?_ ?_
        · rintro b a w' ⟨v8, g10, g4, g5, m3_, m4_, m5_, ha, Q_FB, Q_FR, Q_FS, Q_F4, Q_G4, Q_F5, Q_G5, Q_X3_, Q_X4_, Q_X5_⟩ hb_ hon hoff
          refine ⟨_, rfl, fun K hK => ?_⟩
          have e9 : a.tmps[9]? = some (.int .i64 a0) := by rw [ha]; exact putSel_on (e := (2, 9, .int .i64 a0)) 2 rfl rfl (hon 2 (by kernel_rfl)) rfl
          replace ha := am_ ha
          have FB := am_ Q_FB
          refine value_ (w1 := w'.alloc (.cells (nums .i64 (List.replicate a0.toNat 0)).toArray 3 (0, 0))) (v := .slice (some ⟨w'.heap.size, 0, none⟩) a0.toNat a0.toNat) (by rfl) rfl ?_ ?_
          · exact make_zeros (x := .tmp 9) rfl a0 (eval_of e9) Try.underlying35 info3 HA0.out (Int.le_trans HA1.out (by decide)) w'
          refine hK.out _ _ ⟨v8, w'.heap.size, g4, g5, (.slice (some ⟨w'.heap.size, 0, none⟩) a0.toNat a0.toNat), m4_, m5_, (by rw [ha.out]; exact putSel_upk 3 hb_ rfl rfl rfl), ⟨below_alloc FB.out.1 _, by simp, by simp; have := FB.out.2; omega⟩, fun h0_ => Kd.R_mono (Kd.R_bound (Q_FR h0_) |> fun h => Kd.R_alloc h _) (fun k hk => ⟨by have := hk.2.2.1; omega, hk.1.2⟩), fun _ => ⟨blk_new _ _, below_size FB.out.1⟩, fun h0_ h1_ => ⟨blk_alloc (Q_F4 h0_ h1_).1 _, (Q_F4 h0_ h1_).2⟩, fun h0_ => ⟨blk_alloc (Q_G4 h0_).1 _, (Q_G4 h0_).2⟩, fun h0_ h1_ => ⟨blk_alloc (Q_F5 h0_ h1_).1 _, (Q_F5 h0_ h1_).2⟩, fun h0_ => absurd ((hoff 7 (by kernel_rfl)).symm.trans h0_) (by decide), fun _ => rfl, Q_X4_, Q_X5_⟩
        refine steps_cons ?_ ?_
        · rintro b a w' ⟨v8, g10, g4, g5, m3_, m4_, m5_, ha, Q_FB, Q_FR, Q_FS, Q_F4, Q_G4, Q_F5, Q_G5, Q_X3_, Q_X4_, Q_X5_⟩ hb_ hon hoff
          refine ⟨_, rfl, fun K hK => ?_⟩
          replace ha := am_ ha
          have FB := am_ Q_FB
          refine value_ (w1 := ?_) (v := ?_) (by rfl) rfl ?_ ?_
          rotate_left 2
          · go_simp
            constructor
            · rfl
            · rfl
          refine hK.out _ _ ⟨v8, g10, w'.heap.size, g5, m3_, (.pointer (some ⟨w'.heap.size, 0, none⟩)), m5_, (by rw [ha.out]; exact putSel_upk 4 hb_ rfl rfl rfl), ⟨below_alloc FB.out.1 _, by simp; have := FB.out.2; omega, by simp; have := FB.out.2; omega⟩, fun h0_ => Kd.R_alloc (Q_FR h0_) _, fun h0_ => ⟨blk_alloc (Q_FS h0_).1 _, (Q_FS h0_).2⟩, fun _ _ => ⟨blk_new _ _, below_size FB.out.1⟩, fun h0_ => absurd ((hoff 6 (by kernel_rfl)).symm.trans h0_) (by decide), fun h0_ h1_ => ⟨blk_alloc (Q_F5 h0_ h1_).1 _, (Q_F5 h0_ h1_).2⟩, fun h0_ => absurd ((hoff 7 (by kernel_rfl)).symm.trans h0_) (by decide), Q_X3_, fun _ => rfl, Q_X5_⟩
        refine steps_cons ?_ ?_
        · rintro b a w' ⟨v8, g10, g4, g5, m3_, m4_, m5_, ha, Q_FB, Q_FR, Q_FS, Q_F4, Q_G4, Q_F5, Q_G5, Q_X3_, Q_X4_, Q_X5_⟩ hb_ hon hoff
          refine ⟨_, rfl, fun K hK => ?_⟩
          replace ha := am_ ha
          have FB := am_ Q_FB
          refine value_ (w1 := ?_) (v := ?_) (by rfl) rfl ?_ ?_
          rotate_left 2
          · go_simp
            constructor
            · rfl
            · rfl
          refine hK.out _ _ ⟨v8, g10, g4, w'.heap.size, m3_, m4_, (.pointer (some ⟨w'.heap.size, 0, none⟩)), (by rw [ha.out]; exact putSel_upk 5 hb_ rfl rfl rfl), ⟨below_alloc FB.out.1 _, by simp; have := FB.out.2; omega, by simp⟩, fun h0_ => Kd.R_mono (Kd.R_bound (Q_FR h0_) |> fun h => Kd.R_alloc h _) (fun k hk => ⟨hk.1.1, by have := hk.2.2.1; omega⟩), fun h0_ => ⟨blk_alloc (Q_FS h0_).1 _, (Q_FS h0_).2⟩, fun h0_ h1_ => ⟨blk_alloc (Q_F4 h0_ h1_).1 _, (Q_F4 h0_ h1_).2⟩, fun h0_ => absurd ((hoff 6 (by kernel_rfl)).symm.trans h0_) (by decide), fun _ _ => ⟨blk_new _ _, below_size FB.out.1⟩, fun h0_ => absurd ((hoff 7 (by kernel_rfl)).symm.trans h0_) (by decide), Q_X3_, Q_X4_, fun _ => rfl⟩
        refine steps_cons ?_ ?_
        · rintro b a w' ⟨v8, g10, g4, g5, m3_, m4_, m5_, ha, Q_FB, Q_FR, Q_FS, Q_F4, Q_G4, Q_F5, Q_G5, Q_X3_, Q_X4_, Q_X5_⟩ hb_ hon hoff
          refine ⟨_, rfl, fun K hK => ?_⟩
          have e4 : a.tmps[4]? = some (m4_) := by rw [ha]; exact putSel_on (e := (4, 4, m4_)) 4 rfl rfl (hon 4 (by kernel_rfl)) rfl
          rw [Q_X4_ (hon 4 (by kernel_rfl))] at e4
          have e8 : a.tmps[8]? = some (v8) := by rw [ha]; exact putSel_on (e := (1, 8, v8)) 1 rfl rfl (hon 1 (by kernel_rfl)) rfl
          replace ha := am_ ha
          have FB := am_ Q_FB
          have FR := am_ (Q_FR (hon 1 (by kernel_rfl)))
          have F4 := am_ (Q_F4 (hon 4 (by kernel_rfl)) hb_)
          have F5 := am_ (Q_F5 (hon 5 (by kernel_rfl)) (hoff 7 (by kernel_rfl)))
          obtain ⟨A8, c8, q8⟩ := Kd.R_slice FR.out
          subst q8
          have hc_ : w'.cell? ⟨g4, 0, none⟩ = some (.slice none 0 0) := (blk_cell F4.out.1 0).trans rfl
          have hf_ := blk_frozen F4.out.1 0
          refine skip_ (w1 := ?_) (by rfl) rfl ?_ ?_
          rotate_left
          · go_simp
            rfl
          refine hK.out _ _ ⟨(.slice A8 rows.length c8), g10, g4, g5, m3_, m4_, m5_, (by rw [ha.out]; exact putSel_none (v := undef) rfl), ⟨below_set FB.out.1 F4.out.2, by simp [World.setCell]; exact FB.out.2.1, by simp [World.setCell]; exact FB.out.2.2⟩, fun _ => Kd.R_set FR.out F4.out.1 (by decide) 0 _, fun h0_ => ⟨blk_far (Q_FS h0_).1 (blk_ne (Q_FS h0_).1 F4.out.1 (by decide)) _, (Q_FS h0_).2⟩, fun _ h1_ => absurd ((up_self b 6).symm.trans h1_) (by decide), fun _ => ⟨blk_set F4.out.1 0 _, F4.out.2⟩, fun _ _ => ⟨blk_far F5.out.1 (blk_ne F5.out.1 F4.out.1 (by decide)) _, F5.out.2⟩, fun h0_ => absurd ((hoff 7 (by kernel_rfl)).symm.trans h0_) (by decide), Q_X3_, Q_X4_, Q_X5_⟩
        refine steps_cons ?_ ?_
        · rintro b a w' ⟨v8, g10, g4, g5, m3_, m4_, m5_, ha, Q_FB, Q_FR, Q_FS, Q_F4, Q_G4, Q_F5, Q_G5, Q_X3_, Q_X4_, Q_X5_⟩ hb_ hon hoff
          refine ⟨_, rfl, fun K hK => ?_⟩
          have e5 : a.tmps[5]? = some (m5_) := by rw [ha]; exact putSel_on (e := (5, 5, m5_)) 5 rfl rfl (hon 5 (by kernel_rfl)) rfl
          rw [Q_X5_ (hon 5 (by kernel_rfl))] at e5
          have e10 : a.tmps[10]? = some (m3_) := by rw [ha]; exact putSel_on (e := (3, 10, m3_)) 3 rfl rfl (hon 3 (by kernel_rfl)) rfl
          rw [Q_X3_ (hon 3 (by kernel_rfl))] at e10
          replace ha := am_ ha
          have FB := am_ Q_FB
          have FR := am_ (Q_FR (hon 1 (by kernel_rfl)))
          have FS := am_ (Q_FS (hon 3 (by kernel_rfl)))
          have G4 := am_ (Q_G4 (hon 6 (by kernel_rfl)))
          have F5 := am_ (Q_F5 (hon 5 (by kernel_rfl)) hb_)
          have hc_ : w'.cell? ⟨g5, 0, none⟩ = some (.slice none 0 0) := (blk_cell F5.out.1 0).trans rfl
          have hf_ := blk_frozen F5.out.1 0
          refine skip_ (w1 := ?_) (by rfl) rfl ?_ ?_
          rotate_left
          · go_simp
            rfl
          refine hK.out _ _ ⟨v8, g10, g4, g5, m3_, m4_, m5_, (by rw [ha.out]; exact putSel_none (v := undef) rfl), ⟨below_set FB.out.1 F5.out.2, by simp [World.setCell]; exact FB.out.2.1, by simp [World.setCell]; exact FB.out.2.2⟩, fun _ => Kd.R_far (p := ⟨g5, 0, none⟩) FR.out (fun _ hk => hk.2) _, fun _ => ⟨blk_far FS.out.1 (blk_ne FS.out.1 F5.out.1 (by decide)) _, FS.out.2⟩, fun _ h1_ => absurd ((hon 6 (by kernel_rfl)).symm.trans h1_) (by decide), fun _ => ⟨blk_far G4.out.1 (blk_ne G4.out.1 F5.out.1 (by decide)) _, G4.out.2⟩, fun _ h1_ => absurd ((up_self b 7).symm.trans h1_) (by decide), fun _ => ⟨blk_set F5.out.1 0 _, F5.out.2⟩, Q_X3_, Q_X4_, Q_X5_⟩
        exact steps_nil
      · rintro b a w' hall ⟨v8, g10, g4, g5, m3_, m4_, m5_, ha, Q_FB, Q_FR, Q_FS, Q_F4, Q_G4, Q_F5, Q_G5, Q_X3_, Q_X4_, Q_X5_⟩
        clear FB
        have hb0_ := hall 0 (by kernel_rfl)
        have hb1_ := hall 1 (by kernel_rfl)
        have hb2_ := hall 2 (by kernel_rfl)
        have hb3_ := hall 3 (by kernel_rfl)
        have hb4_ := hall 4 (by kernel_rfl)
        have hb5_ := hall 5 (by kernel_rfl)
        have hb6_ := hall 6 (by kernel_rfl)
        have hb7_ := hall 7 (by kernel_rfl)
        subst ha
        obtain rfl := Q_X3_ hb3_
        obtain rfl := Q_X4_ hb4_
        obtain rfl := Q_X5_ hb5_
        simp only [putSel, hb0_, hb1_, hb2_, hb3_, hb4_, hb5_, hb6_, hb7_, if_true, Act.put, List.setIfInBounds_toArray, List.set_cons_zero, List.set_cons_succ]
        have FB := am_ Q_FB
        clear Q_FB
        have FR := am_ (Q_FR hb1_)
        clear Q_FR
        have FS := am_ (Q_FS hb3_)
        clear Q_FS
        clear Q_F4
        have G4 := am_ (Q_G4 hb6_)
        clear Q_G4
        clear Q_F5
        have G5 := am_ (Q_G5 hb7_)
        clear Q_G5
        clear hall hb0_ hb1_ hb2_ hb3_ hb4_ hb5_ hb6_ hb7_
        have n45 := blk_ne G4.out.1 G5.out.1 (by decide)
        have HSZ := below_size FB.out.1
        have hn1 := blk_lt HB1.out
        have hn2 := blk_lt HB2.out
        have HW1 := am_ (blk_below HB1.out FB.out.1)
        have HW2 := am_ (blk_below HB2.out FB.out.1)
        obtain ⟨A8, c8, q8⟩ := Kd.R_slice FR.out
        subst q8
        go_wp2_with fail
        have HWW := am_ (below_size HBW.out)
        have HBL := am_ (below_alloc (below_step HBW.out FB.out.1) (Obj.cells #[.func (.func 198) #[] #[.pointer (some ⟨B1, 0, none⟩), .pointer (some ⟨B2, 0, none⟩), .pointer (some ⟨g4, 0, none⟩), .pointer (some ⟨g5, 0, none⟩), .pointer (some ⟨w'.heap.size, 0, none⟩)]] 40))
        have HNS := am_ (fun (k : Nat) (hk : S k) => (HFS.out.bd _ _ _ HI.out k hk : k < w.heap.size))
        have hno : ∀ k, w.heap.size ≤ k → ¬ S k := fun k h1 h2 => by have := HNS.out k h2; omega
        refine (impl_eachSigns_1.calls p Inv a0 HA0.out HA1.out ge be HFS.out A8 c8 rows B1 B2 g4 g5 w'.heap.size 40 40 g10 k (List.replicate a0.toNat 0) [] none 0 s q.1 q.2 S _ ⟨?b1, ?b2, ?b3, ?b4, ?b5, ?bs, ?vr, ?s1, ?s2, ?s3, ?s4, ?s5, ?ss, ?n1, by decide, by decide, ?sz⟩ ?hI (Kd.V_nil _ _ _ _ _) HQ.out).mono ?_
        case b1 => exact blk_alloc HW1.out _
        case b2 => exact blk_alloc HW2.out _
        case b3 => exact blk_alloc G4.out.1 _
        case b4 => rw [List.length_replicate]; exact blk_alloc G5.out.1 _
        case b5 => exact blk_new _ _
        case bs => exact blk_alloc FS.out.1 _
        case vr => exact Kd.R_V (Kd.R_alloc (Kd.R_mono (Kd.R_bound FR.out) (fun k hk => ⟨hno k (Nat.le_trans HWW.out hk.2.1), hk.1.1⟩)) _)
        case s1 => exact hno _ (by have := EB1.out; omega)
        case s2 => exact hno _ (by have := EB1.out; have := EB2.out; omega)
        case s3 => exact hno _ (Nat.le_trans HWW.out G4.out.2)
        case s4 => exact hno _ (Nat.le_trans HWW.out G5.out.2)
        case s5 => exact hno _ (Nat.le_trans HWW.out HSZ)
        case ss => exact hno _ (Nat.le_trans HWW.out FS.out.2)
        case n1 => have := FS.out.2; omega
        case sz => rw [List.length_replicate]; have := HA0.out; have := HA1.out; omega
        case hI => exact HFS.out.st _ _ _ _ HI.out (HBL.out.mono (Nat.zero_le _)) (fun k hk => HBL.out.block k (HNS.out k hk))
        rintro e w3 ⟨rfl, S', h1, h2, h3⟩
        have H1 := am_ h1
        have H2 := am_ h2
        have H3 := am_ h3
        clear h1 h2 h3
        go_wp2
        first | go_end0 | ((try simp only [Exit.inBlock, Exit.then]); refine bodyPost_ret (results_none rfl _ _ _) rfl ?_)
        exact ⟨rfl, S', H1.out, (Kp.of_below HBL.out S).then_ H2.out (fun k h => .inl h), fun k h => (H3.out k h).elim .inl (fun h => .inr (Nat.le_trans (below_size HBL.out) h))⟩
    · rw [if_neg c2] at h
      exact absurd h (by simp)
  · rw [if_neg c1] at h
    exact absurd h (by simp)

/-! ### impl_copyTable: function 173 -/
def impl_copyTable.l0 : Nat → List (List Int) → List (List Int) → Int → Int → Option ((List (List Int)))
 | 0, _, _, _, _ => none
 | k + 1, x3, x7, x8, x9 => if x9 < x8 then (if 0 ≤ x9 then (if x9 < (x7.length : Int) then ((slices_Clone_int_int.f (rd_L3 x7 x9)).bind fun t105 => (if x3.length < 5864062014805 then (impl_copyTable.l0 k (x3 ++ [t105]) x7 x8 (wrap64 (x9 + 1))) else (none))) else (none)) else (none)) else (some x3)
def impl_copyTable.f (k : Nat) (l0 : List (List Int)) : Option ((List (List Int))) := impl_copyTable.l0 k (([] : List (List Int))) l0 (l0.length : Int) 0
set_option maxHeartbeats 8000000 in
set_option maxRecDepth 100000 in
theorem impl_copyTable.calls (k : Nat) (A0 : Option Addr) (c0 : Nat) (l0 : List (List Int)) (r : List (List Int)) (w : World) (hr0 : Kd.C (Kd.slice 3 (Kd.int .i64)) w A0 l0.length l0) (hc0 : l0.length ≤ c0) (h : impl_copyTable.f k l0 = some r) :
  Calls Try.prog 173 #[.slice A0 l0.length c0] w fun e w' => ∃ v0_ : Value, e = .returned (v0_) ∧ Kd.S (Kd.slice 3 (Kd.int .i64)) 35 w' w.heap.size (fun _ => True) v0_ r ∧ Below w.heap.size w w' := by
 have HR0 := am_ hr0
 have HC0 := am_ hc0
 clear hr0 hc0
 have HB := am_ (Below.refl w.heap.size w)
 have H : (impl_copyTable.l0 k (([] : List (List Int))) l0 (l0.length : Int) 0) = some r := h
 clear h
 obtain ⟨y101, hy101⟩ : ∃ y_ : List (List Int), y_ = (([] : List (List Int))) := ⟨_, rfl⟩
 replace H : (impl_copyTable.l0 k y101 l0 (l0.length : Int) 0) = some r := by first | (rw [hy101]; with_reducible exact H) | (have H2_ := (Option.bind_some _ _).symm.trans H; rw [hy101]; with_reducible exact H2_) | (have H2_ := (Option.bind_some _ _).symm.trans H; with_reducible exact H2_) | with_reducible exact H | (rw [hy101]; exact H) | exact H
 have Ny101 := am_ hy101
 clear hy101
 have H' := am_ H
 clear H
 go_enter Try.func173, Try.ntmps173
 go_wp2_with (first | ((with_reducible refine gate_dst (N := 6) rfl ?_); refine Kd.S_lit (Kd.slice 3 (Kd.int .i64)) _ 35 ?hg (N := 6) ?hd (xs := ([] : List (List Int))) (inner := []) (ok := fun _ => True) (okp := fun _ => True) ?hr ?hp (fun _ hk => hk) trivial (Below.refl _ _) (Nat.le_refl _) (by simp) ?_; (case hd => rfl); (case hg => rfl); (case hr => exact tc19_); (case hp => exact (Reps.none _ _)); intro v102 w2 ho3 hb hg_ hnew_; clear hg_ hnew_; (first | rw [← Ny101.out] at ho3 | (simp only [Int.reduceToNat] at ho3; rw [← Ny101.out] at ho3)); have n0_ := am_ (Kd.S_lower ho3 (below_size tc0_)); have n1_ := am_ (below_step tc0_ hb); clear HB; have HO103 := n0_; have HB := n1_; clear n0_ n1_; clear hb ho3))
 go_loopg [3, 9] k (fun kq v3 v9 w' => ∃ (x3_1 : List (List Int)) (x9_1 : Int), v9 = .int .i64 x9_1 ∧ Aside0 (impl_copyTable.l0 kq x3_1 l0 (l0.length : Int) x9_1 = some r) ∧ Aside0 (kq ≤ k) ∧ Aside0 (Kd.S (Kd.slice 3 (Kd.int .i64)) 35 w' w.heap.size (fun _ => True) v3 x3_1) ∧ Aside0 (Below w.heap.size w w'))
 case atStart => exact ⟨(y101), (0), tc7_, H', ⟨Nat.le_refl _⟩, ⟨by (with_reducible repeat (first | apply Kd.S_alloc | apply Kd.S_drewN | apply Kd.S_drew)); exact HO103.out⟩, ⟨by repeat (first | (with_reducible first | exact HB.out | apply below_alloc | apply pw_below_drewN | apply below_drew1) | exact HB.out)⟩⟩
 case round =>
  clear H'
  try clear c1
  try clear p2
  obtain ⟨x3_1, x9_1, rfl, HA, HK1, HO_3, HB⟩ := hrel
  cases gk with
  | zero => exact absurd HA.out (by simp [impl_copyTable.l0])
  | succ k1 =>
   have H := HA.out
   clear HA
   simp only [impl_copyTable.l0] at H
   by_cases c4 : x9_1 < (l0.length : Int)
   ·rw [if_pos c4] at H
    have c4b0 : decide (x9_1 < (l0.length : Int)) = true := decide_eq_true c4
    clear c4
    by_cases c5 : 0 ≤ x9_1
    ·rw [if_pos c5] at H
     have c5b0 : decide (0 ≤ x9_1) = true := decide_eq_true c5
     clear c5
     by_cases c6 : x9_1 < (l0.length : Int)
     ·rw [if_pos c6] at H
      have c6b0 : decide (x9_1 < (l0.length : Int)) = true := decide_eq_true c6
      clear c6
      replace H := Option.bind_eq_some_iff.mp H
      obtain ⟨t105, A70, H⟩ := H
      replace H : (if x3_1.length < 5864062014805 then (impl_copyTable.l0 k1 (x3_1 ++ [t105]) l0 (l0.length : Int) (wrap64 (x9_1 + 1))) else (none)) = some r := H
      have A7 := am_ A70
      clear A70
      by_cases c8 : x3_1.length < 5864062014805
      ·rw [if_pos c8] at H
       have LMc8 := am_ c8
       clear c8
       obtain ⟨y108, hy108⟩ : ∃ y_ : List (List Int), y_ = (x3_1 ++ [t105]) := ⟨_, rfl⟩
       replace H : (impl_copyTable.l0 k1 y108 l0 (l0.length : Int) (wrap64 (x9_1 + 1))) = some r := by first | (rw [hy108]; with_reducible exact H) | (have H2_ := (Option.bind_some _ _).symm.trans H; rw [hy108]; with_reducible exact H2_) | (have H2_ := (Option.bind_some _ _).symm.trans H; with_reducible exact H2_) | with_reducible exact H | (rw [hy108]; exact H) | exact H
       have Ny108 := am_ hy108
       clear hy108
       have H' := am_ H
       clear H
       have p104 : 0 ≤ (x9_1 : Int) := of_decide_eq_true tc3_
       have q104 : x9_1 < (l0.length : Int) := of_decide_eq_true tc3_
       obtain ⟨ad104, A104_0, c104_0, e104, hx104_0, hl104_0, hi104_0⟩ := at_L3 HR0.out x9_1 p104 q104
       cases e104
       replace hx104_0 := (HB.out.cell (World.block_lt_of_cell? w _ hx104_0)).trans hx104_0
       have HR104_0 := am_ hi104_0
       have HC104_0 := am_ hl104_0
       clear hi104_0 hl104_0
       replace p104 := eq_true p104
       replace q104 := eq_true q104
       go_wp2_with (first | ((with_reducible refine gate_callee (f := 154) rfl ?_); refine goesL_ (some 15) rfl rfl Try.func154 (by kernel_rfl) rfl #[.slice A104_0 (rd_L3 l0 x9_1).length c104_0] rfl tc1_ ?_; (with_reducible refine (slices_Clone_int_int.calls _ _ (rd_L3 l0 x9_1) t105 _ ?side1 ?side2 A7.out).mono ?_); (case side1 => repeat (first | exact (Kd.C_below HR104_0.out HB.out) | (with_reducible refine Kd.C_alloc ?_ _) | (with_reducible refine Kd.C_drewN ?_ _) | (with_reducible refine Kd.C_drew ?_))); (case side2 => exact HC104_0.out); rintro e w9 ⟨v106, rfl, ho0, hb⟩; refine ⟨_, rfl, ?_⟩; have n0_ := am_ (Kd.S_elder' (by (with_reducible repeat (first | apply Kd.S_alloc | apply Kd.S_drewN | apply Kd.S_drew)); exact HO_3.out) (Kd.R_base ho0) hb); have n1_ := am_ (Kd.R_lower ho0 (below_size tc0_)); have n2_ := am_ (below_step tc0_ hb); clear HO_3 HB; have HO_3 := n0_; have HO107 := n1_; have HB := n2_; clear n0_ n1_ n2_; (try clear hb ho0); obtain ⟨Ao11, co11, eo11⟩ := Kd.R_slice HO107.out; subst eo11) | ((with_reducible refine gate_builtin (b := .append) (xs := #[.tmp 13, .tmp 16]) rfl ?_); at_builtin; refine Kd.S_append (Kd.slice 3 (Kd.int .i64)) (w0 := w) w.heap.size rfl (.tmp 13) (.tmp 16) 24 35 (.slice none 0 0) 24 rfl Try.underlying24 info35 rfl (by decide) (by omega) u3 x3_1 t105 [.slice Ao11 t105.length co11] (fun _ => True) (fun k_ => some k_ = (.slice Ao11 t105.length co11 : Value).ownBlock) rfl rfl ?aP (fun k_ hk_ => ((Kd.R_mono (ok' := fun k_ => ((fun _ => True)) k_ ∧ some k_ ≠ (u3 : Value).ownBlock) (Kd.R_apart' (HO107.out) (Kd.S_typed HO_3.out) (by decide)) (fun k_ hk => ⟨trivial, hk.2⟩))).1 k_ hk_.symm) ?aF ?aO ?aB ?aS ?aL ?_; (case aP => exact Kd.M_row (Kd.R_mono (Kd.R_tight rfl (Kd.R_mono (ok' := fun k_ => ((fun _ => True)) k_ ∧ some k_ ≠ (u3 : Value).ownBlock) (Kd.R_apart' (HO107.out) (Kd.S_typed HO_3.out) (by decide)) (fun k_ hk => ⟨trivial, hk.2⟩))) (fun _ h_ => h_))); (case aB => exact tc13_); (case aF => exact tc70_); (case aO => exact (by (with_reducible repeat (first | apply Kd.S_alloc | apply Kd.S_drewN | apply Kd.S_drew)); exact Kd.S_mono HO_3.out (fun k_ hk => ⟨trivial, fun e_ => hk.2 e_⟩))); (case aS => exact tc16_); (case aL => have := LMc8.out; omega); intro v109 w10 ho hb hg hat; rw [← Ny108.out] at ho; have n0_ := am_ (hb); have n1_ := am_ (ho); clear HB HO_3 HO107; have HB := n0_; have HO110 := n1_; clear n0_ n1_; clear ho hb hg hat))
       go_roundg k1
       case measure => have := HK1.out; omega
       case rel => exact ⟨(y108), (wrap64 (x9_1 + 1)), tc7_, H', ⟨by have := HK1.out; omega⟩, ⟨by (with_reducible repeat (first | apply Kd.S_alloc | apply Kd.S_drewN | apply Kd.S_drew)); exact HO110.out⟩, ⟨by repeat (first | (with_reducible first | exact HB.out | apply below_alloc | apply pw_below_drewN | apply below_drew1) | exact HB.out)⟩⟩
      ·rw [if_neg c8] at H
       exact absurd H (by simp)
     ·rw [if_neg c6] at H
      exact absurd H (by simp)
    ·rw [if_neg c5] at H
     exact absurd H (by simp)
   ·rw [if_neg c4] at H
    have c4b0 : decide (x9_1 < (l0.length : Int)) = false := decide_eq_false c4
    clear c4
    obtain rfl := Option.some.inj H
    go_wp2
    go_ret
    exact ⟨_, by first | rfl | (simp [errW_none, errW_some] <;> rfl) | (simp [*, errW_none, errW_some] <;> rfl), by (with_reducible repeat (first | apply Kd.S_alloc | apply Kd.S_drewN | apply Kd.S_drew)); exact HO_3.out, by repeat (first | (with_reducible first | exact HB.out | apply below_alloc | apply pw_below_drewN | apply below_drew1) | exact HB.out)⟩

/-! ### impl_allSigns_1: function 172 (by hand) -/
def impl_allSigns_1.step (k : Nat) (p : List (List Int) → Option Bool) (out : List (List (List Int))) (m : List (List Int)) : Option (List (List (List Int)) × Bool) :=
  (p m).bind fun b => if b = true then ((impl_copyTable.f k m).bind fun m' => if out.length < 1000000 then some (out ++ [m'], true) else none) else some (out, true)
set_option maxHeartbeats 4000000 in
set_option maxRecDepth 100000 in
theorem impl_allSigns_1.calls (k : Nat) (A0 : Option Addr) (c0 : Nat) (l0 : List (List Int)) (B1 B2 T1 : Nat) (hT1 : T1 ≠ 50 ∧ T1 ≠ 24) (g : Nat) (b : Array Value) (p : List (List Int) → Option Bool) (u : Value) (out out' : List (List (List Int))) (r : Bool) (base : Nat) (okS : Nat → Prop) (w : World) (hbase : base ≤ w.heap.size)
    (hr0 : Kd.C (Kd.slice 3 (Kd.int .i64)) w A0 l0.length l0) (hc0 : l0.length ≤ c0) (hb1 : w.heap[B1]? = some (.cells #[.func (.func g) #[] b] T1 (0, 0))) (hb2 : w.heap[B2]? = some (.cells #[u] 50 (0, 0)))
    (ho : Kd.S (sliceS 35 (Kd.slice 3 (Kd.int .i64))) 24 w base okS u out) (hf : Fn1 (Kd.slice 35 (Kd.slice 3 (Kd.int .i64))) Value.bool Try.prog g b p w) (h : impl_allSigns_1.step k p out l0 = some (out', r)) :
    Calls Try.prog 172 #[.slice A0 l0.length c0, .pointer (some ⟨B1, 0, none⟩), .pointer (some ⟨B2, 0, none⟩)] w fun e w' => e = .returned (.bool r) ∧ ∃ u', w'.heap[B1]? = some (.cells #[.func (.func g) #[] b] T1 (0, 0)) ∧ w'.heap[B2]? = some (.cells #[u'] 50 (0, 0)) ∧ Kd.S (sliceS 35 (Kd.slice 3 (Kd.int .i64))) 24 w' base (fun k_ => okS k_ ∨ w.heap.size ≤ k_) u' out' ∧ Kp w w' (fun k_ => k_ = B2 ∨ okS k_) := by
  obtain ⟨acc, hacc, h⟩ := Option.bind_eq_some_iff.mp h
  have HR := am_ hr0
  have HC := am_ hc0
  have H1 := am_ hb1
  have H2 := am_ hb2
  have HO := am_ ho
  have HF := am_ hf.cl
  have eg := hf.eg
  have HA := am_ hacc
  have HBS := am_ hbase
  have n12 := blk_ne hb1 hb2 hT1.1
  have HS := am_ (show ∀ k_, u.ownBlock = some k_ → okS k_ from (Kd.S_R ho).1)
  clear hr0 hc0 hb1 hb2 ho hf hacc hbase
  have hcB1 : w.cell? ⟨B1, 0, none⟩ = some (.func (.func g) #[] b) := (blk_cell H1.out 0).trans rfl
  cases acc with
  | false =>
    rw [if_neg (by simp)] at h
    obtain ⟨rfl, rfl⟩ := Prod.mk.inj (Option.some.inj h)
    clear h
    go_enter Try.func172, Try.ntmps172
    go_wp2_with fail
    refine (HF.out w (Below.refl _ _) l0 _ (K_slice HC.out HR.out) false HA.out).mono ?_
    rintro e w6 ⟨rfl, hb⟩
    have HB := am_ hb
    clear hb
    go_wp2
    go_ret
    exact ⟨rfl, u, blk_below H1.out HB.out, blk_below H2.out HB.out, Kd.S_mono (Kd.S_below HO.out HB.out) (fun _ hk => .inl hk), Kp.of_below HB.out _⟩
  | true =>
    rw [if_pos rfl] at h
    obtain ⟨m', hm', h⟩ := Option.bind_eq_some_iff.mp h
    by_cases c1 : out.length < 1000000
    case neg => rw [if_neg c1] at h; cases h
    rw [if_pos c1] at h
    obtain ⟨rfl, rfl⟩ := Prod.mk.inj (Option.some.inj h)
    have HM := am_ hm'
    have HL := am_ c1
    clear h hm' c1
    go_enter Try.func172, Try.ntmps172
    go_wp2_with fail
    refine (HF.out w (Below.refl _ _) l0 _ (K_slice HC.out HR.out) true HA.out).mono ?_
    rintro e w6 ⟨rfl, hb⟩
    have HB := am_ (below_step hb (below_drew (Below.refl _ _)))
    clear hb
    go_wp2_with fail
    refine start_ (n := 6) (S := fun w' => w'.cell? ⟨B2, 0, none⟩ = some u) (ds := [5]) #[false, false, false, false, false, false] (by kernel_rfl) rfl rfl (cell_of_below HB.out ((blk_cell H2.out 0).trans rfl)) (fun hHeld => ?_)
    generalize hW_ : w6.drew = W at HB hHeld ⊢
    clear hW_
    have hcB2 : w.cell? ⟨B2, 0, none⟩ = some u := (blk_cell H2.out 0).trans rfl
    refine pure_ (i := 1) (N := some 9) (v := ?_) (a' := ?_) #[false, true, false, false, false, false] rfl rfl (by kernel_rfl) (fun _ _ _ h => h) (Or.inl ⟨by rfl, ?_⟩) ?_ ?_
    rotate_left
    · intro w'
      go_simp
      with_reducible rfl
    rotate_left
    · simp only [Act.put, List.setIfInBounds_toArray, List.set_cons_zero, List.set_cons_succ, i64_w, i32_w]
      rfl
    refine take_ (i := 0) (N := some 8) (v := ?_) (a' := ?_) #[true, true, false, false, false, false] rfl rfl (by kernel_rfl) (fun _ _ _ h => h) (Or.inl ⟨by rfl, ?_⟩) hHeld ?_ ?_
    rotate_left
    · intro w' s0
      go_simp
      with_reducible rfl
    rotate_left
    · simp only [Act.put, List.setIfInBounds_toArray, List.set_cons_zero, List.set_cons_succ, i64_w, i32_w]
      rfl
    refine one_ (i := 2) (N := some 10) #[true, true, true, false, false, false] rfl rfl (by kernel_rfl) (by decide) (fun K hK => ?_)
    refine goes_ Try.func173 (by kernel_rfl) rfl #[.slice A0 l0.length c0] (by rfl) rfl rfl tc54_ ?_
    refine (impl_copyTable.calls k A0 c0 l0 m' W (Kd.C_below HR.out HB.out) HC.out HM.out).mono ?_
    rintro e w7 ⟨v10, rfl, ho7, hb7⟩
    refine ⟨_, rfl, ?_⟩
    have HB7 := am_ (below_step HB.out hb7)
    have HM7 := am_ (Kd.S_lower (Kd.S_mono (Kd.S_bound ho7) (fun k_ hk => hk.2.1)) (Nat.le_trans HBS.out (below_size HB.out)))
    have HO7 := am_ (Kd.S_below (Kd.S_mono (Kd.S_bound HO.out) (fun k_ hk => And.intro hk.1 hk.2.2.1)) HB7.out)
    have HZ := am_ (below_size HB.out)
    clear ho7 hb7
    obtain ⟨A10, c10, e10⟩ := Kd.S_slice HM7.out
    subst e10
    refine hK.out _ _ (cell_of_below HB7.out hcB2) (fun hHeld => ?_)
    clear hK K
    refine norm_ (a' := ?_) ?_ ?_
    rotate_left
    · show Act.put _ (some 10) _ = _
      simp only [Act.put, List.setIfInBounds_toArray, List.set_cons_zero, List.set_cons_succ, i64_w, i32_w]
      rfl
    refine one_ (i := 3) (N := some 11) #[true, true, true, true, false, false] rfl rfl (by kernel_rfl) (by decide) (fun K hK => ?_)
    refine value_ (w1 := ?_) (v := ?_) (by rfl) rfl ?_ ?_
    rotate_left 2
    · go_simp
      constructor
      · rfl
      · rfl
    refine hK.out _ _ (cell_of_below (below_alloc HB7.out _) hcB2) (fun hHeld => ?_)
    clear hK K
    refine norm_ (a' := ?_) ?_ ?_
    rotate_left
    · show Act.put _ (some 11) _ = _
      simp only [Act.put, List.setIfInBounds_toArray, List.set_cons_zero, List.set_cons_succ, i64_w, i32_w]
      rfl
    refine one_ (i := 4) (N := some 12) #[true, true, true, true, true, false] rfl rfl (by kernel_rfl) (by decide) (fun K hK => ?_)
    refine Kd.S_append_step (sliceS 35 (Kd.slice 3 (Kd.int .i64))) (w0 := w7) base (by rfl) (.tmp 8) (.tmp 11) 50 24 (.slice none 0 0) 24 rfl Try.underlying50 info24 rfl (by decide) (by omega) u out m' [.slice A10 m'.length c10] (fun k_ => okS k_ ∨ w.heap.size ≤ k_) (fun k_ => W.heap.size ≤ k_) rfl rfl ⟨_, rfl, HM7.out⟩ (fun k_ hk => ⟨.inr (Nat.le_trans HZ.out hk), fun e => by have := Kd.S_lt HO.out k_ e.symm; have := HZ.out; omega⟩) (fun k_ hk => .inr (Nat.le_trans (below_size HB7.out) hk)) (Kd.S_mono HO7.out (fun k_ hk => ⟨.inl hk.1, fun h9 => by have := hk.2; have := HZ.out; omega⟩)) (Below.refl _ _) (Nat.le_trans HBS.out (below_size HB7.out)) (by have := HL.out; omega) ?_
    intro v12 w9 ho9 hb9 hg9 hat9
    have HO9 := am_ ho9
    obtain ⟨A12, c12, e12⟩ := Kd.S_slice HO9.out
    subst e12
    have HB19 := am_ (blk_grown (blk_below H1.out HB7.out) hg9 (Kd.S_ne HO.out H1.out (Ne.symm hT1.2)))
    have HB29 := am_ (blk_grown (blk_below H2.out HB7.out) hg9 (Kd.S_ne HO.out H2.out (by decide)))
    have HK9 := am_ ((Kp.of_below HB7.out (fun k_ => k_ = B2 ∨ okS k_)).then_ (S2 := fun k_ => k_ = B2 ∨ okS k_) ⟨Kept.of_grown hg9 (Kept.refl _ _) (fun k_ hk => .inl (.inr (HS.out k_ hk))), hb9.mono (Nat.zero_le _)⟩ (fun _ hk => .inl hk))
    clear ho9 hb9 hg9 hat9
    refine hK.out _ _ ((blk_cell HB29.out 0).trans rfl) (fun hHeld => ?_)
    clear hK K
    refine norm_ (a' := ?_) ?_ ?_
    rotate_left
    · show Act.put _ (some 12) _ = _
      simp only [Act.put, List.setIfInBounds_toArray, List.set_cons_zero, List.set_cons_succ, i64_w, i32_w]
      rfl
    refine last_ (i := 5) (N := none) #[true, true, true, true, true, true] rfl rfl (by kernel_rfl) (by decide) (fun K hK => ?_)
    have hs9 : w9.cell? ⟨B2, 0, none⟩ = some u := (blk_cell HB29.out 0).trans rfl
    have hf9 := blk_frozen HB29.out 0
    refine skip_ (w1 := ?_) (by rfl) rfl ?_ ?_
    rotate_left
    · go_simp
      rfl
    refine hK.out _ _ ?_
    clear hK K
    refine done_ (by kernel_rfl) ?_
    go_wp2
    go_ret
    have ho9 := HO9.out
    rw [show (out ++ [m']).length = out.length + 1 by simp] at ho9
    exact ⟨rfl, _, blk_far HB19.out n12 _, blk_set HB29.out 0 _, Kd.S_set ho9 HB29.out (by decide) 0 _, HK9.out.setCell (.inl (.inl rfl)) _⟩

/-! ### impl_allSigns: function 109 (by hand) -/
def impl_allSigns.f (k : Nat) (a0 : Int) (a1 : List (List Int) → Option Bool) : Option (List (List (List Int))) := impl_eachSigns.f k a0 (impl_allSigns_1.step k a1) []
def impl_allSigns.Inv (w : World) (B1 B2 g : Nat) (b : Array Value) (out : List (List (List Int))) (W : World) (S : Nat → Prop) : Prop :=
  ∃ (u : Value) (okS : Nat → Prop), Below w.heap.size w W ∧ W.heap[B1]? = some (.cells #[.func (.func g) #[] b] 40 (0, 0)) ∧ W.heap[B2]? = some (.cells #[u] 50 (0, 0)) ∧ Kd.S (sliceS 35 (Kd.slice 3 (Kd.int .i64))) 24 W w.heap.size okS u out ∧ (∀ k, okS k → w.heap.size ≤ k ∧ k < W.heap.size) ∧ S = fun k => k < w.heap.size ∨ k = B1 ∨ k = B2 ∨ okS k
theorem impl_allSigns.fns (k : Nat) {w : World} {B1 B2 g : Nat} {b : Array Value} {p : List (List Int) → Option Bool} (h2 : w.heap.size ≤ B2) (hf : Fn1 (Kd.slice 35 (Kd.slice 3 (Kd.int .i64))) Value.bool Try.prog g b p w) :
    FnS (Kd.slice 35 (Kd.slice 3 (Kd.int .i64))) Value.bool Try.prog 172 #[.pointer (some ⟨B1, 0, none⟩), .pointer (some ⟨B2, 0, none⟩)] (impl_allSigns_1.step k p) (impl_allSigns.Inv w B1 B2 g b) where
  eg := enters_of Try.func172 (by kernel_rfl) rfl
  bd := by
    rintro s W S ⟨u, okS, hb, b1, b2, ho, hk, rfl⟩ k hk1
    rcases hk1 with hk1 | rfl | rfl | hk1
    · exact Nat.lt_of_lt_of_le hk1 hb.size
    · exact blk_lt b1
    · exact blk_lt b2
    · exact (hk k hk1).2
  st := by
    rintro s W S W' ⟨u, okS, hb, b1, b2, ho, hk, rfl⟩ h0 hs
    exact ⟨u, okS, ⟨h0.os.trans hb.os, h0.tape.trans hb.tape, h0.output.trans hb.output, Nat.le_trans hb.size h0.size, fun k hk => (hs k (.inl hk)).trans (hb.block k hk)⟩, (hs _ (.inr (.inl rfl))).trans b1, (hs _ (.inr (.inr (.inl rfl)))).trans b2, Kd.S_move ho (fun k hk => hs k (.inr (.inr (.inr hk)))), fun k h => ⟨(hk k h).1, Nat.lt_of_lt_of_le (hk k h).2 h0.size⟩, rfl⟩
  cl := by
    rintro s W S ⟨u, okS, hb, b1, b2, ho, hk, rfl⟩ x v hv s' r hp
    obtain ⟨A0, c0, e0, hc0, hr0⟩ := hv
    obtain rfl : v = .slice A0 x.length c0 := by simpa using e0
    refine (impl_allSigns_1.calls k A0 c0 x B1 B2 _ (by decide) g b p u s s' r w.heap.size okS W hb.size hr0 hc0 b1 b2 ho (hf.later hb) hp).mono ?_
    rintro e W' ⟨rfl, u', q1, q2, q3, q4⟩
    refine ⟨rfl, fun k => k < w.heap.size ∨ k = B1 ∨ k = B2 ∨ ((okS k ∨ W.heap.size ≤ k) ∧ w.heap.size ≤ k ∧ k < W'.heap.size), ⟨u', _, ?_, q1, q2, Kd.S_mono (Kd.S_bound q3) (fun k h => ⟨h.1, h.2.1, h.2.2.1⟩), fun k h => h.2, rfl⟩, q4.mono (fun k h => h.elim (fun h => .inr (.inr (.inl h))) (fun h => .inr (.inr (.inr h)))), fun k h => ?_⟩
    · exact hb.trans (q4.to_below hb.size (fun k h => h.elim (fun h => h ▸ h2) (fun h => (hk k h).1)))
    · rcases h with h | h | h | ⟨h | h, _⟩
      · exact .inl (.inl h)
      · exact .inl (.inr (.inl h))
      · exact .inl (.inr (.inr (.inl h)))
      · exact .inl (.inr (.inr (.inr h)))
      · exact .inr h
set_option maxHeartbeats 4000000 in
set_option maxRecDepth 100000 in
theorem impl_allSigns.calls (k : Nat) (a0 : Int) (g1 : Nat) (b1 : Array Value) (a1 : List (List Int) → Option Bool) (r : List (List (List Int))) (w : World) (hf1 : Fn1 (Kd.slice 35 (Kd.slice 3 (Kd.int .i64))) Value.bool Try.prog g1 b1 a1 w) (h : impl_allSigns.f k a0 a1 = some r) :
    Calls Try.prog 109 #[.int .i64 a0, .func (.func g1) #[] b1] w fun e w' => ∃ v0_ : Value, e = .returned v0_ ∧ Kd.S (sliceS 35 (Kd.slice 3 (Kd.int .i64))) 24 w' w.heap.size (fun _ => True) v0_ r ∧ Below w.heap.size w w' := by
  have HF := am_ (impl_allSigns.fns k (w := w) (B1 := w.heap.size) (B2 := w.heap.size + 1 + 1) (by omega) hf1)
  have HO := am_ h
  clear h hf1
  go_enter Try.func109, Try.ntmps109
  go_wp2_with fail
  refine (impl_eachSigns.calls k a0 _ _ _ _ HF.out [] r _ _ ⟨.slice (some ⟨w.heap.size + 1, 0, none⟩) 0 0, fun k => k = w.heap.size + 1, below_alloc (below_alloc (below_alloc (Below.refl _ _) _) _) _, blk_alloc (blk_alloc (blk_new _ _) _) _, blk_new' (by simp), ⟨fun _ => 0, R_empty (blk_alloc (blk_new' (by simp)) _) (by omega) rfl⟩, fun k hk => ⟨by omega, by simp; omega⟩, rfl⟩ HO.out).mono ?_
  rintro e w3 ⟨rfl, S', ⟨u, okS, h1, h2, h3, h4, h5, h6⟩, _, _⟩
  have H1 := am_ h1
  have H4 := am_ h4
  obtain ⟨A3, c3, e3⟩ := Kd.S_slice h4
  subst e3
  have hc1 : w3.cell? ⟨w.heap.size + 1 + 1, 0, none⟩ = some (.slice A3 r.length c3) := (blk_cell h3 0).trans rfl
  clear h1 h2 h3 h4 h5 h6
  go_wp2
  go_ret
  exact ⟨_, rfl, Kd.S_mono H4.out (fun _ _ => trivial), H1.out⟩

/-! ### impl_table: function 72 -/
mutual
def impl_table.l0 : Nat → Int → (Int → Int → Option Int) → List (List Int) → Int → Int → Option ((List (List Int)))
 | 0, _, _, _, _, _ => none
 | k + 1, x1, x2, x7, x13, x14 => if x14 < x13 then (if 0 ≤ x1 then (if (x1 : Int).toNat ≤ 35184372088832 then (if 0 ≤ x14 then (if x14 < (x7.length : Int) then ((some (x7.set (x14 : Int).toNat (List.replicate (x1 : Int).toNat 0) : List (List Int))).bind fun y107 => (impl_table.l1 k x1 x2 y107 x14 x13 x14 ((rd_L3 y107 x14).length : Int) 0)) else (none)) else (none)) else (none)) else (none)) else (some x7)
def impl_table.l1 : Nat → Int → (Int → Int → Option Int) → List (List Int) → Int → Int → Int → Int → Int → Option ((List (List Int)))
 | 0, _, _, _, _, _, _, _, _ => none
 | k + 1, x1, x2, x7, x8, x13, x14, x26, x27 => if x27 < x26 then (if 0 ≤ x8 then (if x8 < (x7.length : Int) then ((x2 x8 x27).bind fun t110 => (if 0 ≤ x27 then (if x27 < ((rd_L3 x7 x8).length : Int) then (impl_table.l1 k x1 x2 (x7.set (x8 : Int).toNat ((rd_L3 x7 x8).set (x27 : Int).toNat t110)) x8 x13 x14 x26 (wrap64 (x27 + 1))) else (none)) else (none))) else (none)) else (none)) else (impl_table.l0 k x1 x2 x7 x13 (wrap64 (x14 + 1)))
end
def impl_table.f (k : Nat) (a0 : Int) (a1 : Int) (a2 : (Int → Int → Option Int)) : Option ((List (List Int))) := if 0 ≤ a0 then (if (a0 : Int).toNat ≤ 11728124029610 then ((some (List.replicate (a0 : Int).toNat [] : List (List Int))).bind fun y101 => (impl_table.l0 k a1 a2 y101 (y101.length : Int) 0)) else (none)) else (none)
def impl_table.T9 : Bool × List (List Nat × List Nat) := (true, [([], []), ([], []), ([0, 1], [0, 1]), ([2], [2]), ([], []), ([], []), ([], []), ([], []), ([5, 6, 7], [5, 6, 7]), ([3, 4, 0, 1, 2, 3, 4, 5, 6, 7, 8], [3, 4]), ([9, 8, 8, 0, 1, 2, 3, 4, 5, 6, 7, 8], [8, 9])])
def impl_table.B9 : List Nat := [0, 0, 3, 7, 0, 0, 0, 0, 224, 511, 1023]
theorem impl_table.tab9 : rtab .any (opsOf Try.f72 9) = impl_table.T9 := by kernel_rfl
theorem impl_table.bits9 : waitsOk impl_table.T9.2 impl_table.B9 = true := by kernel_rfl
set_option maxHeartbeats 8000000 in
set_option maxRecDepth 100000 in
theorem impl_table.calls (k : Nat) (a0 : Int) (a1 : Int) (g2 : Nat) (b2 : Array Value) (a2 : (Int → Int → Option Int)) (r : List (List Int)) (w : World) (hf2 : Fn2 (Kd.int .i64) (Kd.int .i64) (Value.int .i64) Try.prog g2 b2 a2 w) (h : impl_table.f k a0 a1 a2 = some r) :
  Calls Try.prog 72 #[.int .i64 a0, .int .i64 a1, .func (.func g2) #[] b2] w fun e w' => ∃ v0_ : Value, e = .returned (v0_) ∧ Kd.S (Kd.slice 3 (Kd.int .i64)) 35 w' w.heap.size (fun _ => True) v0_ r ∧ Below w.heap.size w w' := by
 have HF2 := am_ hf2.cl
 have eg2 := hf2.eg
 clear hf2
 have HB := am_ (Below.refl w.heap.size w)
 have H : (if 0 ≤ a0 then (if (a0 : Int).toNat ≤ 11728124029610 then ((some (List.replicate (a0 : Int).toNat [] : List (List Int))).bind fun y101 => (impl_table.l0 k a1 a2 y101 (y101.length : Int) 0)) else (none)) else (none)) = some r := h
 clear h
 by_cases c4 : 0 ≤ a0
 ·rw [if_pos c4] at H
  have c4b0 := eq_true c4
  have c4b1 : decide (0 ≤ a0) = true := decide_eq_true c4
  clear c4
  by_cases c5 : (a0 : Int).toNat ≤ 11728124029610
  ·rw [if_pos c5] at H
   have c5b0 := eq_true c5
   have c5b1 : decide ((a0 : Int).toNat ≤ 11728124029610) = true := decide_eq_true c5
   clear c5
   obtain ⟨y101, hy101⟩ : ∃ y_ : List (List Int), y_ = (List.replicate (a0 : Int).toNat []) := ⟨_, rfl⟩
   replace H : (impl_table.l0 k a1 a2 y101 (y101.length : Int) 0) = some r := by first | (rw [hy101]; with_reducible exact H) | (have H2_ := (Option.bind_some _ _).symm.trans H; rw [hy101]; with_reducible exact H2_) | (have H2_ := (Option.bind_some _ _).symm.trans H; with_reducible exact H2_) | with_reducible exact H | (rw [hy101]; exact H) | exact H
   have Ny101 := am_ hy101
   clear hy101
   have H' := am_ H
   clear H
   go_enter Try.func72, Try.ntmps72
   go_wp2_with (first | ((with_reducible refine gate_dst (N := 11) rfl ?_); refine Kd.S_make (Kd.slice 3 (Kd.int .i64)) _ 35 rfl (N := 11) rfl 24 _ _ rfl a0 rfl rfl Try.underlying24 (.slice none 0 0) 24 info35 rfl (by decide) (by omega) [] (ok := fun _ => True) (okp := fun _ => True) ⟨_, rfl, Kd.R_nil _ _ _ _ _⟩ (fun _ hk => hk) trivial (of_decide_eq_true tc3_) (Nat.le_trans (Nat.mul_le_mul_right _ (of_decide_eq_true tc3_ : a0.toNat ≤ 11728124029610)) (by omega)) (Below.refl _ _) (Nat.le_refl _) ?_; intro v102 w6 ho7 hb hg_ hnew_; clear hg_ hnew_; (first | rw [← Ny101.out] at ho7 | (simp only [Int.reduceToNat] at ho7; rw [← Ny101.out] at ho7)); have n0_ := am_ (Kd.S_lower ho7 (below_size tc0_)); have n1_ := am_ (below_step tc0_ hb); clear HB; have HO103 := n0_; have HB := n1_; clear n0_ n1_; clear hb ho7; obtain ⟨Ao8, co8, eo8⟩ := Kd.S_slice HO103.out; subst eo8))
   go_loopg [14] k (fun kq v14 w' => ∃ (x7_1 : List (List Int)) (x14_1 : Int), v14 = .int .i64 x14_1 ∧ Aside0 (impl_table.l0 kq a1 a2 x7_1 (y101.length : Int) x14_1 = some r) ∧ Aside0 (kq ≤ k) ∧ Aside0 (Kd.S (Kd.slice 3 (Kd.int .i64)) 35 w' w.heap.size (fun _ => True) (.slice Ao8 y101.length co8) x7_1) ∧ Aside0 (Below w.heap.size w w'))
   case atStart => exact ⟨(y101), (0), tc7_, H', ⟨Nat.le_refl _⟩, ⟨by (with_reducible repeat (first | apply Kd.S_alloc | apply Kd.S_drewN | apply Kd.S_drew)); exact HO103.out⟩, ⟨by repeat (first | (with_reducible first | exact HB.out | apply below_alloc | apply pw_below_drewN | apply below_drew1) | exact HB.out)⟩⟩
   case round =>
    clear H'
    try clear p2
    try clear c4
    try clear c4b0
    try clear c4b1
    try clear c5
    try clear c5b0
    try clear c5b1
    try clear c7
    obtain ⟨x7_1, x14_1, rfl, HA, HK1, HO_7, HB⟩ := hrel
    have hl7_1 := (Kd.S_reads' HO_7.out).1
    rw [hl7_1] at HO_7
    (try simp only [hl7_1])
    cases gk with
    | zero => exact absurd HA.out (by simp [impl_table.l0])
    | succ k1 =>
     have H := HA.out
     clear HA
     simp only [impl_table.l0] at H
     by_cases c9 : x14_1 < (y101.length : Int)
     ·rw [if_pos c9] at H
      have c9b0 : decide (x14_1 < (y101.length : Int)) = true := decide_eq_true c9
      (try simp only [hl7_1] at c9b0)
      clear c9
      by_cases c10 : 0 ≤ a1
      ·rw [if_pos c10] at H
       have c10b0 := eq_true c10
       have c10b1 : decide (0 ≤ a1) = true := decide_eq_true c10
       clear c10
       by_cases c11 : (a1 : Int).toNat ≤ 35184372088832
       ·rw [if_pos c11] at H
        have c11b0 := eq_true c11
        have c11b1 : decide ((a1 : Int).toNat ≤ 35184372088832) = true := decide_eq_true c11
        clear c11
        obtain ⟨y104, hy104⟩ : ∃ y_ : List Int, y_ = (List.replicate (a1 : Int).toNat 0) := ⟨_, rfl⟩
        replace H : (if 0 ≤ x14_1 then (if x14_1 < (x7_1.length : Int) then ((some (x7_1.set (x14_1 : Int).toNat y104 : List (List Int))).bind fun y107 => (impl_table.l1 k1 a1 a2 y107 x14_1 (y101.length : Int) x14_1 ((rd_L3 y107 x14_1).length : Int) 0)) else (none)) else (none)) = some r := by first | (rw [hy104]; with_reducible exact H) | (have H2_ := (Option.bind_some _ _).symm.trans H; rw [hy104]; with_reducible exact H2_) | (have H2_ := (Option.bind_some _ _).symm.trans H; with_reducible exact H2_) | with_reducible exact H | (rw [hy104]; exact H) | exact H
        have Ny104 := am_ hy104
        clear hy104
        by_cases c12 : 0 ≤ x14_1
        ·rw [if_pos c12] at H
         have c12b0 : decide (0 ≤ x14_1) = true := decide_eq_true c12
         clear c12
         by_cases c13 : x14_1 < (x7_1.length : Int)
         ·rw [if_pos c13] at H
          have c13b0 : decide (x14_1 < (x7_1.length : Int)) = true := decide_eq_true c13
          (try simp only [hl7_1] at c13b0)
          clear c13
          obtain ⟨y107, hy107⟩ : ∃ y_ : List (List Int), y_ = (x7_1.set (x14_1 : Int).toNat y104) := ⟨_, rfl⟩
          replace H : (impl_table.l1 k1 a1 a2 y107 x14_1 (y101.length : Int) x14_1 ((rd_L3 y107 x14_1).length : Int) 0) = some r := by first | (rw [hy107]; with_reducible exact H) | (have H2_ := (Option.bind_some _ _).symm.trans H; rw [hy107]; with_reducible exact H2_) | (have H2_ := (Option.bind_some _ _).symm.trans H; with_reducible exact H2_) | with_reducible exact H | (rw [hy107]; exact H) | exact H
          have Ny107 := am_ hy107
          clear hy107
          have H' := am_ H
          clear H
          go_wp2_with (first | ((with_reducible refine gate_dst (N := 20) rfl ?_); refine Kd.R_make (Kd.int .i64) _ 3 rfl (N := 20) rfl 35 _ _ rfl a1 rfl rfl Try.underlying35 (.int .i64 0) 8 info3 rfl (by decide) (by omega) 0 (ok := fun _ => True) (okp := fun _ => True) rfl (fun _ hk => hk) trivial (of_decide_eq_true tc3_) (Nat.le_trans (Nat.mul_le_mul_right _ (of_decide_eq_true tc3_ : a1.toNat ≤ 35184372088832)) (by omega)) (Below.refl _ _) (Nat.le_refl _) ?_; intro v105 w15 ho16 hb hg_ hnew_; clear hg_ hnew_; (first | rw [← Ny104.out] at ho16 | (simp only [Int.reduceToNat] at ho16; rw [← Ny104.out] at ho16)); have n0_ := am_ (Kd.S_elder' (by (with_reducible repeat (first | apply Kd.S_alloc | apply Kd.S_drewN | apply Kd.S_drew)); exact HO_7.out) (Kd.R_base ho16) hb); have n1_ := am_ (Kd.R_lower ho16 (below_size tc0_)); have n2_ := am_ (below_step tc0_ hb); clear HO_7 HB; have HO_7 := n0_; have HO106 := n1_; have HB := n2_; clear n0_ n1_ n2_; clear hb ho16; have p14 : 0 ≤ (x14_1 : Int) := of_decide_eq_true tc3_; have q14 : (x14_1 : Int) < ((x7_1.length : Int) : Int) := of_decide_eq_true tc3_; obtain ⟨go14, co14, eo14, gb14, gl14, cl14, HG14⟩ := Kd.S_form HO_7.out (by omega); (first | cases eo14 | (injection eo14 with ea_ en_ ec_; (first | subst ea_ | (injection ea_ with ea_; subst ea_)); subst ec_; clear en_)); have GB14 := am_ gb14; have GG14 := am_ HG14; clear gb14 gl14 HG14; obtain ⟨_, ce14, hcl14, hM14, hcc14, hfr14, _, _⟩ := Kd.S_elem HO_7.out [] (x14_1 : Int) p14 q14; obtain ⟨ve14_0, rfl, ge14_0⟩ := hM14; have hx14_0 := hcc14 0 _ rfl; have hf14_0 := hfr14 0; (try simp only [show ((Kd.slice 3 (Kd.int .i64))).sz = 1 from rfl, Nat.mul_one, Nat.add_zero] at hx14_0); (try simp only [show ((Kd.slice 3 (Kd.int .i64))).sz = 1 from rfl, Nat.mul_one, Nat.add_zero] at hf14_0); (try clear hcl14 hcc14 hfr14 hM14); replace p14 := eq_true p14; replace q14 := eq_true q14; obtain ⟨Ao19, co19, eo19⟩ := Kd.R_slice HO106.out; subst eo19; have n_ := am_ (Kd.S_mono (ok' := (fun k_ => some k_ ≠ (.slice Ao19 y104.length co19 : Value).ownBlock)) HO_7.out (fun k_ hk => hk.2)); clear HO_7; have HO_7 := n_; clear n_; have HX17 := am_ (show Kd.S (Kd.slice 3 (Kd.int .i64)) 35 w15 w.heap.size (fun k_ => ((fun _ => True)) k_ ∧ ¬ ((fun k_ => some k_ = (.slice Ao19 y104.length co19 : Value).ownBlock)) k_) (.slice (some ⟨go14, 0, none⟩) x7_1.length co8) x7_1 from (by (with_reducible repeat (first | apply Kd.S_alloc | apply Kd.S_drewN | apply Kd.S_drew)); exact Kd.S_mono HO_7.out (fun k_ hk => ⟨trivial, fun e_ => hk e_⟩))); obtain ⟨oki17, ce17, hcl17, hM17, hcc17, hfr17, hoki17, hH17⟩ := Kd.S_elem HX17.out [] (x14_1 : Int) (of_decide_eq_true tc3_) (by have h_ : (x14_1 : Int) < ((x7_1.length : Int) : Int) := of_decide_eq_true tc3_; first | exact h_ | (have e_ := (Kd.S_reads' HO_7.out).1; omega) | simpa using h_); obtain ⟨ve17_0, rfl, ge17_0⟩ := hM17; have HP17 := Kd.S_seg hH17 (of_decide_eq_true tc3_) (by have h_ : (x14_1 : Int) < ((x7_1.length : Int) : Int) := of_decide_eq_true tc3_; first | exact h_ | (have e_ := (Kd.S_reads' HO_7.out).1; omega) | simpa using h_) (seg := [.slice Ao19 y104.length co19]) (j := 0) (show 1 ≤ 1 from (by decide)) (x' := y104) (Kd.M_row (Kd.R_mono (Kd.R_tight rfl (Kd.R_mono (ok' := fun k_ => ((fun _ => True)) k_ ∧ k_ ≠ go14) (Kd.R_apart' (HO106.out) (Kd.S_typed HO_7.out) (by decide)) (fun k_ hk => ⟨trivial, fun e_ => (hk.2) (by rw [e_]; rfl)⟩))) (fun _ h_ => Or.inr (h_)))) (fun _ hk => hk) (fun k_ hk_ => ((Kd.R_mono (ok' := fun k_ => ((fun _ => True)) k_ ∧ k_ ≠ go14) (Kd.R_apart' (HO106.out) (Kd.S_typed HO_7.out) (by decide)) (fun k_ hk => ⟨trivial, fun e_ => (hk.2) (by rw [e_]; rfl)⟩))).1 k_ hk_.symm); have hx17_0 := hcc17 0 _ rfl; (try simp only [show ((Kd.slice 3 (Kd.int .i64))).sz = 1 from rfl, Nat.mul_one, Nat.add_zero] at hx17_0); have hf17_0 := hfr17 0; (try simp only [show ((Kd.slice 3 (Kd.int .i64))).sz = 1 from rfl, Nat.mul_one, Nat.add_zero] at hf17_0); (try clear hcl17 hcc17 hfr17 hM17 hoki17 hH17); (try simp only [show ((Kd.slice 3 (Kd.int .i64))).sz = 1 from rfl, Nat.mul_one, Nat.add_zero] at HP17)) | ((with_reducible refine gate_store (t := 35) (p := 21) rfl ?_); refine store_event (t := 35) (p := 21) (v := ?vo_w18) (w1 := (w15.setCell ⟨go14, (x14_1 : Int).toNat, none⟩ (.slice Ao19 y104.length co19))) ?hg ?ho ?hn ?hr ?_; (case ho => rfl); (case hg => rfl); (case hn => rfl); (case hr => exact tc19_); intro w18 hw; have hg : w15.grownBy w18 (some go14) := (by rw [hw]; exact HP17.2); have hp_ : Kd.S (Kd.slice 3 (Kd.int .i64)) 35 w18 w.heap.size (fun _ => True) (.slice (some ⟨go14, 0, none⟩) x7_1.length co8) y107 := (by rw [hw, Ny107.out]; exact HP17.1); clear HP17; have n0_ := am_ (hp_); have n1_ := am_ ((by rw [hw]; exact below_set (HB.out) GB14.out : Below w.heap.size w w18)); clear HO_7 HB HO106; have HO_7 := n0_; have HB := n1_; clear n0_ n1_; clear hg hw hp_; have p108 : 0 ≤ (x14_1 : Int) := of_decide_eq_true tc3_; have q108 : x14_1 < (y107.length : Int) := (by have h_ : (x14_1 : Int) < ((x7_1.length : Int) : Int) := of_decide_eq_true tc3_; first | (have e_ := (Kd.S_reads' HO_7.out).1; omega) | simpa only [Ny107.out, List.length_set] using h_); have ql108 : ((x14_1 : Int) < ((x7_1.length : Int) : Int)) = True := eq_true (of_decide_eq_true tc3_); obtain ⟨ad108, A108_0, c108_0, e108, hx108_0, hl108_0, hi108_0⟩ := at_L3 (Kd.S_reads' HO_7.out).2.2 x14_1 p108 q108; obtain rfl : (⟨go14, 0, none⟩ : Addr) = ad108 := (by injection e108); obtain ⟨ce108, hce108, hMe108, hcc108⟩ := Kd.S_get HO_7.out [] x14_1 p108 (by first | exact q108 | exact of_decide_eq_true tc3_ | (have e_ := (Kd.S_reads' HO_7.out).1; omega)); obtain ⟨ve108_0, rfl, ge108_0⟩ := hMe108; have hv108_0 := hcc108 0 _ rfl; rw [Nat.add_zero, show ((Kd.slice 3 (Kd.int .i64))).sz = 1 from rfl, Nat.mul_one] at hv108_0; replace hv108_0 := Option.some.inj (hv108_0.symm.trans hx108_0); rw [hv108_0] at ge108_0; have HL108_0 := am_ (show Kd.R (Kd.int .i64) 3 _ _ _ _ (rd_L3 y107 x14_1) from ge108_0); clear hv108_0 ge108_0; have HX108_0 := am_ hx108_0; clear hcc108 hce108; (first | simp only [add_plain] at hx108_0 | simp only [add_at] at hx108_0 | simp only [Addr.add, Nat.zero_add] at hx108_0 | skip); have HR108_0 := am_ hi108_0; have HC108_0 := am_ hl108_0; clear hi108_0 hl108_0; replace p108 := eq_true p108; replace q108 := eq_true q108))
          go_loopg [27] k1 (fun kq v27 w' => ∃ (x7_2 : List (List Int)) (x27_2 : Int), v27 = .int .i64 x27_2 ∧ Aside0 (impl_table.l1 kq a1 a2 x7_2 x14_1 (y101.length : Int) x14_1 ((rd_L3 y107 x14_1).length : Int) x27_2 = some r) ∧ Aside0 (kq ≤ k1) ∧ Aside0 (Kd.S (Kd.slice 3 (Kd.int .i64)) 35 w' w.heap.size (fun _ => True) (.slice (some ⟨go14, 0, none⟩) x7_1.length co8) x7_2) ∧ Aside0 (Below w.heap.size w w'))
          case atStart => exact ⟨(y107), (0), tc7_, H', ⟨Nat.le_refl _⟩, ⟨by (try simp only [hl7_1]); (with_reducible repeat (first | apply Kd.S_alloc | apply Kd.S_drewN | apply Kd.S_drew)); exact HO_7.out⟩, ⟨by repeat (first | (with_reducible first | exact HB.out | apply below_alloc | apply pw_below_drewN | apply below_drew1) | exact HB.out)⟩⟩
          case round =>
           clear H'
           try clear c1
           try clear p1
           try clear q1
           try clear hx1
           try clear p2
           try clear c4
           try clear c4b0
           try clear c4b1
           try clear c5
           try clear c5b0
           try clear c5b1
           try clear c7
           try clear c9
           try clear c9b0
           try clear c10
           try clear c10b0
           try clear c10b1
           try clear p10
           try clear q10
           try clear hx10
           try clear c11
           try clear c11b0
           try clear c11b1
           try clear c12
           try clear c12b0
           try clear c13
           try clear c13b0
           try clear c14
           try clear p14
           try clear q14
           try clear hx14
           try clear hf14
           try clear c17
           try clear hx17
           try clear hf17
           try clear hx108_0
           try clear hx14_0
           try clear hx17_0
           try clear p108
           try clear p14
           try clear p2
           try clear q108
           try clear q14
           obtain ⟨x7_2, x27_2, rfl, HA, HK2, HO_7, HB⟩ := hrel
           have hl7_2 := (Kd.S_reads' HO_7.out).1
           rw [hl7_2] at HO_7
           (try simp only [hl7_2])
           cases gk with
           | zero => exact absurd HA.out (by simp [impl_table.l1])
           | succ k2 =>
            have H := HA.out
            clear HA
            simp only [impl_table.l1] at H
            by_cases c20 : x27_2 < ((rd_L3 y107 x14_1).length : Int)
            ·rw [if_pos c20] at H
             have c20b0 : decide (x27_2 < ((rd_L3 y107 x14_1).length : Int)) = true := decide_eq_true c20
             (try simp only [hl7_1, hl7_2] at c20b0)
             clear c20
             by_cases c21 : 0 ≤ x14_1
             ·rw [if_pos c21] at H
              have c21b0 : decide (0 ≤ x14_1) = true := decide_eq_true c21
              clear c21
              by_cases c22 : x14_1 < (x7_2.length : Int)
              ·rw [if_pos c22] at H
               have c22b0 : decide (x14_1 < (x7_2.length : Int)) = true := decide_eq_true c22
               (try simp only [hl7_1, hl7_2] at c22b0)
               clear c22
               replace H := Option.bind_eq_some_iff.mp H
               obtain ⟨t110, A230, H⟩ := H
               replace H : (if 0 ≤ x27_2 then (if x27_2 < ((rd_L3 x7_2 x14_1).length : Int) then (impl_table.l1 k2 a1 a2 (x7_2.set (x14_1 : Int).toNat ((rd_L3 x7_2 x14_1).set (x27_2 : Int).toNat t110)) x14_1 (y101.length : Int) x14_1 ((rd_L3 y107 x14_1).length : Int) (wrap64 (x27_2 + 1))) else (none)) else (none)) = some r := H
               have A23 := am_ A230
               clear A230
               by_cases c24 : 0 ≤ x27_2
               ·rw [if_pos c24] at H
                have c24b0 : decide (0 ≤ x27_2) = true := decide_eq_true c24
                clear c24
                by_cases c25 : x27_2 < ((rd_L3 x7_2 x14_1).length : Int)
                ·rw [if_pos c25] at H
                 have c25b0 : decide (x27_2 < ((rd_L3 x7_2 x14_1).length : Int)) = true := decide_eq_true c25
                 (try simp only [hl7_1, hl7_2] at c25b0)
                 clear c25
                 obtain ⟨y111, hy111⟩ : ∃ y_ : List Int, y_ = ((rd_L3 x7_2 x14_1).set (x27_2 : Int).toNat t110) := ⟨_, rfl⟩
                 replace H : (impl_table.l1 k2 a1 a2 (x7_2.set (x14_1 : Int).toNat y111) x14_1 (y101.length : Int) x14_1 ((rd_L3 y107 x14_1).length : Int) (wrap64 (x27_2 + 1))) = some r := by first | (rw [hy111]; with_reducible exact H) | (have H2_ := (Option.bind_some _ _).symm.trans H; rw [hy111]; with_reducible exact H2_) | (have H2_ := (Option.bind_some _ _).symm.trans H; with_reducible exact H2_) | with_reducible exact H | (rw [hy111]; exact H) | exact H
                 have Ny111 := am_ hy111
                 clear hy111
                 obtain ⟨y113, hy113⟩ : ∃ y_ : List (List Int), y_ = (x7_2.set (x14_1 : Int).toNat y111) := ⟨_, rfl⟩
                 replace H : (impl_table.l1 k2 a1 a2 y113 x14_1 (y101.length : Int) x14_1 ((rd_L3 y107 x14_1).length : Int) (wrap64 (x27_2 + 1))) = some r := by first | (rw [hy113]; with_reducible exact H) | (have H2_ := (Option.bind_some _ _).symm.trans H; rw [hy113]; with_reducible exact H2_) | (have H2_ := (Option.bind_some _ _).symm.trans H; with_reducible exact H2_) | with_reducible exact H | (rw [hy113]; exact H) | exact H
                 have Ny113 := am_ hy113
                 clear hy113
                 have H' := am_ H
                 clear H
                 try go_wp2
                 have n0_ := am_ (Kd.S_drew HO_7.out)
                 have n1_ := am_ (below_drew1 HB.out)
                 clear HO_7
                 clear HB
                 have HO_7 := n0_
                 have HB := n1_
                 clear n0_ n1_
                 have p109 : 0 ≤ (x14_1 : Int) := of_decide_eq_true tc3_
                 have q109 : x14_1 < (x7_2.length : Int) := of_decide_eq_true tc3_
                 obtain ⟨ad109, A109_0, c109_0, e109, hx109_0, hl109_0, hi109_0⟩ := at_L3 (Kd.S_reads' HO_7.out).2.2 x14_1 p109 q109
                 obtain rfl : (⟨go14, 0, none⟩ : Addr) = ad109 := (by injection e109)
                 obtain ⟨ce109, hce109, hMe109, hcc109⟩ := Kd.S_get HO_7.out [] x14_1 p109 (by first | exact q109 | exact of_decide_eq_true tc3_ | (have e_ := (Kd.S_reads' HO_7.out).1; omega))
                 obtain ⟨ve109_0, rfl, ge109_0⟩ := hMe109
                 have hv109_0 := hcc109 0 _ rfl
                 rw [Nat.add_zero, show ((Kd.slice 3 (Kd.int .i64))).sz = 1 from rfl, Nat.mul_one] at hv109_0
                 replace hv109_0 := Option.some.inj (hv109_0.symm.trans hx109_0)
                 rw [hv109_0] at ge109_0
                 have HL109_0 := am_ (show Kd.R (Kd.int .i64) 3 _ _ _ _ (rd_L3 x7_2 x14_1) from ge109_0)
                 clear hv109_0 ge109_0
                 have HX109_0 := am_ hx109_0
                 clear hcc109 hce109
                 (first | simp only [add_plain] at hx109_0 | simp only [add_at] at hx109_0 | simp only [Addr.add, Nat.zero_add] at hx109_0 | skip)
                 have HR109_0 := am_ hi109_0
                 have HC109_0 := am_ hl109_0
                 clear hi109_0 hl109_0
                 replace p109 := eq_true p109
                 replace q109 := eq_true q109
                 refine start_ (n := 11) (S := fun w' => w'.cell? ⟨go14, (x14_1).toNat, none⟩ = some (.slice A109_0 (rd_L3 x7_2 x14_1).length c109_0)) (ds := [10]) #[false, false, false, false, false, false, false, false, false, false, false] (by kernel_rfl) rfl rfl (hx109_0) (fun hHeld => ?_); refine with_tabW impl_table.tab9 impl_table.bits9 (fun HT_ HW_ => ?_)
                 generalize wr.drew = w27 at HO_7 HB HL109_0 HR109_0 HX109_0 hx109_0 hHeld ⊢
                 refine pure_ (i := 0) (N := some 30) (v := ?_) (a' := ?_) #[true, false, false, false, false, false, false, false, false, false, false] rfl rfl (any_of HT_.out (by kernel_rfl)) (fun _ _ _ h => h) (Or.inl ⟨by rfl, ?_⟩) ?_ ?_
                 rotate_left
                 ·intro w'
                  go_simp
                  with_reducible rfl
                 rotate_left
                 ·simp only [Act.put, List.setIfInBounds_toArray, List.set_cons_zero, List.set_cons_succ, i64_w, i32_w]
                  rfl
                 refine pure_ (i := 1) (N := some 31) (v := ?_) (a' := ?_) #[true, true, false, false, false, false, false, false, false, false, false] rfl rfl (any_of HT_.out (by kernel_rfl)) (fun _ _ _ h => h) (Or.inl ⟨by rfl, ?_⟩) ?_ ?_
                 rotate_left
                 ·intro w'
                  go_simp
                  with_reducible rfl
                 rotate_left
                 ·simp only [Act.put, List.setIfInBounds_toArray, List.set_cons_zero, List.set_cons_succ, i64_w, i32_w]
                  rfl
                 refine pure_ (i := 2) (N := some 32) (v := ?_) (a' := ?_) #[true, true, true, false, false, false, false, false, false, false, false] rfl rfl (any_of HT_.out (by kernel_rfl)) (fun _ _ _ h => h) (Or.inl ⟨by rfl, ?_⟩) ?_ ?_
                 rotate_left
                 ·intro w'
                  go_simp
                  with_reducible rfl
                 rotate_left
                 ·simp only [Act.put, List.setIfInBounds_toArray, List.set_cons_zero, List.set_cons_succ, i64_w, i32_w]
                  rfl
                 refine pure_ (i := 4) (N := some 34) (v := ?_) (a' := ?_) #[true, true, true, false, true, false, false, false, false, false, false] rfl rfl (any_of HT_.out (by kernel_rfl)) (fun _ _ _ h => h) (Or.inl ⟨by rfl, ?_⟩) ?_ ?_
                 rotate_left
                 ·intro w'
                  go_simp
                  with_reducible rfl
                 rotate_left
                 ·simp only [Act.put, List.setIfInBounds_toArray, List.set_cons_zero, List.set_cons_succ, i64_w, i32_w]
                  rfl
                 refine pure_ (i := 5) (N := some 35) (v := ?_) (a' := ?_) #[true, true, true, false, true, true, false, false, false, false, false] rfl rfl (any_of HT_.out (by kernel_rfl)) (fun _ _ _ h => h) (Or.inl ⟨by rfl, ?_⟩) ?_ ?_
                 rotate_left
                 ·intro w'
                  go_simp
                  with_reducible rfl
                 rotate_left
                 ·simp only [Act.put, List.setIfInBounds_toArray, List.set_cons_zero, List.set_cons_succ, i64_w, i32_w]
                  rfl
                 refine pure_ (i := 6) (N := some 36) (v := ?_) (a' := ?_) #[true, true, true, false, true, true, true, false, false, false, false] rfl rfl (any_of HT_.out (by kernel_rfl)) (fun _ _ _ h => h) (Or.inl ⟨by rfl, ?_⟩) ?_ ?_
                 rotate_left
                 ·intro w'
                  go_simp
                  with_reducible rfl
                 rotate_left
                 ·simp only [Act.put, List.setIfInBounds_toArray, List.set_cons_zero, List.set_cons_succ, i64_w, i32_w]
                  rfl
                 refine pure_ (i := 7) (N := some 37) (v := ?_) (a' := ?_) #[true, true, true, false, true, true, true, true, false, false, false] rfl rfl (any_of HT_.out (by kernel_rfl)) (fun _ _ _ h => h) (Or.inl ⟨by rfl, ?_⟩) ?_ ?_
                 rotate_left
                 ·intro w'
                  go_simp
                  with_reducible rfl
                 rotate_left
                 ·simp only [Act.put, List.setIfInBounds_toArray, List.set_cons_zero, List.set_cons_succ, i64_w, i32_w]
                  rfl
                 refine take_ (i := 3) (N := some 33) (v := ?_) (a' := ?_) #[true, true, true, true, true, true, true, true, false, false, false] rfl rfl (take_ofW HT_.out HW_.out (by kernel_rfl)) (fun _ _ _ h => h) (Or.inl ⟨by rfl, ?_⟩) hHeld ?_ ?_
                 rotate_left
                 ·intro w' s0
                  go_simp
                  with_reducible rfl
                 rotate_left
                 ·simp only [Act.put, List.setIfInBounds_toArray, List.set_cons_zero, List.set_cons_succ, i64_w, i32_w]
                  rfl
                 refine one_ (i := 8) (N := some 38) #[true, true, true, true, true, true, true, true, true, false, false] rfl rfl (one_of HT_.out (by kernel_rfl)) (by decide) (fun K hK => ?_)
                 refine goesF_ eg2 #[.int .i64 x14_1, .int .i64 x27_2] (by rfl) rfl rfl (by first | rfl | (simp [Act.eval]; done)) tc54_ ?_
                 refine (HF2.out _ ?side1 x14_1 _ K_int x27_2 _ K_int t110 A23.out).mono ?_
                 (case side1 => exact tc13_)
                 rintro e w28 ⟨rfl, hb⟩
                 have HS0_ := (hb.cell (World.block_lt_of_cell? _ _ (hHeld))).trans (hHeld)
                 refine ⟨_, rfl, ?_⟩
                 have n0_ := am_ (Kd.S_below (by (with_reducible repeat (first | apply Kd.S_alloc | apply Kd.S_drewN | apply Kd.S_drew)); exact HO_7.out) hb)
                 have n1_ := am_ (Kd.R_below (by (with_reducible repeat (first | apply Kd.R_alloc | apply Kd.R_drewN | apply Kd.R_drew)); exact HL109_0.out) hb)
                 have n2_ := am_ (Kd.C_below tc55_ hb)
                 have n3_ := am_ (pw_cell_below hb HX109_0.out)
                 have n4_ := am_ (below_step tc0_ hb)
                 clear HO_7
                 clear HL109_0
                 clear HR109_0
                 clear HX109_0
                 clear HB
                 have HO_7 := n0_
                 have HL109_0 := n1_
                 have HR109_0 := n2_
                 have HX109_0 := n3_
                 have HB := n4_
                 clear n0_ n1_ n2_ n3_ n4_
                 (try clear hb)
                 (try clear hb2)
                 (try clear hk)
                 (try clear hi)
                 have p26 : 0 ≤ (x27_2 : Int) := of_decide_eq_true tc3_
                 have q26 : (x27_2 : Int) < (((rd_L3 x7_2 x14_1).length : Int) : Int) := of_decide_eq_true tc3_
                 obtain ⟨go26, co26, eo26, gb26, gl26, cl26, HG26⟩ := Kd.R_form HL109_0.out (by omega)
                 (first | cases eo26 | (injection eo26 with ea_ en_ ec_; (first | subst ea_ | (injection ea_ with ea_; subst ea_)); subst ec_; clear en_))
                 have GB26 := am_ gb26
                 have GG26 := am_ HG26
                 clear gb26 gl26 HG26
                 obtain ⟨hx26_0, hf26_0⟩ := Kd.R_celln 0 HL109_0.out (x27_2 : Int) p26 q26
                 replace p26 := eq_true p26
                 replace q26 := eq_true q26
                 have hq29 : (x14_1 : Int) < (x7_2.length : Int) := (by have h_ : (x14_1 : Int) < ((x7_2.length : Int) : Int) := of_decide_eq_true tc3_; first | exact h_ | (have e_ := (Kd.S_reads' HO_7.out).1; omega) | simpa only [List.length_set, List.length_set] using h_)
                 obtain ⟨oki29, ce29, hcl29, hM29, hcc29, hok29, hbk29⟩ := Kd.S_borrow HO_7.out [] (x14_1 : Int) (of_decide_eq_true tc3_) hq29
                 obtain ⟨ve29_0, rfl, ge29_0⟩ := hM29
                 have hv29 := hcc29 0 _ rfl
                 rw [Nat.add_zero, show ((Kd.slice 3 (Kd.int .i64))).sz = 1 from rfl, Nat.mul_one] at hv29
                 replace hv29 := Option.some.inj (hv29.symm.trans HX109_0.out)
                 subst hv29
                 clear hcc29 hcl29
                 replace ge29_0 := (show Kd.R (Kd.int .i64) 3 _ _ _ _ (rd_L3 x7_2 x14_1) from ge29_0)
                 have HP29 := Kd.R_putg ge29_0 (x27_2 : Int) t110
                 rw [← Ny111.out] at HP29
                 have HS29 := hbk29 HP29.2 (fun k_ e_ => by injection e_ with e_; subst e_; exact ge29_0.1 _ rfl) (x' := y111) (Kd.M_row HP29.1)
                 rw [← Ny113.out] at HS29
                 have HQ29 := am_ HS29
                 clear HP29 HS29 hbk29 hok29
                 refine hK.out _ _ (HS0_) (fun hHeld => ?_)
                 clear hK K
                 refine norm_ (a' := ?_) ?_ ?_
                 rotate_left
                 ·show Act.put _ (some 38) _ = _
                  simp only [Act.put, List.setIfInBounds_toArray, List.set_cons_zero, List.set_cons_succ, i64_w, i32_w]
                  rfl
                 refine pure_ (i := 9) (N := some 39) (v := ?_) (a' := ?_) #[true, true, true, true, true, true, true, true, true, true, false] rfl rfl (any_of HT_.out (by kernel_rfl)) (fun _ _ _ h => h) (Or.inl ⟨by rfl, ?_⟩) ?_ ?_
                 rotate_left
                 ·intro w'
                  go_simp
                  with_reducible rfl
                 rotate_left
                 ·simp only [Act.put, List.setIfInBounds_toArray, List.set_cons_zero, List.set_cons_succ, i64_w, i32_w]
                  rfl
                 refine last_ (i := 10) (N := none) #[true, true, true, true, true, true, true, true, true, true, true] rfl rfl (one_of HT_.out (by kernel_rfl)) (by decide) (fun K hK => ?_)
                 refine skip_ (w1 := ?_) (by rfl) rfl ?_ ?_
                 rotate_left
                 ·go_simp
                  rfl
                 refine hK.out _ _ ?_
                 clear hK K
                 refine done_ (done_of HT_.out (by kernel_rfl)) ?_
                 try go_wp2
                 (try simp only [← hl7_2])
                 go_roundg k2
                 case measure => have := HK1.out; have := HK2.out; omega
                 case rel => exact ⟨(y113), (wrap64 (x27_2 + 1)), tc7_, H', ⟨by have := HK1.out; have := HK2.out; omega⟩, ⟨by (try simp only [hl7_1]); (try simp only [hl7_2]); (with_reducible repeat (first | apply Kd.S_alloc | apply Kd.S_drewN | apply Kd.S_drew)); exact HQ29.out⟩, ⟨by repeat (first | (with_reducible first | exact HB.out | apply below_alloc | apply pw_below_drewN | apply below_drew1 | refine below_set ?_ GB26.out) | exact HB.out)⟩⟩
                ·rw [if_neg c25] at H
                 exact absurd H (by simp)
               ·rw [if_neg c24] at H
                exact absurd H (by simp)
              ·rw [if_neg c22] at H
               exact absurd H (by simp)
             ·rw [if_neg c21] at H
              exact absurd H (by simp)
            ·rw [if_neg c20] at H
             have c20b0 : decide (x27_2 < ((rd_L3 y107 x14_1).length : Int)) = false := decide_eq_false c20
             (try simp only [hl7_1, hl7_2] at c20b0)
             clear c20
             have H' := am_ H
             clear H
             go_wp2
             (try simp only [← hl7_1, ← hl7_2])
             go_roundg k2
             case measure => have := HK1.out; have := HK2.out; omega
             case rel => exact ⟨(x7_2), (wrap64 (x14_1 + 1)), tc7_, H', ⟨by have := HK1.out; have := HK2.out; omega⟩, ⟨by (try simp only [hl7_1]); (try simp only [hl7_2]); (with_reducible repeat (first | apply Kd.S_alloc | apply Kd.S_drewN | apply Kd.S_drew)); exact HO_7.out⟩, ⟨by repeat (first | (with_reducible first | exact HB.out | apply below_alloc | apply pw_below_drewN | apply below_drew1) | exact HB.out)⟩⟩
         ·rw [if_neg c13] at H
          exact absurd H (by simp)
        ·rw [if_neg c12] at H
         exact absurd H (by simp)
       ·rw [if_neg c11] at H
        exact absurd H (by simp)
      ·rw [if_neg c10] at H
       exact absurd H (by simp)
     ·rw [if_neg c9] at H
      have c9b0 : decide (x14_1 < (y101.length : Int)) = false := decide_eq_false c9
      (try simp only [hl7_1] at c9b0)
      clear c9
      obtain rfl := Option.some.inj H
      go_wp2
      go_ret
      exact ⟨_, by first | rfl | (simp [errW_none, errW_some] <;> rfl) | (simp [*, errW_none, errW_some] <;> rfl), by (with_reducible repeat (first | apply Kd.S_alloc | apply Kd.S_drewN | apply Kd.S_drew)); exact HO_7.out, by repeat (first | (with_reducible first | exact HB.out | apply below_alloc | apply pw_below_drewN | apply below_drew1) | exact HB.out)⟩
  ·rw [if_neg c5] at H
   exact absurd H (by simp)
 ·rw [if_neg c4] at H
  exact absurd H (by simp)

/-! ### impl_mirrored_1: function 170 -/
def impl_mirrored_1.f (a0 : Int) (a1 : Int) (l2_0 : List (List Int)) (a3_0 : Int) : Option (Int) := if 0 ≤ a0 then (if a0 < (l2_0.length : Int) then (if 0 ≤ (wrap64 ((wrap64 (a3_0 - 1)) - a1)) then (if (wrap64 ((wrap64 (a3_0 - 1)) - a1)) < ((rd_L3 l2_0 a0).length : Int) then (some (rd (rd_L3 l2_0 a0) (wrap64 ((wrap64 (a3_0 - 1)) - a1)))) else (none)) else (none)) else (none)) else (none)
set_option maxHeartbeats 8000000 in
set_option maxRecDepth 100000 in
theorem impl_mirrored_1.calls (a0 : Int) (a1 : Int) (B2 : Nat) (A2_0 : Option Addr) (c2_0 : Nat) (l2_0 : List (List Int)) (B3 : Nat) (a3_0 : Int) (r : Int) (w : World) (hb2 : w.heap[B2]? = some (.cells #[.slice A2_0 l2_0.length c2_0] 24 (0, 0))) (hr2_0 : Kd.C (Kd.slice 3 (Kd.int .i64)) w A2_0 l2_0.length l2_0) (hc2_0 : l2_0.length ≤ c2_0) (hb3 : w.heap[B3]? = some (.cells #[.int .i64 a3_0] 3 (0, 0))) (h : impl_mirrored_1.f a0 a1 l2_0 a3_0 = some r) :
  Calls Try.prog 170 #[.int .i64 a0, .int .i64 a1, .pointer (some ⟨B2, 0, none⟩), .pointer (some ⟨B3, 0, none⟩)] w fun e w' => e = .returned (.int .i64 r) ∧ Drawn0 w w' := by
 have HR2_0 := am_ hr2_0
 have HC2_0 := am_ hc2_0
 clear hr2_0 hc2_0
 have BK62 := am_ hb2
 clear hb2
 have BK63 := am_ hb3
 clear hb3
 have H : (if 0 ≤ a0 then (if a0 < (l2_0.length : Int) then (if 0 ≤ (wrap64 ((wrap64 (a3_0 - 1)) - a1)) then (if (wrap64 ((wrap64 (a3_0 - 1)) - a1)) < ((rd_L3 l2_0 a0).length : Int) then (some (rd (rd_L3 l2_0 a0) (wrap64 ((wrap64 (a3_0 - 1)) - a1)))) else (none)) else (none)) else (none)) else (none)) = some r := h
 clear h
 by_cases c5 : 0 ≤ a0
 ·rw [if_pos c5] at H
  have c5b0 : decide (0 ≤ a0) = true := decide_eq_true c5
  clear c5
  by_cases c6 : a0 < (l2_0.length : Int)
  ·rw [if_pos c6] at H
   have c6b0 : decide (a0 < (l2_0.length : Int)) = true := decide_eq_true c6
   clear c6
   obtain ⟨ji7, hji7⟩ : ∃ j_ : Int, (wrap64 ((wrap64 (a3_0 - 1)) - a1)) = j_ := ⟨_, rfl⟩
   replace H : (if 0 ≤ (ji7) then (if (ji7) < ((rd_L3 l2_0 a0).length : Int) then (some (rd (rd_L3 l2_0 a0) (ji7))) else (none)) else (none)) = some r := by first | (rw [hji7] at H; exact H) | (simp only [hji7] at H ⊢; exact H)
   have hji7w : (IntKind.i64.wrap ((wrap64 (a3_0 - 1)) - a1)) = ji7 := (i64_w _).trans hji7
   by_cases c8 : 0 ≤ (ji7)
   ·rw [if_pos c8] at H
    have c8b0 : decide (0 ≤ (ji7)) = true := decide_eq_true c8
    clear c8
    by_cases c9 : (ji7) < ((rd_L3 l2_0 a0).length : Int)
    ·rw [if_pos c9] at H
     have c9b0 : decide ((ji7) < ((rd_L3 l2_0 a0).length : Int)) = true := decide_eq_true c9
     clear c9
     obtain rfl := Option.some.inj H
     have hcz10_0 : w.cell? ⟨B2, 0, none⟩ = some (.slice A2_0 l2_0.length c2_0) := (blk_cell BK62.out 0).trans rfl
     have hfz10_0 := blk_frozen BK62.out 0
     have p101 : 0 ≤ (a0 : Int) := of_decide_eq_true tc3_
     have q101 : a0 < (l2_0.length : Int) := of_decide_eq_true tc3_
     obtain ⟨ad101, A101_0, c101_0, e101, hx101_0, hl101_0, hi101_0⟩ := at_L3 HR2_0.out a0 p101 q101
     cases e101
     have HR101_0 := am_ hi101_0
     have HC101_0 := am_ hl101_0
     clear hi101_0 hl101_0
     replace p101 := eq_true p101
     replace q101 := eq_true q101
     have hcz11_0 : w.cell? ⟨B3, 0, none⟩ = some (.int .i64 a3_0) := (blk_cell BK63.out 0).trans rfl
     have hfz11_0 := blk_frozen BK63.out 0
     have p102 : 0 ≤ ((ji7) : Int) := of_decide_eq_true tc3_
     have q102 : (ji7) < ((rd_L3 l2_0 a0).length : Int) := of_decide_eq_true tc3_
     obtain ⟨ad102, e102, hx102_0⟩ := Kd.at_int HR101_0.out (ji7) p102 q102
     cases e102
     replace p102 := eq_true p102
     replace q102 := eq_true q102
     go_enter Try.func170, Try.ntmps170
     go_wp2
     repeat (go_quiet (fail); try go_wp2)
     go_ret
     exact ⟨by first | rfl | (simp; done) | (simp only [← hji7] <;> (first | rfl | simp)) | (simp [*]; done), by repeat (first | exact Drawn0.refl _ | apply Drawn0.step)⟩
    ·rw [if_neg c9] at H
     exact absurd H (by simp)
   ·rw [if_neg c8] at H
    exact absurd H (by simp)
  ·rw [if_neg c6] at H
   exact absurd H (by simp)
 ·rw [if_neg c5] at H
  exact absurd H (by simp)

/-! ### impl_mirrored: function 104 -/
def impl_mirrored.f (k : Nat) (l0 : List (List Int)) : Option ((List (List Int))) := (impl_table.f k (l0.length : Int) (l0.length : Int) (fun x0_ x1_ => impl_mirrored_1.f x0_ x1_ l0 (l0.length : Int))).bind fun t103 => (some t103)
set_option maxHeartbeats 8000000 in
set_option maxRecDepth 100000 in
theorem impl_mirrored.calls (k : Nat) (A0 : Option Addr) (c0 : Nat) (l0 : List (List Int)) (r : List (List Int)) (w : World) (hr0 : Kd.C (Kd.slice 3 (Kd.int .i64)) w A0 l0.length l0) (hc0 : l0.length ≤ c0) (h : impl_mirrored.f k l0 = some r) :
  Calls Try.prog 104 #[.slice A0 l0.length c0] w fun e w' => ∃ v0_ : Value, e = .returned (v0_) ∧ Kd.S (Kd.slice 3 (Kd.int .i64)) 35 w' w.heap.size (fun _ => True) v0_ r ∧ Below w.heap.size w w' := by
 have HR0 := am_ hr0
 have HC0 := am_ hc0
 clear hr0 hc0
 have HB := am_ (Below.refl w.heap.size w)
 have H : ((impl_table.f k (l0.length : Int) (l0.length : Int) (fun x0_ x1_ => impl_mirrored_1.f x0_ x1_ l0 (l0.length : Int))).bind fun t103 => (some t103)) = some r := h
 clear h
 replace H := Option.bind_eq_some_iff.mp H
 obtain ⟨t103, A20, H⟩ := H
 replace H : (some t103) = some r := H
 have A2 := am_ A20
 clear A20
 obtain rfl := Option.some.inj H
 go_enter Try.func104, Try.ntmps104
 go_wp2_with (first | ((with_reducible refine gate_dst (N := 1) rfl ?_); refine box_event ?hg (N := 1) ?hd (cs := #[.slice A0 l0.length c0]) (t := 24) ?hr ?_; (case hd => rfl); (case hg => rfl); (case hr => exact tc19_); intro gb101 hg w3 hbox hb; have n0_ := am_ (below_step tc0_ hb); have n1_ := am_ (hbox); have n2_ := am_ ((by rw [hg]; exact (below_size tc0_) : w.heap.size ≤ gb101)); have n3_ := am_ ((by rw [hg]; exact (below_size tc0_) : w.heap.size ≤ gb101)); clear HB; have HB := n0_; have BK101 := n1_; have GW101 := n2_; have GE101 := n3_; clear n0_ n1_ n2_ n3_; clear hb hbox hg; have hcz4_0 : w3.cell? ⟨gb101, 0, none⟩ = some (.slice A0 l0.length c0) := (blk_cell BK101.out 0).trans rfl; have hfz4_0 := blk_frozen BK101.out 0) | ((with_reducible refine gate_dst (N := 3) rfl ?_); refine box_event ?hg (N := 3) ?hd (cs := #[.int .i64 0]) (t := 3) ?hr ?_; (case hd => rfl); (case hg => rfl); (case hr => exact tc19_); intro gb102 hg w5 hbox hb; have n0_ := am_ (blk_below (g := gb101) (o := .cells #[.slice A0 l0.length c0] 24 (0, 0)) tc2_ hb); have n1_ := am_ (below_step tc6_ hb); have n2_ := am_ (hbox); have n3_ := am_ ((by rw [hg]; exact (below_size tc6_) : w.heap.size ≤ gb102)); have n4_ := am_ ((by rw [hg]; exact (below_size tc6_) : w.heap.size ≤ gb102)); have n5_ := am_ ((by rw [hg]; exact Nat.ne_of_lt (blk_lt (g := gb101) (o := .cells #[.slice A0 l0.length c0] 24 (0, 0)) tc2_) : gb101 ≠ gb102)); have n6_ := am_ ((by rw [hg]; exact Nat.ne_of_gt (blk_lt (g := gb101) (o := .cells #[.slice A0 l0.length c0] 24 (0, 0)) tc2_) : gb102 ≠ gb101)); clear BK101 HB; have BK101 := n0_; have HB := n1_; have BK102 := n2_; have GW102 := n3_; have GE102 := n4_; have NB101_102 := n5_; have NB102_101 := n6_; clear n0_ n1_ n2_ n3_ n4_ n5_ n6_; clear hb hbox hg; have hnb6 := NB102_101.out; have hnc6 := NB101_102.out; have hcz7_0 : w5.cell? ⟨gb102, 0, none⟩ = some (.int .i64 0) := (blk_cell BK102.out 0).trans rfl; have hfz7_0 := blk_frozen BK102.out 0) | ((with_reducible refine gate_callee (f := 72) rfl ?_); refine goesL_ (some 9) rfl rfl Try.func72 (by kernel_rfl) rfl #[.int .i64 (l0.length : Int), .int .i64 (l0.length : Int), .func (.func 170) #[] #[.pointer (some ⟨gb101, 0, none⟩), .pointer (some ⟨gb102, 0, none⟩)]] rfl tc1_ ?_; (with_reducible refine (impl_table.calls k (l0.length : Int) (l0.length : Int) _ _ (fun x0_ x1_ => impl_mirrored_1.f x0_ x1_ l0 (l0.length : Int)) t103 _ ?side1 A2.out).mono ?_); (case side1 => refine ⟨enters_of Try.func170 (by kernel_rfl) rfl, fun W_ hW_ x0_ v0_ hK0_ x1_ v1_ hK1_ r_ hr_ => ?_⟩; cases (show v0_ = .int .i64 x0_ from (by simpa [Kd.int, Kd.bool, Kd.string, Kd.scalar] using hK0_)); cases (show v1_ = .int .i64 x1_ from (by simpa [Kd.int, Kd.bool, Kd.string, Kd.scalar] using hK1_)); refine (impl_mirrored_1.calls x0_ x1_ _ A0 c0 l0 _ (l0.length : Int) r_ W_ ?cb1 ?cb2 ?cb3 ?cb4 hr_).mono ?_; (case cb1 => exact blk_below tc40_ hW_); (case cb2 => refine Kd.C_below ?_ hW_; exact Kd.C_below HR0.out tc26_); (case cb3 => exact HC0.out); (case cb4 => exact blk_below tc30_ hW_); exact fun _ _ h_ => ⟨h_.1, h_.2.below⟩); rintro e w8 ⟨v104, rfl, ho0, hb⟩; refine ⟨_, rfl, ?_⟩; have n0_ := am_ (Kd.S_lower (Kd.S_newB ho0 (g := gb102) (o := .cells #[.int .i64 (l0.length : Int)] 3 (0, 0)) tc30_) (below_size tc26_)); have n1_ := am_ (blk_below (g := gb101) (o := .cells #[.slice A0 l0.length c0] 24 (0, 0)) tc40_ hb); have n2_ := am_ (blk_below (g := gb102) (o := .cells #[.int .i64 (l0.length : Int)] 3 (0, 0)) tc30_ hb); have n3_ := am_ (below_step tc26_ hb); clear BK101 BK102 HB; have HO105 := n0_; have BK101 := n1_; have BK102 := n2_; have HB := n3_; clear n0_ n1_ n2_ n3_; (try clear hb ho0)))
 go_ret
 exact ⟨_, by first | rfl | (simp [errW_none, errW_some] <;> rfl) | (simp [*, errW_none, errW_some] <;> rfl), by (with_reducible repeat (first | apply Kd.S_alloc | apply Kd.S_drewN | apply Kd.S_drew)); exact Kd.S_mono HO105.out (fun _ hk => trivial), by repeat (first | (with_reducible first | exact HB.out | apply below_alloc | apply pw_below_drewN | apply below_drew1 | refine below_set ?_ GE101.out | refine below_set ?_ GE102.out) | exact HB.out)⟩

end Go.Proofs.Ytkbehdgneojdbaa.X
