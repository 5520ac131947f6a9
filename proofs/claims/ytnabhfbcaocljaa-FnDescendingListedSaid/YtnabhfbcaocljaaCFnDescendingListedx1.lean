-- Written by a program of this session (wip/xprint.py) that drives the kit's print; the contracts of what it does not take are this session's own.
import Derived.Test.YtnabhfbcaocljaaCFnDescendingListedx0
namespace Go.Proofs.Ytnabhfbcaocljaa.X
open Go.RowKit Go.Proofs.YtnabhfbcaocljaaW.PrintWords Go.Proofs.YtnabhfbcaocljaaW.PrintLast Go.Proofs.YtnabhfbcaocljaaW.PrintMore
set_option maxHeartbeats 8000000
set_option maxRecDepth 100000
attribute [local go_sem] max2_int min2_int max_two min_two max_three min_three max_four min_four   -- for this text's walks alone
set_option linter.unusedVariables false
set_option linter.unusedSimpArgs false

/-! ### at_1: function 0 -/
/-! ### What is asked of function values, and plain words -/
/-- A function value of one parameter that answers as p says, wherever memory has only grown. -/
structure Fn1 {α ρ : Type} (d : Kd α) (enc : ρ → Value) (P : Program) (g : Nat) (lb : Array Value) (p : α → Option ρ) (w : World) : Prop where
 eg : ∀ args w, (callFunc g args).run P w = .ok (.enter g args) w
 cl : ∀ W, Below w.heap.size w W → ∀ x v, d.K W x [v] → ∀ r, p x = some r → Calls P g (#[v] ++ lb) W fun e W' => e = .returned (enc r) ∧ Below W.heap.size W W'
/-- .. of two. -/
structure Fn2 {α β ρ : Type} (d : Kd α) (d2 : Kd β) (enc : ρ → Value) (P : Program) (g : Nat) (lb : Array Value) (p : α → β → Option ρ) (w : World) : Prop where
 eg : ∀ args w, (callFunc g args).run P w = .ok (.enter g args) w
 cl : ∀ W, Below w.heap.size w W → ∀ x v, d.K W x [v] → ∀ y u, d2.K W y [u] → ∀ r, p x y = some r → Calls P g (#[v, u] ++ lb) W fun e W' => e = .returned (enc r) ∧ Below W.heap.size W W'
theorem Fn1.later {α ρ : Type} {d : Kd α} {enc : ρ → Value} {P : Program} {g : Nat} {lb : Array Value} {p : α → Option ρ} {w W : World} (h : Fn1 d enc P g lb p w) (hb : Below w.heap.size w W) : Fn1 d enc P g lb p W :=
 ⟨h.eg, fun W' hb' => h.cl W' (hb.trans (hb'.mono hb.size))⟩
theorem Fn2.later {α β ρ : Type} {d : Kd α} {d2 : Kd β} {enc : ρ → Value} {P : Program} {g : Nat} {lb : Array Value} {p : α → β → Option ρ} {w W : World} (h : Fn2 d d2 enc P g lb p w) (hb : Below w.heap.size w W) : Fn2 d d2 enc P g lb p W :=
 ⟨h.eg, fun W' hb' => h.cl W' (hb.trans (hb'.mono hb.size))⟩
theorem K_int {k : IntKind} {w : World} {x : Int} : (Kd.int k).K w x [.int k x] := rfl
theorem K_slice {α : Type} {e : Nat} {d : Kd α} {w : World} {xs : List α} {A : Option Addr} {c : Nat} (h1 : xs.length ≤ c) (h2 : d.C w A xs.length xs) : (Kd.slice e d).K w xs [.slice A xs.length c] := ⟨A, c, rfl, h1, h2⟩
/-- A call of a function value that lies in a slot, as one step of a region that draws. -/
theorem goesF_ {P : Program} {ops : Array Oper} {Q : Exit → Act → World → Prop} {oi : Oper} {N : Option Tmp} {a : Act} {w : World} {K : Act → World → Prop} {g : Nat} {lb : Array Value} {fo : Operand} {aa : Array Operand} {ts : Array TypeId} (eg : ∀ args w, (callFunc g args).run P w = .ok (.enter g args) w) (args : Array Value)
  (hw : Region.wanted oi (yielded ops a.tmps) = true) (hN : oi.dst = N) (hop : oi.op = .call { callee := .value fo, args := aa, argTypes := ts }) (hf : a.eval fo = .func (.func g) #[] lb) (hargs : aa.map a.eval = args)
  (h : Calls P g (args ++ lb) w fun e w' => ∃ v, e = .returned v ∧ K (a.put N v) w') : if Region.wanted oi (yielded ops a.tmps) = true then Oper.wp P oi a w K Q else K (a.put N undef) w := by
 refine call_ g (args ++ lb) hw hN ?_ h; have he := eg (args ++ lb) w; unfold execOp
 simp [hop, resolve, Deferred.ofValue, invoke, hargs, he, hf]

/-! ### at_2: function 0 -/
section
variable {α : Type} {d : Kd α} {e : Nat} {w0 w w1 : World} {lo hi lo' hi' : Nat} {v : Value} {x : List α} {S : Nat → Prop}
/-- A row of this call's own whose blocks lie between two sizes of the heap. -/
def ObS (d : Kd α) (e : Nat) (w0 w : World) (lo hi : Nat) (v : Value) (x : List α) : Prop := hi ≤ w.heap.size ∧ Kd.S d e w w0.heap.size (fun k => lo ≤ k ∧ k < hi) v x
def ObR (d : Kd α) (e : Nat) (w0 w : World) (lo hi : Nat) (v : Value) (x : List α) : Prop := hi ≤ w.heap.size ∧ d.R e w w0.heap.size (fun k => lo ≤ k ∧ k < hi) v x
theorem ObS.later (h : ObS d e w0 w lo hi v x) (hb : Below w.heap.size w w1) : ObS d e w0 w1 lo hi v x := ⟨Nat.le_trans h.1 hb.size, Kd.S_below h.2 hb⟩
theorem ObR.later (h : ObR d e w0 w lo hi v x) (hb : Below w.heap.size w w1) : ObR d e w0 w1 lo hi v x := ⟨Nat.le_trans h.1 hb.size, Kd.R_below h.2 hb⟩
end
/-! ### at_3: function 0 -/
section
variable {α : Type} {d : Kd α} {e : Nat} {w0 w w1 : World} {A : Option Addr} {n c : Nat} {l : List α} {x : α} {S : Nat → Prop}
/-- An empty row, just made. -/
theorem R_empty {g base : Nat} {ok : Nat → Prop} (hg : w.heap[g]? = some (.cells #[] e (0, 0))) (hb : base ≤ g) (hok : ok g := by trivial) : d.R e w base ok (.slice (some ⟨g, 0, none⟩) 0 0) [] :=
  ⟨fun k hk => by (have e : g = k := by simpa [Value.ownBlock] using hk); exact e ▸ hok, [], ⟨by simp, .inr ⟨g, 0, #[], rfl, hb, hg, Nat.le_refl _, by unfold maxLen; omega, by simp, by simp⟩⟩, Reps.none _ _⟩
theorem blk_new' {o : Obj} {n : Nat} (h : w.heap.size = n) : (w.alloc o).heap[n]? = some o := h ▸ blk_new w o
theorem cell_of_below {a : Addr} {v : Value} (hb : Below w.heap.size w w1) (h : w.cell? a = some v) : w1.cell? a = some v := (hb.cell (World.block_lt_of_cell? _ _ h)).trans h
/-- A row whose cells have just been copied into a new block. -/
theorem N_grown {W : World} {ok : Nat → Prop} {v1 : Value} {xs : List α} {inner : List Value} (h : Reps (fun x c => Kd.FK d W ok x c) d.sz xs inner) (hown : w1.ownsRow W.heap.size e d.sz v1 xs.length inner) (hg : W.grownBy w1 none) :
    Kd.N d e w1 W.heap.size (fun k => ok k ∨ W.heap.size ≤ k) v1 xs := by
  refine ⟨fun k hk => .inr (own_base hown k hk), Kd.chunks d.sz xs.length inner, Kd.chunks_length _ _ _, ⟨fun k hk => hk.symm, inner, by rw [Kd.chunks_length]; exact hown, Kd.reps_raw h (fun x c hp => ⟨d.K_len (Kd.FK_now hp), d.K_one (Kd.FK_now hp)⟩)⟩, fun j x c hx hc => ?_⟩
  rw [Kd.chunks_get hc]
  refine Kd.FK_mono (Kd.FK_step (Kd.FK_bound (h.2 j x hx)) (fun k hk hlt => hg.block k hlt (by simp))) (fun k hk => ⟨.inl hk.1, fun he => ?_⟩)
  have := own_base hown k he.symm
  have := hk.2
  omega
/-- append onto a row that has no room left: a new row, the old one is only read. -/
theorem V_push_step {P : Program} {ops : Array Oper} {o : Oper} {a : Act} {W : World} {K : Act → World → Prop} {Q : Exit → Act → World → Prop} {E : Prop} {ok : Nat → Prop}
    (hg : o.guard = none) (s x : Operand) (t : TypeId) (hop : o.op = Op.call { callee := Callee.builtin Builtin.append, args := #[s, x], argTypes := #[t, t] }) (z : Value) (bytes : Nat)
    (h1 : P.underlying t = some (.slice e)) (h2 : (P.info? e).map (fun i => (i.zero, i.size, i.bytes)) = some (some z, 1, bytes)) (h6 : z.cells.size = 1) (hs1 : d.sz = 1)
    {A : Option Addr} {xs : List α} {y : α} {u : Value} {ad : Addr} (hs : a.eval s = .slice A xs.length xs.length) (hF : Kd.F d W ok A xs.length xs) (hx : a.eval x = .slice (some ad) 1 1) (hK : Kd.FK d W ok y [u]) (hc : W.cell? ad = some u)
    (b2 : (xs.length + 1) * bytes ≤ 140737488355328) (b3 : xs.length + 1 ≤ 140737488355328)
    (h : ∀ v1 w1, Kd.N d e w1 W.heap.size (fun k => ok k ∨ W.heap.size ≤ k) v1 (xs ++ [y]) → Below W.heap.size W w1 → K (a.put o.dst v1) w1) :
    if Region.wanted o (yielded ops a.tmps) = true then Oper.wp P o a W K Q else E := by
  obtain ⟨i0, hi, hzz⟩ := Option.map_eq_some_iff.1 h2
  simp only [Prod.mk.injEq] at hzz
  obtain ⟨hz0, hz1, hz2⟩ := hzz
  have hone : ∀ w ∈ [u], w.oneCell' = true := d.K_one (Kd.FK_now hK)
  have hol : ∃ olds, Reps (fun x c => Kd.FK d W ok x c) d.sz xs olds ∧ ∀ b, A = some b → ∀ j u, olds[j]? = some u → W.cell? (b.add j) = some u := by
    cases A with
    | some b =>
      obtain ⟨olds, h3, h4⟩ := ReadsRow.inner_ (Kd.F_rows hF)
      exact ⟨olds, h3, fun b' hb => by injection hb with hb; subst hb; exact h4⟩
    | none =>
      have h0 : xs = [] := by
        have h1 := (Kd.F_now hF).2.2
        cases xs with
        | nil => rfl
        | cons x xs =>
          obtain ⟨ad, e, _⟩ := h1 (by simp)
          cases e
      subst h0
      exact ⟨[], Reps.none _ _, fun b hb => by cases hb⟩
  obtain ⟨olds, hr, hcells⟩ := hol
  have hnone : A = none → xs.length = 0 ∧ xs.length = 0 := by
    rintro rfl
    have h1 := (Kd.F_now hF).2.2
    rcases Nat.eq_zero_or_pos xs.length with h0 | h0
    · exact ⟨h0, h0⟩
    · obtain ⟨ad, e, _⟩ := h1 h0
      cases e
  refine step_append_grows hg s x t hop e i0 z 1 bytes h1 hi hz0 hz1 hz2 h6 (by omega) A xs.length xs.length olds hs hnone (by rw [hr.1, hs1]) hcells ad 1 1 [u] hx rfl ?_ hone (by omega) (by simp only [maxLen]; omega) b2 ?_
  · intro j v hv
    cases j with
    | zero =>
      obtain rfl : u = v := by simpa using hv
      simpa [Addr.add] using hc
    | succ j => simp at hv
  · intro v1 w1 hown hgr
    have hr2 := hr.snoc hK (by rw [hs1]; rfl)
    have hown2 : w1.ownsRow W.heap.size e d.sz v1 (xs ++ [y]).length (olds ++ [u]) := by
      rw [hs1, List.length_append]
      exact hown
    exact h v1 w1 (N_grown hr2 hown2 hgr) ((Below.refl _ _).grown hgr (Nat.le_refl _) (fun _ h => by cases h))
/-- Kept, and the streams are as they were. -/
def Kp (w W : World) (S : Nat → Prop) : Prop := Kept w W S ∧ Below 0 w W
theorem Kp.refl (w : World) (S : Nat → Prop) : Kp w w S := ⟨Kept.refl _ _, Below.refl _ _⟩
theorem Kp.sz {W : World} (h : Kp w W S) : w.heap.size ≤ W.heap.size := h.1.1
theorem Kp.at {W : World} (h : Kp w W S) (k : Nat) (hk : k < w.heap.size) (hn : ¬ S k) : W.heap[k]? = w.heap[k]? := h.1.2 k hk hn
theorem Kp.mono {W : World} {S' : Nat → Prop} (h : Kp w W S) (hs : ∀ k, S k → S' k) : Kp w W S' := ⟨h.1.mono hs, h.2⟩
theorem Kp.then_ {W W2 : World} {S2 : Nat → Prop} (h : Kp w W S) (k : Kp W W2 S2) (hs : ∀ k, S2 k → S k ∨ w.heap.size ≤ k) : Kp w W2 S := ⟨h.1.then_ k.1 hs, h.2.trans k.2⟩
theorem Kp.below {W W2 : World} (h : Kp w W S) (hb : Below W.heap.size W W2) : Kp w W2 S := ⟨h.1.below hb, h.2.trans (hb.mono (Nat.zero_le _))⟩
theorem Kp.of_below {W : World} (h : Below w.heap.size w W) (S : Nat → Prop) : Kp w W S := ⟨Kept.of_below h S, h.mono (Nat.zero_le _)⟩
theorem Kp.drew {W : World} (h : Kp w W S) : Kp w W.drew S := ⟨h.1, h.2.drew⟩
theorem Kp.drewN {W : World} (h : Kp w W S) (m : Nat) : Kp w (W.drewN m) S := h.below (pw_below_drewN (Below.refl _ _) m)
theorem Kp.setCell {W : World} (h : Kp w W S) {p : Addr} (hp : S p.block ∨ w.heap.size ≤ p.block) (u : Value) : Kp w (W.setCell p u) S := ⟨h.1.setCell hp u, h.2.setCell (Nat.zero_le _) u⟩
/-- An element of a row of rows. -/
theorem V_row {W : World} {ok : Nat → Prop} {e' b b' cc : Nat} {xs : List (List α)} (h : Kd.V (Kd.slice e d) e' W b ok (.slice A xs.length cc) xs) (i : Int) (h0 : 0 ≤ i) (h1 : i < xs.length) :
    ∃ ad Aw cw, A = some ad ∧ W.cell? (ad.add i.toNat) = some (.slice Aw (xs.getD i.toNat []).length cw) ∧ Kd.V d e W b' ok (.slice Aw (xs.getD i.toNat []).length cw) (xs.getD i.toNat []) := by
  obtain ⟨ad, cs, he, _, hK, hcc, _⟩ := Kd.F_get (Kd.V_F h) [] i h0 (by simpa using h1)
  obtain ⟨Aw, cw, rfl, hl, hf⟩ := Kd.FK_slice_open hK
  have hx := hcc 0 _ rfl
  rw [show (Kd.slice e d).sz = 1 from rfl, Nat.mul_one, Nat.add_zero] at hx
  exact ⟨ad, Aw, cw, he, hx, Kd.V_mk hl hf⟩
/-- A function value with a state of its own: what it holds in memory is told by Inv over the blocks of S. -/
structure FnS {σ α ρ : Type} (d : Kd α) (enc : ρ → Value) (P : Program) (g : Nat) (lb : Array Value) (p : σ → α → Option (σ × ρ)) (Inv : σ → World → (Nat → Prop) → Prop) : Prop where
  eg : ∀ args w, (callFunc g args).run P w = .ok (.enter g args) w
  bd : ∀ s W S, Inv s W S → ∀ k, S k → k < W.heap.size
  st : ∀ s W S W', Inv s W S → Below 0 W W' → (∀ k, S k → W'.heap[k]? = W.heap[k]?) → Inv s W' S
  cl : ∀ s W S, Inv s W S → ∀ x v, d.K W x [v] → ∀ s' r, p s x = some (s', r) → Calls P g (#[v] ++ lb) W fun e W' => e = .returned (enc r) ∧ ∃ S', Inv s' W' S' ∧ Kp W W' S ∧ ∀ k, S' k → S k ∨ W.heap.size ≤ k
end
/-! ### at_4: function 0 -/
section
variable {α : Type} {d : Kd α} {e lo hi lo' hi' : Nat} {w0 w w1 : World} {v : Value} {x : List α}
/-- A new row whose rows may be one another's, that is only read: its blocks lie between lo and hi. -/
def ObN (d : Kd α) (e : Nat) (w0 w : World) (lo hi : Nat) (v : Value) (x : List α) : Prop := hi ≤ w.heap.size ∧ Kd.N d e w w0.heap.size (fun k => lo ≤ k ∧ k < hi) v x
theorem ObN.later (h : ObN d e w0 w lo hi v x) (hb : Below w.heap.size w w1) : ObN d e w0 w1 lo hi v x := ⟨Nat.le_trans h.1 hb.size, Kd.N_below h.2 hb⟩
end

/-! ### laws_big: function 4 -/
def laws_big.f (l0 : List Int) (l1 : List Int) : Option (Bool) := if (l0.length : Int) > 1048576 then (some true) else (some (decide ((l1.length : Int) > (wrap64 (1048576 - (l0.length : Int))))))
theorem laws_big.calls (A0 : Option Addr) (c0 : Nat) (l0 : List Int) (A1 : Option Addr) (c1 : Nat) (l1 : List Int) (r : Bool) (w : World) (hr0 : Kd.C (Kd.int .u8) w A0 l0.length l0) (hc0 : l0.length ≤ c0) (hr1 : Kd.C (Kd.int .u8) w A1 l1.length l1) (hc1 : l1.length ≤ c1) (h : laws_big.f l0 l1 = some r) :
  Calls Try.prog 4 #[.slice A0 l0.length c0, .slice A1 l1.length c1] w fun e w' => e = .returned (.bool r) ∧ Drawn0 w w' := by
 have HR0 := am_ hr0; have HC0 := am_ hc0; clear hr0 hc0; have HR1 := am_ hr1; have HC1 := am_ hc1; clear hr1 hc1; (try unfold laws_big.f at h); have H := h; clear h
 replace H := pn_ H; obtain ⟨c3, H⟩ | ⟨c3, H⟩ := H
 ·have c3b0 : decide (1048576 < (l0.length : Int)) = true := decide_eq_true c3; have c3b1 : decide (1048576 < l0.length) = true := decide_eq_true (by omega); clear c3; obtain rfl := Option.some.inj H; go_enter Try.func4, Try.ntmps4; go_wp2
  go_ret
  exact ⟨tc3_, tc5_⟩
 ·have c3b0 : decide (1048576 < (l0.length : Int)) = false := decide_eq_false c3; have c3b1 : decide (1048576 < l0.length) = false := decide_eq_false (by omega); clear c3; obtain rfl := Option.some.inj H; go_enter Try.func4, Try.ntmps4; go_wp2
  go_ret
  exact ⟨tc3_, tc5_⟩

/-- A state of type 42 at block g of W; what its slices lead to came in by w0. -/
def IsS42 (w0 W : World) (g : Nat) (f0 : List Int) (f1 : Int) (f2 : Int) : Prop := ∃ A0 c0, W.heap[g]? = some (.cells #[.slice A0 f0.length c0, .int .i64 f1, .int .u64 f2] 42 (0, 0)) ∧ w0.heap.size ≤ g ∧ Kd.C (Kd.int .u8) w0 A0 f0.length f0
theorem IsS42.grown {w0 W : World} {g : Nat} {f0 : List Int} {f1 : Int} {f2 : Int} {W1 : World} {row : Option Nat} (h : IsS42 w0 W g f0 f1 f2) (hw : W.grownBy W1 row) (hne : some g ≠ row) : IsS42 w0 W1 g f0 f1 f2 := by
 obtain ⟨A0, c0, hb, hg, hr0⟩ := h; exact ⟨A0, c0, blk_grown hb hw hne, hg, hr0⟩
theorem IsS42.own_neN {w0 W : World} {g : Nat} {f0 : List Int} {f1 : Int} {f2 : Int} {α : Type} {d : Kd α} {e : Nat} {base : Nat} {ok : Nat → Prop} {v : Value} {xs : List α} (h : IsS42 w0 W g f0 f1 f2) (ho : Kd.N d e W base ok v xs) (ht : e ≠ 42) : some g ≠ v.ownBlock := by
 obtain ⟨A0, c0, hb, hg, hr0⟩ := h; exact Kd.N_ne ho hb ht
theorem IsS42.fresh {w0 W : World} {g : Nat} {f0 : List Int} {f1 : Int} {f2 : Int} (h : IsS42 w0 W g f0 f1 f2) : ∀ k, W.heap.size ≤ k → k ≠ g := by
 obtain ⟨A0, c0, hb, hg, hr0⟩ := h; exact Kd.freshB hb
theorem IsS42.kept {w0 W : World} {g : Nat} {f0 : List Int} {f1 : Int} {f2 : Int} {W1 : World} {S : Nat → Prop} (h : IsS42 w0 W g f0 f1 f2) (hk : Kept W W1 S) (hne : ¬ S g) : IsS42 w0 W1 g f0 f1 f2 := by
 obtain ⟨A0, c0, hb, hg, hr0⟩ := h; exact ⟨A0, c0, blk_kept hb hk hne, hg, hr0⟩
theorem IsS42.below {w0 W : World} {g : Nat} {f0 : List Int} {f1 : Int} {f2 : Int} {W1 : World} (h : IsS42 w0 W g f0 f1 f2) (hw : Below W.heap.size W W1) : IsS42 w0 W1 g f0 f1 f2 := h.grown (grown_of_below hw none) (by simp)
theorem IsS42.alloc {w0 W : World} {g : Nat} {f0 : List Int} {f1 : Int} {f2 : Int} (h : IsS42 w0 W g f0 f1 f2) (o : Obj) : IsS42 w0 (W.alloc o) g f0 f1 f2 := h.below (below_alloc (Below.refl _ _) o)
theorem IsS42.drewN {w0 W : World} {g : Nat} {f0 : List Int} {f1 : Int} {f2 : Int} (h : IsS42 w0 W g f0 f1 f2) (m : Nat) : IsS42 w0 (W.drewN m) g f0 f1 f2 := h
theorem IsS42.drew {w0 W : World} {g : Nat} {f0 : List Int} {f1 : Int} {f2 : Int} (h : IsS42 w0 W g f0 f1 f2) : IsS42 w0 W.drew g f0 f1 f2 := h
theorem IsS42.at_ {w0 W : World} {g : Nat} {f0 : List Int} {f1 : Int} {f2 : Int} {w' : World} {m : Nat} (hq : W.drewN m = w') (h : IsS42 w0 W g f0 f1 f2) : IsS42 w0 w' g f0 f1 f2 := by subst hq; exact IsS42.drewN h m
theorem IsS42.apart {w0 W : World} {g : Nat} {f0 : List Int} {f1 : Int} {f2 : Int} {α : Type} {d : Kd α} {e : Nat} {base : Nat} {ok : Nat → Prop} {v : Value} {xs : List α} (h : IsS42 w0 W g f0 f1 f2) (ho : d.R e W base ok v xs) (ht : ∀ q, q ∈ e :: d.E → q ≠ 42) : d.R e W base (fun k => ok k ∧ k ≠ g) v xs := by
 obtain ⟨A0, c0, hb, hg, hr0⟩ := h; exact Kd.R_types ho hb ht
theorem IsS42.own_ne {w0 W : World} {g : Nat} {f0 : List Int} {f1 : Int} {f2 : Int} {α : Type} {d : Kd α} {e : Nat} {base : Nat} {ok : Nat → Prop} {v : Value} {xs : List α} (h : IsS42 w0 W g f0 f1 f2) (ho : d.R e W base ok v xs) (ht : e ≠ 42) : some g ≠ v.ownBlock := by
 obtain ⟨A0, c0, hb, hg, hr0⟩ := h; exact Kd.R_ne ho hb ht
theorem IsS42.apartQ {w0 W : World} {g : Nat} {f0 : List Int} {f1 : Int} {f2 : Int} {α : Type} {d : Kd α} {e : Nat} {base : Nat} {ok : Nat → Prop} {v : Value} {xs : List α} (h : IsS42 w0 W g f0 f1 f2) (ho : d.Q e W base ok v xs) (ht : ∀ q, q ∈ e :: d.E → q ≠ 42) : d.Q e W base (fun k => ok k ∧ k ≠ g) v xs := by
 obtain ⟨A0, c0, hb, hg, hr0⟩ := h; exact Kd.Q_types ho hb ht
theorem IsS42.own_neQ {w0 W : World} {g : Nat} {f0 : List Int} {f1 : Int} {f2 : Int} {α : Type} {d : Kd α} {e : Nat} {base : Nat} {ok : Nat → Prop} {v : Value} {xs : List α} (h : IsS42 w0 W g f0 f1 f2) (ho : d.Q e W base ok v xs) (ht : e ≠ 42) : some g ≠ v.ownBlock := by
 obtain ⟨A0, c0, hb, hg, hr0⟩ := h; exact Kd.Q_ne ho hb ht
theorem IsS42.apartS {w0 W : World} {g : Nat} {f0 : List Int} {f1 : Int} {f2 : Int} {α : Type} {d : Kd α} {e : Nat} {base : Nat} {ok : Nat → Prop} {v : Value} {xs : List α} (h : IsS42 w0 W g f0 f1 f2) (ho : d.S e W base ok v xs) (ht : ∀ q, q ∈ e :: d.E → q ≠ 42) : d.S e W base (fun k => ok k ∧ k ≠ g) v xs := by
 obtain ⟨A0, c0, hb, hg, hr0⟩ := h; exact Kd.S_types ho hb ht
theorem IsS42.own_neS {w0 W : World} {g : Nat} {f0 : List Int} {f1 : Int} {f2 : Int} {α : Type} {d : Kd α} {e : Nat} {base : Nat} {ok : Nat → Prop} {v : Value} {xs : List α} (h : IsS42 w0 W g f0 f1 f2) (ho : d.S e W base ok v xs) (ht : e ≠ 42) : some g ≠ v.ownBlock := by
 obtain ⟨A0, c0, hb, hg, hr0⟩ := h; exact Kd.S_ne ho hb ht
theorem IsS42.lt {w0 W : World} {g : Nat} {f0 : List Int} {f1 : Int} {f2 : Int} (h : IsS42 w0 W g f0 f1 f2) : g < W.heap.size := by
 obtain ⟨A0, c0, hb, hg, hr0⟩ := h; exact blk_lt hb
theorem IsS42.ge {w0 W : World} {g : Nat} {f0 : List Int} {f1 : Int} {f2 : Int} (h : IsS42 w0 W g f0 f1 f2) : w0.heap.size ≤ g := by
 obtain ⟨A0, c0, hb, hg, hr0⟩ := h; exact hg
theorem IsS42.ne_blk {w0 W : World} {g : Nat} {f0 : List Int} {f1 : Int} {f2 : Int} {a : Nat} {cs : Array Value} {t : TypeId} {fr : Nat × Nat} (h : IsS42 w0 W g f0 f1 f2) (hb2 : W.heap[a]? = some (.cells cs t fr)) (ht : t ≠ 42) : g ≠ a := by
 obtain ⟨A0, c0, hb, hg, hr0⟩ := h; rintro rfl; rw [hb] at hb2
 injection hb2 with hb2
 injection hb2 with _ ht2
 exact ht ht2.symm
theorem IsS42.far {w0 W : World} {g : Nat} {f0 : List Int} {f1 : Int} {f2 : Int} {p : Addr} (h : IsS42 w0 W g f0 f1 f2) (hne : g ≠ p.block) (u : Value) : IsS42 w0 (W.setCell p u) g f0 f1 f2 := by
 obtain ⟨A0, c0, hb, hg, hr0⟩ := h; exact ⟨A0, c0, blk_far hb hne u, hg, hr0⟩
theorem cellS42_0 {W : World} {g : Nat} {A0 : Option Addr} {c0 : Nat} {f0 : List Int} {f1 : Int} {f2 : Int} (h : W.heap[g]? = some (.cells #[.slice A0 f0.length c0, .int .i64 f1, .int .u64 f2] 42 (0, 0))) : W.cell? ⟨g, 0, none⟩ = some (.slice A0 f0.length c0) := (blk_cell h 0).trans rfl
theorem cellS42_1 {W : World} {g : Nat} {A0 : Option Addr} {c0 : Nat} {f0 : List Int} {f1 : Int} {f2 : Int} (h : W.heap[g]? = some (.cells #[.slice A0 f0.length c0, .int .i64 f1, .int .u64 f2] 42 (0, 0))) : W.cell? ⟨g, 1, none⟩ = some (.int .i64 f1) := (blk_cell h 1).trans rfl
theorem IsS42.set_1 {w0 W : World} {g : Nat} {f0 : List Int} {f1 : Int} {f2 : Int} (h : IsS42 w0 W g f0 f1 f2) (x : Int) : IsS42 w0 (W.setCell ⟨g, 1, none⟩ (.int .i64 x)) g f0 x f2 := by
 obtain ⟨A0, c0, hb, hg, hr0⟩ := h; exact ⟨A0, c0, (by simpa using blk_set hb 1 (.int .i64 x)), hg, hr0⟩
theorem cellS42_2 {W : World} {g : Nat} {A0 : Option Addr} {c0 : Nat} {f0 : List Int} {f1 : Int} {f2 : Int} (h : W.heap[g]? = some (.cells #[.slice A0 f0.length c0, .int .i64 f1, .int .u64 f2] 42 (0, 0))) : W.cell? ⟨g, 2, none⟩ = some (.int .u64 f2) := (blk_cell h 2).trans rfl
theorem IsS42.set_2 {w0 W : World} {g : Nat} {f0 : List Int} {f1 : Int} {f2 : Int} (h : IsS42 w0 W g f0 f1 f2) (x : Int) : IsS42 w0 (W.setCell ⟨g, 2, none⟩ (.int .u64 x)) g f0 f1 x := by
 obtain ⟨A0, c0, hb, hg, hr0⟩ := h; exact ⟨A0, c0, (by simpa using blk_set hb 2 (.int .u64 x)), hg, hr0⟩
theorem IsS42.new (w0 W : World) (A0 : Option Addr) (c0 : Nat) (f0 : List Int) (f1 : Int) (f2 : Int) (hB : Below w0.heap.size w0 W) (hr0 : Kd.C (Kd.int .u8) w0 A0 f0.length f0) : IsS42 w0 (W.alloc (.cells #[.slice A0 f0.length c0, .int .i64 f1, .int .u64 f2] 42)) W.heap.size f0 f1 f2 := ⟨A0, c0, (by simpa using heap_alloc_new W _), hB.size, hr0⟩

/-! ### spec_l1Cur_next: function 43 -/
def spec_l1Cur_next.f (s0_0 : List Int) (s0_1 : Int) (s0_2 : Int) : Option (Int × Int × Int) := if s0_1 < (s0_0.length : Int) then (if 0 ≤ s0_1 then (if (wrap64 (s0_1 + 1)) ≤ (s0_0.length : Int) then (some (wrap64 (rd s0_0 s0_1), wrap64 (s0_1 + 1), IntKind.u64.wrap ((IntKind.u64.wrap ((IntKind.u64.wrap (s0_2 * 6364136223846793005)) + (IntKind.u64.wrap (wrap64 (rd s0_0 s0_1))))) + 1442695040888963407))) else (some (wrap64 (Go.bits .and .u64 ((IntKind.u64.wrap ((IntKind.u64.wrap ((IntKind.u64.wrap (s0_2 * 6364136223846793005)) + (IntKind.u64.wrap (wrap64 (rd s0_0 s0_1))))) + 1442695040888963407)) / 1099511627776) 255), wrap64 (s0_1 + 1), IntKind.u64.wrap ((IntKind.u64.wrap ((IntKind.u64.wrap (s0_2 * 6364136223846793005)) + (IntKind.u64.wrap (wrap64 (rd s0_0 s0_1))))) + 1442695040888963407)))) else (none)) else (if (wrap64 (s0_1 + 1)) ≤ (s0_0.length : Int) then (some (0, wrap64 (s0_1 + 1), IntKind.u64.wrap ((IntKind.u64.wrap ((IntKind.u64.wrap (s0_2 * 6364136223846793005)) + 0)) + 1442695040888963407))) else (some (wrap64 (Go.bits .and .u64 ((IntKind.u64.wrap ((IntKind.u64.wrap ((IntKind.u64.wrap (s0_2 * 6364136223846793005)) + 0)) + 1442695040888963407)) / 1099511627776) 255), wrap64 (s0_1 + 1), IntKind.u64.wrap ((IntKind.u64.wrap ((IntKind.u64.wrap (s0_2 * 6364136223846793005)) + 0)) + 1442695040888963407))))
theorem spec_l1Cur_next.calls (g : Nat) (s0_0 : List Int) (s0_1 : Int) (s0_2 : Int) (r1 : Int) (r2 : Int) (r3 : Int) (w0 w : World) (hI : IsS42 w0 w g s0_0 s0_1 s0_2) (hB : Below w0.heap.size w0 w) (h : spec_l1Cur_next.f s0_0 s0_1 s0_2 = some (r1, r2, r3)) :
  Calls Try.prog 43 #[.pointer (some ⟨g, 0, none⟩)] w fun e w' => e = .returned (.int .i64 r1) ∧ IsS42 w0 w' g s0_0 r2 r3 ∧ Below w0.heap.size w0 w' ∧ KeepBut w w' g none := by
 have HI0 := am_ hI; have HK := am_ (KeepBut.refl w g none); have HL := am_ hB.size; clear hI; have HW0 := am_ hB.size; have HB := am_ hB; clear hB; (try unfold spec_l1Cur_next.f at h); have H := h; clear h
 replace H := sp_ H; obtain ⟨c2b0, H⟩ | ⟨c2b0, H⟩ := H
 ·replace H := ps_ H; obtain ⟨c3b0, H⟩ := H
  replace H := sp_ H; obtain ⟨c4b0, H⟩ | ⟨c4b0, H⟩ := H
  ·simp only [Option.some.injEq, Prod.mk.injEq] at H; obtain ⟨rfl, rfl, rfl⟩ := H; obtain ⟨ASz5_0, cSz5_0, HGz5, hgz5, HSz5_0⟩ := HI0.out; have hcz5_0 := cellS42_0 HGz5; have hcz5_1 := cellS42_1 HGz5; have hcz5_2 := cellS42_2 HGz5; have hfz5_1 := blk_frozen HGz5 1; have hfz5_2 := blk_frozen HGz5 2; clear HGz5 hgz5; have p101 : 0 ≤ (s0_1 : Int) := od_; have q101 : s0_1 < (s0_0.length : Int) := od_; obtain ⟨ad101, e101, hx101_0⟩ := Kd.at_int HSz5_0 s0_1 p101 q101; cases e101; replace hx101_0 := pw_cell_below HB.out hx101_0; replace p101 := eq_true p101; replace q101 := eq_true q101; go_enter Try.func43, Try.ntmps43; go_wp2
   repeat (go_quiet (fail); try go_wp2)
   go_ret
   exact ⟨tc4_, tc33_, tc7_, tc9_⟩
  ·simp only [Option.some.injEq, Prod.mk.injEq] at H; obtain ⟨rfl, rfl, rfl⟩ := H; obtain ⟨ASz6_0, cSz6_0, HGz6, hgz6, HSz6_0⟩ := HI0.out; have hcz6_0 := cellS42_0 HGz6; have hcz6_1 := cellS42_1 HGz6; have hcz6_2 := cellS42_2 HGz6; have hfz6_1 := blk_frozen HGz6 1; have hfz6_2 := blk_frozen HGz6 2; clear HGz6 hgz6; have p101 : 0 ≤ (s0_1 : Int) := od_; have q101 : s0_1 < (s0_0.length : Int) := od_; obtain ⟨ad101, e101, hx101_0⟩ := Kd.at_int HSz6_0 s0_1 p101 q101; cases e101; replace hx101_0 := pw_cell_below HB.out hx101_0; replace p101 := eq_true p101; replace q101 := eq_true q101; go_enter Try.func43, Try.ntmps43; go_wp2
   repeat (go_quiet (fail); try go_wp2)
   go_ret
   exact ⟨tc4_, tc33_, tc7_, tc9_⟩
 ·replace H := sp_ H; obtain ⟨c7b0, H⟩ | ⟨c7b0, H⟩ := H
  ·simp only [Option.some.injEq, Prod.mk.injEq] at H; obtain ⟨rfl, rfl, rfl⟩ := H; obtain ⟨ASz8_0, cSz8_0, HGz8, hgz8, HSz8_0⟩ := HI0.out; have hcz8_0 := cellS42_0 HGz8; have hcz8_1 := cellS42_1 HGz8; have hcz8_2 := cellS42_2 HGz8; have hfz8_1 := blk_frozen HGz8 1; have hfz8_2 := blk_frozen HGz8 2; clear HGz8 hgz8; go_enter Try.func43, Try.ntmps43; go_wp2
   repeat (go_quiet (fail); try go_wp2)
   go_ret
   exact ⟨tc4_, tc33_, tc7_, tc9_⟩
  ·simp only [Option.some.injEq, Prod.mk.injEq] at H; obtain ⟨rfl, rfl, rfl⟩ := H; obtain ⟨ASz9_0, cSz9_0, HGz9, hgz9, HSz9_0⟩ := HI0.out; have hcz9_0 := cellS42_0 HGz9; have hcz9_1 := cellS42_1 HGz9; have hcz9_2 := cellS42_2 HGz9; have hfz9_1 := blk_frozen HGz9 1; have hfz9_2 := blk_frozen HGz9 2; clear HGz9 hgz9; go_enter Try.func43, Try.ntmps43; go_wp2
   repeat (go_quiet (fail); try go_wp2)
   go_ret
   exact ⟨tc4_, tc33_, tc7_, tc9_⟩

/-! ### spec_l1Cur_pick: function 23 -/
def spec_l1Cur_pick.f (s0_0 : List Int) (s0_1 : Int) (s0_2 : Int) (a1 : Int) : Option (Int × Int × Int) := if a1 ≤ 1 then (some (0, s0_1, s0_2)) else ((spec_l1Cur_next.f s0_0 s0_1 s0_2).bind fun bt101 => (if a1 > 200 then ((spec_l1Cur_next.f s0_0 bt101.2.1 bt101.2.2).bind fun bt104 => (if a1 = 0 then (none) else (some (Int.tmod (wrap64 ((wrap64 (bt101.1 * 256)) + bt104.1)) a1, bt104.2.1, bt104.2.2)))) else (if a1 = 0 then (none) else (some (Int.tmod bt101.1 a1, bt101.2.1, bt101.2.2)))))
theorem spec_l1Cur_pick.calls (g : Nat) (s0_0 : List Int) (s0_1 : Int) (s0_2 : Int) (a1 : Int) (r1 : Int) (r2 : Int) (r3 : Int) (w0 w : World) (hI : IsS42 w0 w g s0_0 s0_1 s0_2) (hB : Below w0.heap.size w0 w) (h : spec_l1Cur_pick.f s0_0 s0_1 s0_2 a1 = some (r1, r2, r3)) :
  Calls Try.prog 23 #[.pointer (some ⟨g, 0, none⟩), .int .i64 a1] w fun e w' => e = .returned (.int .i64 r1) ∧ IsS42 w0 w' g s0_0 r2 r3 ∧ Below w0.heap.size w0 w' ∧ KeepBut w w' g none := by
 have HI0 := am_ hI; have HK := am_ (KeepBut.refl w g none); have HL := am_ hB.size; clear hI; have HW0 := am_ hB.size; have HB := am_ hB; clear hB; (try unfold spec_l1Cur_pick.f at h); have H := h; clear h
 replace H := sp_ H; obtain ⟨c3b0, H⟩ | ⟨c3b0, H⟩ := H
 ·simp only [Option.some.injEq, Prod.mk.injEq] at H; obtain ⟨rfl, rfl, rfl⟩ := H; go_enter Try.func23, Try.ntmps23; go_wp2
  go_ret
  exact ⟨tc4_, tc10_, tc7_, tc9_⟩
 ·replace H := Option.bind_eq_some_iff.mp H; obtain ⟨⟨t101, t102, t103⟩, A40, H⟩ := H; (try dsimp only at H); have A4 := am_ A40; clear A40
  replace H := pn_ H; obtain ⟨c5, H⟩ | ⟨c5, H⟩ := H
  ·have c5b0 : decide (200 < a1) = true := decide_eq_true c5; clear c5; replace H := Option.bind_eq_some_iff.mp H; obtain ⟨⟨t104, t105, t106⟩, A60, H⟩ := H; (try dsimp only at H); have A6 := am_ A60; clear A60
   replace H := pn_ H; obtain ⟨c7, H⟩ | ⟨c7, H⟩ := H
   ·exact absurd H (by simp)
   ·have c7b0 : (a1 == 0) = false := beq_eq_false_iff_ne.mpr c7; have c7b1 : (a1 != 0) = true := bne_iff_ne.mpr c7; simp only [Option.some.injEq, Prod.mk.injEq] at H; obtain ⟨rfl, rfl, rfl⟩ := H; go_enter Try.func23, Try.ntmps23
    go_wp2_with (first | (refine gc_ (some 9) Try.func43 #[.pointer (some ⟨g, 0, none⟩)] ?_; (with_reducible refine (spec_l1Cur_next.calls g s0_0 s0_1 s0_2 t101 t102 t103 w0 _ ?side1 ?side2 A4.out).mono ?_); (case side1 => exact tc10_); (case side2 => exact tc7_); rintro e w8 ⟨rfl, hi, hb, hk⟩; refine ⟨_, rfl, ?_⟩; replace HK := am_ (KeepBut.trans tc9_ hk (.inl rfl)); replace HB := am_ (hb); replace HI0 := am_ (hi); (try clear hb hk hi)) | (refine gc_ (some 15) Try.func43 #[.pointer (some ⟨g, 0, none⟩)] ?_; (with_reducible refine (spec_l1Cur_next.calls g s0_0 t102 t103 t104 t105 t106 w0 _ ?side1 ?side2 A6.out).mono ?_); (case side1 => exact tc10_); (case side2 => exact tc7_); rintro e w9 ⟨rfl, hi, hb, hk⟩; refine ⟨_, rfl, ?_⟩; replace HK := am_ (KeepBut.trans tc9_ hk (.inl rfl)); replace HB := am_ (hb); replace HI0 := am_ (hi); (try clear hb hk hi)))
    go_ret
    exact ⟨tc4_, tc10_, tc7_, tc9_⟩
  ·have c5b0 : decide (200 < a1) = false := decide_eq_false c5; clear c5
   replace H := pn_ H; obtain ⟨c10, H⟩ | ⟨c10, H⟩ := H
   ·exact absurd H (by simp)
   ·have c10b0 : (a1 == 0) = false := beq_eq_false_iff_ne.mpr c10; have c10b1 : (a1 != 0) = true := bne_iff_ne.mpr c10; simp only [Option.some.injEq, Prod.mk.injEq] at H; obtain ⟨rfl, rfl, rfl⟩ := H; go_enter Try.func23, Try.ntmps23
    go_wp2_with (first | (refine gc_ (some 9) Try.func43 #[.pointer (some ⟨g, 0, none⟩)] ?_; (with_reducible refine (spec_l1Cur_next.calls g s0_0 s0_1 s0_2 t101 t102 t103 w0 _ ?side1 ?side2 A4.out).mono ?_); (case side1 => exact tc10_); (case side2 => exact tc7_); rintro e w11 ⟨rfl, hi, hb, hk⟩; refine ⟨_, rfl, ?_⟩; replace HK := am_ (KeepBut.trans tc9_ hk (.inl rfl)); replace HB := am_ (hb); replace HI0 := am_ (hi); (try clear hb hk hi)))
    go_ret
    exact ⟨tc4_, tc10_, tc7_, tc9_⟩

/-! ### spec_l1Cur_one: function 21 -/
def spec_l1Cur_one.f (s0_0 : List Int) (s0_1 : Int) (s0_2 : Int) (a1 : Int) : Option (Bool × Int × Int) := (spec_l1Cur_pick.f s0_0 s0_1 s0_2 a1).bind fun bt101 => (some ((bt101.1 == 0), bt101.2.1, bt101.2.2))
theorem spec_l1Cur_one.calls (g : Nat) (s0_0 : List Int) (s0_1 : Int) (s0_2 : Int) (a1 : Int) (r1 : Bool) (r2 : Int) (r3 : Int) (w0 w : World) (hI : IsS42 w0 w g s0_0 s0_1 s0_2) (hB : Below w0.heap.size w0 w) (h : spec_l1Cur_one.f s0_0 s0_1 s0_2 a1 = some (r1, r2, r3)) :
  Calls Try.prog 21 #[.pointer (some ⟨g, 0, none⟩), .int .i64 a1] w fun e w' => e = .returned (.bool r1) ∧ IsS42 w0 w' g s0_0 r2 r3 ∧ Below w0.heap.size w0 w' ∧ KeepBut w w' g none := by
 have HI0 := am_ hI; have HK := am_ (KeepBut.refl w g none); have HL := am_ hB.size; clear hI; have HW0 := am_ hB.size; have HB := am_ hB; clear hB; (try unfold spec_l1Cur_one.f at h); have H := h; clear h; replace H := Option.bind_eq_some_iff.mp H; obtain ⟨⟨t101, t102, t103⟩, A30, H⟩ := H; (try dsimp only at H); have A3 := am_ A30; clear A30; simp only [Option.some.injEq, Prod.mk.injEq] at H; obtain ⟨rfl, rfl, rfl⟩ := H; go_enter Try.func21, Try.ntmps21
 go_wp2_with (first | (refine gc_ (some 7) Try.func23 #[.pointer (some ⟨g, 0, none⟩), .int .i64 a1] ?_; (with_reducible refine (spec_l1Cur_pick.calls g s0_0 s0_1 s0_2 a1 t101 t102 t103 w0 _ ?side1 ?side2 A3.out).mono ?_); (case side1 => exact tc10_); (case side2 => exact tc7_); rintro e w4 ⟨rfl, hi, hb, hk⟩; refine ⟨_, rfl, ?_⟩; replace HK := am_ (KeepBut.trans tc9_ hk (.inl rfl)); replace HB := am_ (hb); replace HI0 := am_ (hi); (try clear hb hk hi)))
 go_ret
 exact ⟨tc4_, tc10_, tc7_, tc9_⟩

/-! ### spec_l1Cur_among: function 22 -/
def spec_l1Cur_among.f (s0_0 : List Int) (s0_1 : Int) (s0_2 : Int) (l1 : List Int) : Option (Int × Int × Int) := (spec_l1Cur_pick.f s0_0 s0_1 s0_2 (l1.length : Int)).bind fun bt101 => (if 0 ≤ bt101.1 then (if bt101.1 < (l1.length : Int) then (some (rd l1 bt101.1, bt101.2.1, bt101.2.2)) else (none)) else (none))
theorem spec_l1Cur_among.calls (g : Nat) (s0_0 : List Int) (s0_1 : Int) (s0_2 : Int) (A1 : Option Addr) (c1 : Nat) (l1 : List Int) (r1 : Int) (r2 : Int) (r3 : Int) (w0 w : World) (hI : IsS42 w0 w g s0_0 s0_1 s0_2) (hB : Below w0.heap.size w0 w) (hr1 : Kd.C (Kd.int .i64) w A1 l1.length l1) (hc1 : l1.length ≤ c1) (hf1 : ∀ ad, A1 = some ad → 0 < l1.length → ad.block ≠ g) (h : spec_l1Cur_among.f s0_0 s0_1 s0_2 l1 = some (r1, r2, r3)) :
  Calls Try.prog 22 #[.pointer (some ⟨g, 0, none⟩), .slice A1 l1.length c1] w fun e w' => e = .returned (.int .i64 r1) ∧ IsS42 w0 w' g s0_0 r2 r3 ∧ Below w0.heap.size w0 w' ∧ KeepBut w w' g none := by
 have HR1 := am_ hr1; have HC1 := am_ hc1; clear hr1 hc1; have HI0 := am_ hI; have HK := am_ (KeepBut.refl w g none); have HL := am_ hB.size; clear hI; have HW0 := am_ hB.size; have HB := am_ hB; clear hB; (try unfold spec_l1Cur_among.f at h); have H := h; clear h; replace H := Option.bind_eq_some_iff.mp H; obtain ⟨⟨t101, t102, t103⟩, A30, H⟩ := H; (try dsimp only at H); have A3 := am_ A30; clear A30; replace H := ps_ H; obtain ⟨c4b0, H⟩ := H; replace H := ps_ H; obtain ⟨c5b0, H⟩ := H; simp only [Option.some.injEq, Prod.mk.injEq] at H; obtain ⟨rfl, rfl, rfl⟩ := H; go_enter Try.func22, Try.ntmps22
 go_wp2_with (first | (refine gc_ (some 9) Try.func23 #[.pointer (some ⟨g, 0, none⟩), .int .i64 (l1.length : Int)] ?_; (with_reducible refine (spec_l1Cur_pick.calls g s0_0 s0_1 s0_2 (l1.length : Int) t101 t102 t103 w0 _ ?side1 ?side2 A3.out).mono ?_); (case side1 => exact tc10_); (case side2 => exact tc7_); rintro e w6 ⟨rfl, hi, hb, hk⟩; refine ⟨_, rfl, ?_⟩; replace HK := am_ (KeepBut.trans tc9_ hk (.inl rfl)); replace HB := am_ (hb); replace HI0 := am_ (hi); (try clear hb hk hi); have p104 : 0 ≤ (t101 : Int) := od_; have q104 : t101 < (l1.length : Int) := od_; obtain ⟨ad104, e104, hx104_0⟩ := Kd.at_int HR1.out t101 p104 q104; cases e104; replace hx104_0 := keep_cell HK.out hx104_0 (by first | (rw [add_block]; exact hf1 _ rfl (by omega)) | exact hf1 _ rfl (by omega) | exact hf1 ad104 rfl (by omega)); replace p104 := eq_true p104; replace q104 := eq_true q104))
 go_ret
 exact ⟨tc4_, tc10_, tc7_, tc9_⟩

/-! ### spec_l1Cur_side: function 20 -/
def spec_l1Cur_side.f (s0_0 : List Int) (s0_1 : Int) (s0_2 : Int) (a1 : Int) : Option (Int × Int × Int) := (spec_l1Cur_one.f s0_0 s0_1 s0_2 8).bind fun bt101 => (if bt101.1 = true then ((spec_l1Cur_among.f s0_0 bt101.2.1 bt101.2.2 (([(-1), 0, 1, a1, wrap64 (a1 + 1)] : List Int))).bind fun bt107 => (some (bt107.1, bt107.2.1, bt107.2.2))) else ((spec_l1Cur_pick.f s0_0 bt101.2.1 bt101.2.2 a1).bind fun bt110 => (some (wrap64 (1 + bt110.1), bt110.2.1, bt110.2.2))))
theorem spec_l1Cur_side.calls (g : Nat) (s0_0 : List Int) (s0_1 : Int) (s0_2 : Int) (a1 : Int) (r1 : Int) (r2 : Int) (r3 : Int) (w0 w : World) (hI : IsS42 w0 w g s0_0 s0_1 s0_2) (hB : Below w0.heap.size w0 w) (h : spec_l1Cur_side.f s0_0 s0_1 s0_2 a1 = some (r1, r2, r3)) :
  Calls Try.prog 20 #[.pointer (some ⟨g, 0, none⟩), .int .i64 a1] w fun e w' => e = .returned (.int .i64 r1) ∧ IsS42 w0 w' g s0_0 r2 r3 ∧ Below w0.heap.size w0 w' ∧ KeepBut w w' g none := by
 have HI0 := am_ hI; have HK := am_ (KeepBut.refl w g none); have HL := am_ hB.size; clear hI; have HW0 := am_ hB.size; have HB := am_ hB; clear hB; (try unfold spec_l1Cur_side.f at h); have H := h; clear h; replace H := Option.bind_eq_some_iff.mp H; obtain ⟨⟨t101, t102, t103⟩, A30, H⟩ := H; (try dsimp only at H); have A3 := am_ A30; clear A30
 by_cases c4 : t101 = true
 ·subst c4; have H1 : ((spec_l1Cur_among.f s0_0 t102 t103 (([(-1), 0, 1, a1, wrap64 (a1 + 1)] : List Int))).bind fun bt107 => (some (bt107.1, bt107.2.1, bt107.2.2))) = some (r1, r2, r3) := tc19_; clear H; have H := H1; clear H1; obtain ⟨y104, hy104⟩ : ∃ y_ : List Int, y_ = (([(-1), 0, 1, a1, wrap64 (a1 + 1)] : List Int)) := ⟨_, rfl⟩; replace H : ((spec_l1Cur_among.f s0_0 t102 t103 y104).bind fun bt107 => (some (bt107.1, bt107.2.1, bt107.2.2))) = some (r1, r2, r3) := tc25_; have Ny104 := am_ hy104; clear hy104; replace H := Option.bind_eq_some_iff.mp H; obtain ⟨⟨t107, t108, t109⟩, A50, H⟩ := H; (try dsimp only at H); have A5 := am_ A50; clear A50; simp only [Option.some.injEq, Prod.mk.injEq] at H; obtain ⟨rfl, rfl, rfl⟩ := H; go_enter Try.func20, Try.ntmps20
  go_wp2_with (first | (refine gc_ (some 6) Try.func21 #[.pointer (some ⟨g, 0, none⟩), .int .i64 8] ?_; (with_reducible refine (spec_l1Cur_one.calls g s0_0 s0_1 s0_2 8 true t102 t103 w0 _ ?side1 ?side2 A3.out).mono ?_); (case side1 => exact tc10_); (case side2 => exact tc7_); rintro e w6 ⟨rfl, hi, hb, hk⟩; refine ⟨_, rfl, ?_⟩; replace HK := am_ (KeepBut.trans tc9_ hk (.inl rfl)); replace HB := am_ (hb); replace HI0 := am_ (hi); (try clear hb hk hi)) | ((with_reducible refine gate_dst (N := 11) rfl ?_); refine Kd.R_lit (Kd.int .i64) _ 3 ?hg (N := 11) ?hd (xs := ([(-1), 0, 1, a1, wrap64 (a1 + 1)] : List Int)) (inner := [.int .i64 (-1), .int .i64 0, .int .i64 1, .int .i64 a1, .int .i64 (wrap64 (a1 + 1))]) (ok := fun _ => True) (okp := fun _ => True) ?hr ?hp (fun _ hk => hk) trivial (Below.refl _ _) (Nat.le_refl _) (by simp) ?_; (case hd => rfl); (case hg => rfl); (case hr => exact tc36_); (case hp => exact (Reps.one (show Kd.M (Kd.int .i64) _ _ _ (-1) [.int .i64 (-1)] from rfl) (Reps.one (show Kd.M (Kd.int .i64) _ _ _ 0 [.int .i64 0] from rfl) (Reps.one (show Kd.M (Kd.int .i64) _ _ _ 1 [.int .i64 1] from rfl) (Reps.one (show Kd.M (Kd.int .i64) _ _ _ a1 [.int .i64 a1] from rfl) (Reps.one (show Kd.M (Kd.int .i64) _ _ _ (wrap64 (a1 + 1)) [.int .i64 (wrap64 (a1 + 1))] from rfl) (Reps.none _ _))))))); intro v105 w7 ho8 hb hg_ hnew_; clear hg_ hnew_; (first | rw [← Ny104.out] at ho8 | (simp only [Int.reduceToNat] at ho8; rw [← Ny104.out] at ho8)); have HO106 := am_ (Kd.R_lower ho8 (keep_size (w := w) (g := g) (row := none) tc9_)); replace HK := am_ (KeepBut.trans tc9_ (KeepBut.of_below hb g none) (.inl rfl)); replace HB := am_ (below_step tc7_ hb); replace HI0 := am_ (IsS42.below tc10_ hb); clear hb ho8; obtain ⟨Ao9, co9, eo9⟩ := Kd.R_slice HO106.out; subst eo9) | (refine gc_ (some 12) Try.func22 #[.pointer (some ⟨g, 0, none⟩), .slice Ao9 y104.length co9] ?_; (with_reducible refine (spec_l1Cur_among.calls g s0_0 t102 t103 _ _ y104 t107 t108 t109 w0 _ ?side1 ?side2 ?side3 ?side4 ?side5 A5.out).mono ?_); (case side1 => exact tc10_); (case side2 => exact tc7_); (case side3 => repeat (first | exact (Kd.R_reads' HO106.out).2.2 | (with_reducible refine Kd.C_alloc ?_ _) | (with_reducible refine Kd.C_drewN ?_ _) | (with_reducible refine Kd.C_drew ?_))); (case side4 => exact (Kd.R_reads' HO106.out).2.1); (case side5 => exact far_slice (IsS42.own_ne HI0.out HO106.out (by decide))); rintro e w10 ⟨rfl, hi, hb, hk⟩; refine ⟨_, rfl, ?_⟩; replace HO106 := am_ (Kd.R_mono (Kd.R_keep (IsS42.apart (show IsS42 w0 _ g s0_0 t102 t103 from tc10_) tc63_ (by decide)) hk (fun _ h => h.2)) (fun _ h => h.1)); replace HK := am_ (KeepBut.trans tc9_ hk (.inl rfl)); replace HB := am_ (hb); replace HI0 := am_ (hi); (try clear hb hk hi)))
  go_ret
  exact ⟨tc4_, tc10_, tc7_, tc9_⟩
 ·replace c4 := Bool.eq_false_iff.mpr c4; subst c4; have H1 : ((spec_l1Cur_pick.f s0_0 t102 t103 a1).bind fun bt110 => (some (wrap64 (1 + bt110.1), bt110.2.1, bt110.2.2))) = some (r1, r2, r3) := tc8_; clear H; have H := H1; clear H1; replace H := Option.bind_eq_some_iff.mp H; obtain ⟨⟨t110, t111, t112⟩, A110, H⟩ := H; (try dsimp only at H); have A11 := am_ A110; clear A110; simp only [Option.some.injEq, Prod.mk.injEq] at H; obtain ⟨rfl, rfl, rfl⟩ := H; go_enter Try.func20, Try.ntmps20
  go_wp2_with (first | (refine gc_ (some 6) Try.func21 #[.pointer (some ⟨g, 0, none⟩), .int .i64 8] ?_; (with_reducible refine (spec_l1Cur_one.calls g s0_0 s0_1 s0_2 8 false t102 t103 w0 _ ?side1 ?side2 A3.out).mono ?_); (case side1 => exact tc10_); (case side2 => exact tc7_); rintro e w12 ⟨rfl, hi, hb, hk⟩; refine ⟨_, rfl, ?_⟩; replace HK := am_ (KeepBut.trans tc9_ hk (.inl rfl)); replace HB := am_ (hb); replace HI0 := am_ (hi); (try clear hb hk hi)) | (refine gc_ (some 15) Try.func23 #[.pointer (some ⟨g, 0, none⟩), .int .i64 a1] ?_; (with_reducible refine (spec_l1Cur_pick.calls g s0_0 t102 t103 a1 t110 t111 t112 w0 _ ?side1 ?side2 A11.out).mono ?_); (case side1 => exact tc10_); (case side2 => exact tc7_); rintro e w13 ⟨rfl, hi, hb, hk⟩; refine ⟨_, rfl, ?_⟩; replace HK := am_ (KeepBut.trans tc9_ hk (.inl rfl)); replace HB := am_ (hb); replace HI0 := am_ (hi); (try clear hb hk hi)))
  go_ret
  exact ⟨tc4_, tc10_, tc7_, tc9_⟩

/-! ### spec_DrawDescendingWith: function 5 -/
def spec_DrawDescendingWith.f (l0 : List Int) : Option (Int × Int) := (spec_l1Cur_side.f l0 0 0 4).bind fun bt102 => ((spec_l1Cur_one.f l0 bt102.2.1 bt102.2.2 4).bind fun bt105 => (if bt105.1 = true then ((spec_l1Cur_among.f l0 bt105.2.1 bt105.2.2 (([(-1), 0, 1, 2, 6, 7, 41, 42] : List Int))).bind fun bt111 => (some (bt102.1, bt111.1))) else ((spec_l1Cur_pick.f l0 bt105.2.1 bt105.2.2 42).bind fun bt114 => (some (bt102.1, bt114.1)))))
theorem spec_DrawDescendingWith.calls (A0 : Option Addr) (c0 : Nat) (l0 : List Int) (r1 : Int) (r2 : Int) (w : World) (hr0 : Kd.C (Kd.int .u8) w A0 l0.length l0) (hc0 : l0.length ≤ c0) (h : spec_DrawDescendingWith.f l0 = some (r1, r2)) :
  Calls Try.prog 5 #[.slice A0 l0.length c0] w fun e w' => e = .returned (.tuple #[.int .i64 r1, .int .i64 r2]) ∧ Below w.heap.size w w' := by
 have hu42 := Try.underlying42; have HR0 := am_ hr0; have HC0 := am_ hc0; clear hr0 hc0; have HB := am_ (Below.refl w.heap.size w); (try unfold spec_DrawDescendingWith.f at h); have H := h; clear h; replace H := Option.bind_eq_some_iff.mp H; obtain ⟨⟨t102, t103, t104⟩, A20, H⟩ := H; (try dsimp only at H); have A2 := am_ A20; clear A20; replace H := Option.bind_eq_some_iff.mp H; obtain ⟨⟨t105, t106, t107⟩, A30, H⟩ := H; (try dsimp only at H); have A3 := am_ A30; clear A30
 by_cases c4 : t105 = true
 ·subst c4; have H1 : ((spec_l1Cur_among.f l0 t106 t107 (([(-1), 0, 1, 2, 6, 7, 41, 42] : List Int))).bind fun bt111 => (some (t102, bt111.1))) = some (r1, r2) := tc19_; clear H; have H := H1; clear H1; obtain ⟨y108, hy108⟩ : ∃ y_ : List Int, y_ = (([(-1), 0, 1, 2, 6, 7, 41, 42] : List Int)) := ⟨_, rfl⟩; replace H : ((spec_l1Cur_among.f l0 t106 t107 y108).bind fun bt111 => (some (t102, bt111.1))) = some (r1, r2) := tc26_; have Ny108 := am_ hy108; clear hy108; replace H := Option.bind_eq_some_iff.mp H; obtain ⟨⟨t111, t112, t113⟩, A50, H⟩ := H; (try dsimp only at H); have A5 := am_ A50; clear A50; simp only [Option.some.injEq, Prod.mk.injEq] at H; obtain ⟨rfl, rfl⟩ := H; go_enter Try.func5, Try.ntmps5
  go_wp2_with (first | ((with_reducible refine gate_dst (N := 8) rfl ?_); refine box_event ?hg (N := 8) ?hd (cs := #[.slice A0 l0.length c0, .int .i64 0, .int .u64 0]) (t := 42) ?hr ?_; (case hd => rfl); (case hg => rfl); (case hr => exact tc36_); intro gb101 hg w6 hbox hb; have GW101 := am_ ((by rw [hg]; exact (below_size tc0_) : w.heap.size ≤ gb101)); have GE101 := am_ ((by rw [hg]; exact (below_size tc0_) : w.heap.size ≤ gb101)); have HI101 := am_ ((show IsS42 w w6 gb101 l0 0 0 from ⟨A0, c0, hbox, (by rw [hg]; exact (below_size tc0_) : w.heap.size ≤ gb101), HR0.out⟩)); replace HB := am_ (below_step tc0_ hb); clear hb hbox hg) | (refine gc_ (some 10) Try.func20 #[.pointer (some ⟨gb101, 0, none⟩), .int .i64 4] ?_; (with_reducible refine (spec_l1Cur_side.calls gb101 l0 0 0 4 t102 t103 t104 w _ ?side1 ?side2 A2.out).mono ?_); (case side1 => exact tc20_); (case side2 => exact tc12_); rintro e w7 ⟨rfl, hi, hb, hk⟩; refine ⟨_, rfl, ?_⟩; replace HB := am_ (hb); replace HI101 := am_ (hi); (try clear hb hk hi)) | (refine gc_ (some 12) Try.func21 #[.pointer (some ⟨gb101, 0, none⟩), .int .i64 4] ?_; (with_reducible refine (spec_l1Cur_one.calls gb101 l0 t103 t104 4 true t106 t107 w _ ?side1 ?side2 A3.out).mono ?_); (case side1 => exact tc20_); (case side2 => exact tc12_); rintro e w8 ⟨rfl, hi, hb, hk⟩; refine ⟨_, rfl, ?_⟩; replace HB := am_ (hb); replace HI101 := am_ (hi); (try clear hb hk hi)) | ((with_reducible refine gate_dst (N := 15) rfl ?_); refine Kd.R_lit (Kd.int .i64) _ 3 ?hg (N := 15) ?hd (xs := ([(-1), 0, 1, 2, 6, 7, 41, 42] : List Int)) (inner := [.int .i64 (-1), .int .i64 0, .int .i64 1, .int .i64 2, .int .i64 6, .int .i64 7, .int .i64 41, .int .i64 42]) (ok := fun _ => True) (okp := fun _ => True) ?hr ?hp (fun _ hk => hk) trivial (Below.refl _ _) (Nat.le_refl _) (by simp) ?_; (case hd => rfl); (case hg => rfl); (case hr => exact tc36_); (case hp => exact (Reps.one (show Kd.M (Kd.int .i64) _ _ _ (-1) [.int .i64 (-1)] from rfl) (Reps.one (show Kd.M (Kd.int .i64) _ _ _ 0 [.int .i64 0] from rfl) (Reps.one (show Kd.M (Kd.int .i64) _ _ _ 1 [.int .i64 1] from rfl) (Reps.one (show Kd.M (Kd.int .i64) _ _ _ 2 [.int .i64 2] from rfl) (Reps.one (show Kd.M (Kd.int .i64) _ _ _ 6 [.int .i64 6] from rfl) (Reps.one (show Kd.M (Kd.int .i64) _ _ _ 7 [.int .i64 7] from rfl) (Reps.one (show Kd.M (Kd.int .i64) _ _ _ 41 [.int .i64 41] from rfl) (Reps.one (show Kd.M (Kd.int .i64) _ _ _ 42 [.int .i64 42] from rfl) (Reps.none _ _)))))))))); intro v109 w9 ho10 hb hg_ hnew_; clear hg_ hnew_; (first | rw [← Ny108.out] at ho10 | (simp only [Int.reduceToNat] at ho10; rw [← Ny108.out] at ho10)); have HO110 := am_ (Kd.R_lower ho10 (below_size tc12_)); replace HB := am_ (below_step tc12_ hb); replace HI101 := am_ (IsS42.below tc20_ hb); clear hb ho10; obtain ⟨Ao11, co11, eo11⟩ := Kd.R_slice HO110.out; subst eo11) | (refine gc_ (some 16) Try.func22 #[.pointer (some ⟨gb101, 0, none⟩), .slice Ao11 y108.length co11] ?_; (with_reducible refine (spec_l1Cur_among.calls gb101 l0 t106 t107 _ _ y108 t111 t112 t113 w _ ?side1 ?side2 ?side3 ?side4 ?side5 A5.out).mono ?_); (case side1 => exact tc20_); (case side2 => exact tc12_); (case side3 => repeat (first | exact (Kd.R_reads' HO110.out).2.2 | (with_reducible refine Kd.C_alloc ?_ _) | (with_reducible refine Kd.C_drewN ?_ _) | (with_reducible refine Kd.C_drew ?_))); (case side4 => exact (Kd.R_reads' HO110.out).2.1); (case side5 => exact far_slice (IsS42.own_ne HI101.out HO110.out (by decide))); rintro e w12 ⟨rfl, hi, hb, hk⟩; refine ⟨_, rfl, ?_⟩; have n0_ := am_ (Kd.R_mono (Kd.R_keep (IsS42.apart (show IsS42 w _ gb101 l0 t106 t107 from tc20_) (by (with_reducible repeat (first | apply Kd.R_alloc | apply Kd.R_drewN | apply Kd.R_drew)); exact HO110.out) (by decide)) hk (fun _ h => h.2)) (fun _ h => h.1)); have n1_ := am_ (hb); have n2_ := am_ (hi); clear HO110 HB HI101; have HO110 := n0_; have HB := n1_; have HI101 := n2_; clear n0_ n1_ n2_; (try clear hb hk hi)))
  go_ret2
  exact ⟨tc4_, tc12_⟩
 ·replace c4 := Bool.eq_false_iff.mpr c4; subst c4; have H1 : ((spec_l1Cur_pick.f l0 t106 t107 42).bind fun bt114 => (some (t102, bt114.1))) = some (r1, r2) := tc8_; clear H; have H := H1; clear H1; replace H := Option.bind_eq_some_iff.mp H; obtain ⟨⟨t114, t115, t116⟩, A130, H⟩ := H; (try dsimp only at H); have A13 := am_ A130; clear A130; simp only [Option.some.injEq, Prod.mk.injEq] at H; obtain ⟨rfl, rfl⟩ := H; go_enter Try.func5, Try.ntmps5
  go_wp2_with (first | ((with_reducible refine gate_dst (N := 8) rfl ?_); refine box_event ?hg (N := 8) ?hd (cs := #[.slice A0 l0.length c0, .int .i64 0, .int .u64 0]) (t := 42) ?hr ?_; (case hd => rfl); (case hg => rfl); (case hr => exact tc36_); intro gb101 hg w14 hbox hb; have GW101 := am_ ((by rw [hg]; exact (below_size tc0_) : w.heap.size ≤ gb101)); have GE101 := am_ ((by rw [hg]; exact (below_size tc0_) : w.heap.size ≤ gb101)); have HI101 := am_ ((show IsS42 w w14 gb101 l0 0 0 from ⟨A0, c0, hbox, (by rw [hg]; exact (below_size tc0_) : w.heap.size ≤ gb101), HR0.out⟩)); replace HB := am_ (below_step tc0_ hb); clear hb hbox hg) | (refine gc_ (some 10) Try.func20 #[.pointer (some ⟨gb101, 0, none⟩), .int .i64 4] ?_; (with_reducible refine (spec_l1Cur_side.calls gb101 l0 0 0 4 t102 t103 t104 w _ ?side1 ?side2 A2.out).mono ?_); (case side1 => exact tc20_); (case side2 => exact tc12_); rintro e w15 ⟨rfl, hi, hb, hk⟩; refine ⟨_, rfl, ?_⟩; replace HB := am_ (hb); replace HI101 := am_ (hi); (try clear hb hk hi)) | (refine gc_ (some 12) Try.func21 #[.pointer (some ⟨gb101, 0, none⟩), .int .i64 4] ?_; (with_reducible refine (spec_l1Cur_one.calls gb101 l0 t103 t104 4 false t106 t107 w _ ?side1 ?side2 A3.out).mono ?_); (case side1 => exact tc20_); (case side2 => exact tc12_); rintro e w16 ⟨rfl, hi, hb, hk⟩; refine ⟨_, rfl, ?_⟩; replace HB := am_ (hb); replace HI101 := am_ (hi); (try clear hb hk hi)) | (refine gc_ (some 19) Try.func23 #[.pointer (some ⟨gb101, 0, none⟩), .int .i64 42] ?_; (with_reducible refine (spec_l1Cur_pick.calls gb101 l0 t106 t107 42 t114 t115 t116 w _ ?side1 ?side2 A13.out).mono ?_); (case side1 => exact tc20_); (case side2 => exact tc12_); rintro e w17 ⟨rfl, hi, hb, hk⟩; refine ⟨_, rfl, ?_⟩; replace HB := am_ (hb); replace HI101 := am_ (hi); (try clear hb hk hi)))
  go_ret2
  exact ⟨tc4_, tc12_⟩

/-! ### impl_within: function 24 -/
def impl_within.f (a0 : Int) (a1 : Int) (a2 : Int) : Option (Bool) := if a1 ≤ a0 then (some (decide (a0 ≤ a2))) else (some false)
theorem impl_within.calls (a0 : Int) (a1 : Int) (a2 : Int) (r : Bool) (w : World) (h : impl_within.f a0 a1 a2 = some r) :
  Calls Try.prog 24 #[.int .i64 a0, .int .i64 a1, .int .i64 a2] w fun e w' => e = .returned (.bool r) ∧ Drawn0 w w' := by
 (try unfold impl_within.f at h); have H := h; clear h
 replace H := sp_ H; obtain ⟨c4b0, H⟩ | ⟨c4b0, H⟩ := H
 ·obtain rfl := Option.some.inj H; go_enter Try.func24, Try.ntmps24; go_wp2
  go_ret
  exact ⟨tc3_, tc5_⟩
 ·obtain rfl := Option.some.inj H; go_enter Try.func24, Try.ntmps24; go_wp2
  go_ret
  exact ⟨tc3_, tc5_⟩

/-! ### slices_Clone_int_int_59: function 59 (by hand) -/
def slices_Clone_int_int_59.f (l0 : List Int) : Option (List Int) := if l0.length < 17592186044416 then some l0 else none
set_option maxHeartbeats 1000000 in
theorem slices_Clone_int_int_59.calls (A0 : Option Addr) (c0 : Nat) (l0 : List Int) (r : List Int) (w : World) (hr0 : Kd.C (Kd.int .i64) w A0 l0.length l0) (hc0 : l0.length ≤ c0) (h : slices_Clone_int_int_59.f l0 = some r) :
    Calls Try.prog 59 #[.slice A0 l0.length c0] w fun e w' => ∃ v0_ : Value, e = .returned (v0_) ∧ Kd.R (Kd.int .i64) 3 w' w.heap.size (fun _ => True) v0_ r ∧ Below w.heap.size w w' := by
  have hlt : l0.length < 17592186044416 := by
    unfold slices_Clone_int_int_59.f at h
    split at h
    · assumption
    · cases h
  unfold slices_Clone_int_int_59.f at h
  rw [if_pos hlt] at h
  obtain rfl := Option.some.inj h
  have LMc2 := am_ (show ([] : List Int).length + l0.length < 17592186044416 by simpa using hlt)
  clear h hlt
  have HR0 := am_ hr0
  have HC0 := am_ hc0
  clear hr0 hc0
  have HB := am_ (Below.refl w.heap.size w)
  cases A0 with
  | none =>
    have hl : l0 = [] := by
      have h1 := HR0.out.2.2
      cases l0 with
      | nil => rfl
      | cons x xs =>
        obtain ⟨ad, e, _⟩ := h1 (by simp)
        cases e
    subst hl
    have hq := fun W : World => Lib.run_eql_slice_nil (P := Try.prog) W 46 3 none ([] : List Int).length c0 0 0 Try.underlying46
    simp only [Option.isNone_none, List.length_nil] at hq
    go_enter Try.func59, Try.ntmps59
    go_wp2
    go_ret
    exact ⟨_, rfl, Kd.R_nil _ _ _ _ _, Below.refl _ _⟩
  | some ad =>
    have hq := fun W : World => Lib.run_eql_slice_nil (P := Try.prog) W 46 3 (some ad) l0.length c0 0 0 Try.underlying46
    simp only [Option.isNone_some] at hq
    obtain ⟨y101, hy101⟩ : ∃ y_ : List Int, y_ = (([] : List Int)) := ⟨_, rfl⟩
    rw [← hy101] at LMc2
    have Ny101 := am_ hy101
    clear hy101
    obtain ⟨y104, hy104⟩ : ∃ y_ : List Int, y_ = (y101 ++ l0) := ⟨_, rfl⟩
    have Ny104 := am_ hy104
    clear hy104
    go_enter Try.func59, Try.ntmps59
    go_wp2_with (first | ((with_reducible refine gate_dst (N := 5) rfl ?_); refine Kd.R_lit (Kd.int .i64) _ 3 ?hg (N := 5) ?hd (xs := ([] : List Int)) (inner := []) (ok := fun _ => True) (okp := fun _ => True) ?hr ?hp (fun _ hk => hk) trivial (Below.refl _ _) (Nat.le_refl _) (by simp) ?_; (case hd => rfl); (case hg => rfl); (case hr => exact tc36_); (case hp => exact (Reps.none _ _)); intro v102 w3 ho4 hb hg_ hnew_; clear hg_ hnew_; (first | rw [← Ny101.out] at ho4 | (simp only [Int.reduceToNat] at ho4; rw [← Ny101.out] at ho4)); have HO103 := am_ (Kd.R_lower ho4 (below_size tc0_)); replace HB := am_ (below_step tc0_ hb); clear hb ho4) | ((with_reducible refine gate_builtin (b := .append) (xs := #[.tmp 5, .tmp 6]) rfl ?_); at_builtin; refine Kd.R_append_rows (Kd.int .i64) (w0 := w) w.heap.size rfl (.tmp 5) (.tmp 6) 46 3 (.int .i64 0) 8 rfl Try.underlying46 info3 rfl (by decide) (by omega) v102 y101 l0 _ _ _ (fun _ => True) (fun _ => False) rfl rfl ?aO ?aR (fun _ _ h => h) (fun _ h => h.elim) ?aF ?aB ?aS ?aL ?_; (case aR => exact tc22_); (case aB => exact tc6_); (case aF => exact tc81_); (case aO => exact (by (with_reducible repeat (first | apply Kd.R_alloc | apply Kd.R_drewN | apply Kd.R_drew)); exact HO103.out)); (case aS => exact tc11_); (case aL => have := LMc2.out; omega); intro v105 w5 ho hb hg hat; rw [← Ny104.out] at ho; replace HB := am_ (hb); have HO106 := am_ (ho); clear HO103; clear ho hb hg hat))
    go_ret
    have he : y104 = l0 := by rw [Ny104.out, Ny101.out]; rfl
    exact ⟨_, rfl, he ▸ HO106.out, by repeat (first | (with_reducible first | exact HB.out | apply below_alloc | apply pw_below_drewN | apply below_drew1) | exact HB.out)⟩

/-! ### impl_firstRows_1: function 58 (by hand) -/
structure impl_firstRows_1.St (w0 : World) (n : Int) (B1 B2 B3 T3 : Nat) (w : World) (u : Value) (out : Tb_) : Prop where
  b1 : w.heap[B1]? = some (.cells #[u] 26 (0, 0))
  b2 : w.heap[B2]? = some (.cells #[.int .i64 n] 3 (0, 0))
  b3 : w.heap[B3]? = some (.cells #[.func (.func 58) #[] #[.pointer (some ⟨B1, 0, none⟩), .pointer (some ⟨B2, 0, none⟩), .pointer (some ⟨B3, 0, none⟩)]] T3 (0, 0))
  ho : Kd.R (Kd.slice 3 (Kd.int .i64)) 46 w w0.heap.size (fun _ => True) u out
  hb : Below w0.heap.size w0 w
  ge : w0.heap.size ≤ B1
theorem impl_firstRows_1.St.below {w0 : World} {n : Int} {B1 B2 B3 T3 : Nat} {w w1 : World} {u : Value} {out : Tb_} (h : impl_firstRows_1.St w0 n B1 B2 B3 T3 w u out) (hb : Below w.heap.size w w1) : impl_firstRows_1.St w0 n B1 B2 B3 T3 w1 u out :=
  ⟨blk_below h.b1 hb, blk_below h.b2 hb, blk_below h.b3 hb, Kd.R_below h.ho hb, below_step h.hb hb, h.ge⟩
theorem impl_firstRows_1.St.push {w0 : World} {n : Int} {B1 B2 B3 T3 : Nat} (hT3 : T3 ≠ 26 ∧ T3 ≠ 46) {w w5 : World} {u v : Value} {out : Tb_} {x : List Int} (h : impl_firstRows_1.St w0 n B1 B2 B3 T3 w u out)
    (ho : Kd.R (Kd.slice 3 (Kd.int .i64)) 46 w5 w0.heap.size (fun _ => True) v (out ++ [x])) (hb : Below w0.heap.size w0 w5) (hg : w.grownBy w5 u.ownBlock) :
    impl_firstRows_1.St w0 n B1 B2 B3 T3 (w5.setCell ⟨B1, 0, none⟩ v) v (out ++ [x]) ∧ Kept w (w5.setCell ⟨B1, 0, none⟩ v) (fun k => k = B1 ∨ some k = u.ownBlock) := by
  have n12 := blk_ne h.b1 h.b2 (by decide)
  have n13 := blk_ne h.b1 h.b3 (Ne.symm hT3.1)
  have b1 := blk_grown h.b1 hg (Kd.R_ne h.ho h.b1 (by decide))
  exact ⟨⟨blk_set b1 0 v, blk_far (blk_grown h.b2 hg (Kd.R_ne h.ho h.b2 (by decide))) (Ne.symm n12) v, blk_far (blk_grown h.b3 hg (Kd.R_ne h.ho h.b3 (Ne.symm hT3.2))) (Ne.symm n13) v, Kd.R_set ho b1 (by decide) 0 v, below_set hb h.ge, h.ge⟩,
    Kept.setCell (Kept.of_grown hg (Kept.refl _ _) (fun k hk => .inl (.inr hk.symm))) (.inl (.inl rfl)) v⟩
mutual
def impl_firstRows_1.l0 : Nat → Int → List Int → Int → Int → Option Tb_
  | 0, _, _, _, _ => none
  | k + 1, n, l, m, x => if x ≤ m then (if l.length < 1000000 then (if ((l ++ [x]).length : Int) < rd (l ++ [x]) 0 then ((impl_firstRows_1.f k n (l ++ [x])).bind fun a => (impl_firstRows_1.l0 k n l m (wrap64 (x + 1))).bind fun b => some (a ++ b)) else impl_firstRows_1.l0 k n l m (wrap64 (x + 1))) else none) else some []
def impl_firstRows_1.f : Nat → Int → List Int → Option Tb_
  | 0, _, _ => none
  | k + 1, n, l => if (l.length : Int) > 0 then ((impl_firstRows_1.l0 k n l (rd l (wrap64 ((l.length : Int) - 1))) 1).bind fun r => some (l :: r)) else impl_firstRows_1.l0 k n l n 1
end
theorem impl_firstRows_1.mono_l : ∀ k, (∀ y0 y1, LeO (impl_firstRows_1.f k y0 y1) (impl_firstRows_1.f (k + 1) y0 y1)) ∧ (∀ y0 y1 y2 y3, LeO (impl_firstRows_1.l0 k y0 y1 y2 y3) (impl_firstRows_1.l0 (k + 1) y0 y1 y2 y3))
  | 0 => ⟨fun _ _ r h => by simp [impl_firstRows_1.f] at h, fun _ _ _ _ r h => by simp [impl_firstRows_1.l0] at h⟩
  | k + 1 => by
    obtain ⟨ih0, ih1⟩ := impl_firstRows_1.mono_l k
    refine ⟨?_, ?_⟩
    · intro y0 y1
      unfold impl_firstRows_1.f
      exact LeO.ite (LeO.bind (ih1 _ _ _ _) (fun _ => LeO.refl _)) (ih1 _ _ _ _)
    · intro y0 y1 y2 y3
      unfold impl_firstRows_1.l0
      exact LeO.ite (LeO.ite (LeO.ite (LeO.bind (ih0 _ _) (fun _ => LeO.bind (ih1 _ _ _ _) (fun _ => LeO.refl _))) (ih1 _ _ _ _)) (LeO.refl _)) (LeO.refl _)
theorem impl_firstRows_1.mono : ∀ a0 a1 k, LeO (impl_firstRows_1.f k a0 a1) (impl_firstRows_1.f (k + 1) a0 a1) := fun a0 a1 k => (impl_firstRows_1.mono_l k).1 a0 a1
theorem impl_firstRows_1.calls (k : Nat) : ∀ (A0 : Option Addr) (c0 : Nat) (l0 : List Int) (n : Int) (B1 B2 B3 T3 : Nat) (hT3 : T3 ≠ 26 ∧ T3 ≠ 46) (u : Value) (out r : Tb_) (w0 w : World)
    (hs : impl_firstRows_1.St w0 n B1 B2 B3 T3 w u out) (hl : Kd.R (Kd.int .i64) 3 w w0.heap.size (fun _ => True) (.slice A0 l0.length c0) l0) (hn : out.length + r.length < 5864062014805) (h : impl_firstRows_1.f k n l0 = some r),
    Calls Try.prog 58 (#[.slice A0 l0.length c0] ++ #[.pointer (some ⟨B1, 0, none⟩), .pointer (some ⟨B2, 0, none⟩), .pointer (some ⟨B3, 0, none⟩)]) w fun e w' => e = .returned (.tuple #[]) ∧ ∃ u', impl_firstRows_1.St w0 n B1 B2 B3 T3 w' u' (out ++ r) ∧ Kept w w' (fun k => k = B1 ∨ some k = u.ownBlock) ∧ (u'.ownBlock = u.ownBlock ∨ ∃ b, u'.ownBlock = some b ∧ w.heap.size ≤ b) := by
  induction k using Nat.strongRecOn with
  | _ k ih =>
  intro A0 c0 l0 n B1 B2 B3 T3 hT3 u out r w0 w hs hl hn h
  cases k with
  | zero => exact absurd h (by simp [impl_firstRows_1.f])
  | succ k =>
  simp only [impl_firstRows_1.f] at h
  have HS := am_ hs
  have HL := am_ hl
  have HN := am_ hn
  have hz0 : l0.length ≤ 9223372036854775807 := (Kd.R_reads' hl).2.2.2.1
  have HZ0 := am_ hz0
  clear hs hl hn hz0
  have hc2 : w.cell? ⟨B2, 0, none⟩ = some (.int .i64 n) := (blk_cell HS.out.b2 0).trans rfl
  by_cases c1 : (l0.length : Int) > 0
  · rw [if_pos c1] at h
    have c1b := decide_eq_true c1
    obtain ⟨rr, hrr, h⟩ := Option.bind_eq_some_iff.mp h
    obtain rfl := Option.some.inj h
    have HF := am_ hrr
    have hw : wrap64 ((l0.length : Int) - 1) = (l0.length : Int) - 1 := Go.IntWalk.wrap64_in _ ⟨by omega, by have := HZ0.out; omega⟩
    obtain ⟨ix, hix⟩ : ∃ ix, wrap64 ((l0.length : Int) - 1) = ix := ⟨_, rfl⟩
    have p1 : 0 ≤ ix := by rw [← hix, hw]; omega
    have q1 : ix < (l0.length : Int) := by rw [← hix, hw]; omega
    rw [hix] at HF
    have HIX := am_ hix
    clear h hrr c1 hw
    have hc1 : w.cell? ⟨B1, 0, none⟩ = some u := (blk_cell HS.out.b1 0).trans rfl
    have hf1 := blk_frozen HS.out.b1 0
    go_enter Try.func58, Try.ntmps58
    go_wp2_with (first | ((with_reducible refine gate_builtin (b := .append) (xs := #[.tmp 11, .tmp 13]) rfl ?_); at_builtin; refine Kd.R_append (Kd.slice 3 (Kd.int .i64)) (w0 := w0) w0.heap.size rfl (.tmp 11) (.tmp 13) 26 46 (.slice none 0 0) 24 rfl Try.underlying26 info46 rfl (by decide) (by omega) u out l0 [.slice A0 l0.length c0] (fun _ => True) (fun k => True ∧ some k ≠ u.ownBlock) rfl rfl ⟨_, rfl, Kd.R_apart' HL.out (Kd.R_typed HS.out.ho) (by decide)⟩ (fun _ hk => hk) (fun _ _ => trivial) HS.out.ho HS.out.hb (below_size HS.out.hb) (by have := HN.out; simp only [List.length_cons] at this; omega) ?_; intro v5 w5 ho5 hb5 hg5 hat5; obtain ⟨A5, k5, e5⟩ := Kd.R_slice ho5; subst e5; rw [List.length_append, List.length_singleton] at ho5 hat5; have HO5 := am_ ho5; have HB5 := am_ hb5; have HG5 := am_ hg5; have HA5 := am_ hat5; clear ho5 hb5 hg5 hat5; have HP5 := am_ (impl_firstRows_1.St.push hT3 HS.out HO5.out HB5.out HG5.out); have HL5 := am_ (Kd.R_mono (Kd.R_kept (Kd.R_apart' (Kd.R_types HL.out HS.out.b1 (by decide)) (Kd.R_typed HS.out.ho) (by decide)) HP5.out.2 (fun k_ hk hS => hS.elim hk.1.2 hk.2)) (ok' := fun _ => True) (fun _ _ => trivial)); have hc35 : w5.cell? ⟨B1, 0, none⟩ = some u := (blk_cell (blk_grown HS.out.b1 HG5.out (Kd.R_ne HS.out.ho HS.out.b1 (by decide))) 0).trans rfl; have hf35 := blk_frozen (blk_grown HS.out.b1 HG5.out (Kd.R_ne HS.out.ho HS.out.b1 (by decide))) 0; have hn35 : (w5.setCell ⟨B1, 0, none⟩ (.slice A5 (out.length + 1) k5)).cell? ⟨B2, 0, none⟩ = some (.int .i64 n) := (blk_cell HP5.out.1.b2 0).trans rfl; obtain ⟨ad, ea, hxx⟩ := Kd.at_int (Kd.R_reads' HL5.out).2.2 ix p1 q1; subst ea))
    clear hix
    go_loopg [6] k (fun kq v6 w' => ∃ (x : Int) (u' : Value) (acc rest : Tb_), v6 = .int .i64 x ∧ Aside0 (rr = acc ++ rest) ∧ Aside0 (impl_firstRows_1.l0 kq n l0 (rd l0 ix) x = some rest) ∧ Aside0 (kq ≤ k) ∧ Aside0 (impl_firstRows_1.St w0 n B1 B2 B3 T3 w' u' ((out ++ [l0]) ++ acc)) ∧ Aside0 (Kd.R (Kd.int .i64) 3 w' w0.heap.size (fun _ => True) (.slice (some ad) l0.length c0) l0) ∧ Aside0 (Kept w w' (fun k => k = B1 ∨ some k = u.ownBlock)) ∧ Aside0 (u'.ownBlock = u.ownBlock ∨ ∃ b, u'.ownBlock = some b ∧ w.heap.size ≤ b))
    case atStart => exact ⟨1, .slice A5 (out.length + 1) k5, [], rr, rfl, ⟨rfl⟩, HF, ⟨Nat.le_refl _⟩, ⟨by rw [List.append_nil]; exact HP5.out.1⟩, HL5, ⟨HP5.out.2⟩, ⟨HA5.out⟩⟩
    case round =>
      clear HF
      obtain ⟨x, u2, acc, rest, rfl, HE, HF, HK, HS2, HL2, HKp, HA⟩ := hrel
      cases gk with
      | zero => exact absurd HF.out (by simp [impl_firstRows_1.l0])
      | succ k1 =>
        have H := HF.out
        clear HF
        simp only [impl_firstRows_1.l0] at H
        by_cases c5 : x ≤ (rd l0 ix)
        · rw [if_pos c5] at H
          have c5b := decide_eq_true c5
          clear c5
          by_cases c7 : l0.length < 1000000
          case neg => rw [if_neg c7] at H; exact absurd H (by simp)
          rw [if_pos c7] at H
          have LM := am_ c7
          clear c7
          obtain ⟨Y, hY⟩ : ∃ Y : List Int, Y = l0 ++ [x] := ⟨_, rfl⟩
          rw [← hY] at H
          have HYL := am_ (show Y.length = l0.length + 1 by rw [hY]; simp)
          have NY := am_ hY
          clear hY
          have HH := am_ H
          clear H
          have HCV : ∀ (v31 v34 : Value), True := fun _ _ => trivial
          clear HCV
          by_cases c8 : (Y.length : Int) < rd Y 0
          · have H := HH.out
            rw [if_pos c8] at H
            obtain ⟨ra, ha, H⟩ := Option.bind_eq_some_iff.mp H
            obtain ⟨rb, hb, H⟩ := Option.bind_eq_some_iff.mp H
            have HR2 := am_ (Option.some.inj H).symm
            have HFa := am_ ha
            have HFb := am_ hb
            have c8b : decide (rd Y 0 > (Y.length : Int)) = true := decide_eq_true c8
            clear H ha hb c8 HH
            go_wp2_with (first | (go_at_call 59; (refine (slices_Clone_int_int_59.calls (some ad) c0 l0 l0 wr (Kd.R_reads' HL2.out).2.2 (Kd.R_reads' HL2.out).2.1 (if_pos tc79_)).mono ?_); rintro e w3 ⟨v31, rfl, ho3, hb3⟩; obtain ⟨A31, c31, e31⟩ := Kd.R_slice ho3; subst e31; have HO3 := am_ ho3; have HB3 := am_ hb3; clear ho3 hb3) | ((with_reducible refine gate_builtin (b := .append) (xs := #[.tmp 31, .tmp 33]) rfl ?_); at_builtin; go_loud (refine Kd.R_append (Kd.int .i64) (w0 := wr) wr.heap.size rfl (.tmp 31) (.tmp 33) 46 3 (.int .i64 0) 8 rfl Try.underlying46 info3 rfl (by decide) (by omega) (.slice A31 l0.length c31) l0 x [.int .i64 x] (fun _ => True) (fun _ => False) rfl rfl rfl (fun _ hk => hk.elim) (fun _ _ => trivial) HO3.out HB3.out (below_size HB3.out) tc79_ ?_; intro v34 w5 ho5 hb5 hg5 hat5; clear hg5 hat5; rw [← NY.out] at ho5; have HO5 := am_ ho5; have HB5 := am_ hb5; obtain ⟨A34, c34, e34⟩ := Kd.R_slice ho5; subst e34; clear hb5; have hy0 : ∃ ad, A34 = some ad ∧ w5.cell? (ad.add (0 : Int).toNat) = some (.int .i64 (rd Y 0)) := Kd.at_int (Kd.R_reads' ho5).2.2 0 (by omega) tc67_; obtain ⟨ad34, e34, hy0⟩ := hy0; subst e34; rw [show ((0 : Int)).toNat = 0 from rfl, Addr.add_zero'] at hy0; have z5 : (0 < Y.length) = True := eq_true tc67_; have z6 : ((0 : Int) < (Y.length : Int)) = True := eq_true tc67_; have hc3 : w5.cell? ⟨B3, 0, none⟩ = some (.func (.func 58) #[] #[.pointer (some ⟨B1, 0, none⟩), .pointer (some ⟨B2, 0, none⟩), .pointer (some ⟨B3, 0, none⟩)]) := (blk_cell (HS2.out.below HB5.out).b3 0).trans rfl; clear ho5)))
            refine (ih k1 (by have := HK.out; omega) (some ad34) c34 Y n B1 B2 B3 T3 hT3 u2 ((out ++ [l0]) ++ acc) ra w0 w5 (HS2.out.below HB5.out) (Kd.R_lower HO5.out (below_size HS2.out.hb)) tc77_ HFa.out).mono ?_
            rintro e w6 ⟨rfl, u3, hs6, hk6, hat6⟩
            have HS6 := am_ hs6
            have HK6 := am_ hk6
            have HT6 := am_ hat6
            clear hs6 hk6 hat6
            go_wp2
            have HL6 := am_ (Kd.R_mono (Kd.R_kept (Kd.R_apart' (Kd.R_types (Kd.R_below HL2.out HB5.out) (HS2.out.below HB5.out).b1 (by decide)) (Kd.R_typed (HS2.out.below HB5.out).ho) (by decide)) HK6.out (fun k_ hk hS => hS.elim hk.1.2 hk.2)) (fun _ _ => trivial))
            have HKp6 := am_ ((HKp.out.below HB5.out).then_ HK6.out (fun k_ hS => hS.elim (fun e => .inl (.inl e)) (fun e => HA.out.elim (fun ha => .inl (.inr (e.trans ha))) (fun ⟨b, hb, hle⟩ => .inr (by rw [hb] at e; injection e with e; omega)))))
            have HA6 : Aside0 (u3.ownBlock = u.ownBlock ∨ ∃ b, u3.ownBlock = some b ∧ w.heap.size ≤ b) := ⟨HT6.out.elim (fun h1 => HA.out.elim (fun h2 => .inl (h1.trans h2)) (fun ⟨b, h2, h3⟩ => .inr ⟨b, h1.trans h2, h3⟩)) (fun ⟨b, h2, h3⟩ => .inr ⟨b, h2, Nat.le_trans HKp.out.1 (Nat.le_trans (below_size HB5.out) h3)⟩)⟩
            go_roundg k1
            case measure => have := HK.out; omega
            case rel => exact ⟨wrap64 (x + 1), u3, acc ++ ra, rb, rfl, ⟨by rw [HE.out, HR2.out, List.append_assoc]⟩, HFb, ⟨by have := HK.out; omega⟩, ⟨by rw [← List.append_assoc]; exact HS6.out⟩, HL6, HKp6, HA6⟩
          · have H := HH.out
            rw [if_neg c8] at H
            have HFb := am_ H
            have c8b : decide (rd Y 0 > (Y.length : Int)) = false := decide_eq_false c8
            clear H c8 HH
            go_wp2_with (first | (go_at_call 59; (refine (slices_Clone_int_int_59.calls (some ad) c0 l0 l0 wr (Kd.R_reads' HL2.out).2.2 (Kd.R_reads' HL2.out).2.1 (if_pos tc79_)).mono ?_); rintro e w3 ⟨v31, rfl, ho3, hb3⟩; obtain ⟨A31, c31, e31⟩ := Kd.R_slice ho3; subst e31; have HO3 := am_ ho3; have HB3 := am_ hb3; clear ho3 hb3) | ((with_reducible refine gate_builtin (b := .append) (xs := #[.tmp 31, .tmp 33]) rfl ?_); at_builtin; go_loud (refine Kd.R_append (Kd.int .i64) (w0 := wr) wr.heap.size rfl (.tmp 31) (.tmp 33) 46 3 (.int .i64 0) 8 rfl Try.underlying46 info3 rfl (by decide) (by omega) (.slice A31 l0.length c31) l0 x [.int .i64 x] (fun _ => True) (fun _ => False) rfl rfl rfl (fun _ hk => hk.elim) (fun _ _ => trivial) HO3.out HB3.out (below_size HB3.out) tc79_ ?_; intro v34 w5 ho5 hb5 hg5 hat5; clear hg5 hat5; rw [← NY.out] at ho5; have HO5 := am_ ho5; have HB5 := am_ hb5; obtain ⟨A34, c34, e34⟩ := Kd.R_slice ho5; subst e34; clear hb5; have hy0 : ∃ ad, A34 = some ad ∧ w5.cell? (ad.add (0 : Int).toNat) = some (.int .i64 (rd Y 0)) := Kd.at_int (Kd.R_reads' ho5).2.2 0 (by omega) tc67_; obtain ⟨ad34, e34, hy0⟩ := hy0; subst e34; rw [show ((0 : Int)).toNat = 0 from rfl, Addr.add_zero'] at hy0; have z5 : (0 < Y.length) = True := eq_true tc67_; have z6 : ((0 : Int) < (Y.length : Int)) = True := eq_true tc67_; have hc3 : w5.cell? ⟨B3, 0, none⟩ = some (.func (.func 58) #[] #[.pointer (some ⟨B1, 0, none⟩), .pointer (some ⟨B2, 0, none⟩), .pointer (some ⟨B3, 0, none⟩)]) := (blk_cell (HS2.out.below HB5.out).b3 0).trans rfl; clear ho5)))
            go_roundg k1
            case measure => have := HK.out; omega
            case rel => exact ⟨wrap64 (x + 1), u2, acc, rest, rfl, HE, HFb, ⟨by have := HK.out; omega⟩, ⟨HS2.out.below HB5.out⟩, ⟨Kd.R_below HL2.out HB5.out⟩, ⟨HKp.out.below HB5.out⟩, HA⟩
        · rw [if_neg c5] at H
          have c5b := decide_eq_false c5
          clear c5
          obtain rfl := Option.some.inj H
          clear H
          go_wp2
          first | go_end0 | ((try simp only [Exit.inBlock, Exit.then]); refine bodyPost_ret (results_none rfl _ _ _) rfl ?_)
          exact ⟨rfl, u2, by have := HS2.out; have e_ := HE.out; rw [List.append_nil] at e_; subst e_; simpa using this, HKp.out, HA.out⟩
  · rw [if_neg c1] at h
    have c1b := decide_eq_false c1
    have HF := am_ h
    clear h c1
    have hc1 : w.cell? ⟨B1, 0, none⟩ = some u := (blk_cell HS.out.b1 0).trans rfl
    go_enter Try.func58, Try.ntmps58
    have z7 : (0 < l0.length) = False := eq_false (by have := of_decide_eq_false c1b; omega)
    have z8 : ((0 : Int) < (l0.length : Int)) = False := eq_false (by have := of_decide_eq_false c1b; omega)
    go_wp2
    go_loopg [6] k (fun kq v6 w' => ∃ (x : Int) (u' : Value) (acc rest : Tb_), v6 = .int .i64 x ∧ Aside0 (r = acc ++ rest) ∧ Aside0 (impl_firstRows_1.l0 kq n l0 n x = some rest) ∧ Aside0 (kq ≤ k) ∧ Aside0 (impl_firstRows_1.St w0 n B1 B2 B3 T3 w' u' (out ++ acc)) ∧ Aside0 (Kd.R (Kd.int .i64) 3 w' w0.heap.size (fun _ => True) (.slice A0 l0.length c0) l0) ∧ Aside0 (Kept w w' (fun k => k = B1 ∨ some k = u.ownBlock)) ∧ Aside0 (u'.ownBlock = u.ownBlock ∨ ∃ b, u'.ownBlock = some b ∧ w.heap.size ≤ b))
    case atStart => exact ⟨1, u, [], r, rfl, ⟨rfl⟩, HF, ⟨Nat.le_refl _⟩, ⟨by rw [List.append_nil]; exact HS.out⟩, HL, ⟨Kept.refl _ _⟩, ⟨.inl rfl⟩⟩
    case round =>
      clear HF
      obtain ⟨x, u2, acc, rest, rfl, HE, HF, HK, HS2, HL2, HKp, HA⟩ := hrel
      cases gk with
      | zero => exact absurd HF.out (by simp [impl_firstRows_1.l0])
      | succ k1 =>
        have H := HF.out
        clear HF
        simp only [impl_firstRows_1.l0] at H
        by_cases c5 : x ≤ n
        · rw [if_pos c5] at H
          have c5b := decide_eq_true c5
          clear c5
          by_cases c7 : l0.length < 1000000
          case neg => rw [if_neg c7] at H; exact absurd H (by simp)
          rw [if_pos c7] at H
          have LM := am_ c7
          clear c7
          obtain ⟨Y, hY⟩ : ∃ Y : List Int, Y = l0 ++ [x] := ⟨_, rfl⟩
          rw [← hY] at H
          have HYL := am_ (show Y.length = l0.length + 1 by rw [hY]; simp)
          have NY := am_ hY
          clear hY
          have HH := am_ H
          clear H
          have HCV : ∀ (v31 v34 : Value), True := fun _ _ => trivial
          clear HCV
          by_cases c8 : (Y.length : Int) < rd Y 0
          · have H := HH.out
            rw [if_pos c8] at H
            obtain ⟨ra, ha, H⟩ := Option.bind_eq_some_iff.mp H
            obtain ⟨rb, hb, H⟩ := Option.bind_eq_some_iff.mp H
            have HR2 := am_ (Option.some.inj H).symm
            have HFa := am_ ha
            have HFb := am_ hb
            have c8b : decide (rd Y 0 > (Y.length : Int)) = true := decide_eq_true c8
            clear H ha hb c8 HH
            go_wp2_with (first | (go_at_call 59; (refine (slices_Clone_int_int_59.calls A0 c0 l0 l0 wr (Kd.R_reads' HL2.out).2.2 (Kd.R_reads' HL2.out).2.1 (if_pos tc79_)).mono ?_); rintro e w3 ⟨v31, rfl, ho3, hb3⟩; obtain ⟨A31, c31, e31⟩ := Kd.R_slice ho3; subst e31; have HO3 := am_ ho3; have HB3 := am_ hb3; clear ho3 hb3) | ((with_reducible refine gate_builtin (b := .append) (xs := #[.tmp 31, .tmp 33]) rfl ?_); at_builtin; go_loud (refine Kd.R_append (Kd.int .i64) (w0 := wr) wr.heap.size rfl (.tmp 31) (.tmp 33) 46 3 (.int .i64 0) 8 rfl Try.underlying46 info3 rfl (by decide) (by omega) (.slice A31 l0.length c31) l0 x [.int .i64 x] (fun _ => True) (fun _ => False) rfl rfl rfl (fun _ hk => hk.elim) (fun _ _ => trivial) HO3.out HB3.out (below_size HB3.out) tc79_ ?_; intro v34 w5 ho5 hb5 hg5 hat5; clear hg5 hat5; rw [← NY.out] at ho5; have HO5 := am_ ho5; have HB5 := am_ hb5; obtain ⟨A34, c34, e34⟩ := Kd.R_slice ho5; subst e34; clear hb5; have hy0 : ∃ ad, A34 = some ad ∧ w5.cell? (ad.add (0 : Int).toNat) = some (.int .i64 (rd Y 0)) := Kd.at_int (Kd.R_reads' ho5).2.2 0 (by omega) tc67_; obtain ⟨ad34, e34, hy0⟩ := hy0; subst e34; rw [show ((0 : Int)).toNat = 0 from rfl, Addr.add_zero'] at hy0; have z5 : (0 < Y.length) = True := eq_true tc67_; have z6 : ((0 : Int) < (Y.length : Int)) = True := eq_true tc67_; have hc3 : w5.cell? ⟨B3, 0, none⟩ = some (.func (.func 58) #[] #[.pointer (some ⟨B1, 0, none⟩), .pointer (some ⟨B2, 0, none⟩), .pointer (some ⟨B3, 0, none⟩)]) := (blk_cell (HS2.out.below HB5.out).b3 0).trans rfl; clear ho5)))
            refine (ih k1 (by have := HK.out; omega) (some ad34) c34 Y n B1 B2 B3 T3 hT3 u2 (out ++ acc) ra w0 w5 (HS2.out.below HB5.out) (Kd.R_lower HO5.out (below_size HS2.out.hb)) tc77_ HFa.out).mono ?_
            rintro e w6 ⟨rfl, u3, hs6, hk6, hat6⟩
            have HS6 := am_ hs6
            have HK6 := am_ hk6
            have HT6 := am_ hat6
            clear hs6 hk6 hat6
            go_wp2
            have HL6 := am_ (Kd.R_mono (Kd.R_kept (Kd.R_apart' (Kd.R_types (Kd.R_below HL2.out HB5.out) (HS2.out.below HB5.out).b1 (by decide)) (Kd.R_typed (HS2.out.below HB5.out).ho) (by decide)) HK6.out (fun k_ hk hS => hS.elim hk.1.2 hk.2)) (fun _ _ => trivial))
            have HKp6 := am_ ((HKp.out.below HB5.out).then_ HK6.out (fun k_ hS => hS.elim (fun e => .inl (.inl e)) (fun e => HA.out.elim (fun ha => .inl (.inr (e.trans ha))) (fun ⟨b, hb, hle⟩ => .inr (by rw [hb] at e; injection e with e; omega)))))
            have HA6 : Aside0 (u3.ownBlock = u.ownBlock ∨ ∃ b, u3.ownBlock = some b ∧ w.heap.size ≤ b) := ⟨HT6.out.elim (fun h1 => HA.out.elim (fun h2 => .inl (h1.trans h2)) (fun ⟨b, h2, h3⟩ => .inr ⟨b, h1.trans h2, h3⟩)) (fun ⟨b, h2, h3⟩ => .inr ⟨b, h2, Nat.le_trans HKp.out.1 (Nat.le_trans (below_size HB5.out) h3)⟩)⟩
            go_roundg k1
            case measure => have := HK.out; omega
            case rel => exact ⟨wrap64 (x + 1), u3, acc ++ ra, rb, rfl, ⟨by rw [HE.out, HR2.out, List.append_assoc]⟩, HFb, ⟨by have := HK.out; omega⟩, ⟨by rw [← List.append_assoc]; exact HS6.out⟩, HL6, HKp6, HA6⟩
          · have H := HH.out
            rw [if_neg c8] at H
            have HFb := am_ H
            have c8b : decide (rd Y 0 > (Y.length : Int)) = false := decide_eq_false c8
            clear H c8 HH
            go_wp2_with (first | (go_at_call 59; (refine (slices_Clone_int_int_59.calls A0 c0 l0 l0 wr (Kd.R_reads' HL2.out).2.2 (Kd.R_reads' HL2.out).2.1 (if_pos tc79_)).mono ?_); rintro e w3 ⟨v31, rfl, ho3, hb3⟩; obtain ⟨A31, c31, e31⟩ := Kd.R_slice ho3; subst e31; have HO3 := am_ ho3; have HB3 := am_ hb3; clear ho3 hb3) | ((with_reducible refine gate_builtin (b := .append) (xs := #[.tmp 31, .tmp 33]) rfl ?_); at_builtin; go_loud (refine Kd.R_append (Kd.int .i64) (w0 := wr) wr.heap.size rfl (.tmp 31) (.tmp 33) 46 3 (.int .i64 0) 8 rfl Try.underlying46 info3 rfl (by decide) (by omega) (.slice A31 l0.length c31) l0 x [.int .i64 x] (fun _ => True) (fun _ => False) rfl rfl rfl (fun _ hk => hk.elim) (fun _ _ => trivial) HO3.out HB3.out (below_size HB3.out) tc79_ ?_; intro v34 w5 ho5 hb5 hg5 hat5; clear hg5 hat5; rw [← NY.out] at ho5; have HO5 := am_ ho5; have HB5 := am_ hb5; obtain ⟨A34, c34, e34⟩ := Kd.R_slice ho5; subst e34; clear hb5; have hy0 : ∃ ad, A34 = some ad ∧ w5.cell? (ad.add (0 : Int).toNat) = some (.int .i64 (rd Y 0)) := Kd.at_int (Kd.R_reads' ho5).2.2 0 (by omega) tc67_; obtain ⟨ad34, e34, hy0⟩ := hy0; subst e34; rw [show ((0 : Int)).toNat = 0 from rfl, Addr.add_zero'] at hy0; have z5 : (0 < Y.length) = True := eq_true tc67_; have z6 : ((0 : Int) < (Y.length : Int)) = True := eq_true tc67_; have hc3 : w5.cell? ⟨B3, 0, none⟩ = some (.func (.func 58) #[] #[.pointer (some ⟨B1, 0, none⟩), .pointer (some ⟨B2, 0, none⟩), .pointer (some ⟨B3, 0, none⟩)]) := (blk_cell (HS2.out.below HB5.out).b3 0).trans rfl; clear ho5)))
            go_roundg k1
            case measure => have := HK.out; omega
            case rel => exact ⟨wrap64 (x + 1), u2, acc, rest, rfl, HE, HFb, ⟨by have := HK.out; omega⟩, ⟨HS2.out.below HB5.out⟩, ⟨Kd.R_below HL2.out HB5.out⟩, ⟨HKp.out.below HB5.out⟩, HA⟩
        · rw [if_neg c5] at H
          have c5b := decide_eq_false c5
          clear c5
          obtain rfl := Option.some.inj H
          clear H
          go_wp2
          first | go_end0 | ((try simp only [Exit.inBlock, Exit.then]); refine bodyPost_ret (results_none rfl _ _ _) rfl ?_)
          exact ⟨rfl, u2, by have := HS2.out; rw [HE.out, List.append_nil]; exact this, HKp.out, HA.out⟩

/-! ### impl_firstRows: function 46 (by hand) -/
def impl_firstRows.f (k : Nat) (a0 : Int) : Option Tb_ := (impl_firstRows_1.f k a0 []).bind fun r => if r.length < 1000000 then some r else none
theorem impl_firstRows.mono : ∀ a0 k, LeO (impl_firstRows.f k a0) (impl_firstRows.f (k + 1) a0) := fun a0 k => by
  unfold impl_firstRows.f
  exact LeO.bind (impl_firstRows_1.mono _ _ _) (fun _ => LeO.refl _)
theorem impl_firstRows.calls (k : Nat) (a0 : Int) (r : Tb_) (w : World) (h : impl_firstRows.f k a0 = some r) :
    Calls Try.prog 46 #[.int .i64 a0] w fun e w' => ∃ v0_ : Value, e = .returned v0_ ∧ Kd.R (Kd.slice 3 (Kd.int .i64)) 46 w' w.heap.size (fun _ => True) v0_ r ∧ Below w.heap.size w w' := by
  obtain ⟨r', h1, h2⟩ := Option.bind_eq_some_iff.mp h
  have hr : r'.length < 1000000 := by
    split at h2
    · assumption
    · cases h2
  rw [if_pos hr] at h2
  obtain rfl := Option.some.inj h2
  have HF := am_ h1
  have HL := am_ hr
  clear h h1 h2 hr
  have HB := am_ (Below.refl w.heap.size w)
  go_enter Try.func46, Try.ntmps46
  go_wp2_with fail
  refine (impl_firstRows_1.calls k none 0 [] a0 (w.heap.size + 1 + 1) w.heap.size (w.heap.size + 1 + 1 + 1) 71 (by decide) (.slice (some ⟨w.heap.size + 1, 0, none⟩) 0 0) [] r' w _ ⟨?b2, ?b3, ?b4, ?ho, ?hb, by omega⟩ (Kd.R_nil _ _ _ _ _) (by have := HL.out; simp; omega) HF.out).mono ?_
  case b2 => exact blk_alloc (blk_new' (by simp)) _
  case b3 => exact blk_alloc (blk_alloc (blk_alloc (blk_new _ _) _) _) _
  case b4 => exact blk_new' (by simp)
  case ho => exact R_empty (blk_alloc (blk_alloc (blk_new' (by simp)) _) _) (by omega)
  case hb => exact below_alloc (below_alloc (below_alloc (below_alloc (Below.refl _ _) _) _) _) _
  rintro e w2 ⟨rfl, u2, hs2, _, _⟩
  have HS := am_ hs2
  clear hs2
  obtain ⟨A2, c2, e2⟩ := Kd.R_slice HS.out.ho
  subst e2
  have hc3 : w2.cell? ⟨w.heap.size + 1 + 1, 0, none⟩ = _ := (blk_cell HS.out.b1 0).trans rfl
  go_wp2
  go_ret
  exact ⟨_, rfl, HS.out.ho, HS.out.hb⟩

/-! ### impl_copyTable: function 48 -/
def impl_copyTable.l0 : Nat → Tb_ → Tb_ → Int → Int → Option (Tb_)
 | 0, _, _, _, _ => none
 | k + 1, x3, x7, x8, x9 => if x9 < x8 then (if 0 ≤ x9 then (if x9 < (x7.length : Int) then ((slices_Clone_int_int_59.f (rd_L3 x7 x9)).bind fun t105 => (if x3.length < 5864062014805 then (impl_copyTable.l0 k (x3 ++ [t105]) x7 x8 (wrap64 (x9 + 1))) else (none))) else (none)) else (none)) else (some x3)
def impl_copyTable.f (k : Nat) (l0 : Tb_) : Option (Tb_) := impl_copyTable.l0 k (([] : Tb_)) l0 (l0.length : Int) 0
theorem impl_copyTable.mono_l : ∀ k, (∀ y0 y1 y2 y3, LeO (impl_copyTable.l0 k y0 y1 y2 y3) (impl_copyTable.l0 (k + 1) y0 y1 y2 y3))
 | 0 => fun _ _ _ _ r h => by simp [impl_copyTable.l0] at h
 | k + 1 => by
  have ih0 := impl_copyTable.mono_l k
  ·intro y0 y1 y2 y3; unfold impl_copyTable.l0
   repeat' first
   | (with_reducible exact ih0 _ _ _ _)
   | (with_reducible exact LeO.refl _)
   | (with_reducible exact LeO.none _)
   | (with_reducible refine LeO.ite ?_ ?_)
   | (with_reducible refine LeO.bind ?_ (fun _ => ?_))
   | exact ih0 _ _ _ _
   | exact LeO.none _
   | refine LeO.ite ?_ ?_
   | refine LeO.bind ?_ (fun _ => ?_)
theorem impl_copyTable.mono : ∀ a0  k, LeO (impl_copyTable.f k a0) (impl_copyTable.f (k + 1) a0) := by
 intro a0 k; have ih0 := impl_copyTable.mono_l k; unfold impl_copyTable.f
 repeat' first
   | (with_reducible exact ih0 _ _ _ _)
   | (with_reducible exact LeO.refl _)
   | (with_reducible exact LeO.none _)
   | (with_reducible refine LeO.ite ?_ ?_)
   | (with_reducible refine LeO.bind ?_ (fun _ => ?_))
   | exact ih0 _ _ _ _
   | exact LeO.none _
   | refine LeO.ite ?_ ?_
   | refine LeO.bind ?_ (fun _ => ?_)
theorem impl_copyTable.calls (k : Nat) (A0 : Option Addr) (c0 : Nat) (l0 : Tb_) (r : Tb_) (w : World) (hr0 : Kd.C (Kd.slice 3 (Kd.int .i64)) w A0 l0.length l0) (hc0 : l0.length ≤ c0) (h : impl_copyTable.f k l0 = some r) :
  Calls Try.prog 48 #[.slice A0 l0.length c0] w fun e w' => ∃ v0_ : Value, e = .returned (v0_) ∧ Kd.S (Kd.slice 3 (Kd.int .i64)) 46 w' w.heap.size (fun _ => True) v0_ r ∧ Below w.heap.size w w' := by
 have HR0 := am_ hr0; have HC0 := am_ hc0; clear hr0 hc0; have HB := am_ (Below.refl w.heap.size w); (try unfold impl_copyTable.f at h); have H := h; clear h; obtain ⟨y101, hy101⟩ : ∃ y_ : Tb_, y_ = (([] : Tb_)) := ⟨_, rfl⟩; replace H : (impl_copyTable.l0 k y101 l0 (l0.length : Int) 0) = some r := tc27_; have Ny101 := am_ hy101; clear hy101; have H' := am_ H; clear H; go_enter Try.func48, Try.ntmps48
 go_wp2_with (first | ((with_reducible refine gate_dst (N := 6) rfl ?_); refine Kd.S_lit (Kd.slice 3 (Kd.int .i64)) _ 46 ?hg (N := 6) ?hd (xs := ([] : Tb_)) (inner := []) (ok := fun _ => True) (okp := fun _ => True) ?hr ?hp (fun _ hk => hk) trivial (Below.refl _ _) (Nat.le_refl _) (by simp) ?_; (case hd => rfl); (case hg => rfl); (case hr => exact tc36_); (case hp => exact (Reps.none _ _)); intro v102 w2 ho3 hb hg_ hnew_; clear hg_ hnew_; (first | rw [← Ny101.out] at ho3 | (simp only [Int.reduceToNat] at ho3; rw [← Ny101.out] at ho3)); have HO103 := am_ (Kd.S_lower ho3 (below_size tc0_)); replace HB := am_ (below_step tc0_ hb); clear hb ho3))
 go_loopg [3, 9] k (fun kq v3 v9 w' => ∃ (x3_1 : Tb_) (x9_1 : Int), v9 = .int .i64 x9_1 ∧ Aside0 (impl_copyTable.l0 kq x3_1 l0 (l0.length : Int) x9_1 = some r) ∧ Aside0 (kq ≤ k) ∧ Aside0 (Kd.S (Kd.slice 3 (Kd.int .i64)) 46 w' w.heap.size (fun _ => True) v3 x3_1) ∧ Aside0 (Below w.heap.size w w'))
 case atStart => exact ⟨(y101), (0), tc3_, H', ⟨Nat.le_refl _⟩, ⟨(by (with_reducible repeat (first | apply Kd.S_alloc | apply Kd.S_drewN | apply Kd.S_drew)); exact HO103.out)⟩, ⟨tc0_⟩⟩
 case round =>
  clear H'; (try clear p2); obtain ⟨x3_1, x9_1, rfl, HA, HK1, HO_3, HB⟩ := hrel
  cases gk with
  | zero => exact absurd HA.out (by simp [impl_copyTable.l0])
  | succ k1 =>
   have H := HA.out; clear HA; simp only [impl_copyTable.l0] at H
   replace H := sp_ H; obtain ⟨c4b0, H⟩ | ⟨c4b0, H⟩ := H
   ·replace H := ps_ H; obtain ⟨c5b0, H⟩ := H; replace H := ps_ H; obtain ⟨c6b0, H⟩ := H; replace H := bd_ H; obtain ⟨t105, A7, H⟩ := H; (try dsimp only at H); replace H := pp_ H; obtain ⟨c8, H⟩ := H; have LMc8 := am_ c8; clear c8; obtain ⟨y108, hy108⟩ : ∃ y_ : Tb_, y_ = (x3_1 ++ [t105]) := ⟨_, rfl⟩; replace H : (impl_copyTable.l0 k1 y108 l0 (l0.length : Int) (wrap64 (x9_1 + 1))) = some r := tc26_; have Ny108 := am_ hy108; clear hy108; have H' := am_ H; clear H; have p104 : 0 ≤ (x9_1 : Int) := od_; have q104 : x9_1 < (l0.length : Int) := od_; obtain ⟨ad104, A104_0, c104_0, e104, hx104_0, hl104_0, hi104_0⟩ := at_L3 HR0.out x9_1 p104 q104; cases e104; replace hx104_0 := (HB.out.cell (World.block_lt_of_cell? w _ hx104_0)).trans hx104_0; have HR104_0 := am_ hi104_0; have HC104_0 := am_ hl104_0; clear hi104_0 hl104_0; replace p104 := eq_true p104; replace q104 := eq_true q104
    go_wp2_with (first | (refine gc_ (some 15) Try.func59 #[.slice A104_0 (rd_L3 l0 x9_1).length c104_0] ?_; (with_reducible refine (slices_Clone_int_int_59.calls _ _ (rd_L3 l0 x9_1) t105 _ ?side1 ?side2 A7.out).mono ?_); (case side1 => repeat (first | exact (Kd.C_below HR104_0.out HB.out) | (with_reducible refine Kd.C_alloc ?_ _) | (with_reducible refine Kd.C_drewN ?_ _) | (with_reducible refine Kd.C_drew ?_))); (case side2 => exact HC104_0.out); rintro e w9 ⟨v106, rfl, ho0, hb⟩; refine ⟨_, rfl, ?_⟩; replace HO_3 := am_ (Kd.S_elder' tc51_ (Kd.R_base ho0) hb); have HO107 := am_ (Kd.R_lower ho0 (below_size tc0_)); replace HB := am_ (below_step tc0_ hb); (try clear hb ho0); obtain ⟨Ao11, co11, eo11⟩ := Kd.R_slice HO107.out; subst eo11) | ((with_reducible refine gate_builtin (b := .append) (xs := #[.tmp 13, .tmp 16]) rfl ?_); at_builtin; refine Kd.S_append (Kd.slice 3 (Kd.int .i64)) (w0 := w) w.heap.size rfl (.tmp 13) (.tmp 16) 26 46 (.slice none 0 0) 24 rfl Try.underlying26 info46 rfl (by decide) (by omega) u3 x3_1 t105 [.slice Ao11 t105.length co11] (fun _ => True) (fun k_ => some k_ = (.slice Ao11 t105.length co11 : Value).ownBlock) rfl rfl ?aP (fun k_ hk_ => ((Kd.R_mono (ok' := fun k_ => ((fun _ => True)) k_ ∧ some k_ ≠ (u3 : Value).ownBlock) (Kd.R_apart' (HO107.out) (Kd.S_typed HO_3.out) (by decide)) (fun k_ hk => ⟨trivial, hk.2⟩))).1 k_ hk_.symm) ?aF ?aO ?aB ?aS ?aL ?_; (case aP => exact Kd.M_row (Kd.R_mono (Kd.R_tight rfl (Kd.R_mono (ok' := fun k_ => ((fun _ => True)) k_ ∧ some k_ ≠ (u3 : Value).ownBlock) (Kd.R_apart' (HO107.out) (Kd.S_typed HO_3.out) (by decide)) (fun k_ hk => ⟨trivial, hk.2⟩))) (fun _ h_ => h_))); (case aB => exact tc6_); (case aF => exact tc81_); (case aO => exact tc68_); (case aS => exact tc11_); (case aL => have := LMc8.out; omega); intro v109 w10 ho hb hg hat; rw [← Ny108.out] at ho; replace HB := am_ (hb); have HO110 := am_ (ho); clear HO_3 HO107; clear ho hb hg hat))
    go_roundg k1
    case measure => have := HK1.out; omega
    case rel => exact ⟨(y108), (wrap64 (x9_1 + 1)), tc3_, H', ⟨tc40_⟩, ⟨(by (with_reducible repeat (first | apply Kd.S_alloc | apply Kd.S_drewN | apply Kd.S_drew)); exact HO110.out)⟩, ⟨tc0_⟩⟩
   ·obtain rfl := Option.some.inj H; go_wp2
    go_ret
    exact ⟨_, tc4_, tc51_, tc0_⟩

/-! ### slices_IndexFunc_int_int_66: function 66 -/
def slices_IndexFunc_int_int_66.l0 : Nat → Tb_ → ((List Int) → Option Bool) → Int → Int → Option (Int)
 | 0, _, _, _, _ => none
 | k + 1, x0, x1, x7, x8 => if x8 < x7 then (if 0 ≤ x8 then (if x8 < (x0.length : Int) then ((x1 (rd_L3 x0 x8)).bind fun t102 => (if t102 = true then (some x8) else (slices_IndexFunc_int_int_66.l0 k x0 x1 x7 (wrap64 (x8 + 1))))) else (none)) else (none)) else (some (-1))
def slices_IndexFunc_int_int_66.f (k : Nat) (l0 : Tb_) (a1 : ((List Int) → Option Bool)) : Option (Int) := slices_IndexFunc_int_int_66.l0 k l0 a1 (l0.length : Int) 0
theorem slices_IndexFunc_int_int_66.mono_l : ∀ k, (∀ y0 y1 y1' y2 y3 (hy1 : ∀ z0, LeO (y1 z0) (y1' z0)), LeO (slices_IndexFunc_int_int_66.l0 k y0 y1 y2 y3) (slices_IndexFunc_int_int_66.l0 (k + 1) y0 y1' y2 y3))
 | 0 => fun _ _ _ _ _ _ r h => by simp [slices_IndexFunc_int_int_66.l0] at h
 | k + 1 => by
  have ih0 := slices_IndexFunc_int_int_66.mono_l k
  ·intro y0 y1 y1' y2 y3 hy1; unfold slices_IndexFunc_int_int_66.l0
   repeat' first
   | (with_reducible exact ih0 _ _ _ _ _ hy1)
   | (with_reducible exact hy1 _)
   | (with_reducible exact LeO.refl _)
   | (with_reducible exact LeO.none _)
   | (with_reducible refine LeO.ite ?_ ?_)
   | (with_reducible refine LeO.bind ?_ (fun _ => ?_))
   | exact ih0 _ _ _ _ _ hy1
   | exact hy1 _
   | exact LeO.none _
   | refine LeO.ite ?_ ?_
   | refine LeO.bind ?_ (fun _ => ?_)
theorem slices_IndexFunc_int_int_66.mono : ∀ a0 a1 a1' (ha1 : ∀ z0, LeO (a1 z0) (a1' z0)) k, LeO (slices_IndexFunc_int_int_66.f k a0 a1) (slices_IndexFunc_int_int_66.f (k + 1) a0 a1') := by
 intro a0 a1 a1' ha1 k; have ih0 := slices_IndexFunc_int_int_66.mono_l k; unfold slices_IndexFunc_int_int_66.f
 repeat' first
   | (with_reducible exact ih0 _ _ _ _ _ ha1)
   | (with_reducible exact ha1 _)
   | (with_reducible exact LeO.refl _)
   | (with_reducible exact LeO.none _)
   | (with_reducible refine LeO.ite ?_ ?_)
   | (with_reducible refine LeO.bind ?_ (fun _ => ?_))
   | exact ih0 _ _ _ _ _ ha1
   | exact ha1 _
   | exact LeO.none _
   | refine LeO.ite ?_ ?_
   | refine LeO.bind ?_ (fun _ => ?_)
theorem slices_IndexFunc_int_int_66.calls (k : Nat) (A0 : Option Addr) (c0 : Nat) (l0 : Tb_) (g1 : Nat) (b1 : Array Value) (a1 : ((List Int) → Option Bool)) (r : Int) (w : World) (hr0 : Kd.C (Kd.slice 3 (Kd.int .i64)) w A0 l0.length l0) (hc0 : l0.length ≤ c0) (hf1 : Fn1 (Kd.slice 3 (Kd.int .i64)) Value.bool Try.prog g1 b1 a1 w) (h : slices_IndexFunc_int_int_66.f k l0 a1 = some r) :
  Calls Try.prog 66 #[.slice A0 l0.length c0, .func (.func g1) #[] b1] w fun e w' => e = .returned (.int .i64 r) ∧ Below w.heap.size w w' := by
 have HR0 := am_ hr0; have HC0 := am_ hc0; clear hr0 hc0; have HF1 := am_ hf1.cl; have eg1 := hf1.eg; clear hf1; have HB := am_ (Below.refl w.heap.size w); (try unfold slices_IndexFunc_int_int_66.f at h); have H := h; clear h; have H' := am_ H; clear H; go_enter Try.func66, Try.ntmps66; go_wp2
 go_loopg [8] k (fun kq v8 w' => ∃ (x8_1 : Int), v8 = .int .i64 x8_1 ∧ Aside0 (slices_IndexFunc_int_int_66.l0 kq l0 a1 (l0.length : Int) x8_1 = some r) ∧ Aside0 (kq ≤ k) ∧ Aside0 (Below w.heap.size w w'))
 case atStart => exact ⟨(0), tc3_, H', ⟨Nat.le_refl _⟩, ⟨tc0_⟩⟩
 case round =>
  clear H'; (try clear p2); obtain ⟨x8_1, rfl, HA, HK1, HB⟩ := hrel
  cases gk with
  | zero => exact absurd HA.out (by simp [slices_IndexFunc_int_int_66.l0])
  | succ k1 =>
   have H := HA.out; clear HA; simp only [slices_IndexFunc_int_int_66.l0] at H
   replace H := sp_ H; obtain ⟨c3b0, H⟩ | ⟨c3b0, H⟩ := H
   ·replace H := ps_ H; obtain ⟨c4b0, H⟩ := H; replace H := ps_ H; obtain ⟨c5b0, H⟩ := H; replace H := bd_ H; obtain ⟨t102, A6, H⟩ := H; (try dsimp only at H)
    by_cases c7 : t102 = true
    ·subst c7; have H1 : (some x8_1) = some r := tc19_; clear H; have H := H1; clear H1; obtain rfl := Option.some.inj H; have p101 : 0 ≤ (x8_1 : Int) := od_; have q101 : x8_1 < (l0.length : Int) := od_; obtain ⟨ad101, A101_0, c101_0, e101, hx101_0, hl101_0, hi101_0⟩ := at_L3 HR0.out x8_1 p101 q101; cases e101; replace hx101_0 := (HB.out.cell (World.block_lt_of_cell? w _ hx101_0)).trans hx101_0; have HR101_0 := am_ hi101_0; have HC101_0 := am_ hl101_0; clear hi101_0 hl101_0; replace p101 := eq_true p101; replace q101 := eq_true q101
     go_wp2_with (first | (go_at_fn g1; (refine (HF1.out _ ?side1 (rd_L3 l0 x8_1) _ (K_slice ?side2 ?side3) true A6.out).mono ?_); (case side1 => exact tc6_); (case side2 => exact HC101_0.out); (case side3 => exact tc14_); rintro e w8 ⟨rfl, hb⟩; replace HB := am_ (below_step tc0_ hb); (try clear hb)))
     go_ret
     exact ⟨tc4_, tc0_⟩
    ·replace c7 := Bool.eq_false_iff.mpr c7; subst c7; have H1 : (slices_IndexFunc_int_int_66.l0 k1 l0 a1 (l0.length : Int) (wrap64 (x8_1 + 1))) = some r := tc8_; clear H; have H := H1; clear H1; have H' := am_ H; clear H; have p101 : 0 ≤ (x8_1 : Int) := od_; have q101 : x8_1 < (l0.length : Int) := od_; obtain ⟨ad101, A101_0, c101_0, e101, hx101_0, hl101_0, hi101_0⟩ := at_L3 HR0.out x8_1 p101 q101; cases e101; replace hx101_0 := (HB.out.cell (World.block_lt_of_cell? w _ hx101_0)).trans hx101_0; have HR101_0 := am_ hi101_0; have HC101_0 := am_ hl101_0; clear hi101_0 hl101_0; replace p101 := eq_true p101; replace q101 := eq_true q101
     go_wp2_with (first | (go_at_fn g1; (refine (HF1.out _ ?side1 (rd_L3 l0 x8_1) _ (K_slice ?side2 ?side3) false A6.out).mono ?_); (case side1 => exact tc6_); (case side2 => exact HC101_0.out); (case side3 => exact tc14_); rintro e w9 ⟨rfl, hb⟩; replace HB := am_ (below_step tc0_ hb); (try clear hb)))
     go_roundg k1
     case measure => have := HK1.out; omega
     case rel => exact ⟨(wrap64 (x8_1 + 1)), tc3_, H', ⟨tc40_⟩, ⟨tc0_⟩⟩
   ·obtain rfl := Option.some.inj H; go_wp2
    go_ret
    exact ⟨tc4_, tc0_⟩

/-! ### slices_DeleteFunc_int_int: function 60 (by hand) -/
def slices_DeleteFunc_int_int.l0 : Nat → (List Int → Option Bool) → Tb_ → Tb_ → Int → Option Tb_
  | 0, _, _, _, _ => none
  | k + 1, p, xs, acc, j => if j < (xs.length : Int) then ((p (xs.getD j.toNat [])).bind fun t => if t = true then slices_DeleteFunc_int_int.l0 k p xs acc (j + 1) else slices_DeleteFunc_int_int.l0 k p xs (acc ++ [xs.getD j.toNat []]) (j + 1)) else some acc
def slices_DeleteFunc_int_int.f (k : Nat) (l0 : Tb_) (a1 : List Int → Option Bool) : Option Tb_ := (slices_IndexFunc_int_int_66.f k l0 a1).bind fun i => if i = -1 then some l0 else if 0 ≤ i then (if i < (l0.length : Int) then slices_DeleteFunc_int_int.l0 k a1 l0 (l0.take i.toNat) (i + 1) else none) else none
theorem slices_DeleteFunc_int_int.mono0 {a1 a1' : List Int → Option Bool} (ha1 : ∀ z0, LeO (a1 z0) (a1' z0)) : ∀ k xs acc j, LeO (slices_DeleteFunc_int_int.l0 k a1 xs acc j) (slices_DeleteFunc_int_int.l0 (k + 1) a1' xs acc j)
  | 0, _, _, _ => LeO.none _
  | k + 1, xs, acc, j => by
    unfold slices_DeleteFunc_int_int.l0
    exact LeO.ite (LeO.bind (ha1 _) (fun _ => LeO.ite (slices_DeleteFunc_int_int.mono0 ha1 k _ _ _) (slices_DeleteFunc_int_int.mono0 ha1 k _ _ _))) (LeO.refl _)
theorem slices_DeleteFunc_int_int.mono : ∀ a0 a1 a1' (ha1 : ∀ z0, LeO (a1 z0) (a1' z0)) k, LeO (slices_DeleteFunc_int_int.f k a0 a1) (slices_DeleteFunc_int_int.f (k + 1) a0 a1') := fun a0 a1 a1' h k =>
  LeO.bind (slices_IndexFunc_int_int_66.mono _ _ _ h _) (fun _ => LeO.ite (LeO.refl _) (LeO.ite (LeO.ite (slices_DeleteFunc_int_int.mono0 h _ _ _ _) (LeO.refl _)) (LeO.refl _)))
theorem slices_DeleteFunc_int_int.up {j n : Nat} (h : j < n) (hz : (n : Int) ≤ 9223372036854775807) : wrap64 ((j : Int) + 1) = (j : Int) + 1 := Go.IntWalk.wrap64_in _ ⟨by omega, by omega⟩
section
variable {e e' g n cap base : Nat} {ok okp : Nat → Prop} {w W : World} {xs : Tb_} {x' : List Int} {v : Value}
/-- A row's header put into a row of rows of one's own. -/
theorem slices_DeleteFunc_int_int.put (h : Kd.N (Kd.slice e' (Kd.int .i64)) e W base ok (.slice (some ⟨g, 0, none⟩) n cap) xs) (i : Nat) (h1 : i < n) (hM : Kd.FK (Kd.slice e' (Kd.int .i64)) W okp x' [v]) (hokp : ∀ k, okp k → ok k ∧ k ≠ g) :
    Kd.N (Kd.slice e' (Kd.int .i64)) e (W.setCell ⟨g, i, none⟩ v) base ok (.slice (some ⟨g, 0, none⟩) n cap) (xs.set i x') := by
  obtain ⟨c, hcl, _, hcc, _⟩ := Kd.N_elem h ([] : List Int) (i : Int) (by omega) (by omega)
  have hs : (Kd.slice e' (Kd.int .i64)).sz = 1 := rfl
  rw [hs] at hcl hcc
  obtain ⟨c0, rfl⟩ := List.length_eq_one_iff.mp hcl
  have := (Kd.N_seg h (i : Int) (by omega) (by omega) (c := [c0]) (seg := [v]) (j := 0) (by rw [hs]; rfl) (by rw [hs]; exact hcc) (by rw [hs]; simp) (x' := x') (okp := okp) (by simpa using hM) hokp).1
  rw [hs, Int.toNat_natCast, Nat.mul_one, Nat.add_zero] at this
  exact this
theorem slices_DeleteFunc_int_int.nilFK : Kd.FK (Kd.slice e' (Kd.int .i64)) W okp ([] : List Int) [.slice none 0 0] := Kd.FK_slice_mk (Nat.le_refl _) (Kd.F_nil _ _ _)
theorem slices_DeleteFunc_int_int.clear : ∀ (m i : Nat) (W : World) (xs : Tb_), Kd.N (Kd.slice e' (Kd.int .i64)) e W base ok (.slice (some ⟨g, 0, none⟩) n cap) xs → xs.length = n → i + m = n → Below base w W → base ≤ g →
    ∃ ys : Tb_, ys.take i = xs.take i ∧ ys.length = n ∧ Kd.N (Kd.slice e' (Kd.int .i64)) e (W.setCells g i (List.replicate m (.slice none 0 0))) base ok (.slice (some ⟨g, 0, none⟩) n cap) ys ∧ Below base w (W.setCells g i (List.replicate m (.slice none 0 0)))
  | 0, i, W, xs, h, hl, hi, hb, hg => ⟨xs, rfl, hl, h, hb⟩
  | m + 1, i, W, xs, h, hl, hi, hb, hg => by
    obtain ⟨ys, e1, e2, e3, e4⟩ := slices_DeleteFunc_int_int.clear m (i + 1) (W.setCell ⟨g, i, none⟩ (.slice none 0 0)) (xs.set i []) (slices_DeleteFunc_int_int.put h i (by omega) (slices_DeleteFunc_int_int.nilFK (okp := fun _ => False)) (fun _ h => h.elim)) (by rw [List.length_set]; exact hl) (by omega) (hb.setCell hg _) hg
    refine ⟨ys, ?_, e2, e3, e4⟩
    have := congrArg (List.take i) e1
    rw [List.take_take, List.take_take, Nat.min_eq_left (by omega)] at this
    rw [this, List.take_set_of_le (Nat.le_refl _)]
end
theorem slices_DeleteFunc_int_int.calls (k : Nat) (A0 : Option Addr) (c0 : Nat) (l0 : Tb_) (g1 : Nat) (b1 : Array Value) (a1 : List Int → Option Bool) (r : Tb_) (ok : Nat → Prop) (w0 w : World) (hB : Below w0.heap.size w0 w)
    (ho : Kd.N (Kd.slice 3 (Kd.int .i64)) 46 w w0.heap.size ok (.slice A0 l0.length c0) l0) (hf1 : Fn1 (Kd.slice 3 (Kd.int .i64)) Value.bool Try.prog g1 b1 a1 w0) (h : slices_DeleteFunc_int_int.f k l0 a1 = some r) :
    Calls Try.prog 60 #[.slice A0 l0.length c0, .func (.func g1) #[] b1] w fun e w' => ∃ v0_, e = .returned v0_ ∧ Kd.N (Kd.slice 3 (Kd.int .i64)) 46 w' w0.heap.size ok v0_ r ∧ Below w0.heap.size w0 w' := by
  obtain ⟨ix, hi, h⟩ := Option.bind_eq_some_iff.mp h
  have HI := am_ hi
  have HO := am_ ho
  have HF := am_ hf1
  have HB := am_ hB
  have HFW := am_ (hf1.later hB)
  have HLN := am_ (Kd.N_reads' ho).2.2.2.1
  have HLC := am_ (Kd.N_reads' ho).2.1
  have eg := hf1.eg
  clear hi ho hf1 hB
  obtain ⟨n, hn⟩ : ∃ n, l0.length = n := ⟨_, rfl⟩
  have HN := am_ hn
  by_cases ci : ix = -1
  · rw [if_pos ci] at h
    subst ci
    obtain rfl := Option.some.inj h
    clear h
    rw [hn]
    clear hn
    go_enter Try.func60, Try.ntmps60
    go_wp2_with (first | (go_at_call 66; rw [← HN.out]; go_must (refine (slices_IndexFunc_int_int_66.calls k A0 c0 l0 g1 b1 a1 (-1) w (Kd.N_reads' HO.out).2.2 (Kd.N_reads' HO.out).2.1 HFW.out HI.out).mono ?_); rintro e w1 ⟨rfl, hb⟩; have HB1 := am_ hb; clear hb; rw [HN.out]))
    go_ret
    exact ⟨_, rfl, by rw [← HN.out]; exact Kd.N_below HO.out HB1.out, below_step HB.out HB1.out⟩
  · rw [if_neg ci] at h
    by_cases c1 : 0 ≤ ix
    case neg => rw [if_neg c1] at h; cases h
    rw [if_pos c1] at h
    by_cases c2 : ix < (l0.length : Int)
    case neg => rw [if_neg c2] at h; cases h
    rw [if_pos c2] at h
    have HL := am_ h
    have cib : (ix == -1) = false := beq_eq_false_iff_ne.mpr ci
    clear h ci
    obtain ⟨i0, rfl⟩ : ∃ i0 : Nat, ix = (i0 : Int) := ⟨ix.toNat, by omega⟩
    have hi0 : i0 < l0.length := by omega
    rw [Int.toNat_natCast] at HL
    obtain ⟨g, cap, e6, hgb, _⟩ := Kd.N_form HO.out (by omega)
    injection e6 with e6a _ e6c
    subst e6a e6c
    have HG := am_ hgb
    have HI0 := am_ hi0
    clear c1 c2 hgb hi0
    rw [hn]
    rw [hn] at HO HLN HLC
    clear hn
    have hz : (n : Int) ≤ 9223372036854775807 := by have := HLN.out; omega
    have hz2 : Aside0 (wrap64 ((i0 : Int) + 1) = (i0 : Int) + 1) := am_ (Go.IntWalk.wrap64_in _ ⟨by omega, by have := HI0.out; rw [HN.out] at this; omega⟩)
    go_enter Try.func60, Try.ntmps60
    go_wp2_with (first | (go_at_call 66; rw [← HN.out]; go_must (refine (slices_IndexFunc_int_int_66.calls k _ c0 l0 g1 b1 a1 (i0 : Int) w (Kd.N_reads' HO.out).2.2 (by rw [HN.out]; exact (Kd.N_reads' HO.out).2.1) HFW.out HI.out).mono ?_); rintro e w1 ⟨rfl, hb⟩; have HB1 := am_ (below_step HB.out hb); have HO1 := am_ (Kd.N_below HO.out hb); clear hb; rw [HN.out]))
    go_loopg [5, 6] k (fun kq v5 v6 w' => ∃ (acc ys : Tb_) (j : Nat), v5 = .int .i64 (acc.length : Int) ∧ v6 = .int .i64 (j : Int) ∧ Aside0 (slices_DeleteFunc_int_int.l0 kq a1 l0 acc (j : Int) = some r) ∧ Aside0 (kq ≤ k) ∧ Aside0 (acc.length < j ∧ j ≤ n ∧ ys.take acc.length = acc ∧ ys.drop j = l0.drop j ∧ ys.length = n) ∧ Aside0 (Kd.N (Kd.slice 3 (Kd.int .i64)) 46 w' w0.heap.size ok (.slice (some ⟨g, 0, none⟩) n c0) ys) ∧ Aside0 (Below w0.heap.size w0 w'))
    case atStart => exact ⟨l0.take i0, l0, i0 + 1, by rw [List.length_take, Nat.min_eq_left (by have := HI0.out; omega)], by rw [hz2.out]; rfl, HL, ⟨Nat.le_refl _⟩, ⟨by rw [List.length_take]; omega, by have := HI0.out; have := HN.out; omega, by rw [List.length_take, Nat.min_eq_left (by have := HI0.out; omega)], rfl, HN.out⟩, HO1, HB1⟩
    case round =>
      clear HL HO1 HB1 HO HB HFW HI HI0
      obtain ⟨acc, ys, j, rfl, rfl, HE, HK1, HY, HO, HB⟩ := hrel
      cases gk with
      | zero => exact absurd HE.out (by simp [slices_DeleteFunc_int_int.l0])
      | succ k1 =>
        have H := HE.out
        clear HE
        simp only [slices_DeleteFunc_int_int.l0, Int.toNat_natCast] at H
        obtain ⟨y1, y2, y3, y4, y5⟩ := HY.out
        by_cases c5 : (j : Int) < (l0.length : Int)
        · rw [if_pos c5] at H
          have hj : j < n := by have := HN.out; omega
          have c5b : decide ((j : Int) < (n : Int)) = true := decide_eq_true (by omega)
          obtain ⟨t, ht, H⟩ := Option.bind_eq_some_iff.mp H
          have ey : ys.getD j [] = l0.getD j [] := by
            have := congrArg (fun z : Tb_ => z.getD 0 []) y4
            simpa [List.getD_eq_getElem?_getD, List.getElem?_drop] using this
          obtain ⟨c, hcl, hFK, hcc, hfr⟩ := Kd.N_elem HO.out ([] : List Int) (j : Int) (by omega) (by omega)
          rw [Int.toNat_natCast, ey] at hFK
          obtain ⟨AL, cL, rfl, hlL, hF⟩ := Kd.FK_slice_open hFK
          have hxj := hcc 0 _ rfl
          rw [show (Kd.slice 3 (Kd.int .i64)).sz = 1 from rfl, Int.toNat_natCast, Nat.mul_one, Nat.add_zero] at hxj
          obtain ⟨d, hdl, _, hdc, hdf⟩ := Kd.N_elem HO.out ([] : List Int) (acc.length : Int) (by omega) (by omega)
          obtain ⟨d0, rfl⟩ := List.length_eq_one_iff.mp (show d.length = 1 from hdl)
          have hxi := hdc 0 _ rfl
          have hfi := hdf 0
          rw [show (Kd.slice 3 (Kd.int .i64)).sz = 1 from rfl, Int.toNat_natCast, Nat.mul_one, Nat.add_zero] at hxi hfi
          have HX := am_ ht
          have HFK := am_ hFK
          have HCX := am_ (Kd.F_now hF)
          have HLX := am_ hlL
          have hw1 : wrap64 ((j : Int) + 1) = (j : Int) + 1 := slices_DeleteFunc_int_int.up hj hz
          have hw2 : wrap64 ((acc.length : Int) + 1) = (acc.length : Int) + 1 := slices_DeleteFunc_int_int.up (Nat.lt_trans y1 hj) hz
          generalize l0.getD j [] = x at *
          have H' := am_ H
          clear H ht hFK hF hcc hfr hcl hdc hdf hdl c5 ey hlL
          have zj : ((j : Int) < (n : Int)) = True := eq_true (by omega)
          have zi : ((acc.length : Int) < (n : Int)) = True := eq_true (by omega)
          have zi0 : ((0 : Int) ≤ (acc.length : Int)) = True := eq_true (by omega)
          have zj0 : ((0 : Int) ≤ (j : Int)) = True := eq_true (by omega)
          have HYY := am_ (And.intro y1 (And.intro hj (And.intro y3 (And.intro y4 y5))))
          clear y1 y2 y3 y4 y5 hj HY
          go_wp2_with fail
          refine (HF.out.cl wr HB.out x _ (K_slice HLX.out HCX.out) t HX.out).mono ?_
          rintro e w6 ⟨rfl, hb⟩
          have HO6 := am_ (Kd.N_below HO.out hb)
          have HB6 := am_ (below_step HB.out hb)
          have HFK6 := am_ (Kd.FK_below HFK.out hb)
          replace hxi := cell_of_below hb hxi
          replace hfi := Kd.N_elem HO6.out ([] : List Int) (acc.length : Int) (by omega) (by have := HYY.out; omega)
          obtain ⟨_, _, _, _, hfi⟩ := hfi
          replace hfi := hfi 0
          rw [show (Kd.slice 3 (Kd.int .i64)).sz = 1 from rfl, Int.toNat_natCast, Nat.mul_one, Nat.add_zero] at hfi
          clear hb hxj
          cases t with
          | true =>
            have H2 := H'.out
            rw [if_pos rfl] at H2
            have H3 := am_ H2
            clear H2 H' hxi hfi
            go_wp2
            go_roundg k1
            case measure => have := HK1.out; omega
            case rel =>
              obtain ⟨y1, y2, y3, y4, y5⟩ := HYY.out
              refine ⟨acc, ys, j + 1, rfl, by rw [hw1]; rfl, H3, ⟨by have := HK1.out; omega⟩, ⟨by omega, by omega, y3, ?_, y5⟩, HO6, HB6⟩
              rw [← List.drop_drop, y4, List.drop_drop]
          | false =>
            have H2 := H'.out
            rw [if_neg (by simp)] at H2
            have H3 := am_ H2
            clear H2 H'
            go_wp2
            go_roundg k1
            case measure => have := HK1.out; omega
            case rel =>
              obtain ⟨y1, y2, y3, y4, y5⟩ := HYY.out
              refine ⟨acc ++ [x], ys.set acc.length x, j + 1, by rw [hw2, List.length_append]; rfl, by rw [hw1]; rfl, H3, ⟨by have := HK1.out; omega⟩, ⟨by rw [List.length_append]; simp; omega, by omega, ?_, ?_, by rw [List.length_set]; exact y5⟩, ⟨slices_DeleteFunc_int_int.put HO6.out acc.length (by omega) HFK6.out (fun k_ hk => hk)⟩, ⟨HB6.out.setCell HG.out _⟩⟩
              · rw [List.length_append, List.length_singleton, List.take_add_one, List.take_set_of_le (Nat.le_refl _), y3, List.getElem?_set_self (by omega)]; rfl
              · rw [List.drop_set_of_lt (by omega), ← List.drop_drop, y4, List.drop_drop]
        · rw [if_neg c5] at H
          obtain rfl := Option.some.inj H
          obtain rfl : j = n := by have := HN.out; omega
          have c5b : decide ((j : Int) < (j : Int)) = false := decide_eq_false (by omega)
          have hgb := HG.out
          have hcl : ∀ ty, (Builtin.clear_ #[26] ty #[.slice (some ⟨g, 0 + acc.length, none⟩) (j - acc.length) (c0 - acc.length)]).run Try.prog wr = .ok (.tuple #[]) (wr.setCells g (0 + acc.length) (List.replicate (j - acc.length) (.slice none 0 0))) :=
            fun ty => Lib.run_clear_slice wr _ _ ty _ Try.underlying26 (fun _ => by rfl) rfl rfl g (0 + acc.length) _ _ (by omega)
              (fun t_ ht_ => by
                obtain ⟨d, hdl, _, hdc, hdf⟩ := Kd.N_elem HO.out ([] : List Int) ((acc.length + t_ : Nat) : Int) (by omega) (by omega)
                obtain ⟨d0, rfl⟩ := List.length_eq_one_iff.mp (show d.length = 1 from hdl)
                have := hdc 0 _ rfl
                rw [show (Kd.slice 3 (Kd.int .i64)).sz = 1 from rfl, Int.toNat_natCast, Nat.mul_one, Nat.add_zero] at this
                rw [Nat.zero_add, this]; rfl)
              (fun t_ ht_ => by
                obtain ⟨d, hdl, _, hdc, hdf⟩ := Kd.N_elem HO.out ([] : List Int) ((acc.length + t_ : Nat) : Int) (by omega) (by omega)
                have := hdf 0
                rw [show (Kd.slice 3 (Kd.int .i64)).sz = 1 from rfl, Int.toNat_natCast, Nat.mul_one, Nat.add_zero] at this
                rw [Nat.zero_add]; exact this)
          obtain ⟨zs, e1, e2, e3, e4⟩ := slices_DeleteFunc_int_int.clear (j - acc.length) acc.length wr ys HO.out y5 (by omega) HB.out hgb
          have HZ := am_ (Kd.N_take e3 (m := acc.length) (by omega))
          rw [e1, y3] at HZ
          have HBZ := am_ e4
          have hlc := HLC.out
          have q1 : acc.length ≤ j := by omega
          have q2 : acc.length ≤ c0 := by omega
          have q3 : (acc.length : Int) ≤ (j : Int) := by omega
          have q4 : (acc.length : Int) ≤ (c0 : Int) := by omega
          have q5 : (0 : Int) ≤ (acc.length : Int) := by omega
          have q6 : (c0 = acc.length) = False := eq_false (by omega)
          clear e1 e2 e3 e4 HO HB y1 y2 y3 y4 y5 HY H c5
          rw [Nat.zero_add] at hcl
          go_wp2
          go_ret
          exact ⟨_, rfl, HZ.out, HBZ.out⟩

/-! ### slices_Clone_int_int_61: function 61 (by hand) -/
def slices_Clone_int_int_61.f (l0 : Tb_) : Option Tb_ := if l0.length < 5864062014805 then some l0 else none
set_option maxHeartbeats 1000000 in
theorem slices_Clone_int_int_61.calls (A0 : Option Addr) (c0 : Nat) (l0 : Tb_) (r : Tb_) (ok : Nat → Prop) (w : World) (hr0 : Kd.F (Kd.slice 3 (Kd.int .i64)) w ok A0 l0.length l0) (hc0 : l0.length ≤ c0) (h : slices_Clone_int_int_61.f l0 = some r) :
    Calls Try.prog 61 #[.slice A0 l0.length c0] w fun e w' => ∃ v0_ : Value, e = .returned (v0_) ∧ Kd.N (Kd.slice 3 (Kd.int .i64)) 46 w' w.heap.size (fun k_ => ok k_ ∨ w.heap.size ≤ k_) v0_ r ∧ Below w.heap.size w w' := by
  have hlt : l0.length < 5864062014805 := by
    unfold slices_Clone_int_int_61.f at h
    split at h
    · assumption
    · cases h
  unfold slices_Clone_int_int_61.f at h
  rw [if_pos hlt] at h
  obtain rfl := Option.some.inj h
  have LM := am_ hlt
  clear h hlt
  have HR0 := am_ hr0
  have HC0 := am_ hc0
  have HK := am_ (Kd.F_now hr0)
  clear hr0 hc0
  cases A0 with
  | none =>
    have hl : l0 = [] := by
      have h1 := HK.out.2.2
      cases l0 with
      | nil => rfl
      | cons x xs =>
        obtain ⟨ad, e, _⟩ := h1 (by simp)
        cases e
    subst hl
    have hq := fun W : World => Lib.run_eql_slice_nil (P := Try.prog) W 26 46 none ([] : Tb_).length c0 0 0 Try.underlying26
    simp only [Option.isNone_none, List.length_nil] at hq
    go_enter Try.func61, Try.ntmps61
    go_wp2
    go_ret
    exact ⟨_, rfl, Kd.N_nil _ _ _ _ _, Below.refl _ _⟩
  | some ad =>
    have hq := fun W : World => Lib.run_eql_slice_nil (P := Try.prog) W 26 46 (some ad) l0.length c0 0 0 Try.underlying26
    simp only [Option.isNone_some] at hq
    go_enter Try.func61, Try.ntmps61
    go_wp2_with (first | ((with_reducible refine gate_dst (N := 5) rfl ?_); refine Kd.N_lit (Kd.slice 3 (Kd.int .i64)) (w0 := w) w.heap.size 46 ?hg (N' := 5) ?hd (xs := ([] : Tb_)) (inner := []) (ok := fun k_ => ok k_ ∨ w.heap.size ≤ k_) (okp := fun _ => False) ?hr ?hp (fun _ hk => hk.elim) (.inr (Nat.le_refl _)) (Below.refl _ _) (Nat.le_refl _) (by simp) ?_; (case hd => rfl); (case hg => rfl); (case hr => exact tc36_); (case hp => exact (Reps.none _ _)); intro v5 w3 ho4 hb hg_ hnew_; have HO4 := am_ ho4; have HB4 := am_ hb; have HN4 := am_ hnew_; clear hg_ hnew_ ho4 hb) | ((with_reducible refine gate_builtin (b := .append) (xs := #[.tmp 5, .tmp 6]) rfl ?_); at_builtin; go_must (refine Kd.N_append_rows (Kd.slice 3 (Kd.int .i64)) (w0 := w) w.heap.size rfl (.tmp 5) (.tmp 6) 26 46 (.slice none 0 0) 24 rfl Try.underlying26 info46 rfl (by decide) (by omega) v5 [] l0 (some ad) l0.length c0 (fun k_ => ok k_ ∨ w.heap.size ≤ k_) (fun k_ => ok k_ ∧ k_ < w.heap.size) rfl rfl HO4.out (Kd.F_below (Kd.F_bound HR0.out) HB4.out) (fun k_ hk => ⟨.inl hk.1, fun e_ => by obtain ⟨b_, h1_, h2_⟩ := HN4.out; rw [h1_] at e_; injection e_ with e_; have := hk.2; omega⟩) (fun k_ hk => .inr (Nat.le_trans (below_size HB4.out) hk)) HB4.out (below_size HB4.out) (by have := LM.out; simp; omega) ?_); intro v7 w5 ho5 hb5 hg5 hat5; have HO5 := am_ ho5; have HB5 := am_ hb5; clear ho5 hb5 hg5 hat5))
    go_ret
    exact ⟨_, rfl, by simpa using HO5.out, HB5.out⟩

/-! ### impl_standsBelow: function 51 -/
mutual
def impl_standsBelow.j0 : Nat → List Int → List Int → Bool → Option (Bool)
 | 0, _, _, _ => none
 | k + 1, x0, x1, x19 => if x19 = true then (some false) else (impl_standsBelow.l0 k x0 x1 (x1.length : Int) 0)
def impl_standsBelow.l0 : Nat → List Int → List Int → Int → Int → Option (Bool)
 | 0, _, _, _, _ => none
 | k + 1, x0, x20, x21, x22 => if x22 < x21 then (if 0 ≤ x22 then (if x22 < (x20.length : Int) then (if 0 ≤ (wrap64 (x22 + 1)) then (if (wrap64 (x22 + 1)) < (x0.length : Int) then (if (rd x20 x22) ≥ (rd x0 (wrap64 (x22 + 1))) then (some false) else (impl_standsBelow.l0 k x0 x20 x21 (wrap64 (x22 + 1)))) else (none)) else (none)) else (none)) else (none)) else (some true)
end
def impl_standsBelow.f (k : Nat) (l0 : List Int) (l1 : List Int) : Option (Bool) := if 0 < (l1.length : Int) then (if (rd l1 0) > (l0.length : Int) then (impl_standsBelow.j0 k l0 l1 true) else (impl_standsBelow.j0 k l0 l1 (decide ((l1.length : Int) ≥ (l0.length : Int))))) else (none)
theorem impl_standsBelow.mono_l : ∀ k, (∀ y0 y1 y2, LeO (impl_standsBelow.j0 k y0 y1 y2) (impl_standsBelow.j0 (k + 1) y0 y1 y2)) ∧ (∀ y0 y1 y2 y3, LeO (impl_standsBelow.l0 k y0 y1 y2 y3) (impl_standsBelow.l0 (k + 1) y0 y1 y2 y3))
 | 0 => ⟨fun _ _ _ r h => by simp [impl_standsBelow.j0] at h, fun _ _ _ _ r h => by simp [impl_standsBelow.l0] at h⟩
 | k + 1 => by
  obtain ⟨ih0, ih1⟩ := impl_standsBelow.mono_l k; refine ⟨?_, ?_⟩
  ·intro y0 y1 y2; unfold impl_standsBelow.j0
   repeat' first
   | (with_reducible exact ih0 _ _ _)
   | (with_reducible exact ih1 _ _ _ _)
   | (with_reducible exact LeO.refl _)
   | (with_reducible exact LeO.none _)
   | (with_reducible refine LeO.ite ?_ ?_)
   | (with_reducible refine LeO.bind ?_ (fun _ => ?_))
   | exact ih0 _ _ _
   | exact ih1 _ _ _ _
   | exact LeO.none _
   | refine LeO.ite ?_ ?_
   | refine LeO.bind ?_ (fun _ => ?_)
  ·intro y0 y1 y2 y3; unfold impl_standsBelow.l0
   repeat' first
   | (with_reducible exact ih0 _ _ _)
   | (with_reducible exact ih1 _ _ _ _)
   | (with_reducible exact LeO.refl _)
   | (with_reducible exact LeO.none _)
   | (with_reducible refine LeO.ite ?_ ?_)
   | (with_reducible refine LeO.bind ?_ (fun _ => ?_))
   | exact ih0 _ _ _
   | exact ih1 _ _ _ _
   | exact LeO.none _
   | refine LeO.ite ?_ ?_
   | refine LeO.bind ?_ (fun _ => ?_)
theorem impl_standsBelow.mono : ∀ a0 a1  k, LeO (impl_standsBelow.f k a0 a1) (impl_standsBelow.f (k + 1) a0 a1) := by
 intro a0 a1 k; obtain ⟨ih0, ih1⟩ := impl_standsBelow.mono_l k; unfold impl_standsBelow.f
 repeat' first
   | (with_reducible exact ih0 _ _ _)
   | (with_reducible exact ih1 _ _ _ _)
   | (with_reducible exact LeO.refl _)
   | (with_reducible exact LeO.none _)
   | (with_reducible refine LeO.ite ?_ ?_)
   | (with_reducible refine LeO.bind ?_ (fun _ => ?_))
   | exact ih0 _ _ _
   | exact ih1 _ _ _ _
   | exact LeO.none _
   | refine LeO.ite ?_ ?_
   | refine LeO.bind ?_ (fun _ => ?_)
theorem impl_standsBelow.calls (k : Nat) (A0 : Option Addr) (c0 : Nat) (l0 : List Int) (A1 : Option Addr) (c1 : Nat) (l1 : List Int) (r : Bool) (w : World) (hr0 : Kd.C (Kd.int .i64) w A0 l0.length l0) (hc0 : l0.length ≤ c0) (hr1 : Kd.C (Kd.int .i64) w A1 l1.length l1) (hc1 : l1.length ≤ c1) (h : impl_standsBelow.f k l0 l1 = some r) :
  Calls Try.prog 51 #[.slice A0 l0.length c0, .slice A1 l1.length c1] w fun e w' => e = .returned (.bool r) ∧ Drawn0 w w' := by
 have HR0 := am_ hr0; have HC0 := am_ hc0; clear hr0 hc0; have HR1 := am_ hr1; have HC1 := am_ hc1; clear hr1 hc1; (try unfold impl_standsBelow.f at h); have H := h; clear h; have HC3 := am_ H; clear H; go_enter Try.func51, Try.ntmps51
 go_upto_region 1 with (fail)
 go_cut [19] (fun v19 wc => ∃ (kq : Nat) (x19_2 : Bool), v19 = .bool x19_2 ∧ Aside0 (impl_standsBelow.j0 kq l0 l1 x19_2 = some r) ∧ Aside0 (kq ≤ k) ∧ Drawn0 w wc)
 case first =>
  have H := HC3.out; clear HC3; replace H := pp_ H; obtain ⟨c4, H⟩ := H; have c4b0 : decide (0 < (l1.length : Int)) = true := decide_eq_true c4; have c4b1 : decide (0 < l1.length) = true := decide_eq_true (by omega); clear c4; (first | rw [c4b0] | (simp only [i64_w, i32_w]; rw [c4b0]) | skip)
  replace H := pn_ H; obtain ⟨c5, H⟩ | ⟨c5, H⟩ := H
  ·have c5b0 : decide ((l0.length : Int) < (rd l1 0)) = true := decide_eq_true c5; clear c5; have H' := am_ H; clear H; have p101 : 0 ≤ (0 : Int) := (by omega); have q101 : 0 < (l1.length : Int) := od_; obtain ⟨ad101, e101, hx101_0⟩ := Kd.at_int HR1.out 0 p101 q101; cases e101; have qi101 : (0 < l1.length) = True := eq_true (by omega); (try rw [show ((0 : Int)).toNat = 0 from rfl] at hx101_0); (try rw [Addr.add_zero'] at hx101_0); replace p101 := eq_true p101; replace q101 := eq_true q101; go_wp2
   go_meet
   case rel => exact ⟨_, (true), tc3_, H', ⟨tc47_⟩, tc5_⟩
  ·have c5b0 : decide ((l0.length : Int) < (rd l1 0)) = false := decide_eq_false c5; clear c5; have H' := am_ H; clear H; have p101 : 0 ≤ (0 : Int) := (by omega); have q101 : 0 < (l1.length : Int) := od_; obtain ⟨ad101, e101, hx101_0⟩ := Kd.at_int HR1.out 0 p101 q101; cases e101; have qi101 : (0 < l1.length) = True := eq_true (by omega); (try rw [show ((0 : Int)).toNat = 0 from rfl] at hx101_0); (try rw [Addr.add_zero'] at hx101_0); replace p101 := eq_true p101; replace q101 := eq_true q101; go_wp2
   go_meet
   case rel => exact ⟨_, (decide ((l1.length : Int) ≥ (l0.length : Int))), tc3_, H', ⟨tc47_⟩, tc5_⟩
 case rest =>
  clear HC3; (try clear c1); (try clear p1); (try clear q1); (try clear hx1); (try clear qi1); (try clear p2); (try clear c4); (try clear c4b0); (try clear c4b1); (try clear c5); (try clear c5b0); (try clear hx101_0); (try clear p101); (try clear q101); obtain ⟨kq, x19_2, rfl, HA, HJ2, ⟨mc2, rfl⟩⟩ := hcut
  cases kq with
  | zero => exact absurd HA.out (by simp [impl_standsBelow.j0])
  | succ kj2 =>
   have H := HA.out; clear HA; simp only [impl_standsBelow.j0] at H
   by_cases c6 : x19_2 = true
   ·subst c6; have H1 : (some false) = some r := tc19_; clear H; have H := H1; clear H1; obtain rfl := Option.some.inj H; go_wp2
    go_ret
    exact ⟨tc3_, tc5_⟩
   ·replace c6 := Bool.eq_false_iff.mpr c6; subst c6; have H1 : (impl_standsBelow.l0 kj2 l0 l1 (l1.length : Int) 0) = some r := tc8_; clear H; have H := H1; clear H1; have H' := am_ H; clear H; go_wp2
    go_loopg [22] kj2 (fun kq v22 w' => ∃ (x22_2 : Int), v22 = .int .i64 x22_2 ∧ Aside0 (impl_standsBelow.l0 kq l0 l1 (l1.length : Int) x22_2 = some r) ∧ Aside0 (kq ≤ kj2) ∧ Drawn0 w w')
    case atStart => exact ⟨(0), tc3_, H', ⟨Nat.le_refl _⟩, tc5_⟩
    case round =>
     clear H'; (try clear c1); (try clear p1); (try clear q1); (try clear hx1); (try clear qi1); (try clear c2); (try clear p2); (try clear c4); (try clear c4b0); (try clear c4b1); (try clear c5); (try clear c5b0); (try clear c6); (try clear hx101_0); (try clear p1); (try clear p101); (try clear p2); (try clear q1); (try clear q101); obtain ⟨x22_2, rfl, HA, HK2, ⟨m2, rfl⟩⟩ := hrel
     cases gk with
     | zero => exact absurd HA.out (by simp [impl_standsBelow.l0])
     | succ k2 =>
      have H := HA.out; clear HA; simp only [impl_standsBelow.l0] at H
      replace H := sp_ H; obtain ⟨c7b0, H⟩ | ⟨c7b0, H⟩ := H
      ·replace H := ps_ H; obtain ⟨c8b0, H⟩ := H; replace H := ps_ H; obtain ⟨c9b0, H⟩ := H; obtain ⟨ji10, hji10⟩ : ∃ j_ : Int, (wrap64 (x22_2 + 1)) = j_ := ⟨_, rfl⟩; replace H : (if 0 ≤ (ji10) then (if (ji10) < (l0.length : Int) then (if (rd l1 x22_2) ≥ (rd l0 (ji10)) then (some false) else (impl_standsBelow.l0 k2 l0 l1 (l1.length : Int) ji10)) else (none)) else (none)) = some r := (by first | (rw [hji10] at H; exact H) | (simp only [hji10] at H ⊢; exact H)); have hji10w : (IntKind.i64.wrap (x22_2 + 1)) = ji10 := (i64_w _).trans hji10; replace H := ps_ H; obtain ⟨c11b0, H⟩ := H; replace H := ps_ H; obtain ⟨c12b0, H⟩ := H
       replace H := pn_ H; obtain ⟨c13, H⟩ | ⟨c13, H⟩ := H
       ·have c13b0 : decide ((rd l0 (ji10)) ≤ (rd l1 x22_2)) = true := decide_eq_true c13; clear c13; obtain rfl := Option.some.inj H; have p102 : 0 ≤ (x22_2 : Int) := od_; have q102 : x22_2 < (l1.length : Int) := od_; obtain ⟨ad102, e102, hx102_0⟩ := Kd.at_int HR1.out x22_2 p102 q102; cases e102; replace p102 := eq_true p102; replace q102 := eq_true q102; have p103 : 0 ≤ ((ji10) : Int) := od_; have q103 : (ji10) < (l0.length : Int) := od_; obtain ⟨ad103, e103, hx103_0⟩ := Kd.at_int HR0.out (ji10) p103 q103; cases e103; replace p103 := eq_true p103; replace q103 := eq_true q103; go_wp2
        go_ret
        exact ⟨tc58_, tc5_⟩
       ·have c13b0 : decide ((rd l0 (ji10)) ≤ (rd l1 x22_2)) = false := decide_eq_false c13; clear c13; have H' := am_ H; clear H; have p102 : 0 ≤ (x22_2 : Int) := od_; have q102 : x22_2 < (l1.length : Int) := od_; obtain ⟨ad102, e102, hx102_0⟩ := Kd.at_int HR1.out x22_2 p102 q102; cases e102; replace p102 := eq_true p102; replace q102 := eq_true q102; have p103 : 0 ≤ ((ji10) : Int) := od_; have q103 : (ji10) < (l0.length : Int) := od_; obtain ⟨ad103, e103, hx103_0⟩ := Kd.at_int HR0.out (ji10) p103 q103; cases e103; replace p103 := eq_true p103; replace q103 := eq_true q103; go_wp2
        go_roundg k2
        case measure => have := HJ2.out; have := HK2.out; omega
        case rel => exact ⟨(ji10), tc58_, H', ⟨(by have := HJ2.out; have := HK2.out; omega)⟩, tc5_⟩
      ·obtain rfl := Option.some.inj H; go_wp2
       go_ret
       exact ⟨tc3_, tc5_⟩

/-! ### impl_below_1: function 62 -/
def impl_below_1.f (k : Nat) (l0 : List Int) (l1_0 : List Int) : Option (Bool) := (impl_standsBelow.f k l1_0 l0).bind fun t101 => (some (!t101))
theorem impl_below_1.mono : ∀ a0 a1  k, LeO (impl_below_1.f k a0 a1) (impl_below_1.f (k + 1) a0 a1) := by
 intro a0 a1 k; unfold impl_below_1.f
 repeat' first
   | (with_reducible exact impl_standsBelow.mono _ _ _)
   | (with_reducible exact LeO.refl _)
   | (with_reducible exact LeO.none _)
   | (with_reducible refine LeO.ite ?_ ?_)
   | (with_reducible refine LeO.bind ?_ (fun _ => ?_))
   | exact impl_standsBelow.mono _ _ _
   | exact LeO.none _
   | refine LeO.ite ?_ ?_
   | refine LeO.bind ?_ (fun _ => ?_)
theorem impl_below_1.calls (k : Nat) (A0 : Option Addr) (c0 : Nat) (l0 : List Int) (B1 : Nat) (A1_0 : Option Addr) (c1_0 : Nat) (l1_0 : List Int) (r : Bool) (w : World) (hr0 : Kd.C (Kd.int .i64) w A0 l0.length l0) (hc0 : l0.length ≤ c0) (hb1 : w.heap[B1]? = some (.cells #[.slice A1_0 l1_0.length c1_0] 46 (0, 0))) (hr1_0 : Kd.C (Kd.int .i64) w A1_0 l1_0.length l1_0) (hc1_0 : l1_0.length ≤ c1_0) (h : impl_below_1.f k l0 l1_0 = some r) :
  Calls Try.prog 62 #[.slice A0 l0.length c0, .pointer (some ⟨B1, 0, none⟩)] w fun e w' => e = .returned (.bool r) ∧ Drawn0 w w' := by
 have HR0 := am_ hr0; have HC0 := am_ hc0; clear hr0 hc0; have HR1_0 := am_ hr1_0; have HC1_0 := am_ hc1_0; clear hr1_0 hc1_0; have BK61 := am_ hb1; clear hb1; (try unfold impl_below_1.f at h); have H := h; clear h; replace H := bd_ H; obtain ⟨t101, A3, H⟩ := H; (try dsimp only at H); obtain rfl := Option.some.inj H; have hcz4_0 : w.cell? ⟨B1, 0, none⟩ = some (.slice A1_0 l1_0.length c1_0) := (blk_cell BK61.out 0).trans rfl; have hfz4_0 := blk_frozen BK61.out 0; go_enter Try.func62, Try.ntmps62
 go_wp2_with (first | (refine gc_ (some 6) Try.func51 #[.slice A1_0 l1_0.length c1_0, .slice A0 l0.length c0] ?_; (with_reducible refine (impl_standsBelow.calls k _ _ l1_0 _ _ l0 t101 _ ?side1 ?side2 ?side3 ?side4 A3.out).mono ?_); (case side1 => repeat (first | exact HR1_0.out | (with_reducible refine Kd.C_alloc ?_ _) | (with_reducible refine Kd.C_drewN ?_ _) | (with_reducible refine Kd.C_drew ?_))); (case side2 => exact HC1_0.out); (case side3 => exact tc13_); (case side4 => exact HC0.out); rintro e w' ⟨rfl, ⟨nd, rfl⟩⟩; refine ⟨_, rfl, ?_⟩))
 go_ret
 exact ⟨tc3_, tc5_⟩

/-! ### impl_below: function 49 (by hand) -/
def impl_below.f (k : Nat) (l0 : Tb_) (l1 : List Int) : Option Tb_ := (slices_Clone_int_int_61.f l0).bind fun q => slices_DeleteFunc_int_int.f k q (fun x => impl_below_1.f k x l1)
theorem impl_below.mono : ∀ a0 a1 k, LeO (impl_below.f k a0 a1) (impl_below.f (k + 1) a0 a1) := fun a0 a1 k => LeO.bind (LeO.refl _) (fun _ => slices_DeleteFunc_int_int.mono _ _ _ (fun _ => impl_below_1.mono _ _ _) _)
theorem impl_below.calls (k : Nat) (A0 : Option Addr) (c0 : Nat) (l0 : Tb_) (A1 : Option Addr) (c1 : Nat) (l1 : List Int) (r : Tb_) (ok : Nat → Prop) (w : World) (hr0 : Kd.F (Kd.slice 3 (Kd.int .i64)) w ok A0 l0.length l0) (hc0 : l0.length ≤ c0) (hr1 : Kd.C (Kd.int .i64) w A1 l1.length l1) (hc1 : l1.length ≤ c1) (h : impl_below.f k l0 l1 = some r) :
    Calls Try.prog 49 #[.slice A0 l0.length c0, .slice A1 l1.length c1] w fun e w' => ∃ v0_ : Value, e = .returned (v0_) ∧ Kd.N (Kd.slice 3 (Kd.int .i64)) 46 w' w.heap.size (fun k_ => ok k_ ∨ w.heap.size ≤ k_) v0_ r ∧ Below w.heap.size w w' := by
  obtain ⟨q, hq, h⟩ := Option.bind_eq_some_iff.mp h
  have HQ := am_ hq
  have HD := am_ h
  have HR0 := am_ hr0
  have HC0 := am_ hc0
  have HR1 := am_ hr1
  have HC1 := am_ hc1
  clear hr0 hc0 hr1 hc1 hq h
  go_enter Try.func49, Try.ntmps49
  go_wp2_with (first | (go_at_call 61; go_must (refine (slices_Clone_int_int_61.calls A0 c0 l0 q ok _ (Kd.F_alloc HR0.out _) HC0.out HQ.out).mono ?_); rintro e w2 ⟨v2, rfl, ho2, hb2⟩; obtain ⟨A2, c2, e2⟩ := Kd.N_slice ho2; subst e2; have HO2 := am_ ho2; have HB2 := am_ hb2; clear ho2 hb2) | (go_at_call 60; go_must (refine (slices_DeleteFunc_int_int.calls k A2 c2 q _ _ (fun x => impl_below_1.f k x l1) r _ (w.alloc (.cells #[.slice A1 l1.length c1] 46 (0, 0))) w2 HB2.out HO2.out ?fn HD.out).mono ?_); (case fn => refine ⟨enters_of Try.func62 (by kernel_rfl) rfl, fun W_ hW_ x0_ v0_ hK0_ r_ hr_ => ?_⟩; obtain ⟨A0_, c0_, e0_, hl0_, hC0_⟩ := hK0_; cases e0_; refine (impl_below_1.calls k A0_ c0_ x0_ w.heap.size A1 c1 l1 r_ W_ hC0_ hl0_ (blk_below (blk_new _ _) hW_) (Kd.C_below (Kd.C_alloc HR1.out _) hW_) HC1.out hr_).mono ?_; exact fun _ _ h_ => ⟨h_.1, h_.2.below⟩); rintro e w5 ⟨v5, rfl, ho5, hb5⟩; have HO5 := am_ ho5; have HB5 := am_ hb5; clear ho5 hb5))
  go_ret
  exact ⟨_, rfl, Kd.N_mono (Kd.N_lower HO5.out (below_size (below_alloc (Below.refl _ _) _))) (fun k_ hk => hk.imp_right (fun h_ => Nat.le_trans (below_size (below_alloc (Below.refl _ _) _)) h_)), (below_alloc (Below.refl _ _) _).trans (HB5.out.mono (below_size (below_alloc (Below.refl _ _) _)))⟩

/-! ### impl_descending_1: function 47 (by hand) -/
theorem Kd.V_kept' {α : Type} {d : Kd α} {e b : Nat} {W w1 : World} {S S' : Nat → Prop} {v : Value} {xs : List α} (h : Kd.V d e W b (fun k => ¬ S k) v xs) (hk : Kp W w1 S) (hs : ∀ k, S' k → S k ∨ W.heap.size ≤ k) : Kd.V d e w1 b (fun k => ¬ S' k) v xs :=
  Kd.V_mono (Kd.V_kept (Kd.V_bound h) hk.1 (fun k hk => hk.1)) (fun k hk => fun h' => (hs k h').elim hk.1 (fun h2 => by have := hk.2; omega))
structure impl_descending_1.St (w0 : World) (list : Tb_) (Al : Option Addr) (cl B1 B2 B3 T2 : Nat) (S : Nat → Prop) (w : World) (u : Value) (out : List Tb_) : Prop where
  b1 : w.heap[B1]? = some (.cells #[u] 31 (0, 0))
  b2 : w.heap[B2]? = some (.cells #[.func (.func 47) #[] #[.pointer (some ⟨B1, 0, none⟩), .pointer (some ⟨B2, 0, none⟩), .pointer (some ⟨B3, 0, none⟩)]] T2 (0, 0))
  b3 : w.heap[B3]? = some (.cells #[.slice Al list.length cl] 26 (0, 0))
  ho : Kd.N (Kd.slice 46 (Kd.slice 3 (Kd.int .i64))) 26 w w0.heap.size (fun k => S k ∧ k ≠ B1) u out
  hl : Kd.V (Kd.slice 3 (Kd.int .i64)) 46 w 0 (fun k => ¬ S k) (.slice Al list.length cl) list
  s1 : S B1
  s2 : ¬ S B2
  s3 : ¬ S B3
  bd : ∀ k, S k → k < w.heap.size
  ge : ∀ k, S k → w0.heap.size ≤ k
  hb : Below w0.heap.size w0 w
section
variable {w0 : World} {list : Tb_} {Al : Option Addr} {cl B1 B2 B3 T2 : Nat} {S : Nat → Prop} {w w1 : World} {u : Value} {out : List Tb_}
theorem impl_descending_1.St.below (h : impl_descending_1.St w0 list Al cl B1 B2 B3 T2 S w u out) (hb : Below w.heap.size w w1) : impl_descending_1.St w0 list Al cl B1 B2 B3 T2 S w1 u out :=
  { h with b1 := blk_below h.b1 hb, b2 := blk_below h.b2 hb, b3 := blk_below h.b3 hb, ho := Kd.N_below h.ho hb, hl := Kd.V_below h.hl hb, bd := fun k hk => Nat.lt_of_lt_of_le (h.bd k hk) (below_size hb), hb := below_step h.hb hb }
theorem impl_descending_1.St.push (h : impl_descending_1.St w0 list Al cl B1 B2 B3 T2 S w u out) {W w7 w9 : World} {v : Value} {m : Tb_} (hW : Below w.heap.size w W) (h7 : Below W.heap.size W w7)
    (ho : Kd.N (Kd.slice 46 (Kd.slice 3 (Kd.int .i64))) 26 w9 w0.heap.size (fun k => (S k ∧ k ≠ B1) ∨ W.heap.size ≤ k) v (out ++ [m])) (hb : Below w0.heap.size w7 w9) (hg : w7.grownBy w9 u.ownBlock) :
    ∃ S1 : Nat → Prop, impl_descending_1.St w0 list Al cl B1 B2 B3 T2 S1 (w9.setCell ⟨B1, 0, none⟩ v) v (out ++ [m]) ∧ Kp w (w9.setCell ⟨B1, 0, none⟩ v) S ∧ (∀ k, S1 k → S k ∨ w.heap.size ≤ k) ∧ ∀ {α : Type} {d : Kd α} {e b : Nat} {x : Value} {xs : List α}, Kd.V d e w b (fun k => ¬ S k) x xs → Kd.V d e (w9.setCell ⟨B1, 0, none⟩ v) b (fun k => ¬ S1 k) x xs := by
  have hw := below_step hW h7
  have hsz := below_size hW
  have own : ∀ k, u.ownBlock = some k → S k := fun k e => (h.ho.1 k e).1
  have hk : Kp w (w9.setCell ⟨B1, 0, none⟩ v) S := Kp.setCell ((Kp.of_below hw S).then_ (S2 := S) ⟨Kept.of_grown hg (Kept.refl _ _) (fun k e => .inl (own k e)), hb.mono (Nat.zero_le _)⟩ (fun _ hk => .inl hk)) (.inl h.s1) v
  have hsub : ∀ k, ((S k ∨ W.heap.size ≤ k) ∧ k < (w9.setCell ⟨B1, 0, none⟩ v).heap.size) → S k ∨ w.heap.size ≤ k := fun k hk => hk.1.imp_right (fun h2 => Nat.le_trans hsz h2)
  have l1 := blk_lt h.b1
  have l2 := blk_lt h.b2
  have l3 := blk_lt h.b3
  have hl9 := hk.sz
  have ez : w9.heap.size ≤ (w9.setCell ⟨B1, 0, none⟩ v).heap.size := (Kp.setCell (Kp.refl w9 (fun _ => True)) (p := ⟨B1, 0, none⟩) (.inl trivial) v).sz
  refine ⟨fun k => (S k ∨ W.heap.size ≤ k) ∧ k < (w9.setCell ⟨B1, 0, none⟩ v).heap.size, ⟨?_, blk_kept h.b2 hk.1 h.s2, blk_kept h.b3 hk.1 h.s3, ?_, Kd.V_kept' h.hl hk hsub, ⟨.inl h.s1, by omega⟩, fun h2 => h2.1.elim h.s2 (fun h3 => by omega), fun h2 => h2.1.elim h.s3 (fun h3 => by omega), fun k hk => hk.2, fun k hk => hk.1.elim (h.ge k) (fun h2 => Nat.le_trans (Nat.le_trans (below_size h.hb) hsz) h2), ?_⟩, hk, hsub, fun hx => Kd.V_kept' hx hk hsub⟩
  · exact blk_set (blk_grown (blk_below h.b1 hw) hg (fun e => (h.ho.1 B1 e.symm).2 rfl)) 0 v
  · refine Kd.N_far (Kd.N_mono (Kd.N_bound ho) (fun k hk => ?_)) (fun k hk => hk.2) v
    exact ⟨⟨hk.1.imp_left (fun h2 => h2.1), Nat.lt_of_lt_of_le hk.2 ez⟩, hk.1.elim (fun h2 => h2.2) (fun h2 => by omega)⟩
  · exact below_set ((below_step h.hb hw).trans hb) (h.ge _ h.s1)
end
mutual
def impl_descending_1.l0 : Nat → Tb_ → Tb_ → Tb_ → Int → Option (List Tb_)
  | 0, _, _, _, _ => none
  | k + 1, list, rows, next, i => if i < (next.length : Int) then (if 0 ≤ i then ((impl_below.f k list (next.getD i.toNat [])).bind fun nx => (impl_descending_1.f k list (rows ++ [next.getD i.toNat []]) nx).bind fun a => (impl_descending_1.l0 k list rows next (i + 1)).bind fun b => some (a ++ b)) else none) else some []
def impl_descending_1.f : Nat → Tb_ → Tb_ → Tb_ → Option (List Tb_)
  | 0, _, _, _ => none
  | k + 1, list, rows, next => if rows.length < 1000 then ((impl_copyTable.f k rows).bind fun m => (impl_descending_1.l0 k list rows next 0).bind fun r => some (m :: r)) else none
end
theorem impl_descending_1.mono_l : ∀ k, (∀ y0 y1 y2, LeO (impl_descending_1.f k y0 y1 y2) (impl_descending_1.f (k + 1) y0 y1 y2)) ∧ (∀ y0 y1 y2 y3, LeO (impl_descending_1.l0 k y0 y1 y2 y3) (impl_descending_1.l0 (k + 1) y0 y1 y2 y3))
  | 0 => ⟨fun _ _ _ r h => by simp [impl_descending_1.f] at h, fun _ _ _ _ r h => by simp [impl_descending_1.l0] at h⟩
  | k + 1 => by
    obtain ⟨ih0, ih1⟩ := impl_descending_1.mono_l k
    refine ⟨?_, ?_⟩
    · intro y0 y1 y2
      unfold impl_descending_1.f
      exact LeO.ite (LeO.bind (impl_copyTable.mono _ _) (fun _ => LeO.bind (ih1 _ _ _ _) (fun _ => LeO.refl _))) (LeO.refl _)
    · intro y0 y1 y2 y3
      unfold impl_descending_1.l0
      exact LeO.ite (LeO.ite (LeO.bind (impl_below.mono _ _ _) (fun _ => LeO.bind (ih0 _ _ _) (fun _ => LeO.bind (ih1 _ _ _ _) (fun _ => LeO.refl _)))) (LeO.refl _)) (LeO.refl _)
theorem impl_descending_1.mono : ∀ a0 a1 a2 k, LeO (impl_descending_1.f k a0 a1 a2) (impl_descending_1.f (k + 1) a0 a1 a2) := fun a0 a1 a2 k => (impl_descending_1.mono_l k).1 a0 a1 a2
theorem impl_descending_1.calls (w0 : World) (list : Tb_) (Al : Option Addr) (cl B1 B2 B3 T2 : Nat) (k : Nat) : ∀ (A0 : Option Addr) (c0 : Nat) (l0 : Tb_) (A1 : Option Addr) (c1 : Nat) (l1 : Tb_) (S : Nat → Prop) (u : Value) (out r : List Tb_) (w : World)
    (hs : impl_descending_1.St w0 list Al cl B1 B2 B3 T2 S w u out) (hr0 : Kd.V (Kd.slice 3 (Kd.int .i64)) 46 w 0 (fun k => ¬ S k) (.slice A0 l0.length c0) l0) (hr1 : Kd.V (Kd.slice 3 (Kd.int .i64)) 46 w 0 (fun k => ¬ S k) (.slice A1 l1.length c1) l1) (hn : out.length + r.length < 1000000) (h : impl_descending_1.f k list l0 l1 = some r),
    Calls Try.prog 47 (#[.slice A0 l0.length c0, .slice A1 l1.length c1] ++ #[.pointer (some ⟨B1, 0, none⟩), .pointer (some ⟨B2, 0, none⟩), .pointer (some ⟨B3, 0, none⟩)]) w fun e w' => e = .returned (.tuple #[]) ∧ ∃ u' S', impl_descending_1.St w0 list Al cl B1 B2 B3 T2 S' w' u' (out ++ r) ∧ Kp w w' S ∧ ∀ k, S' k → S k ∨ w.heap.size ≤ k := by
  induction k using Nat.strongRecOn with
  | _ k ih =>
  intro A0 c0 l0 A1 c1 l1 S u out r w hs hr0 hr1 hn h
  cases k with
  | zero => exact absurd h (by simp [impl_descending_1.f])
  | succ k =>
  simp only [impl_descending_1.f] at h
  by_cases c1_ : l0.length < 1000
  case neg => rw [if_neg c1_] at h; exact absurd h (by simp)
  rw [if_pos c1_] at h
  obtain ⟨m', hm', h⟩ := Option.bind_eq_some_iff.mp h
  obtain ⟨r', hr', h⟩ := Option.bind_eq_some_iff.mp h
  obtain rfl := (Option.some.inj h).symm
  have HS := am_ hs
  have HR := am_ hr0
  have HN := am_ hr1
  have HM := am_ hm'
  have HF := am_ hr'
  have LM := am_ c1_
  have HL := am_ hn
  have hz0 : l0.length ≤ 9223372036854775807 := (Kd.V_reads' hr0).2.2.2.1
  have hz1 : l1.length ≤ 9223372036854775807 := (Kd.V_reads' hr1).2.2.2.1
  have hz2 : l0.length ≤ c0 := (Kd.V_reads' hr0).2.1
  clear hs hr0 hr1 hm' hr' h c1_ hn
  go_enter Try.func47, Try.ntmps47
  go_wp2_with fail
  have HBW := am_ (below_drew (Below.refl w.heap.size w))
  refine start_ (n := 6) (S := fun w' => w'.cell? ⟨B1, 0, none⟩ = some u) (ds := [5]) #[F_, F_, F_, F_, F_, F_] (by kernel_rfl) rfl rfl (cell_of_below HBW.out ((blk_cell HS.out.b1 0).trans rfl)) (fun hHeld => ?_)
  generalize hW_ : w.drew = W at HBW hHeld ⊢
  clear hW_
  refine pure_ (i := 1) (N := some 10) #[F_, T_, F_, F_, F_, F_] rfl rfl ak_ hq_ yi_ nm_ ?_
  refine take_ (i := 0) (N := some 9) #[T_, T_, F_, F_, F_, F_] rfl rfl ak_ hq_ yj1_ hHeld nm_ ?_
  refine one_ (i := 2) (N := some 11) #[T_, T_, T_, F_, F_, F_] rfl rfl (by kernel_rfl) (by decide) (fun K hK => ?_)
  refine goes_ Try.func48 (by kernel_rfl) rfl #[.slice A0 l0.length c0] (by rfl) rfl rfl tc59_ ?_
  refine (impl_copyTable.calls k A0 c0 l0 m' W (Kd.C_below (Kd.V_reads' HR.out).2.2 HBW.out) (Kd.V_reads' HR.out).2.1 HM.out).mono ?_
  rintro e w7 ⟨v10, rfl, ho7, hb7⟩
  refine ⟨_, rfl, ?_⟩
  have HB7 := am_ hb7
  have HM7 := am_ (Kd.S_N (Kd.S_mono (Kd.S_bound ho7) (ok' := fun k_ => W.heap.size ≤ k_ ∧ k_ < w7.heap.size) (fun k_ hk => ⟨hk.2.1, hk.2.2.1⟩)))
  clear ho7 hb7
  obtain ⟨A10, c10, e10⟩ := Kd.N_slice HM7.out
  subst e10
  have HS7 := am_ ((HS.out.below HBW.out).below HB7.out)
  refine hK.out _ _ ((blk_cell HS7.out.b1 0).trans rfl) (fun hHeld => ?_)
  clear hK K
  refine norm_ (a' := ?_) ?_ ?_
  rotate_left
  · show Act.put _ (some 11) _ = _
    simp only [Act.put, List.setIfInBounds_toArray, List.set_cons_zero, List.set_cons_succ, i64_w, i32_w]
    rfl
  refine one_ (i := 3) (N := some 12) #[T_, T_, T_, T_, F_, F_] rfl rfl (by kernel_rfl) (by decide) (fun K hK => ?_)
  refine value_ (w1 := ?_) (v := ?_) (by rfl) rfl ?_ ?_
  rotate_left 2
  · go_simp
    constructor
    · rfl
    · rfl
  refine hK.out _ _ (cell_of_below (below_alloc (Below.refl _ _) _) ((blk_cell HS7.out.b1 0).trans rfl)) (fun hHeld => ?_)
  clear hK K
  refine norm_ (a' := ?_) ?_ ?_
  rotate_left
  · show Act.put _ (some 12) _ = _
    simp only [Act.put, List.setIfInBounds_toArray, List.set_cons_zero, List.set_cons_succ, i64_w, i32_w]
    rfl
  refine one_ (i := 4) (N := some 13) #[T_, T_, T_, T_, T_, F_] rfl rfl (by kernel_rfl) (by decide) (fun K hK => ?_)
  refine Kd.N_append_step (Kd.slice 46 (Kd.slice 3 (Kd.int .i64))) (w0 := w7) w0.heap.size (by rfl) (.tmp 9) (.tmp 12) 31 26 (.slice none 0 0) 24 rfl Try.underlying31 info26 rfl (by decide) (by omega) u out m' [.slice A10 m'.length c10] (fun k_ => (S k_ ∧ k_ ≠ B1) ∨ W.heap.size ≤ k_) (fun k_ => W.heap.size ≤ k_ ∧ k_ < w7.heap.size) rfl rfl (Kd.FK_slice_mk (Kd.N_reads' HM7.out).2.1 (Kd.F_mono (Kd.N_F HM7.out) (fun k_ hk => hk))) (fun k_ hk => ⟨.inr hk.1, fun e => by have := (HS.out.below HBW.out).bd _ ((HS.out.ho.1 k_ e.symm).1); have := hk.1; omega⟩) (fun k_ hk => .inr (Nat.le_trans (below_size HB7.out) hk)) (Kd.N_mono HS7.out.ho (fun k_ hk => .inl hk)) (Below.refl _ _) (below_size HS7.out.hb) (by have := HL.out; omega) ?_
  intro v12 w9 ho9 hb9 hg9 hat9
  have HO9 := am_ ho9
  obtain ⟨A12, c12, e12⟩ := Kd.N_slice HO9.out
  subst e12
  have HG9 := am_ hg9
  have HB9 := am_ hb9
  have HB19 := am_ (blk_grown HS7.out.b1 hg9 (Kd.N_away HS7.out.ho (fun k_ hk => hk.2)))
  clear ho9 hb9 hg9 hat9
  refine hK.out _ _ ((blk_cell HB19.out 0).trans rfl) (fun hHeld => ?_)
  clear hK K
  refine norm_ (a' := ?_) ?_ ?_
  rotate_left
  · show Act.put _ (some 13) _ = _
    simp only [Act.put, List.setIfInBounds_toArray, List.set_cons_zero, List.set_cons_succ, i64_w, i32_w]
    rfl
  refine last_ (i := 5) (N := none) #[T_, T_, T_, T_, T_, T_] rfl rfl (by kernel_rfl) (by decide) (fun K hK => ?_)
  have hs9 : w9.cell? ⟨B1, 0, none⟩ = some u := (blk_cell HB19.out 0).trans rfl
  have hf9 := blk_frozen HB19.out 0
  refine skip_ (w1 := ?_) (by rfl) rfl ?_ ?_
  rotate_left
  · go_simp
    rfl
  refine hK.out _ _ ?_
  clear hK K
  refine done_ (by kernel_rfl) ?_
  have hl9 : (out ++ [m']).length = out.length + 1 := by simp
  rw [hl9] at HO9
  clear hl9
  obtain ⟨S1, hs1, hk1, ht1, hv1⟩ := impl_descending_1.St.push HS.out HBW.out HB7.out HO9.out HB9.out HG9.out
  have HS1 := am_ hs1
  have HK1 := am_ hk1
  have HT1 := am_ ht1
  have HR1 := am_ (hv1 HR.out)
  have HN1 := am_ (hv1 HN.out)
  clear hs1 hk1 ht1 hv1 HBW HB7 HO9 HB9 HG9 HB19 HM7 HS7
  generalize w9.setCell ⟨B1, 0, none⟩ (.slice A12 (out.length + 1) c12) = wA at HS1 HK1 HR1 HN1 ⊢
  go_wp2
  go_loopg [16] k (fun kq v16 w' => ∃ (i : Int) (u1 : Value) (S1 : Nat → Prop) (acc rest : List Tb_), v16 = .int .i64 i ∧ Aside0 (r' = acc ++ rest) ∧ Aside0 (impl_descending_1.l0 kq list l0 l1 i = some rest) ∧ Aside0 (kq ≤ k) ∧ Aside0 (impl_descending_1.St w0 list Al cl B1 B2 B3 T2 S1 w' u1 (out ++ [m'] ++ acc)) ∧ Aside0 (Kd.V (Kd.slice 3 (Kd.int .i64)) 46 w' 0 (fun k => ¬ S1 k) (.slice A0 l0.length c0) l0) ∧ Aside0 (Kd.V (Kd.slice 3 (Kd.int .i64)) 46 w' 0 (fun k => ¬ S1 k) (.slice A1 l1.length c1) l1) ∧ Aside0 (Kp w w' S) ∧ Aside0 (∀ k, S1 k → S k ∨ w.heap.size ≤ k))
  case atStart => exact ⟨0, _, S1, [], r', rfl, ⟨rfl⟩, HF, ⟨Nat.le_refl _⟩, ⟨by rw [List.append_nil]; exact HS1.out⟩, HR1, HN1, HK1, HT1⟩
  case round =>
    clear HF HS1 HR1 HN1 HK1 HT1 HR HN HS
    obtain ⟨wo, rfl⟩ : ∃ wo : World, wo = wr := ⟨_, rfl⟩
    obtain ⟨i, u1, S1, acc, rest, rfl, HE, HF, HK, HS1, HR1, HN1, HKp, HT⟩ := hrel
    cases gk with
    | zero => exact absurd HF.out (by simp [impl_descending_1.l0])
    | succ k1 =>
      have H := HF.out
      clear HF
      simp only [impl_descending_1.l0] at H
      by_cases c3 : i < (l1.length : Int)
      · rw [if_pos c3] at H
        by_cases c4 : 0 ≤ i
        case neg => rw [if_neg c4] at H; exact absurd H (by simp)
        rw [if_pos c4] at H
        obtain ⟨nx, hnx, H⟩ := Option.bind_eq_some_iff.mp H
        obtain ⟨ra, ha, H⟩ := Option.bind_eq_some_iff.mp H
        obtain ⟨rb, hb, H⟩ := Option.bind_eq_some_iff.mp H
        have HR2 := am_ (Option.some.inj H).symm
        clear H
        obtain ⟨ad, Aw, cw, eA, hxw, hVw⟩ := V_row (b' := 0) HN1.out i c4 c3
        obtain ⟨row, hrow⟩ : ∃ row : List Int, l1.getD i.toNat [] = row := ⟨_, rfl⟩
        rw [hrow] at hnx ha hxw hVw
        clear hrow
        subst eA
        have HVw := am_ hVw
        have HX := am_ hnx
        have HFa := am_ ha
        have HFb := am_ hb
        have hz3 : row.length ≤ 9223372036854775807 := (Kd.V_reads' hVw).2.2.2.1
        clear hVw hnx ha hb
        have HNN := am_ (show (out ++ [m'] ++ acc).length + ra.length < 1000000 by have := HL.out; rw [HE.out, HR2.out] at this; simp only [List.length_append, List.length_cons, List.length_nil] at this ⊢; omega)
        obtain ⟨out1, ho1⟩ : ∃ o, out ++ [m'] ++ acc = o := ⟨_, rfl⟩
        rw [ho1] at HS1 HNN
        have HO1 := am_ ho1
        clear ho1
        have hd3 : decide (i < (l1.length : Int)) = true := decide_eq_true c3
        go_wp2_with fail
        have HSW := am_ (HS1.out.below (below_drew (Below.refl _ _)))
        have HRW := am_ (Kd.V_drew HR1.out)
        have HNW := am_ (Kd.V_drew HN1.out)
        have HVw := am_ (Kd.V_drew HVw.out)
        have HKW := am_ (HKp.out.drew)
        clear HS1 HR1 HN1 HKp hxw
        refine start_ (n := 14) (S := fun w' => w'.cell? ⟨B2, 0, none⟩ = some (.func (.func 47) #[] #[.pointer (some ⟨B1, 0, none⟩), .pointer (some ⟨B2, 0, none⟩), .pointer (some ⟨B3, 0, none⟩)]) ∧ w'.cell? ⟨B3, 0, none⟩ = some (.slice Al list.length cl)) (ds := []) #[F_, F_, F_, F_, F_, F_, F_, F_, F_, F_, F_, F_, F_, F_] (by kernel_rfl) rfl rfl ⟨(blk_cell HSW.out.b2 0).trans rfl, (blk_cell HSW.out.b3 0).trans rfl⟩ (fun hHeld => ?_)
        generalize hW_ : wo.drew = W at HSW HRW HNW HVw HKW hHeld ⊢
        clear hW_
        refine pure_ (i := 1) (N := some 21) #[F_, T_, F_, F_, F_, F_, F_, F_, F_, F_, F_, F_, F_, F_] rfl rfl ak_ hq_ yi_ nm_ ?_
        refine pure_ (i := 2) (N := some 22) #[F_, T_, T_, F_, F_, F_, F_, F_, F_, F_, F_, F_, F_, F_] rfl rfl ak_ hq_ yi_ nm_ ?_
        refine pure_ (i := 3) (N := some 23) #[F_, T_, T_, T_, F_, F_, F_, F_, F_, F_, F_, F_, F_, F_] rfl rfl ak_ hq_ yi_ nm_ ?_
        refine pure_ (i := 4) (N := some 24) #[F_, T_, T_, T_, T_, F_, F_, F_, F_, F_, F_, F_, F_, F_] rfl rfl ak_ hq_ yi_ nm_ ?_
        refine pure_ (i := 5) (N := some 25) #[F_, T_, T_, T_, T_, T_, F_, F_, F_, F_, F_, F_, F_, F_] rfl rfl ak_ hq_ yi_ nm_ ?_
        refine pure_ (i := 6) (N := some 26) #[F_, T_, T_, T_, T_, T_, T_, F_, F_, F_, F_, F_, F_, F_] rfl rfl ak_ hq_ yi_ nm_ ?_
        refine pure_ (i := 7) (N := some 27) #[F_, T_, T_, T_, T_, T_, T_, T_, F_, F_, F_, F_, F_, F_] rfl rfl ak_ hq_ yi_ nm_ ?_
        refine pure_ (i := 11) (N := some 31) #[F_, T_, T_, T_, T_, T_, T_, T_, F_, F_, F_, T_, F_, F_] rfl rfl ak_ hq_ yi_ nm_ ?_
        refine take_ (i := 0) (N := some 20) #[T_, T_, T_, T_, T_, T_, T_, T_, F_, F_, F_, T_, F_, F_] rfl rfl ak_ hq_ yj2_ hHeld nm_ ?_
        refine take_ (i := 10) (N := some 30) #[T_, T_, T_, T_, T_, T_, T_, T_, F_, F_, T_, T_, F_, F_] rfl rfl ak_ hq_ yj2_ hHeld nm_ ?_
        refine one_ (i := 8) (N := some 28) #[T_, T_, T_, T_, T_, T_, T_, T_, T_, F_, T_, T_, F_, F_] rfl rfl (by kernel_rfl) (by decide) (fun K hK => ?_)
        refine value_ (w1 := ?_) (v := ?_) (by rfl) rfl ?_ ?_
        rotate_left 2
        · go_simp
          constructor
          · rfl
          · rfl
        refine hK.out _ _ ⟨cell_of_below (below_alloc (Below.refl _ _) _) ((blk_cell HSW.out.b2 0).trans rfl), cell_of_below (below_alloc (Below.refl _ _) _) ((blk_cell HSW.out.b3 0).trans rfl)⟩ (fun hHeld => ?_)
        clear hK K
        refine norm_ (a' := ?_) ?_ ?_
        rotate_left
        · show Act.put _ (some 28) _ = _
          simp only [Act.put, List.setIfInBounds_toArray, List.set_cons_zero, List.set_cons_succ, i64_w, i32_w]
          rfl
        refine one_ (i := 9) (N := some 29) #[T_, T_, T_, T_, T_, T_, T_, T_, T_, T_, T_, T_, F_, F_] rfl rfl (by kernel_rfl) (by decide) (fun K hK => ?_)
        refine V_push_step (d := (Kd.slice 3 (Kd.int .i64))) (e := 46) (ok := fun k => ¬ S1 k) rfl (.tmp 26) (.tmp 28) 26 rfl (.slice none 0 0) 24 Try.underlying26 info46 rfl rfl (xs := l0) (y := row) (ad := ⟨W.heap.size, 0, none⟩) rfl (Kd.F_alloc (Kd.V_F HRW.out) _) rfl (Kd.FK_below (Kd.FK_slice_mk (Kd.V_reads' HVw.out).2.1 (Kd.V_F HVw.out)) (below_alloc (Below.refl _ _) _)) ((blk_cell (blk_new W _) 0).trans rfl) tc79_ tc79_ ?_
        intro v29 w9 hN9 hb9
        have HB9 := am_ (below_step (below_alloc (Below.refl _ _) _) hb9)
        have HN9 := am_ (Kd.V_mono (Kd.N_V (base' := 0) hN9) (ok' := fun k => ¬ S1 k) (fun k hk => hk.elim (fun h => h) (fun h hs => by have := HSW.out.bd k hs; simp at h; omega)))
        clear hN9 hb9
        obtain ⟨A29, c29, e29⟩ := Kd.V_slice HN9.out
        subst e29
        have HS9 := am_ (HSW.out.below HB9.out)
        refine hK.out _ _ ⟨(blk_cell HS9.out.b2 0).trans rfl, (blk_cell HS9.out.b3 0).trans rfl⟩ (fun hHeld => ?_)
        clear hK K
        refine norm_ (a' := ?_) ?_ ?_
        rotate_left
        · show Act.put _ (some 29) _ = _
          simp only [Act.put, List.setIfInBounds_toArray, List.set_cons_zero, List.set_cons_succ, i64_w, i32_w]
          rfl
        refine one_ (i := 12) (N := some 32) #[T_, T_, T_, T_, T_, T_, T_, T_, T_, T_, T_, T_, T_, F_] rfl rfl (by kernel_rfl) (by decide) (fun K hK => ?_)
        refine goes_ Try.func49 (by kernel_rfl) rfl #[.slice Al list.length cl, .slice Aw row.length cw] (by rfl) rfl rfl tc59_ ?_
        refine (impl_below.calls k1 Al cl list Aw cw row nx (fun k => ¬ S1 k) w9 (Kd.V_F HS9.out.hl) (Kd.V_reads' HS9.out.hl).2.1 (Kd.V_reads' (Kd.V_below HVw.out HB9.out)).2.2 (Kd.V_reads' HVw.out).2.1 HX.out).mono ?_
        rintro e w10 ⟨v32, rfl, ho, hb⟩
        refine ⟨_, rfl, ?_⟩
        have HB10 := am_ hb
        have HN10 := am_ (Kd.V_mono (Kd.N_V (base' := 0) ho) (ok' := fun k => ¬ S1 k) (fun k hk => hk.elim (fun h => h) (fun h hs => by have := HS9.out.bd k hs; omega)))
        clear ho hb
        obtain ⟨A32, c32, e32⟩ := Kd.V_slice HN10.out
        subst e32
        have HS10 := am_ (HS9.out.below HB10.out)
        refine hK.out _ _ ⟨(blk_cell HS10.out.b2 0).trans rfl, (blk_cell HS10.out.b3 0).trans rfl⟩ (fun hHeld => ?_)
        clear hK K
        refine norm_ (a' := ?_) ?_ ?_
        rotate_left
        · show Act.put _ (some 32) _ = _
          simp only [Act.put, List.setIfInBounds_toArray, List.set_cons_zero, List.set_cons_succ, i64_w, i32_w]
          rfl
        refine one_ (i := 13) (N := some 33) #[T_, T_, T_, T_, T_, T_, T_, T_, T_, T_, T_, T_, T_, T_] rfl rfl (by kernel_rfl) (by decide) (fun K hK => ?_)
        refine goesF_ (enters_of Try.func47 (by kernel_rfl) rfl) #[.slice A29 (l0 ++ [row]).length c29, .slice A32 nx.length c32] (by rfl) rfl rfl (by first | rfl | (simp [Act.eval]; done)) tc59_ ?_
        refine (ih k1 (by have := HK.out; omega) A29 c29 (l0 ++ [row]) A32 c32 nx S1 u1 (out1) ra w10 HS10.out (Kd.V_below HN9.out HB10.out) HN10.out HNN.out HFa.out).mono ?_
        rintro e w11 ⟨rfl, u2, S2, hS, hK, hT⟩
        refine ⟨_, rfl, ?_⟩
        have HS11 := am_ hS
        have HK11 := am_ hK
        have HT11 := am_ hT
        clear hS hK hT
        refine hK.out _ _ ⟨(blk_cell HS11.out.b2 0).trans rfl, (blk_cell HS11.out.b3 0).trans rfl⟩ (fun hHeld => ?_)
        clear hK K
        refine norm_ (a' := ?_) ?_ ?_
        rotate_left
        · show Act.put _ (some 33) _ = _
          simp only [Act.put, List.setIfInBounds_toArray, List.set_cons_zero, List.set_cons_succ, i64_w, i32_w]
          rfl
        refine done_ (by kernel_rfl) ?_
        have HKr := am_ (((HKW.out.below HB9.out).below HB10.out).then_ HK11.out HT.out)
        have HZ := am_ (((HKW.out.below HB9.out).below HB10.out).sz)
        have HRr := am_ (Kd.V_kept' (Kd.V_below (Kd.V_below HRW.out HB9.out) HB10.out) HK11.out HT11.out)
        have HNr := am_ (Kd.V_kept' (Kd.V_below (Kd.V_below HNW.out HB9.out) HB10.out) HK11.out HT11.out)
        go_wp2
        go_roundg k1
        case measure => have := HK.out; omega
        case rel => exact ⟨i + 1, u2, S2, acc ++ ra, rb, by go_num, ⟨by rw [HE.out, HR2.out, List.append_assoc]⟩, HFb, ⟨by have := HK.out; omega⟩, ⟨by rw [← List.append_assoc, HO1.out]; exact HS11.out⟩, HRr, HNr, HKr, ⟨fun k hk => (HT11.out k hk).elim (HT.out k) (fun h => .inr (Nat.le_trans HZ.out h))⟩⟩
      · rw [if_neg c3] at H
        have hd3 : decide (i < (l1.length : Int)) = false := decide_eq_false c3
        obtain rfl := Option.some.inj H
        clear H
        go_wp2
        first | go_end0 | ((try simp only [Exit.inBlock, Exit.then]); refine bodyPost_ret (results_none rfl _ _ _) rfl ?_)
        refine ⟨rfl, u1, S1, ?_, HKp.out, HT.out⟩
        have e_ := HE.out
        rw [List.append_nil] at e_
        subst e_
        rw [show out ++ m' :: r' = out ++ [m'] ++ r' by simp]
        exact HS1.out

/-! ### impl_descending: function 30 (by hand) -/
def impl_descending.f (k : Nat) (a0 : Int) : Option (List Tb_) := (impl_firstRows.f k a0).bind fun list => (impl_descending_1.f k list [] list).bind fun r => if r.length < 1000000 then some r else none
theorem impl_descending.mono : ∀ a0 k, LeO (impl_descending.f k a0) (impl_descending.f (k + 1) a0) := fun a0 k => by
  unfold impl_descending.f
  exact LeO.bind (impl_firstRows.mono _ _) (fun _ => LeO.bind (impl_descending_1.mono _ _ _ _) (fun _ => LeO.refl _))
theorem impl_descending.calls (k : Nat) (a0 : Int) (r : List Tb_) (w : World) (h : impl_descending.f k a0 = some r) :
    Calls Try.prog 30 #[.int .i64 a0] w fun e w' => ∃ v0_ : Value, e = .returned v0_ ∧ Kd.N (Kd.slice 46 (Kd.slice 3 (Kd.int .i64))) 26 w' w.heap.size (fun k_ => (w.heap.size ≤ k_)) v0_ r ∧ Below w.heap.size w w' := by
  obtain ⟨list, h0, h⟩ := Option.bind_eq_some_iff.mp h
  obtain ⟨r', h1, h2⟩ := Option.bind_eq_some_iff.mp h
  have hr : r'.length < 1000000 := by
    split at h2
    · assumption
    · cases h2
  rw [if_pos hr] at h2
  obtain rfl := Option.some.inj h2
  have H0 := am_ h0
  have HF := am_ h1
  have HL := am_ hr
  clear h h0 h1 h2 hr
  go_enter Try.func30, Try.ntmps30
  go_wp2_with (go_at_call 46; (refine (impl_firstRows.calls k a0 list _ H0.out).mono ?_); rintro e w2 ⟨v8, rfl, ho, hb⟩; have HO2 := am_ ho; have HB2 := am_ hb; clear ho hb; obtain ⟨A8, c8, e8⟩ := Kd.R_slice HO2.out; subst e8)
  have HW1 := am_ (show w.heap.size + 1 ≤ w2.heap.size from by have := below_size HB2.out; simpa using this)
  refine (impl_descending_1.calls w list A8 c8 w2.heap.size (w2.heap.size + 1 + 1) (w2.heap.size + 1) 64 k none 0 [] A8 c8 list (fun k_ => k_ = w2.heap.size ∨ k_ = w.heap.size) (.slice (some ⟨w.heap.size, 0, none⟩) 0 0) [] r' _ ⟨?b1, ?b2, ?b3, ?ho, ?hl, .inl rfl, ?s2, ?s3, ?bd, ?ge, ?hb⟩ (Kd.V_nil _ _ _ _ _) ?hv (by have := HL.out; simp; omega) HF.out).mono ?_
  case b1 => exact blk_alloc (blk_alloc (blk_new _ _) _) _
  case b2 => exact blk_new' (by simp)
  case b3 => exact blk_alloc (blk_new' (by simp)) _
  case ho => exact Kd.R_N (R_empty (blk_alloc (blk_alloc (blk_alloc (blk_below (blk_new _ _) HB2.out) _) _) _) (Nat.le_refl _) ⟨.inr rfl, by have := HW1.out; omega⟩)
  case hl => exact Kd.V_alloc (Kd.V_alloc (Kd.V_alloc (Kd.V_mono (Kd.R_V (base' := 0) (Kd.R_bound HO2.out)) (fun k_ hk hS => by have h1 := hk.2.1; have h2 := hk.2.2.1; simp at h1; omega)) _) _) _
  case hv => exact Kd.V_alloc (Kd.V_alloc (Kd.V_alloc (Kd.V_mono (Kd.R_V (base' := 0) (Kd.R_bound HO2.out)) (fun k_ hk hS => by have h1 := hk.2.1; have h2 := hk.2.2.1; simp at h1; omega)) _) _) _
  case s2 => exact fun hS => by have := HW1.out; omega
  case s3 => exact fun hS => by have := HW1.out; omega
  case bd => exact fun k_ hk => by have := HW1.out; simp; omega
  case ge => exact fun k_ hk => by have := HW1.out; omega
  case hb => exact below_alloc (below_alloc (below_alloc ((below_alloc (Below.refl _ _) _).trans (HB2.out.mono (below_size (below_alloc (Below.refl _ _) _)))) _) _) _
  rintro e w4 ⟨rfl, u4, S4, hs4, _, _⟩
  have HS := am_ hs4
  clear hs4
  obtain ⟨A4, c4, e4⟩ := Kd.N_slice HS.out.ho
  subst e4
  have hc3 : w4.cell? ⟨w2.heap.size, 0, none⟩ = _ := (blk_cell HS.out.b1 0).trans rfl
  go_wp2
  go_ret
  exact ⟨_, rfl, Kd.N_mono HS.out.ho (fun k_ hk => HS.out.ge k_ hk.1), HS.out.hb⟩

/-! ### impl_AllDescending: function 10 -/
def impl_AllDescending.f (k : Nat) (a0 : Int) : Option ((List Tb_) × Bool) := (impl_within.f a0 1 4).bind fun t101 => (if t101 = true then ((impl_descending.f k a0).bind fun t102 => (some (t102, true))) else (some (([] : List Tb_), false)))
theorem impl_AllDescending.mono : ∀ a0  k, LeO (impl_AllDescending.f k a0) (impl_AllDescending.f (k + 1) a0) := by
 intro a0 k; unfold impl_AllDescending.f
 repeat' first
   | (with_reducible exact impl_descending.mono _ _)
   | (with_reducible exact LeO.refl _)
   | (with_reducible exact LeO.none _)
   | (with_reducible refine LeO.ite ?_ ?_)
   | (with_reducible refine LeO.bind ?_ (fun _ => ?_))
   | exact impl_descending.mono _ _
   | exact LeO.none _
   | refine LeO.ite ?_ ?_
   | refine LeO.bind ?_ (fun _ => ?_)
theorem impl_AllDescending.calls (k : Nat) (a0 : Int) (r1 : List Tb_) (r2 : Bool) (w : World) (h : impl_AllDescending.f k a0 = some (r1, r2)) :
  Calls Try.prog 10 #[.int .i64 a0] w fun e w' => ∃ v0_ : Value, e = .returned (.tuple #[v0_, .bool r2]) ∧ Kd.N (Kd.slice 46 (Kd.slice 3 (Kd.int .i64))) 26 w' w.heap.size (fun k_ => (w.heap.size ≤ k_)) v0_ r1 ∧ Below w.heap.size w w' := by
 have HB := am_ (Below.refl w.heap.size w); (try unfold impl_AllDescending.f at h); have H := h; clear h; replace H := bd_ H; obtain ⟨t101, A2, H⟩ := H; (try dsimp only at H)
 by_cases c3 : t101 = true
 ·subst c3; have H1 : ((impl_descending.f k a0).bind fun t102 => (some (t102, true))) = some (r1, r2) := tc19_; clear H; have H := H1; clear H1; replace H := bd_ H; obtain ⟨t102, A4, H⟩ := H; (try dsimp only at H); simp only [Option.some.injEq, Prod.mk.injEq] at H; obtain ⟨rfl, rfl⟩ := H; go_enter Try.func10, Try.ntmps10
  go_wp2_with (first | (refine gc_ (some 5) Try.func24 #[.int .i64 a0, .int .i64 1, .int .i64 4] ?_; (with_reducible refine (impl_within.calls a0 1 4 true _ A2.out).mono ?_); rintro e w' ⟨rfl, ⟨nd, rfl⟩⟩; refine ⟨_, rfl, ?_⟩) | (refine gc_ (some 8) Try.func30 #[.int .i64 a0] ?_; (with_reducible refine (impl_descending.calls k a0 t102 _ A4.out).mono ?_); rintro e w5 ⟨v103, rfl, ho0, hb⟩; refine ⟨_, rfl, ?_⟩; have HO104 := am_ (Kd.N_lower (Kd.N_mono (ok' := fun k_ => (w.heap.size ≤ k_)) ho0 (fun k_ hk_ => (Nat.le_trans (below_size tc0_) hk_))) (below_size tc0_)); replace HB := am_ (below_step tc0_ hb); (try clear hb ho0)))
  go_ret2
  exact ⟨_, tc4_, tc49_, tc0_⟩
 ·replace c3 := Bool.eq_false_iff.mpr c3; subst c3; have H1 : (some (([] : List Tb_), false)) = some (r1, r2) := tc8_; clear H; have H := H1; clear H1; simp only [Option.some.injEq, Prod.mk.injEq] at H; obtain ⟨rfl, rfl⟩ := H; go_enter Try.func10, Try.ntmps10
  go_wp2_with (first | (refine gc_ (some 5) Try.func24 #[.int .i64 a0, .int .i64 1, .int .i64 4] ?_; (with_reducible refine (impl_within.calls a0 1 4 false _ A2.out).mono ?_); rintro e w' ⟨rfl, ⟨nd, rfl⟩⟩; refine ⟨_, rfl, ?_⟩))
  go_ret2
  exact ⟨_, tc4_, tc42_, tc0_⟩

/-! ### impl_DescendingWith: function 6 -/
def impl_DescendingWith.f (k : Nat) (a0 : Int) (a1 : Int) : Option (Tb_ × Bool) := (impl_AllDescending.f k a0).bind fun bt101 => (if bt101.2 = true then ((impl_within.f a1 0 (wrap64 ((bt101.1.length : Int) - 1))).bind fun t105 => (if t105 = true then (if 0 ≤ a1 then (if a1 < (bt101.1.length : Int) then (some (rd_L4 bt101.1 a1, true)) else (none)) else (none)) else (some (([] : Tb_), false)))) else (some (([] : Tb_), false)))
theorem impl_DescendingWith.mono : ∀ a0 a1  k, LeO (impl_DescendingWith.f k a0 a1) (impl_DescendingWith.f (k + 1) a0 a1) := by
 intro a0 a1 k; unfold impl_DescendingWith.f
 repeat' first
   | (with_reducible exact impl_AllDescending.mono _ _)
   | (with_reducible exact LeO.refl _)
   | (with_reducible exact LeO.none _)
   | (with_reducible refine LeO.ite ?_ ?_)
   | (with_reducible refine LeO.bind ?_ (fun _ => ?_))
   | exact impl_AllDescending.mono _ _
   | exact LeO.none _
   | refine LeO.ite ?_ ?_
   | refine LeO.bind ?_ (fun _ => ?_)
theorem impl_DescendingWith.calls (k : Nat) (a0 : Int) (a1 : Int) (r1 : Tb_) (r2 : Bool) (w : World) (h : impl_DescendingWith.f k a0 a1 = some (r1, r2)) :
  Calls Try.prog 6 #[.int .i64 a0, .int .i64 a1] w fun e w' => ∃ v0_ : Value, e = .returned (.tuple #[v0_, .bool r2]) ∧ Kd.V (Kd.slice 3 (Kd.int .i64)) 46 w' w.heap.size (fun k_ => (w.heap.size ≤ k_)) v0_ r1 ∧ Below w.heap.size w w' := by
 have HB := am_ (Below.refl w.heap.size w); (try unfold impl_DescendingWith.f at h); have H := h; clear h; replace H := Option.bind_eq_some_iff.mp H; obtain ⟨⟨t101, t104⟩, A30, H⟩ := H; (try dsimp only at H); have A3 := am_ A30; clear A30
 by_cases c4 : t104 = true
 ·subst c4; have H1 : ((impl_within.f a1 0 (wrap64 ((t101.length : Int) - 1))).bind fun t105 => (if t105 = true then (if 0 ≤ a1 then (if a1 < (t101.length : Int) then (some (rd_L4 t101 a1, true)) else (none)) else (none)) else (some (([] : Tb_), false)))) = some (r1, r2) := tc19_; clear H; have H := H1; clear H1; replace H := bd_ H; obtain ⟨t105, A5, H⟩ := H; (try dsimp only at H)
  by_cases c6 : t105 = true
  ·subst c6; have H1 : (if 0 ≤ a1 then (if a1 < (t101.length : Int) then (some (rd_L4 t101 a1, true)) else (none)) else (none)) = some (r1, r2) := tc19_; clear H; have H := H1; clear H1; replace H := ps_ H; obtain ⟨c7b0, H⟩ := H; replace H := ps_ H; obtain ⟨c8b0, H⟩ := H; simp only [Option.some.injEq, Prod.mk.injEq] at H; obtain ⟨rfl, rfl⟩ := H; go_enter Try.func6, Try.ntmps6
   go_wp2_with (first | (refine gc_ (some 10) Try.func10 #[.int .i64 a0] ?_; (with_reducible refine (impl_AllDescending.calls k a0 t101 true _ A3.out).mono ?_); rintro e w9 ⟨v102, rfl, ho0, hb⟩; refine ⟨_, rfl, ?_⟩; have HO103 := am_ (Kd.N_lower (Kd.N_mono (ok' := fun k_ => (w.heap.size ≤ k_)) ho0 (fun k_ hk_ => (Nat.le_trans (below_size tc0_) hk_))) (below_size tc0_)); replace HB := am_ (below_step tc0_ hb); (try clear hb ho0); obtain ⟨Ao10, co10, eo10⟩ := Kd.N_slice HO103.out; subst eo10) | (go_at_call 24; (with_reducible refine (impl_within.calls a1 0 (wrap64 ((t101.length : Int) - 1)) true _ A5.out).mono ?_); rintro e w' ⟨rfl, ⟨nd, rfl⟩⟩; have p106 : 0 ≤ (a1 : Int) := od_; have q106 : a1 < (t101.length : Int) := od_; obtain ⟨ad106, A106_0, c106_0, e106, hx106_0, hl106_0, hi106_0⟩ := at_L4 (Kd.N_reads' HO103.out).2.2 a1 p106 q106; cases e106; obtain ⟨ce106, hce106, hMe106, hcc106⟩ := Kd.N_get HO103.out [] a1 p106 (by first | exact q106 | exact od_ | (have e_ := (Kd.N_reads' HO103.out).1; omega)); obtain ⟨ua106_0, uc106_0, rfl, ul106_0, ge106_0⟩ := Kd.FK_slice_open hMe106; have hv106_0 := hcc106 0 _ rfl; rw [Nat.add_zero, show ((Kd.slice 46 (Kd.slice 3 (Kd.int .i64)))).sz = 1 from rfl, Nat.mul_one] at hv106_0; replace hv106_0 := Option.some.inj (hv106_0.symm.trans hx106_0); injection hv106_0 with hva_ hvn_ hvc_; rw [hva_] at ge106_0; rw [hvc_] at ul106_0; have HL106_0 := am_ (show Kd.V (Kd.slice 3 (Kd.int .i64)) 46 _ w.heap.size _ _ (rd_L4 t101 a1) from Kd.V_mk ul106_0 ge106_0); clear hva_ hvn_ hvc_ ge106_0 ul106_0; clear hcc106 hce106; have HR106_0 := am_ hi106_0; have HC106_0 := am_ hl106_0; clear hi106_0 hl106_0; replace p106 := eq_true p106; replace q106 := eq_true q106))
   go_ret2
   exact ⟨_, tc4_, (by (with_reducible repeat (first | apply Kd.V_alloc | apply Kd.V_drewN | apply Kd.V_drew)); exact Kd.V_mono HL106_0.out (fun _ hk => hk.1)), tc0_⟩
  ·replace c6 := Bool.eq_false_iff.mpr c6; subst c6; have H1 : (some (([] : Tb_), false)) = some (r1, r2) := tc8_; clear H; have H := H1; clear H1; simp only [Option.some.injEq, Prod.mk.injEq] at H; obtain ⟨rfl, rfl⟩ := H; go_enter Try.func6, Try.ntmps6
   go_wp2_with (first | (refine gc_ (some 10) Try.func10 #[.int .i64 a0] ?_; (with_reducible refine (impl_AllDescending.calls k a0 t101 true _ A3.out).mono ?_); rintro e w11 ⟨v102, rfl, ho0, hb⟩; refine ⟨_, rfl, ?_⟩; have HO103 := am_ (Kd.N_lower (Kd.N_mono (ok' := fun k_ => (w.heap.size ≤ k_)) ho0 (fun k_ hk_ => (Nat.le_trans (below_size tc0_) hk_))) (below_size tc0_)); replace HB := am_ (below_step tc0_ hb); (try clear hb ho0); obtain ⟨Ao12, co12, eo12⟩ := Kd.N_slice HO103.out; subst eo12) | (go_at_call 24; (with_reducible refine (impl_within.calls a1 0 (wrap64 ((t101.length : Int) - 1)) false _ A5.out).mono ?_); rintro e w' ⟨rfl, ⟨nd, rfl⟩⟩))
   go_ret2
   exact ⟨_, tc4_, Kd.V_nil _ _ _ _ _, tc0_⟩
 ·replace c4 := Bool.eq_false_iff.mpr c4; subst c4; have H1 : (some (([] : Tb_), false)) = some (r1, r2) := tc8_; clear H; have H := H1; clear H1; simp only [Option.some.injEq, Prod.mk.injEq] at H; obtain ⟨rfl, rfl⟩ := H; go_enter Try.func6, Try.ntmps6
  go_wp2_with (first | (refine gc_ (some 10) Try.func10 #[.int .i64 a0] ?_; (with_reducible refine (impl_AllDescending.calls k a0 t101 false _ A3.out).mono ?_); rintro e w13 ⟨v102, rfl, ho0, hb⟩; refine ⟨_, rfl, ?_⟩; have HO103 := am_ (Kd.N_lower (Kd.N_mono (ok' := fun k_ => (w.heap.size ≤ k_)) ho0 (fun k_ hk_ => (Nat.le_trans (below_size tc0_) hk_))) (below_size tc0_)); replace HB := am_ (below_step tc0_ hb); (try clear hb ho0)))
  go_ret2
  exact ⟨_, tc4_, Kd.V_nil _ _ _ _ _, tc0_⟩

/-! ### spec_l1In: function 27 -/
def spec_l1In.f (a0 : Int) (a1 : Int) (a2 : Int) : Option (Bool) := if a0 ≥ a1 then (some (decide (a0 ≤ a2))) else (some false)
theorem spec_l1In.calls (a0 : Int) (a1 : Int) (a2 : Int) (r : Bool) (w : World) (h : spec_l1In.f a0 a1 a2 = some r) :
  Calls Try.prog 27 #[.int .i64 a0, .int .i64 a1, .int .i64 a2] w fun e w' => e = .returned (.bool r) ∧ Drawn0 w w' := by
 (try unfold spec_l1In.f at h); have H := h; clear h
 replace H := pn_ H; obtain ⟨c4, H⟩ | ⟨c4, H⟩ := H
 ·have c4b0 : decide (a1 ≤ a0) = true := decide_eq_true c4; clear c4; obtain rfl := Option.some.inj H; go_enter Try.func27, Try.ntmps27; go_wp2
  go_ret
  exact ⟨tc3_, tc5_⟩
 ·have c4b0 : decide (a1 ≤ a0) = false := decide_eq_false c4; clear c4; obtain rfl := Option.some.inj H; go_enter Try.func27, Try.ntmps27; go_wp2
  go_ret
  exact ⟨tc3_, tc5_⟩

/-! ### spec_dpSmall: function 25 -/
def spec_dpSmall.f (a0 : Int) : Option (Bool) := (spec_l1In.f a0 1 4).bind fun t101 => (some t101)
theorem spec_dpSmall.calls (a0 : Int) (r : Bool) (w : World) (h : spec_dpSmall.f a0 = some r) :
  Calls Try.prog 25 #[.int .i64 a0] w fun e w' => e = .returned (.bool r) ∧ Drawn0 w w' := by
 (try unfold spec_dpSmall.f at h); have H := h; clear h; replace H := bd_ H; obtain ⟨t101, A2, H⟩ := H; (try dsimp only at H); obtain rfl := Option.some.inj H; go_enter Try.func25, Try.ntmps25
 go_wp2_with (first | (refine gc_ (some 4) Try.func27 #[.int .i64 a0, .int .i64 1, .int .i64 4] ?_; (with_reducible refine (spec_l1In.calls a0 1 4 t101 _ A2.out).mono ?_); rintro e w' ⟨rfl, ⟨nd, rfl⟩⟩; refine ⟨_, rfl, ?_⟩))
 go_ret
 exact ⟨tc3_, tc5_⟩

/-! ### spec_l1Own: function 45 -/
def spec_l1Own.f (l0 : List Int) : Option (List Int) := (some (([] : List Int) : List Int)).bind fun y101 => (if y101.length + l0.length < 17592186044416 then (some (y101 ++ l0)) else (none))
theorem spec_l1Own.calls (A0 : Option Addr) (c0 : Nat) (l0 : List Int) (r : List Int) (w : World) (hr0 : Kd.C (Kd.int .i64) w A0 l0.length l0) (hc0 : l0.length ≤ c0) (h : spec_l1Own.f l0 = some r) :
  Calls Try.prog 45 #[.slice A0 l0.length c0] w fun e w' => ∃ v0_ : Value, e = .returned (v0_) ∧ Kd.R (Kd.int .i64) 3 w' w.heap.size (fun _ => True) v0_ r ∧ Below w.heap.size w w' := by
 have HR0 := am_ hr0; have HC0 := am_ hc0; clear hr0 hc0; have HB := am_ (Below.refl w.heap.size w); (try unfold spec_l1Own.f at h); have H := h; clear h; obtain ⟨y101, hy101⟩ : ∃ y_ : List Int, y_ = (([] : List Int)) := ⟨_, rfl⟩; replace H : (if y101.length + l0.length < 17592186044416 then (some (y101 ++ l0)) else (none)) = some r := tc27_; have Ny101 := am_ hy101; clear hy101; replace H := pp_ H; obtain ⟨c2, H⟩ := H; have LMc2 := am_ c2; clear c2; obtain ⟨y104, hy104⟩ : ∃ y_ : List Int, y_ = (y101 ++ l0) := ⟨_, rfl⟩; replace H : (some y104) = some r := tc25_; have Ny104 := am_ hy104; clear hy104; obtain rfl := Option.some.inj H; go_enter Try.func45, Try.ntmps45
 go_wp2_with (first | ((with_reducible refine gate_dst (N := 3) rfl ?_); refine Kd.R_lit (Kd.int .i64) _ 3 ?hg (N := 3) ?hd (xs := ([] : List Int)) (inner := []) (ok := fun _ => True) (okp := fun _ => True) ?hr ?hp (fun _ hk => hk) trivial (Below.refl _ _) (Nat.le_refl _) (by simp) ?_; (case hd => rfl); (case hg => rfl); (case hr => exact tc36_); (case hp => exact (Reps.none _ _)); intro v102 w3 ho4 hb hg_ hnew_; clear hg_ hnew_; (first | rw [← Ny101.out] at ho4 | (simp only [Int.reduceToNat] at ho4; rw [← Ny101.out] at ho4)); have HO103 := am_ (Kd.R_lower ho4 (below_size tc0_)); replace HB := am_ (below_step tc0_ hb); clear hb ho4) | ((with_reducible refine gate_builtin (b := .append) (xs := #[.tmp 3, .tmp 4]) rfl ?_); at_builtin; refine Kd.R_append_rows (Kd.int .i64) (w0 := w) w.heap.size rfl (.tmp 3) (.tmp 4) 46 3 (.int .i64 0) 8 rfl Try.underlying46 info3 rfl (by decide) (by omega) v102 y101 l0 _ _ _ (fun _ => True) (fun _ => False) rfl rfl ?aO ?aR (fun _ _ h => h) (fun _ h => h.elim) ?aF ?aB ?aS ?aL ?_; (case aR => exact tc22_); (case aB => exact tc6_); (case aF => exact tc81_); (case aO => exact (by (with_reducible repeat (first | apply Kd.R_alloc | apply Kd.R_drewN | apply Kd.R_drew)); exact HO103.out)); (case aS => exact tc11_); (case aL => have := LMc2.out; omega); intro v105 w5 ho hb hg hat; rw [← Ny104.out] at ho; replace HB := am_ (hb); have HO106 := am_ (ho); clear HO103; clear ho hb hg hat))
 go_ret
 exact ⟨_, tc4_, tc63_, tc0_⟩

/-! ### spec_l1All: function 70 -/
def spec_l1All.l0 : Nat → Int → Int → List Int → Int → Int → Option (Bool)
 | 0, _, _, _, _, _ => none
 | k + 1, x1, x2, x9, x10, x11 => if x11 < x10 then (if 0 ≤ x11 then (if x11 < (x9.length : Int) then ((spec_l1In.f (rd x9 x11) x1 x2).bind fun t102 => (if t102 = true then (spec_l1All.l0 k x1 x2 x9 x10 (wrap64 (x11 + 1))) else (some false))) else (none)) else (none)) else (some true)
def spec_l1All.f (k : Nat) (l0 : List Int) (a1 : Int) (a2 : Int) : Option (Bool) := spec_l1All.l0 k a1 a2 l0 (l0.length : Int) 0
theorem spec_l1All.mono_l : ∀ k, (∀ y0 y1 y2 y3 y4, LeO (spec_l1All.l0 k y0 y1 y2 y3 y4) (spec_l1All.l0 (k + 1) y0 y1 y2 y3 y4))
 | 0 => fun _ _ _ _ _ r h => by simp [spec_l1All.l0] at h
 | k + 1 => by
  have ih0 := spec_l1All.mono_l k
  ·intro y0 y1 y2 y3 y4; unfold spec_l1All.l0
   repeat' first
   | (with_reducible exact ih0 _ _ _ _ _)
   | (with_reducible exact LeO.refl _)
   | (with_reducible exact LeO.none _)
   | (with_reducible refine LeO.ite ?_ ?_)
   | (with_reducible refine LeO.bind ?_ (fun _ => ?_))
   | exact ih0 _ _ _ _ _
   | exact LeO.none _
   | refine LeO.ite ?_ ?_
   | refine LeO.bind ?_ (fun _ => ?_)
theorem spec_l1All.mono : ∀ a0 a1 a2  k, LeO (spec_l1All.f k a0 a1 a2) (spec_l1All.f (k + 1) a0 a1 a2) := by
 intro a0 a1 a2 k; have ih0 := spec_l1All.mono_l k; unfold spec_l1All.f
 repeat' first
   | (with_reducible exact ih0 _ _ _ _ _)
   | (with_reducible exact LeO.refl _)
   | (with_reducible exact LeO.none _)
   | (with_reducible refine LeO.ite ?_ ?_)
   | (with_reducible refine LeO.bind ?_ (fun _ => ?_))
   | exact ih0 _ _ _ _ _
   | exact LeO.none _
   | refine LeO.ite ?_ ?_
   | refine LeO.bind ?_ (fun _ => ?_)
theorem spec_l1All.calls (k : Nat) (A0 : Option Addr) (c0 : Nat) (l0 : List Int) (a1 : Int) (a2 : Int) (r : Bool) (w : World) (hr0 : Kd.C (Kd.int .i64) w A0 l0.length l0) (hc0 : l0.length ≤ c0) (h : spec_l1All.f k l0 a1 a2 = some r) :
  Calls Try.prog 70 #[.slice A0 l0.length c0, .int .i64 a1, .int .i64 a2] w fun e w' => e = .returned (.bool r) ∧ Drawn0 w w' := by
 have HR0 := am_ hr0; have HC0 := am_ hc0; clear hr0 hc0; (try unfold spec_l1All.f at h); have H := h; clear h; have H' := am_ H; clear H; go_enter Try.func70, Try.ntmps70; go_wp2
 go_loopg [11] k (fun kq v11 w' => ∃ (x11_1 : Int), v11 = .int .i64 x11_1 ∧ Aside0 (spec_l1All.l0 kq a1 a2 l0 (l0.length : Int) x11_1 = some r) ∧ Aside0 (kq ≤ k) ∧ Drawn0 w w')
 case atStart => exact ⟨(0), tc3_, H', ⟨Nat.le_refl _⟩, tc5_⟩
 case round =>
  clear H'; (try clear p2); obtain ⟨x11_1, rfl, HA, HK1, ⟨m1, rfl⟩⟩ := hrel
  cases gk with
  | zero => exact absurd HA.out (by simp [spec_l1All.l0])
  | succ k1 =>
   have H := HA.out; clear HA; simp only [spec_l1All.l0] at H
   replace H := sp_ H; obtain ⟨c4b0, H⟩ | ⟨c4b0, H⟩ := H
   ·replace H := ps_ H; obtain ⟨c5b0, H⟩ := H; replace H := ps_ H; obtain ⟨c6b0, H⟩ := H; replace H := bd_ H; obtain ⟨t102, A7, H⟩ := H; (try dsimp only at H)
    by_cases c8 : t102 = true
    ·subst c8; have H1 : (spec_l1All.l0 k1 a1 a2 l0 (l0.length : Int) (wrap64 (x11_1 + 1))) = some r := tc19_; clear H; have H := H1; clear H1; have H' := am_ H; clear H; have p101 : 0 ≤ (x11_1 : Int) := od_; have q101 : x11_1 < (l0.length : Int) := od_; obtain ⟨ad101, e101, hx101_0⟩ := Kd.at_int HR0.out x11_1 p101 q101; cases e101; replace p101 := eq_true p101; replace q101 := eq_true q101
     go_wp2_with (first | (refine gc_ (some 18) Try.func27 #[.int .i64 (rd l0 x11_1), .int .i64 a1, .int .i64 a2] ?_; (with_reducible refine (spec_l1In.calls (rd l0 x11_1) a1 a2 true _ A7.out).mono ?_); rintro e w' ⟨rfl, ⟨nd, rfl⟩⟩; refine ⟨_, rfl, ?_⟩))
     go_roundg k1
     case measure => have := HK1.out; omega
     case rel => exact ⟨(wrap64 (x11_1 + 1)), tc3_, H', ⟨tc40_⟩, tc5_⟩
    ·replace c8 := Bool.eq_false_iff.mpr c8; subst c8; have H1 : (some false) = some r := tc8_; clear H; have H := H1; clear H1; obtain rfl := Option.some.inj H; have p101 : 0 ≤ (x11_1 : Int) := od_; have q101 : x11_1 < (l0.length : Int) := od_; obtain ⟨ad101, e101, hx101_0⟩ := Kd.at_int HR0.out x11_1 p101 q101; cases e101; replace p101 := eq_true p101; replace q101 := eq_true q101
     go_wp2_with (first | (refine gc_ (some 18) Try.func27 #[.int .i64 (rd l0 x11_1), .int .i64 a1, .int .i64 a2] ?_; (with_reducible refine (spec_l1In.calls (rd l0 x11_1) a1 a2 false _ A7.out).mono ?_); rintro e w' ⟨rfl, ⟨nd, rfl⟩⟩; refine ⟨_, rfl, ?_⟩))
     go_ret
     exact ⟨tc3_, tc5_⟩
   ·obtain rfl := Option.some.inj H; go_wp2
    go_ret
    exact ⟨tc3_, tc5_⟩

/-! ### spec_dpRow: function 65 -/
mutual
def spec_dpRow.j0 : Nat → List Int → Bool → Option (Bool)
 | 0, _, _ => none
 | k + 1, x0, x28 => if x28 = true then (some false) else (spec_dpRow.l0 k x0 1)
def spec_dpRow.l0 : Nat → List Int → Int → Option (Bool)
 | 0, _, _ => none
 | k + 1, x0, x5 => if x5 < (x0.length : Int) then (if 0 ≤ x5 then (if 0 ≤ (wrap64 (x5 - 1)) then (if (wrap64 (x5 - 1)) < (x0.length : Int) then (if (rd x0 x5) > (rd x0 (wrap64 (x5 - 1))) then (some false) else (spec_dpRow.l0 k x0 (wrap64 (x5 + 1)))) else (none)) else (none)) else (none)) else (some true)
end
def spec_dpRow.f (k : Nat) (l0 : List Int) (a1 : Int) : Option (Bool) := if (l0.length : Int) = 0 then (spec_dpRow.j0 k l0 true) else (if (l0.length : Int) ≥ a1 then (spec_dpRow.j0 k l0 true) else ((spec_l1All.f k l0 1 a1).bind fun t101 => (if t101 = true then (if 0 < (l0.length : Int) then (spec_dpRow.j0 k l0 (decide ((rd l0 0) ≤ (l0.length : Int)))) else (none)) else (spec_dpRow.j0 k l0 true))))
theorem spec_dpRow.mono_l : ∀ k, (∀ y0 y1, LeO (spec_dpRow.j0 k y0 y1) (spec_dpRow.j0 (k + 1) y0 y1)) ∧ (∀ y0 y1, LeO (spec_dpRow.l0 k y0 y1) (spec_dpRow.l0 (k + 1) y0 y1))
 | 0 => ⟨fun _ _ r h => by simp [spec_dpRow.j0] at h, fun _ _ r h => by simp [spec_dpRow.l0] at h⟩
 | k + 1 => by
  obtain ⟨ih0, ih1⟩ := spec_dpRow.mono_l k; refine ⟨?_, ?_⟩
  ·intro y0 y1; unfold spec_dpRow.j0
   repeat' first
   | (with_reducible exact ih0 _ _)
   | (with_reducible exact ih1 _ _)
   | (with_reducible exact spec_l1All.mono _ _ _ _)
   | (with_reducible exact LeO.refl _)
   | (with_reducible exact LeO.none _)
   | (with_reducible refine LeO.ite ?_ ?_)
   | (with_reducible refine LeO.bind ?_ (fun _ => ?_))
   | exact ih0 _ _
   | exact ih1 _ _
   | exact spec_l1All.mono _ _ _ _
   | exact LeO.none _
   | refine LeO.ite ?_ ?_
   | refine LeO.bind ?_ (fun _ => ?_)
  ·intro y0 y1; unfold spec_dpRow.l0
   repeat' first
   | (with_reducible exact ih0 _ _)
   | (with_reducible exact ih1 _ _)
   | (with_reducible exact spec_l1All.mono _ _ _ _)
   | (with_reducible exact LeO.refl _)
   | (with_reducible exact LeO.none _)
   | (with_reducible refine LeO.ite ?_ ?_)
   | (with_reducible refine LeO.bind ?_ (fun _ => ?_))
   | exact ih0 _ _
   | exact ih1 _ _
   | exact spec_l1All.mono _ _ _ _
   | exact LeO.none _
   | refine LeO.ite ?_ ?_
   | refine LeO.bind ?_ (fun _ => ?_)
theorem spec_dpRow.mono : ∀ a0 a1  k, LeO (spec_dpRow.f k a0 a1) (spec_dpRow.f (k + 1) a0 a1) := by
 intro a0 a1 k; obtain ⟨ih0, ih1⟩ := spec_dpRow.mono_l k; unfold spec_dpRow.f
 repeat' first
   | (with_reducible exact ih0 _ _)
   | (with_reducible exact ih1 _ _)
   | (with_reducible exact spec_l1All.mono _ _ _ _)
   | (with_reducible exact LeO.refl _)
   | (with_reducible exact LeO.none _)
   | (with_reducible refine LeO.ite ?_ ?_)
   | (with_reducible refine LeO.bind ?_ (fun _ => ?_))
   | exact ih0 _ _
   | exact ih1 _ _
   | exact spec_l1All.mono _ _ _ _
   | exact LeO.none _
   | refine LeO.ite ?_ ?_
   | refine LeO.bind ?_ (fun _ => ?_)
theorem spec_dpRow.calls (k : Nat) (A0 : Option Addr) (c0 : Nat) (l0 : List Int) (a1 : Int) (r : Bool) (w : World) (hr0 : Kd.C (Kd.int .i64) w A0 l0.length l0) (hc0 : l0.length ≤ c0) (h : spec_dpRow.f k l0 a1 = some r) :
  Calls Try.prog 65 #[.slice A0 l0.length c0, .int .i64 a1] w fun e w' => e = .returned (.bool r) ∧ Drawn0 w w' := by
 have HR0 := am_ hr0; have HC0 := am_ hc0; clear hr0 hc0; (try unfold spec_dpRow.f at h); have H := h; clear h; have HC3 := am_ H; clear H; go_enter Try.func65, Try.ntmps65
 go_upto_region 1 with (fail)
 repeat (go_quiet (fail); go_upto_region 1 with (fail))
 go_cut [28] (fun v28 wc => ∃ (kq : Nat) (x28_2 : Bool), v28 = .bool x28_2 ∧ Aside0 (spec_dpRow.j0 kq l0 x28_2 = some r) ∧ Aside0 (kq ≤ k) ∧ Drawn0 w wc)
 case first =>
  have H := HC3.out; clear HC3
  replace H := pn_ H; obtain ⟨c4, H⟩ | ⟨c4, H⟩ := H
  ·have c4b0 : ((l0.length : Int) == 0) = true := beq_iff_eq.mpr c4; have c4b1 : ((l0.length : Int) != 0) = false := bne_eq_false_iff_eq.mpr c4; clear c4; (first | rw [c4b0] | (simp only [i64_w, i32_w]; rw [c4b0]) | skip); have H' := am_ H; clear H; go_wp2
   repeat (go_quiet (fail); try go_wp2)
   go_meet
   case rel => exact ⟨_, (true), tc3_, H', ⟨tc47_⟩, tc5_⟩
  ·have c4b0 : ((l0.length : Int) == 0) = false := beq_eq_false_iff_ne.mpr c4; have c4b1 : ((l0.length : Int) != 0) = true := bne_iff_ne.mpr c4
   have c4b2 : ¬ (l0 = []) := fun h_ => c4 (by rw [h_]; rfl)
   (first | rw [c4b0] | (simp only [i64_w, i32_w]; rw [c4b0]) | skip)
   replace H := pn_ H; obtain ⟨c5, H⟩ | ⟨c5, H⟩ := H
   ·have c5b0 : decide (a1 ≤ (l0.length : Int)) = true := decide_eq_true c5; clear c5; have H' := am_ H; clear H; go_wp2
    repeat (go_quiet (fail); try go_wp2)
    go_meet
    case rel => exact ⟨_, (true), tc3_, H', ⟨tc47_⟩, tc5_⟩
   ·have c5b0 : decide (a1 ≤ (l0.length : Int)) = false := decide_eq_false c5; clear c5; replace H := bd_ H; obtain ⟨t101, A6, H⟩ := H; (try dsimp only at H)
    by_cases c7 : t101 = true
    ·subst c7; have H1 : (if 0 < (l0.length : Int) then (spec_dpRow.j0 k l0 (decide ((rd l0 0) ≤ (l0.length : Int)))) else (none)) = some r := tc19_; clear H; have H := H1; clear H1; replace H := pp_ H; obtain ⟨c8, H⟩ := H; have c8b0 : decide (0 < (l0.length : Int)) = true := decide_eq_true c8; have c8b1 : decide (0 < l0.length) = true := decide_eq_true (by omega); clear c8; have H' := am_ H; clear H
     go_wp2_with (first | (go_at_call 70; (with_reducible refine (spec_l1All.calls k _ _ l0 1 a1 true _ ?side1 ?side2 A6.out).mono ?_); (case side1 => exact tc13_); (case side2 => exact HC0.out); rintro e w' ⟨rfl, ⟨nd, rfl⟩⟩; (try first | exact ⟨rfl, _, World.drewN_drewN _ _ _⟩ | exact ⟨rfl, _, Eq.trans (World.drewN_drewN _ _ _) (congrArg (World.drewN _) (Nat.add_assoc _ _ _))⟩); have p102 : 0 ≤ (0 : Int) := (by omega); have q102 : 0 < (l0.length : Int) := od_; obtain ⟨ad102, e102, hx102_0⟩ := Kd.at_int HR0.out 0 p102 q102; cases e102; have qi102 : (0 < l0.length) = True := eq_true (by omega); (try rw [show ((0 : Int)).toNat = 0 from rfl] at hx102_0); (try rw [Addr.add_zero'] at hx102_0); replace p102 := eq_true p102; replace q102 := eq_true q102))
     repeat (go_quiet (first | (go_at_call 70; (with_reducible refine (spec_l1All.calls k _ _ l0 1 a1 true _ ?side1 ?side2 A6.out).mono ?_); (case side1 => exact tc13_); (case side2 => exact HC0.out); rintro e w' ⟨rfl, ⟨nd, rfl⟩⟩; (try first | exact ⟨rfl, _, World.drewN_drewN _ _ _⟩ | exact ⟨rfl, _, Eq.trans (World.drewN_drewN _ _ _) (congrArg (World.drewN _) (Nat.add_assoc _ _ _))⟩); have p102 : 0 ≤ (0 : Int) := (by omega); have q102 : 0 < (l0.length : Int) := od_; obtain ⟨ad102, e102, hx102_0⟩ := Kd.at_int HR0.out 0 p102 q102; cases e102; have qi102 : (0 < l0.length) = True := eq_true (by omega); (try rw [show ((0 : Int)).toNat = 0 from rfl] at hx102_0); (try rw [Addr.add_zero'] at hx102_0); replace p102 := eq_true p102; replace q102 := eq_true q102)); try go_wp2_with (first | (go_at_call 70; (with_reducible refine (spec_l1All.calls k _ _ l0 1 a1 true _ ?side1 ?side2 A6.out).mono ?_); (case side1 => exact tc13_); (case side2 => exact HC0.out); rintro e w' ⟨rfl, ⟨nd, rfl⟩⟩; (try first | exact ⟨rfl, _, World.drewN_drewN _ _ _⟩ | exact ⟨rfl, _, Eq.trans (World.drewN_drewN _ _ _) (congrArg (World.drewN _) (Nat.add_assoc _ _ _))⟩); have p102 : 0 ≤ (0 : Int) := (by omega); have q102 : 0 < (l0.length : Int) := od_; obtain ⟨ad102, e102, hx102_0⟩ := Kd.at_int HR0.out 0 p102 q102; cases e102; have qi102 : (0 < l0.length) = True := eq_true (by omega); (try rw [show ((0 : Int)).toNat = 0 from rfl] at hx102_0); (try rw [Addr.add_zero'] at hx102_0); replace p102 := eq_true p102; replace q102 := eq_true q102)))
     go_meet
     case rel => exact ⟨_, (decide ((rd l0 0) ≤ (l0.length : Int))), tc3_, H', ⟨tc47_⟩, tc5_⟩
    ·replace c7 := Bool.eq_false_iff.mpr c7; subst c7; have H1 : (spec_dpRow.j0 k l0 true) = some r := tc8_; clear H; have H := H1; clear H1; have H' := am_ H; clear H
     go_wp2_with (first | (go_at_call 70; (with_reducible refine (spec_l1All.calls k _ _ l0 1 a1 false _ ?side1 ?side2 A6.out).mono ?_); (case side1 => exact tc13_); (case side2 => exact HC0.out); rintro e w' ⟨rfl, ⟨nd, rfl⟩⟩; (try first | exact ⟨rfl, _, World.drewN_drewN _ _ _⟩ | exact ⟨rfl, _, Eq.trans (World.drewN_drewN _ _ _) (congrArg (World.drewN _) (Nat.add_assoc _ _ _))⟩)))
     repeat (go_quiet (first | (go_at_call 70; (with_reducible refine (spec_l1All.calls k _ _ l0 1 a1 false _ ?side1 ?side2 A6.out).mono ?_); (case side1 => exact tc13_); (case side2 => exact HC0.out); rintro e w' ⟨rfl, ⟨nd, rfl⟩⟩; (try first | exact ⟨rfl, _, World.drewN_drewN _ _ _⟩ | exact ⟨rfl, _, Eq.trans (World.drewN_drewN _ _ _) (congrArg (World.drewN _) (Nat.add_assoc _ _ _))⟩))); try go_wp2_with (first | (go_at_call 70; (with_reducible refine (spec_l1All.calls k _ _ l0 1 a1 false _ ?side1 ?side2 A6.out).mono ?_); (case side1 => exact tc13_); (case side2 => exact HC0.out); rintro e w' ⟨rfl, ⟨nd, rfl⟩⟩; (try first | exact ⟨rfl, _, World.drewN_drewN _ _ _⟩ | exact ⟨rfl, _, Eq.trans (World.drewN_drewN _ _ _) (congrArg (World.drewN _) (Nat.add_assoc _ _ _))⟩))))
     go_meet
     case rel => exact ⟨_, (true), tc3_, H', ⟨tc47_⟩, tc5_⟩
 case rest =>
  clear HC3; (try clear p1); (try clear q1); (try clear hx1); (try clear qi1); (try clear p2); (try clear c4); (try clear c4b0); (try clear c4b1); (try clear c4b2); (try clear c5); (try clear c5b0); (try clear c6); (try clear c7); (try clear c8); (try clear c8b0); (try clear c8b1); (try clear hx102_0); (try clear p102); (try clear q102); obtain ⟨kq, x28_2, rfl, HA, HJ2, ⟨mc2, rfl⟩⟩ := hcut
  cases kq with
  | zero => exact absurd HA.out (by simp [spec_dpRow.j0])
  | succ kj2 =>
   have H := HA.out; clear HA; simp only [spec_dpRow.j0] at H
   by_cases c9 : x28_2 = true
   ·subst c9; have H1 : (some false) = some r := tc19_; clear H; have H := H1; clear H1; obtain rfl := Option.some.inj H; go_wp2
    repeat (go_quiet (fail); try go_wp2)
    go_ret
    exact ⟨tc3_, tc5_⟩
   ·replace c9 := Bool.eq_false_iff.mpr c9; subst c9; have H1 : (spec_dpRow.l0 kj2 l0 1) = some r := tc8_; clear H; have H := H1; clear H1; have H' := am_ H; clear H; go_wp2
    repeat (go_quiet (fail); try go_wp2)
    go_loopg [5] kj2 (fun kq v5 w' => ∃ (x5_2 : Int), v5 = .int .i64 x5_2 ∧ Aside0 (spec_dpRow.l0 kq l0 x5_2 = some r) ∧ Aside0 (kq ≤ kj2) ∧ Drawn0 w w')
    case atStart => exact ⟨(1), tc3_, H', ⟨Nat.le_refl _⟩, tc5_⟩
    case round =>
     clear H'; (try clear p1); (try clear q1); (try clear hx1); (try clear qi1); (try clear c2); (try clear p2); (try clear c4); (try clear c4b0); (try clear c4b1); (try clear c4b2); (try clear c5); (try clear c5b0); (try clear c6); (try clear c7); (try clear c8); (try clear c8b0); (try clear c8b1); (try clear c9); (try clear hx102_0); (try clear p1); (try clear p102); (try clear p2); (try clear q1); (try clear q102); obtain ⟨x5_2, rfl, HA, HK2, ⟨m2, rfl⟩⟩ := hrel
     cases gk with
     | zero => exact absurd HA.out (by simp [spec_dpRow.l0])
     | succ k2 =>
      have H := HA.out; clear HA; simp only [spec_dpRow.l0] at H
      replace H := sp_ H; obtain ⟨c10b0, H⟩ | ⟨c10b0, H⟩ := H
      ·replace H := ps_ H; obtain ⟨c11b0, H⟩ := H; obtain ⟨ji12, hji12⟩ : ∃ j_ : Int, (wrap64 (x5_2 - 1)) = j_ := ⟨_, rfl⟩; replace H : (if 0 ≤ (ji12) then (if (ji12) < (l0.length : Int) then (if (rd l0 x5_2) > (rd l0 (ji12)) then (some false) else (spec_dpRow.l0 k2 l0 (wrap64 (x5_2 + 1)))) else (none)) else (none)) = some r := (by first | (rw [hji12] at H; exact H) | (simp only [hji12] at H ⊢; exact H)); have hji12w : (IntKind.i64.wrap (x5_2 - 1)) = ji12 := (i64_w _).trans hji12; replace H := ps_ H; obtain ⟨c13b0, H⟩ := H; replace H := ps_ H; obtain ⟨c14b0, H⟩ := H
       replace H := pn_ H; obtain ⟨c15, H⟩ | ⟨c15, H⟩ := H
       ·have c15b0 : decide ((rd l0 (ji12)) < (rd l0 x5_2)) = true := decide_eq_true c15; clear c15; obtain rfl := Option.some.inj H; have p103 : 0 ≤ (x5_2 : Int) := od_; have q103 : x5_2 < (l0.length : Int) := od_; obtain ⟨ad103, e103, hx103_0⟩ := Kd.at_int HR0.out x5_2 p103 q103; cases e103; replace p103 := eq_true p103; replace q103 := eq_true q103; have p104 : 0 ≤ ((ji12) : Int) := od_; have q104 : (ji12) < (l0.length : Int) := od_; obtain ⟨ad104, e104, hx104_0⟩ := Kd.at_int HR0.out (ji12) p104 q104; obtain rfl : ad103 = ad104 := (by injection e104); replace p104 := eq_true p104; replace q104 := eq_true q104; go_wp2
        repeat (go_quiet (fail); try go_wp2)
        go_ret
        exact ⟨(by first | rfl | (simp; done) | (simp only [← hji12] <;> (first | rfl | simp)) | (simp [*]; done)), tc5_⟩
       ·have c15b0 : decide ((rd l0 (ji12)) < (rd l0 x5_2)) = false := decide_eq_false c15; clear c15; have H' := am_ H; clear H; have p103 : 0 ≤ (x5_2 : Int) := od_; have q103 : x5_2 < (l0.length : Int) := od_; obtain ⟨ad103, e103, hx103_0⟩ := Kd.at_int HR0.out x5_2 p103 q103; cases e103; replace p103 := eq_true p103; replace q103 := eq_true q103; have p104 : 0 ≤ ((ji12) : Int) := od_; have q104 : (ji12) < (l0.length : Int) := od_; obtain ⟨ad104, e104, hx104_0⟩ := Kd.at_int HR0.out (ji12) p104 q104; obtain rfl : ad103 = ad104 := (by injection e104); replace p104 := eq_true p104; replace q104 := eq_true q104; go_wp2
        repeat (go_quiet (fail); try go_wp2)
        go_roundg k2
        case measure => have := HJ2.out; have := HK2.out; omega
        case rel => exact ⟨(wrap64 (x5_2 + 1)), tc3_, H', ⟨(by have := HJ2.out; have := HK2.out; omega)⟩, tc5_⟩
      ·obtain rfl := Option.some.inj H; go_wp2
       repeat (go_quiet (fail); try go_wp2)
       go_ret
       exact ⟨tc3_, tc5_⟩

end Go.Proofs.Ytnabhfbcaocljaa.X
