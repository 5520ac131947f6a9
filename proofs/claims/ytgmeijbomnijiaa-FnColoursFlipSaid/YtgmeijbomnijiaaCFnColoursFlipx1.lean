-- Written by a program of this session (wip/xprint.py) that drives the kit's print; the contracts of what it does not take are this session's own.
import Derived.Test.YtgmeijbomnijiaaCFnColoursFlipx0
namespace Go.Proofs.Ytgmeijbomnijiaa.X
open Go.RowKit Go.Proofs.YtgmeijbomnijiaaW.PrintWords Go.Proofs.YtgmeijbomnijiaaW.PrintLast Go.Proofs.YtgmeijbomnijiaaW.PrintMore
set_option maxHeartbeats 8000000
set_option maxRecDepth 100000
attribute [local go_sem] max2_int min2_int max_two min_two max_three min_three max_four min_four   -- for this text's walks alone
set_option linter.unusedVariables false
set_option linter.unusedSimpArgs false

/-! ### at_1: function 0 -/
/-! ### What is asked of function values, and plain words -/
/-- A function value of one parameter that answers as p says, wherever memory has only grown. -/
structure Fn1 {α ρ : Type} (d : Kd α) (enc : ρ → Value) (P : Program) (g : Nat) (lb : Array Value) (p : α → Option ρ) (w : World) : Prop where
 eg : ∀ args w, (callFunc g args).run P w = .ok (.enter g args) w
 cl : ∀ W, Below w.heap.size w W → ∀ x v, d.K W x [v] → ∀ r, p x = some r → Calls P g (#[v] ++ lb) W fun e W' => e = .returned (enc r) ∧ Below W.heap.size W W'
/-- .. of two. -/
structure Fn2 {α β ρ : Type} (d : Kd α) (d2 : Kd β) (enc : ρ → Value) (P : Program) (g : Nat) (lb : Array Value) (p : α → β → Option ρ) (w : World) : Prop where
 eg : ∀ args w, (callFunc g args).run P w = .ok (.enter g args) w
 cl : ∀ W, Below w.heap.size w W → ∀ x v, d.K W x [v] → ∀ y u, d2.K W y [u] → ∀ r, p x y = some r → Calls P g (#[v, u] ++ lb) W fun e W' => e = .returned (enc r) ∧ Below W.heap.size W W'
theorem Fn1.later {α ρ : Type} {d : Kd α} {enc : ρ → Value} {P : Program} {g : Nat} {lb : Array Value} {p : α → Option ρ} {w W : World} (h : Fn1 d enc P g lb p w) (hb : Below w.heap.size w W) : Fn1 d enc P g lb p W :=
 ⟨h.eg, fun W' hb' => h.cl W' (hb.trans (hb'.mono hb.size))⟩
theorem Fn2.later {α β ρ : Type} {d : Kd α} {d2 : Kd β} {enc : ρ → Value} {P : Program} {g : Nat} {lb : Array Value} {p : α → β → Option ρ} {w W : World} (h : Fn2 d d2 enc P g lb p w) (hb : Below w.heap.size w W) : Fn2 d d2 enc P g lb p W :=
 ⟨h.eg, fun W' hb' => h.cl W' (hb.trans (hb'.mono hb.size))⟩
theorem K_int {k : IntKind} {w : World} {x : Int} : (Kd.int k).K w x [.int k x] := rfl
theorem K_slice {α : Type} {e : Nat} {d : Kd α} {w : World} {xs : List α} {A : Option Addr} {c : Nat} (h1 : xs.length ≤ c) (h2 : d.C w A xs.length xs) : (Kd.slice e d).K w xs [.slice A xs.length c] := ⟨A, c, rfl, h1, h2⟩
/-- A call of a function value that lies in a slot, as one step of a region that draws. -/
theorem goesF_ {P : Program} {ops : Array Oper} {Q : Exit → Act → World → Prop} {oi : Oper} {N : Option Tmp} {a : Act} {w : World} {K : Act → World → Prop} {g : Nat} {lb : Array Value} {fo : Operand} {aa : Array Operand} {ts : Array TypeId} (eg : ∀ args w, (callFunc g args).run P w = .ok (.enter g args) w) (args : Array Value)
  (hw : Region.wanted oi (yielded ops a.tmps) = true) (hN : oi.dst = N) (hop : oi.op = .call { callee := .value fo, args := aa, argTypes := ts }) (hf : a.eval fo = .func (.func g) #[] lb) (hargs : aa.map a.eval = args)
  (h : Calls P g (args ++ lb) w fun e w' => ∃ v, e = .returned v ∧ K (a.put N v) w') : if Region.wanted oi (yielded ops a.tmps) = true then Oper.wp P oi a w K Q else K (a.put N undef) w := by
 refine call_ g (args ++ lb) hw hN ?_ h; have he := eg (args ++ lb) w; unfold execOp
 simp [hop, resolve, Deferred.ofValue, invoke, hargs, he, hf]

/-! ### at_2: function 0 -/
section
variable {α : Type} {d : Kd α} {e : Nat} {w0 w w1 : World} {lo hi lo' hi' : Nat} {v : Value} {x : List α} {S : Nat → Prop}
/-- A row of this call's own whose blocks lie between two sizes of the heap. -/
def ObS (d : Kd α) (e : Nat) (w0 w : World) (lo hi : Nat) (v : Value) (x : List α) : Prop := hi ≤ w.heap.size ∧ Kd.S d e w w0.heap.size (fun k => lo ≤ k ∧ k < hi) v x
def ObR (d : Kd α) (e : Nat) (w0 w : World) (lo hi : Nat) (v : Value) (x : List α) : Prop := hi ≤ w.heap.size ∧ d.R e w w0.heap.size (fun k => lo ≤ k ∧ k < hi) v x
theorem ObS.later (h : ObS d e w0 w lo hi v x) (hb : Below w.heap.size w w1) : ObS d e w0 w1 lo hi v x := ⟨Nat.le_trans h.1 hb.size, Kd.S_below h.2 hb⟩
theorem ObR.later (h : ObR d e w0 w lo hi v x) (hb : Below w.heap.size w w1) : ObR d e w0 w1 lo hi v x := ⟨Nat.le_trans h.1 hb.size, Kd.R_below h.2 hb⟩
end
/-! ### at_3: function 0 -/
section
variable {α : Type} {d : Kd α} {e : Nat} {w0 w w1 : World} {A : Option Addr} {n c : Nat} {l : List α} {x : α} {S : Nat → Prop}
theorem below_of_drawn (h : Drawn0 w w1) : Below w.heap.size w w1 := by
  obtain ⟨n, rfl⟩ := h
  exact pw_below_drewN (Below.refl _ _) n
theorem cell_of_below {a : Addr} {v : Value} (hb : Below w.heap.size w w1) (h : w.cell? a = some v) : w1.cell? a = some v := (hb.cell (World.block_lt_of_cell? _ _ h)).trans h
/-- Kept, and the streams are as they were. -/
def Kp (w W : World) (S : Nat → Prop) : Prop := Kept w W S ∧ Below 0 w W
theorem Kp.refl (w : World) (S : Nat → Prop) : Kp w w S := ⟨Kept.refl _ _, Below.refl _ _⟩
theorem Kp.sz {W : World} (h : Kp w W S) : w.heap.size ≤ W.heap.size := h.1.1
theorem Kp.at {W : World} (h : Kp w W S) (k : Nat) (hk : k < w.heap.size) (hn : ¬ S k) : W.heap[k]? = w.heap[k]? := h.1.2 k hk hn
theorem Kp.mono {W : World} {S' : Nat → Prop} (h : Kp w W S) (hs : ∀ k, S k → S' k) : Kp w W S' := ⟨h.1.mono hs, h.2⟩
theorem Kp.below {W W2 : World} (h : Kp w W S) (hb : Below W.heap.size W W2) : Kp w W2 S := ⟨h.1.below hb, h.2.trans (hb.mono (Nat.zero_le _))⟩
theorem Kp.of_below {W : World} (h : Below w.heap.size w W) (S : Nat → Prop) : Kp w W S := ⟨Kept.of_below h S, h.mono (Nat.zero_le _)⟩
theorem Kp.drew {W : World} (h : Kp w W S) : Kp w W.drew S := ⟨h.1, h.2.drew⟩
theorem Kp.drewN {W : World} (h : Kp w W S) (m : Nat) : Kp w (W.drewN m) S := h.below (pw_below_drewN (Below.refl _ _) m)
theorem Kp.setCell {W : World} (h : Kp w W S) {p : Addr} (hp : S p.block ∨ w.heap.size ≤ p.block) (u : Value) : Kp w (W.setCell p u) S := ⟨h.1.setCell hp u, h.2.setCell (Nat.zero_le _) u⟩
/-- A block of numbers, whole, as a row of one's own. -/
theorem R_nums {k : IntKind} {g e base : Nat} {w : World} {xs : List Int} {ok : Nat → Prop} (h : w.heap[g]? = some (.cells (nums k xs).toArray e (0, 0))) (hb : base ≤ g) (hl : xs.length ≤ 9223372036854775807) (hok : ok g := by trivial) :
    (Kd.int k).R e w base ok (.slice (some ⟨g, 0, none⟩) xs.length xs.length) xs :=
  ⟨fun i hi => by (have e : g = i := by simpa [Value.ownBlock] using hi); exact e ▸ hok,
    nums k xs, ⟨by show _ = xs.length * 1; simp [nums], .inr ⟨g, xs.length, (nums k xs).toArray, rfl, hb, h, Nat.le_refl _, hl, by show _ = xs.length * 1; simp [nums], by show List.take (xs.length * 1) _ = _; rw [List.toList_toArray]; exact List.take_of_length_le (by simp [nums])⟩⟩, Kd.reps_scalar xs⟩
/-- A number of a row of rows of one's own: it is read, it may be written, and then the rows are told anew. -/
theorem S_cell2k {W : World} {base e e' n cap : Nat} {ok : Nat → Prop} {ad : Addr} {xs : Tb_} (h : Kd.S (Kd.slice e' (Kd.int .i64)) e W base ok (.slice (some ad) n cap) xs) (i : Int) (h0 : 0 ≤ i) (h1 : i < n) :
    ∃ Aw cw, W.cell? (ad.add i.toNat) = some (.slice Aw (xs.getD i.toNat []).length cw) ∧ ∀ j : Int, 0 ≤ j → j < (xs.getD i.toNat []).length → ∃ aw, Aw = some aw ∧ W.cell? (aw.add j.toNat) = some (.int .i64 (rd (xs.getD i.toNat []) j)) ∧ W.frozen? (aw.add j.toNat) = false ∧ base ≤ (aw.add j.toNat).block ∧ ok (aw.add j.toNat).block ∧
      ∀ v : Int, Kd.S (Kd.slice e' (Kd.int .i64)) e (W.setCell (aw.add j.toNat) (.int .i64 v)) base ok (.slice (some ad) n cap) (xs.set i.toNat ((xs.getD i.toNat []).set j.toNat v)) := by
  obtain ⟨oki, c, hcl, hM, hcc, hok, hbk⟩ := Kd.S_borrow h [] i h0 h1
  obtain ⟨v0, rfl, hR⟩ := hM
  obtain ⟨Aw, cw, rfl⟩ := Kd.R_slice hR
  have hx := hcc 0 _ rfl
  rw [show (Kd.slice e' (Kd.int .i64)).sz = 1 from rfl, Nat.mul_one, Nat.add_zero] at hx
  refine ⟨Aw, cw, hx, fun j j0 j1 => ?_⟩
  obtain ⟨g, cap', ev, hbg, hgl, _⟩ := Kd.R_form hR (by omega)
  injection ev with e1 _ _
  subst e1
  obtain ⟨q1, q2⟩ := Kd.R_celln (0 : Int) hR j j0 (by omega)
  refine ⟨⟨g, 0, none⟩, rfl, ?_, ?_, by rw [Addr.add_lit]; exact hbg, by rw [Addr.add_lit]; exact (hok g (hR.1 g rfl)).1, fun v => ?_⟩
  · rw [Addr.add_lit, Nat.zero_add]; exact q1
  · rw [Addr.add_lit, Nat.zero_add]; exact q2
  · rw [Addr.add_lit, Nat.zero_add]
    obtain ⟨r1, r2⟩ := Kd.R_putg hR j v
    exact hbk r2 (fun k hk => hR.1 k (by rw [← hk]; rfl)) ⟨_, rfl, r1⟩
/-- What was written and then put back. -/
theorem Kp.back {W : World} {g : Nat} {o : Obj} (h : Kp w W (fun k => S k ∨ k = g)) (h1 : w.heap[g]? = some o) (h2 : W.heap[g]? = some o) : Kp w W S :=
  ⟨⟨h.sz, fun i hi hn => by
    by_cases hg : i = g
    · subst hg; rw [h1, h2]
    · exact h.at i hi (fun hs => hs.elim hn hg)⟩, h.2⟩
/-- A function value with a state of its own: what it holds in memory is told by Inv over the blocks of S. -/
structure FnS {σ α ρ : Type} (d : Kd α) (enc : ρ → Value) (P : Program) (g : Nat) (lb : Array Value) (p : σ → α → Option (σ × ρ)) (Inv : σ → World → (Nat → Prop) → Prop) : Prop where
  eg : ∀ args w, (callFunc g args).run P w = .ok (.enter g args) w
  bd : ∀ s W S, Inv s W S → ∀ k, S k → k < W.heap.size
  st : ∀ s W S W', Inv s W S → Below 0 W W' → (∀ k, S k → W'.heap[k]? = W.heap[k]?) → Inv s W' S
  cl : ∀ s W S, Inv s W S → ∀ x v, d.K W x [v] → ∀ s' r, p s x = some (s', r) → Calls P g (#[v] ++ lb) W fun e W' => e = .returned (enc r) ∧ ∃ S', Inv s' W' S' ∧ Kp W W' S ∧ ∀ k, S' k → S k ∨ W.heap.size ≤ k
end
/-! ### at_4: function 0 -/
section
variable {α : Type} {d : Kd α} {e lo hi lo' hi' : Nat} {w0 w w1 : World} {v : Value} {x : List α}
/-- A new row whose rows may be one another's, that is only read: its blocks lie between lo and hi. -/
def ObN (d : Kd α) (e : Nat) (w0 w : World) (lo hi : Nat) (v : Value) (x : List α) : Prop := hi ≤ w.heap.size ∧ Kd.N d e w w0.heap.size (fun k => lo ≤ k ∧ k < hi) v x
theorem ObN.later (h : ObN d e w0 w lo hi v x) (hb : Below w.heap.size w w1) : ObN d e w0 w1 lo hi v x := ⟨Nat.le_trans h.1 hb.size, Kd.N_below h.2 hb⟩
end

/-! ### laws_big: function 4 -/
def laws_big.f (l0 : List Int) (l1 : List Int) : Option (Bool) := if (l0.length : Int) > 1048576 then (some true) else (some (decide ((l1.length : Int) > (wrap64 (1048576 - (l0.length : Int))))))
theorem laws_big.calls (A0 : Option Addr) (c0 : Nat) (l0 : List Int) (A1 : Option Addr) (c1 : Nat) (l1 : List Int) (r : Bool) (w : World) (hr0 : Kd.C (Kd.int .u8) w A0 l0.length l0) (hc0 : l0.length ≤ c0) (hr1 : Kd.C (Kd.int .u8) w A1 l1.length l1) (hc1 : l1.length ≤ c1) (h : laws_big.f l0 l1 = some r) :
  Calls Try.prog 4 #[.slice A0 l0.length c0, .slice A1 l1.length c1] w fun e w' => e = .returned (.bool r) ∧ Drawn0 w w' := by
 have HR0 := am_ hr0; have HC0 := am_ hc0; clear hr0 hc0; have HR1 := am_ hr1; have HC1 := am_ hc1; clear hr1 hc1; (try unfold laws_big.f at h); have H := h; clear h
 replace H := pn_ H; obtain ⟨c3, H⟩ | ⟨c3, H⟩ := H
 ·have c3b0 : decide (1048576 < (l0.length : Int)) = true := decide_eq_true c3; have c3b1 : decide (1048576 < l0.length) = true := decide_eq_true (by omega); clear c3; obtain rfl := Option.some.inj H; go_enter Try.func4, Try.ntmps4; go_wp2
  go_ret
  exact ⟨tc8_, tc12_⟩
 ·have c3b0 : decide (1048576 < (l0.length : Int)) = false := decide_eq_false c3; have c3b1 : decide (1048576 < l0.length) = false := decide_eq_false (by omega); clear c3; obtain rfl := Option.some.inj H; go_enter Try.func4, Try.ntmps4; go_wp2
  go_ret
  exact ⟨tc8_, tc12_⟩

/-- A state of type 41 at block g of W; what its slices lead to came in by w0. -/
def IsS41 (w0 W : World) (g : Nat) (f0 : List Int) (f1 : Int) (f2 : Int) : Prop := ∃ A0 c0, W.heap[g]? = some (.cells #[.slice A0 f0.length c0, .int .i64 f1, .int .u64 f2] 41 (0, 0)) ∧ w0.heap.size ≤ g ∧ Kd.C (Kd.int .u8) w0 A0 f0.length f0
theorem IsS41.grown {w0 W : World} {g : Nat} {f0 : List Int} {f1 : Int} {f2 : Int} {W1 : World} {row : Option Nat} (h : IsS41 w0 W g f0 f1 f2) (hw : W.grownBy W1 row) (hne : some g ≠ row) : IsS41 w0 W1 g f0 f1 f2 := by
 obtain ⟨A0, c0, hb, hg, hr0⟩ := h; exact ⟨A0, c0, blk_grown hb hw hne, hg, hr0⟩
theorem IsS41.own_neN {w0 W : World} {g : Nat} {f0 : List Int} {f1 : Int} {f2 : Int} {α : Type} {d : Kd α} {e : Nat} {base : Nat} {ok : Nat → Prop} {v : Value} {xs : List α} (h : IsS41 w0 W g f0 f1 f2) (ho : Kd.N d e W base ok v xs) (ht : e ≠ 41) : some g ≠ v.ownBlock := by
 obtain ⟨A0, c0, hb, hg, hr0⟩ := h; exact Kd.N_ne ho hb ht
theorem IsS41.fresh {w0 W : World} {g : Nat} {f0 : List Int} {f1 : Int} {f2 : Int} (h : IsS41 w0 W g f0 f1 f2) : ∀ k, W.heap.size ≤ k → k ≠ g := by
 obtain ⟨A0, c0, hb, hg, hr0⟩ := h; exact Kd.freshB hb
theorem IsS41.kept {w0 W : World} {g : Nat} {f0 : List Int} {f1 : Int} {f2 : Int} {W1 : World} {S : Nat → Prop} (h : IsS41 w0 W g f0 f1 f2) (hk : Kept W W1 S) (hne : ¬ S g) : IsS41 w0 W1 g f0 f1 f2 := by
 obtain ⟨A0, c0, hb, hg, hr0⟩ := h; exact ⟨A0, c0, blk_kept hb hk hne, hg, hr0⟩
theorem IsS41.below {w0 W : World} {g : Nat} {f0 : List Int} {f1 : Int} {f2 : Int} {W1 : World} (h : IsS41 w0 W g f0 f1 f2) (hw : Below W.heap.size W W1) : IsS41 w0 W1 g f0 f1 f2 := h.grown (grown_of_below hw none) (by simp)
theorem IsS41.alloc {w0 W : World} {g : Nat} {f0 : List Int} {f1 : Int} {f2 : Int} (h : IsS41 w0 W g f0 f1 f2) (o : Obj) : IsS41 w0 (W.alloc o) g f0 f1 f2 := h.below (below_alloc (Below.refl _ _) o)
theorem IsS41.drewN {w0 W : World} {g : Nat} {f0 : List Int} {f1 : Int} {f2 : Int} (h : IsS41 w0 W g f0 f1 f2) (m : Nat) : IsS41 w0 (W.drewN m) g f0 f1 f2 := h
theorem IsS41.drew {w0 W : World} {g : Nat} {f0 : List Int} {f1 : Int} {f2 : Int} (h : IsS41 w0 W g f0 f1 f2) : IsS41 w0 W.drew g f0 f1 f2 := h
theorem IsS41.at_ {w0 W : World} {g : Nat} {f0 : List Int} {f1 : Int} {f2 : Int} {w' : World} {m : Nat} (hq : W.drewN m = w') (h : IsS41 w0 W g f0 f1 f2) : IsS41 w0 w' g f0 f1 f2 := by subst hq; exact IsS41.drewN h m
theorem IsS41.apart {w0 W : World} {g : Nat} {f0 : List Int} {f1 : Int} {f2 : Int} {α : Type} {d : Kd α} {e : Nat} {base : Nat} {ok : Nat → Prop} {v : Value} {xs : List α} (h : IsS41 w0 W g f0 f1 f2) (ho : d.R e W base ok v xs) (ht : ∀ q, q ∈ e :: d.E → q ≠ 41) : d.R e W base (fun k => ok k ∧ k ≠ g) v xs := by
 obtain ⟨A0, c0, hb, hg, hr0⟩ := h; exact Kd.R_types ho hb ht
theorem IsS41.own_ne {w0 W : World} {g : Nat} {f0 : List Int} {f1 : Int} {f2 : Int} {α : Type} {d : Kd α} {e : Nat} {base : Nat} {ok : Nat → Prop} {v : Value} {xs : List α} (h : IsS41 w0 W g f0 f1 f2) (ho : d.R e W base ok v xs) (ht : e ≠ 41) : some g ≠ v.ownBlock := by
 obtain ⟨A0, c0, hb, hg, hr0⟩ := h; exact Kd.R_ne ho hb ht
theorem IsS41.apartQ {w0 W : World} {g : Nat} {f0 : List Int} {f1 : Int} {f2 : Int} {α : Type} {d : Kd α} {e : Nat} {base : Nat} {ok : Nat → Prop} {v : Value} {xs : List α} (h : IsS41 w0 W g f0 f1 f2) (ho : d.Q e W base ok v xs) (ht : ∀ q, q ∈ e :: d.E → q ≠ 41) : d.Q e W base (fun k => ok k ∧ k ≠ g) v xs := by
 obtain ⟨A0, c0, hb, hg, hr0⟩ := h; exact Kd.Q_types ho hb ht
theorem IsS41.own_neQ {w0 W : World} {g : Nat} {f0 : List Int} {f1 : Int} {f2 : Int} {α : Type} {d : Kd α} {e : Nat} {base : Nat} {ok : Nat → Prop} {v : Value} {xs : List α} (h : IsS41 w0 W g f0 f1 f2) (ho : d.Q e W base ok v xs) (ht : e ≠ 41) : some g ≠ v.ownBlock := by
 obtain ⟨A0, c0, hb, hg, hr0⟩ := h; exact Kd.Q_ne ho hb ht
theorem IsS41.apartS {w0 W : World} {g : Nat} {f0 : List Int} {f1 : Int} {f2 : Int} {α : Type} {d : Kd α} {e : Nat} {base : Nat} {ok : Nat → Prop} {v : Value} {xs : List α} (h : IsS41 w0 W g f0 f1 f2) (ho : d.S e W base ok v xs) (ht : ∀ q, q ∈ e :: d.E → q ≠ 41) : d.S e W base (fun k => ok k ∧ k ≠ g) v xs := by
 obtain ⟨A0, c0, hb, hg, hr0⟩ := h; exact Kd.S_types ho hb ht
theorem IsS41.own_neS {w0 W : World} {g : Nat} {f0 : List Int} {f1 : Int} {f2 : Int} {α : Type} {d : Kd α} {e : Nat} {base : Nat} {ok : Nat → Prop} {v : Value} {xs : List α} (h : IsS41 w0 W g f0 f1 f2) (ho : d.S e W base ok v xs) (ht : e ≠ 41) : some g ≠ v.ownBlock := by
 obtain ⟨A0, c0, hb, hg, hr0⟩ := h; exact Kd.S_ne ho hb ht
theorem IsS41.lt {w0 W : World} {g : Nat} {f0 : List Int} {f1 : Int} {f2 : Int} (h : IsS41 w0 W g f0 f1 f2) : g < W.heap.size := by
 obtain ⟨A0, c0, hb, hg, hr0⟩ := h; exact blk_lt hb
theorem IsS41.ge {w0 W : World} {g : Nat} {f0 : List Int} {f1 : Int} {f2 : Int} (h : IsS41 w0 W g f0 f1 f2) : w0.heap.size ≤ g := by
 obtain ⟨A0, c0, hb, hg, hr0⟩ := h; exact hg
theorem IsS41.ne_blk {w0 W : World} {g : Nat} {f0 : List Int} {f1 : Int} {f2 : Int} {a : Nat} {cs : Array Value} {t : TypeId} {fr : Nat × Nat} (h : IsS41 w0 W g f0 f1 f2) (hb2 : W.heap[a]? = some (.cells cs t fr)) (ht : t ≠ 41) : g ≠ a := by
 obtain ⟨A0, c0, hb, hg, hr0⟩ := h; rintro rfl; rw [hb] at hb2
 injection hb2 with hb2
 injection hb2 with _ ht2
 exact ht ht2.symm
theorem IsS41.far {w0 W : World} {g : Nat} {f0 : List Int} {f1 : Int} {f2 : Int} {p : Addr} (h : IsS41 w0 W g f0 f1 f2) (hne : g ≠ p.block) (u : Value) : IsS41 w0 (W.setCell p u) g f0 f1 f2 := by
 obtain ⟨A0, c0, hb, hg, hr0⟩ := h; exact ⟨A0, c0, blk_far hb hne u, hg, hr0⟩
theorem cellS41_0 {W : World} {g : Nat} {A0 : Option Addr} {c0 : Nat} {f0 : List Int} {f1 : Int} {f2 : Int} (h : W.heap[g]? = some (.cells #[.slice A0 f0.length c0, .int .i64 f1, .int .u64 f2] 41 (0, 0))) : W.cell? ⟨g, 0, none⟩ = some (.slice A0 f0.length c0) := (blk_cell h 0).trans rfl
theorem cellS41_1 {W : World} {g : Nat} {A0 : Option Addr} {c0 : Nat} {f0 : List Int} {f1 : Int} {f2 : Int} (h : W.heap[g]? = some (.cells #[.slice A0 f0.length c0, .int .i64 f1, .int .u64 f2] 41 (0, 0))) : W.cell? ⟨g, 1, none⟩ = some (.int .i64 f1) := (blk_cell h 1).trans rfl
theorem IsS41.set_1 {w0 W : World} {g : Nat} {f0 : List Int} {f1 : Int} {f2 : Int} (h : IsS41 w0 W g f0 f1 f2) (x : Int) : IsS41 w0 (W.setCell ⟨g, 1, none⟩ (.int .i64 x)) g f0 x f2 := by
 obtain ⟨A0, c0, hb, hg, hr0⟩ := h; exact ⟨A0, c0, (by simpa using blk_set hb 1 (.int .i64 x)), hg, hr0⟩
theorem cellS41_2 {W : World} {g : Nat} {A0 : Option Addr} {c0 : Nat} {f0 : List Int} {f1 : Int} {f2 : Int} (h : W.heap[g]? = some (.cells #[.slice A0 f0.length c0, .int .i64 f1, .int .u64 f2] 41 (0, 0))) : W.cell? ⟨g, 2, none⟩ = some (.int .u64 f2) := (blk_cell h 2).trans rfl
theorem IsS41.set_2 {w0 W : World} {g : Nat} {f0 : List Int} {f1 : Int} {f2 : Int} (h : IsS41 w0 W g f0 f1 f2) (x : Int) : IsS41 w0 (W.setCell ⟨g, 2, none⟩ (.int .u64 x)) g f0 f1 x := by
 obtain ⟨A0, c0, hb, hg, hr0⟩ := h; exact ⟨A0, c0, (by simpa using blk_set hb 2 (.int .u64 x)), hg, hr0⟩
theorem IsS41.new (w0 W : World) (A0 : Option Addr) (c0 : Nat) (f0 : List Int) (f1 : Int) (f2 : Int) (hB : Below w0.heap.size w0 W) (hr0 : Kd.C (Kd.int .u8) w0 A0 f0.length f0) : IsS41 w0 (W.alloc (.cells #[.slice A0 f0.length c0, .int .i64 f1, .int .u64 f2] 41)) W.heap.size f0 f1 f2 := ⟨A0, c0, (by simpa using heap_alloc_new W _), hB.size, hr0⟩

/-! ### spec_l1Cur_next: function 76 -/
def spec_l1Cur_next.f (s0_0 : List Int) (s0_1 : Int) (s0_2 : Int) : Option (Int × Int × Int) := if s0_1 < (s0_0.length : Int) then (if 0 ≤ s0_1 then (if (wrap64 (s0_1 + 1)) ≤ (s0_0.length : Int) then (some (wrap64 (rd s0_0 s0_1), wrap64 (s0_1 + 1), IntKind.u64.wrap ((IntKind.u64.wrap ((IntKind.u64.wrap (s0_2 * 6364136223846793005)) + (IntKind.u64.wrap (wrap64 (rd s0_0 s0_1))))) + 1442695040888963407))) else (some (wrap64 (Go.bits .and .u64 ((IntKind.u64.wrap ((IntKind.u64.wrap ((IntKind.u64.wrap (s0_2 * 6364136223846793005)) + (IntKind.u64.wrap (wrap64 (rd s0_0 s0_1))))) + 1442695040888963407)) / 1099511627776) 255), wrap64 (s0_1 + 1), IntKind.u64.wrap ((IntKind.u64.wrap ((IntKind.u64.wrap (s0_2 * 6364136223846793005)) + (IntKind.u64.wrap (wrap64 (rd s0_0 s0_1))))) + 1442695040888963407)))) else (none)) else (if (wrap64 (s0_1 + 1)) ≤ (s0_0.length : Int) then (some (0, wrap64 (s0_1 + 1), IntKind.u64.wrap ((IntKind.u64.wrap ((IntKind.u64.wrap (s0_2 * 6364136223846793005)) + 0)) + 1442695040888963407))) else (some (wrap64 (Go.bits .and .u64 ((IntKind.u64.wrap ((IntKind.u64.wrap ((IntKind.u64.wrap (s0_2 * 6364136223846793005)) + 0)) + 1442695040888963407)) / 1099511627776) 255), wrap64 (s0_1 + 1), IntKind.u64.wrap ((IntKind.u64.wrap ((IntKind.u64.wrap (s0_2 * 6364136223846793005)) + 0)) + 1442695040888963407))))
theorem spec_l1Cur_next.calls (g : Nat) (s0_0 : List Int) (s0_1 : Int) (s0_2 : Int) (r1 : Int) (r2 : Int) (r3 : Int) (w0 w : World) (hI : IsS41 w0 w g s0_0 s0_1 s0_2) (hB : Below w0.heap.size w0 w) (h : spec_l1Cur_next.f s0_0 s0_1 s0_2 = some (r1, r2, r3)) :
  Calls Try.prog 76 #[.pointer (some ⟨g, 0, none⟩)] w fun e w' => e = .returned (.int .i64 r1) ∧ IsS41 w0 w' g s0_0 r2 r3 ∧ Below w0.heap.size w0 w' ∧ KeepBut w w' g none := by
 have HI0 := am_ hI; have HK := am_ (KeepBut.refl w g none); have HL := am_ hB.size; clear hI; have HW0 := am_ hB.size; have HB := am_ hB; clear hB; (try unfold spec_l1Cur_next.f at h); have H := h; clear h
 replace H := sp_ H; obtain ⟨c2b0, H⟩ | ⟨c2b0, H⟩ := H
 ·replace H := ps_ H; obtain ⟨c3b0, H⟩ := H
  replace H := sp_ H; obtain ⟨c4b0, H⟩ | ⟨c4b0, H⟩ := H
  ·simp only [Option.some.injEq, Prod.mk.injEq] at H; obtain ⟨rfl, rfl, rfl⟩ := H; obtain ⟨ASz5_0, cSz5_0, HGz5, hgz5, HSz5_0⟩ := HI0.out; have hcz5_0 := cellS41_0 HGz5; have hcz5_1 := cellS41_1 HGz5; have hcz5_2 := cellS41_2 HGz5; have hfz5_1 := blk_frozen HGz5 1; have hfz5_2 := blk_frozen HGz5 2; clear HGz5 hgz5; have p101 : 0 ≤ (s0_1 : Int) := od_; have q101 : s0_1 < (s0_0.length : Int) := od_; obtain ⟨ad101, e101, hx101_0⟩ := Kd.at_int HSz5_0 s0_1 p101 q101; cases e101; replace hx101_0 := pw_cell_below HB.out hx101_0; replace p101 := eq_true p101; replace q101 := eq_true q101; go_enter Try.func76, Try.ntmps76; go_wp2
   repeat (go_quiet (fail); try go_wp2)
   go_ret
   exact ⟨tc9_, tc46_, tc5_, tc4_⟩
  ·simp only [Option.some.injEq, Prod.mk.injEq] at H; obtain ⟨rfl, rfl, rfl⟩ := H; obtain ⟨ASz6_0, cSz6_0, HGz6, hgz6, HSz6_0⟩ := HI0.out; have hcz6_0 := cellS41_0 HGz6; have hcz6_1 := cellS41_1 HGz6; have hcz6_2 := cellS41_2 HGz6; have hfz6_1 := blk_frozen HGz6 1; have hfz6_2 := blk_frozen HGz6 2; clear HGz6 hgz6; have p101 : 0 ≤ (s0_1 : Int) := od_; have q101 : s0_1 < (s0_0.length : Int) := od_; obtain ⟨ad101, e101, hx101_0⟩ := Kd.at_int HSz6_0 s0_1 p101 q101; cases e101; replace hx101_0 := pw_cell_below HB.out hx101_0; replace p101 := eq_true p101; replace q101 := eq_true q101; go_enter Try.func76, Try.ntmps76; go_wp2
   repeat (go_quiet (fail); try go_wp2)
   go_ret
   exact ⟨tc9_, tc46_, tc5_, tc4_⟩
 ·replace H := sp_ H; obtain ⟨c7b0, H⟩ | ⟨c7b0, H⟩ := H
  ·simp only [Option.some.injEq, Prod.mk.injEq] at H; obtain ⟨rfl, rfl, rfl⟩ := H; obtain ⟨ASz8_0, cSz8_0, HGz8, hgz8, HSz8_0⟩ := HI0.out; have hcz8_0 := cellS41_0 HGz8; have hcz8_1 := cellS41_1 HGz8; have hcz8_2 := cellS41_2 HGz8; have hfz8_1 := blk_frozen HGz8 1; have hfz8_2 := blk_frozen HGz8 2; clear HGz8 hgz8; go_enter Try.func76, Try.ntmps76; go_wp2
   repeat (go_quiet (fail); try go_wp2)
   go_ret
   exact ⟨tc9_, tc46_, tc5_, tc4_⟩
  ·simp only [Option.some.injEq, Prod.mk.injEq] at H; obtain ⟨rfl, rfl, rfl⟩ := H; obtain ⟨ASz9_0, cSz9_0, HGz9, hgz9, HSz9_0⟩ := HI0.out; have hcz9_0 := cellS41_0 HGz9; have hcz9_1 := cellS41_1 HGz9; have hcz9_2 := cellS41_2 HGz9; have hfz9_1 := blk_frozen HGz9 1; have hfz9_2 := blk_frozen HGz9 2; clear HGz9 hgz9; go_enter Try.func76, Try.ntmps76; go_wp2
   repeat (go_quiet (fail); try go_wp2)
   go_ret
   exact ⟨tc9_, tc46_, tc5_, tc4_⟩

/-! ### spec_l1Cur_pick: function 39 -/
def spec_l1Cur_pick.f (s0_0 : List Int) (s0_1 : Int) (s0_2 : Int) (a1 : Int) : Option (Int × Int × Int) := if a1 ≤ 1 then (some (0, s0_1, s0_2)) else ((spec_l1Cur_next.f s0_0 s0_1 s0_2).bind fun bt101 => (if a1 > 200 then ((spec_l1Cur_next.f s0_0 bt101.2.1 bt101.2.2).bind fun bt104 => (if a1 = 0 then (none) else (some (Int.tmod (wrap64 ((wrap64 (bt101.1 * 256)) + bt104.1)) a1, bt104.2.1, bt104.2.2)))) else (if a1 = 0 then (none) else (some (Int.tmod bt101.1 a1, bt101.2.1, bt101.2.2)))))
theorem spec_l1Cur_pick.calls (g : Nat) (s0_0 : List Int) (s0_1 : Int) (s0_2 : Int) (a1 : Int) (r1 : Int) (r2 : Int) (r3 : Int) (w0 w : World) (hI : IsS41 w0 w g s0_0 s0_1 s0_2) (hB : Below w0.heap.size w0 w) (h : spec_l1Cur_pick.f s0_0 s0_1 s0_2 a1 = some (r1, r2, r3)) :
  Calls Try.prog 39 #[.pointer (some ⟨g, 0, none⟩), .int .i64 a1] w fun e w' => e = .returned (.int .i64 r1) ∧ IsS41 w0 w' g s0_0 r2 r3 ∧ Below w0.heap.size w0 w' ∧ KeepBut w w' g none := by
 have HI0 := am_ hI; have HK := am_ (KeepBut.refl w g none); have HL := am_ hB.size; clear hI; have HW0 := am_ hB.size; have HB := am_ hB; clear hB; (try unfold spec_l1Cur_pick.f at h); have H := h; clear h
 replace H := sp_ H; obtain ⟨c3b0, H⟩ | ⟨c3b0, H⟩ := H
 ·simp only [Option.some.injEq, Prod.mk.injEq] at H; obtain ⟨rfl, rfl, rfl⟩ := H; go_enter Try.func39, Try.ntmps39; go_wp2
  go_ret
  exact ⟨tc9_, tc3_, tc5_, tc4_⟩
 ·replace H := Option.bind_eq_some_iff.mp H; obtain ⟨⟨t101, t102, t103⟩, A40, H⟩ := H; (try dsimp only at H); have A4 := am_ A40; clear A40
  replace H := pn_ H; obtain ⟨c5, H⟩ | ⟨c5, H⟩ := H
  ·have c5b0 : decide (200 < a1) = true := decide_eq_true c5; clear c5; replace H := Option.bind_eq_some_iff.mp H; obtain ⟨⟨t104, t105, t106⟩, A60, H⟩ := H; (try dsimp only at H); have A6 := am_ A60; clear A60
   replace H := pn_ H; obtain ⟨c7, H⟩ | ⟨c7, H⟩ := H
   ·exact absurd H (by simp)
   ·have c7b0 : (a1 == 0) = false := beq_eq_false_iff_ne.mpr c7; have c7b1 : (a1 != 0) = true := bne_iff_ne.mpr c7; simp only [Option.some.injEq, Prod.mk.injEq] at H; obtain ⟨rfl, rfl, rfl⟩ := H; go_enter Try.func39, Try.ntmps39
    go_wp2_with (first | (refine gc_ (some 9) Try.func76 #[.pointer (some ⟨g, 0, none⟩)] ?_; (with_reducible refine (spec_l1Cur_next.calls g s0_0 s0_1 s0_2 t101 t102 t103 w0 _ ?side1 ?side2 A4.out).mono ?_); (case side1 => exact tc3_); (case side2 => exact tc5_); rintro e w8 ⟨rfl, hi, hb, hk⟩; refine ⟨_, rfl, ?_⟩; replace HK := am_ (KeepBut.trans tc4_ hk (.inl rfl)); replace HB := am_ (hb); replace HI0 := am_ (hi); (try clear hb hk hi)) | (refine gc_ (some 15) Try.func76 #[.pointer (some ⟨g, 0, none⟩)] ?_; (with_reducible refine (spec_l1Cur_next.calls g s0_0 t102 t103 t104 t105 t106 w0 _ ?side1 ?side2 A6.out).mono ?_); (case side1 => exact tc3_); (case side2 => exact tc5_); rintro e w9 ⟨rfl, hi, hb, hk⟩; refine ⟨_, rfl, ?_⟩; replace HK := am_ (KeepBut.trans tc4_ hk (.inl rfl)); replace HB := am_ (hb); replace HI0 := am_ (hi); (try clear hb hk hi)))
    go_ret
    exact ⟨tc9_, tc3_, tc5_, tc4_⟩
  ·have c5b0 : decide (200 < a1) = false := decide_eq_false c5; clear c5
   replace H := pn_ H; obtain ⟨c10, H⟩ | ⟨c10, H⟩ := H
   ·exact absurd H (by simp)
   ·have c10b0 : (a1 == 0) = false := beq_eq_false_iff_ne.mpr c10; have c10b1 : (a1 != 0) = true := bne_iff_ne.mpr c10; simp only [Option.some.injEq, Prod.mk.injEq] at H; obtain ⟨rfl, rfl, rfl⟩ := H; go_enter Try.func39, Try.ntmps39
    go_wp2_with (first | (refine gc_ (some 9) Try.func76 #[.pointer (some ⟨g, 0, none⟩)] ?_; (with_reducible refine (spec_l1Cur_next.calls g s0_0 s0_1 s0_2 t101 t102 t103 w0 _ ?side1 ?side2 A4.out).mono ?_); (case side1 => exact tc3_); (case side2 => exact tc5_); rintro e w11 ⟨rfl, hi, hb, hk⟩; refine ⟨_, rfl, ?_⟩; replace HK := am_ (KeepBut.trans tc4_ hk (.inl rfl)); replace HB := am_ (hb); replace HI0 := am_ (hi); (try clear hb hk hi)))
    go_ret
    exact ⟨tc9_, tc3_, tc5_, tc4_⟩

/-! ### spec_l1Cur_among: function 20 -/
def spec_l1Cur_among.f (s0_0 : List Int) (s0_1 : Int) (s0_2 : Int) (l1 : List Int) : Option (Int × Int × Int) := (spec_l1Cur_pick.f s0_0 s0_1 s0_2 (l1.length : Int)).bind fun bt101 => (if 0 ≤ bt101.1 then (if bt101.1 < (l1.length : Int) then (some (rd l1 bt101.1, bt101.2.1, bt101.2.2)) else (none)) else (none))
theorem spec_l1Cur_among.calls (g : Nat) (s0_0 : List Int) (s0_1 : Int) (s0_2 : Int) (A1 : Option Addr) (c1 : Nat) (l1 : List Int) (r1 : Int) (r2 : Int) (r3 : Int) (w0 w : World) (hI : IsS41 w0 w g s0_0 s0_1 s0_2) (hB : Below w0.heap.size w0 w) (hr1 : Kd.C (Kd.int .i64) w A1 l1.length l1) (hc1 : l1.length ≤ c1) (hf1 : ∀ ad, A1 = some ad → 0 < l1.length → ad.block ≠ g) (h : spec_l1Cur_among.f s0_0 s0_1 s0_2 l1 = some (r1, r2, r3)) :
  Calls Try.prog 20 #[.pointer (some ⟨g, 0, none⟩), .slice A1 l1.length c1] w fun e w' => e = .returned (.int .i64 r1) ∧ IsS41 w0 w' g s0_0 r2 r3 ∧ Below w0.heap.size w0 w' ∧ KeepBut w w' g none := by
 have HR1 := am_ hr1; have HC1 := am_ hc1; clear hr1 hc1; have HI0 := am_ hI; have HK := am_ (KeepBut.refl w g none); have HL := am_ hB.size; clear hI; have HW0 := am_ hB.size; have HB := am_ hB; clear hB; (try unfold spec_l1Cur_among.f at h); have H := h; clear h; replace H := Option.bind_eq_some_iff.mp H; obtain ⟨⟨t101, t102, t103⟩, A30, H⟩ := H; (try dsimp only at H); have A3 := am_ A30; clear A30; replace H := ps_ H; obtain ⟨c4b0, H⟩ := H; replace H := ps_ H; obtain ⟨c5b0, H⟩ := H; simp only [Option.some.injEq, Prod.mk.injEq] at H; obtain ⟨rfl, rfl, rfl⟩ := H; go_enter Try.func20, Try.ntmps20
 go_wp2_with (first | (refine gc_ (some 9) Try.func39 #[.pointer (some ⟨g, 0, none⟩), .int .i64 (l1.length : Int)] ?_; (with_reducible refine (spec_l1Cur_pick.calls g s0_0 s0_1 s0_2 (l1.length : Int) t101 t102 t103 w0 _ ?side1 ?side2 A3.out).mono ?_); (case side1 => exact tc3_); (case side2 => exact tc5_); rintro e w6 ⟨rfl, hi, hb, hk⟩; refine ⟨_, rfl, ?_⟩; replace HK := am_ (KeepBut.trans tc4_ hk (.inl rfl)); replace HB := am_ (hb); replace HI0 := am_ (hi); (try clear hb hk hi); have p104 : 0 ≤ (t101 : Int) := od_; have q104 : t101 < (l1.length : Int) := od_; obtain ⟨ad104, e104, hx104_0⟩ := Kd.at_int HR1.out t101 p104 q104; cases e104; replace hx104_0 := keep_cell HK.out hx104_0 (by first | (rw [add_block]; exact hf1 _ rfl (by omega)) | exact hf1 _ rfl (by omega) | exact hf1 ad104 rfl (by omega)); replace p104 := eq_true p104; replace q104 := eq_true q104))
 go_ret
 exact ⟨tc9_, tc3_, tc5_, tc4_⟩

/-! ### spec_l1Cur_one: function 41 -/
def spec_l1Cur_one.f (s0_0 : List Int) (s0_1 : Int) (s0_2 : Int) (a1 : Int) : Option (Bool × Int × Int) := (spec_l1Cur_pick.f s0_0 s0_1 s0_2 a1).bind fun bt101 => (some ((bt101.1 == 0), bt101.2.1, bt101.2.2))
theorem spec_l1Cur_one.calls (g : Nat) (s0_0 : List Int) (s0_1 : Int) (s0_2 : Int) (a1 : Int) (r1 : Bool) (r2 : Int) (r3 : Int) (w0 w : World) (hI : IsS41 w0 w g s0_0 s0_1 s0_2) (hB : Below w0.heap.size w0 w) (h : spec_l1Cur_one.f s0_0 s0_1 s0_2 a1 = some (r1, r2, r3)) :
  Calls Try.prog 41 #[.pointer (some ⟨g, 0, none⟩), .int .i64 a1] w fun e w' => e = .returned (.bool r1) ∧ IsS41 w0 w' g s0_0 r2 r3 ∧ Below w0.heap.size w0 w' ∧ KeepBut w w' g none := by
 have HI0 := am_ hI; have HK := am_ (KeepBut.refl w g none); have HL := am_ hB.size; clear hI; have HW0 := am_ hB.size; have HB := am_ hB; clear hB; (try unfold spec_l1Cur_one.f at h); have H := h; clear h; replace H := Option.bind_eq_some_iff.mp H; obtain ⟨⟨t101, t102, t103⟩, A30, H⟩ := H; (try dsimp only at H); have A3 := am_ A30; clear A30; simp only [Option.some.injEq, Prod.mk.injEq] at H; obtain ⟨rfl, rfl, rfl⟩ := H; go_enter Try.func41, Try.ntmps41
 go_wp2_with (first | (refine gc_ (some 7) Try.func39 #[.pointer (some ⟨g, 0, none⟩), .int .i64 a1] ?_; (with_reducible refine (spec_l1Cur_pick.calls g s0_0 s0_1 s0_2 a1 t101 t102 t103 w0 _ ?side1 ?side2 A3.out).mono ?_); (case side1 => exact tc3_); (case side2 => exact tc5_); rintro e w4 ⟨rfl, hi, hb, hk⟩; refine ⟨_, rfl, ?_⟩; replace HK := am_ (KeepBut.trans tc4_ hk (.inl rfl)); replace HB := am_ (hb); replace HI0 := am_ (hi); (try clear hb hk hi)))
 go_ret
 exact ⟨tc9_, tc3_, tc5_, tc4_⟩

/-! ### spec_l1In: function 25 -/
def spec_l1In.f (a0 : Int) (a1 : Int) (a2 : Int) : Option (Bool) := if a0 ≥ a1 then (some (decide (a0 ≤ a2))) else (some false)
theorem spec_l1In.calls (a0 : Int) (a1 : Int) (a2 : Int) (r : Bool) (w : World) (h : spec_l1In.f a0 a1 a2 = some r) :
  Calls Try.prog 25 #[.int .i64 a0, .int .i64 a1, .int .i64 a2] w fun e w' => e = .returned (.bool r) ∧ Drawn0 w w' := by
 (try unfold spec_l1In.f at h); have H := h; clear h
 replace H := pn_ H; obtain ⟨c4, H⟩ | ⟨c4, H⟩ := H
 ·have c4b0 : decide (a1 ≤ a0) = true := decide_eq_true c4; clear c4; obtain rfl := Option.some.inj H; go_enter Try.func25, Try.ntmps25; go_wp2
  go_ret
  exact ⟨tc8_, tc12_⟩
 ·have c4b0 : decide (a1 ≤ a0) = false := decide_eq_false c4; clear c4; obtain rfl := Option.some.inj H; go_enter Try.func25, Try.ntmps25; go_wp2
  go_ret
  exact ⟨tc8_, tc12_⟩

/-! ### spec_sgSquare: function 57 -/
def spec_sgSquare.l0 : Nat → Tb_ → Tb_ → Int → Int → Option (Bool)
 | 0, _, _, _, _ => none
 | k + 1, x0, x9, x10, x11 => if x11 < x10 then (if 0 ≤ x11 then (if x11 < (x9.length : Int) then (if ((rd_L3 x9 x11).length : Int) = (x0.length : Int) then (spec_sgSquare.l0 k x0 x9 x10 (wrap64 (x11 + 1))) else (some false)) else (none)) else (none)) else (some true)
def spec_sgSquare.f (k : Nat) (l0 : Tb_) : Option (Bool) := (spec_l1In.f (l0.length : Int) 1 6).bind fun t101 => (if t101 = true then (spec_sgSquare.l0 k l0 l0 (l0.length : Int) 0) else (some false))
theorem spec_sgSquare.calls (k : Nat) (A0 : Option Addr) (c0 : Nat) (l0 : Tb_) (r : Bool) (w : World) (hr0 : Kd.C (Kd.slice 3 (Kd.int .i64)) w A0 l0.length l0) (hc0 : l0.length ≤ c0) (h : spec_sgSquare.f k l0 = some r) :
  Calls Try.prog 57 #[.slice A0 l0.length c0] w fun e w' => e = .returned (.bool r) ∧ Drawn0 w w' := by
 have HR0 := am_ hr0; have HC0 := am_ hc0; clear hr0 hc0; (try unfold spec_sgSquare.f at h); have H := h; clear h; replace H := bd_ H; obtain ⟨t101, A2, H⟩ := H; (try dsimp only at H)
 by_cases c3 : t101 = true
 ·subst c3; have H1 : (spec_sgSquare.l0 k l0 l0 (l0.length : Int) 0) = some r := tc21_; clear H; have H := H1; clear H1; have H' := am_ H; clear H; go_enter Try.func57, Try.ntmps57
  go_wp2_with (first | (refine gc_ (some 7) Try.func25 #[.int .i64 (l0.length : Int), .int .i64 1, .int .i64 6] ?_; (with_reducible refine (spec_l1In.calls (l0.length : Int) 1 6 true _ A2.out).mono ?_); rintro e w' ⟨rfl, ⟨nd, rfl⟩⟩; refine ⟨_, rfl, ?_⟩))
  go_loopg [11] k (fun kq v11 w' => ∃ (x11_1 : Int), v11 = .int .i64 x11_1 ∧ Aside0 (spec_sgSquare.l0 kq l0 l0 (l0.length : Int) x11_1 = some r) ∧ Aside0 (kq ≤ k) ∧ Drawn0 w w')
  case atStart => exact ⟨(0), tc8_, H', ⟨Nat.le_refl _⟩, tc12_⟩
  case round =>
   clear H'; (try clear c2); (try clear p2); (try clear c3); obtain ⟨x11_1, rfl, HA, HK1, ⟨m1, rfl⟩⟩ := hrel
   cases gk with
   | zero => exact absurd HA.out (by simp [spec_sgSquare.l0])
   | succ k1 =>
    have H := HA.out; clear HA; simp only [spec_sgSquare.l0] at H
    replace H := sp_ H; obtain ⟨c4b0, H⟩ | ⟨c4b0, H⟩ := H
    ·replace H := ps_ H; obtain ⟨c5b0, H⟩ := H; replace H := ps_ H; obtain ⟨c6b0, H⟩ := H
     replace H := pn_ H; obtain ⟨c7, H⟩ | ⟨c7, H⟩ := H
     ·have c7b0 : (((rd_L3 l0 x11_1).length : Int) == (l0.length : Int)) = true := beq_iff_eq.mpr c7; have c7b1 : (((rd_L3 l0 x11_1).length : Int) != (l0.length : Int)) = false := bne_eq_false_iff_eq.mpr c7; have c7b2 : ((rd_L3 l0 x11_1).length == l0.length) = true := (by first | simpa using c7 | (simp at c7 ⊢; omega)); clear c7; have H' := am_ H; clear H; have p102 : 0 ≤ (x11_1 : Int) := od_; have q102 : x11_1 < (l0.length : Int) := od_; obtain ⟨ad102, A102_0, c102_0, e102, hx102_0, hl102_0, hi102_0⟩ := at_L3 HR0.out x11_1 p102 q102; cases e102; have HR102_0 := am_ hi102_0; have HC102_0 := am_ hl102_0; clear hi102_0 hl102_0; replace p102 := eq_true p102; replace q102 := eq_true q102; go_wp2
      go_roundg k1
      case measure => have := HK1.out; omega
      case rel => exact ⟨(wrap64 (x11_1 + 1)), tc8_, H', ⟨tc101_⟩, tc12_⟩
     ·have c7b0 : (((rd_L3 l0 x11_1).length : Int) == (l0.length : Int)) = false := beq_eq_false_iff_ne.mpr c7; have c7b1 : (((rd_L3 l0 x11_1).length : Int) != (l0.length : Int)) = true := bne_iff_ne.mpr c7; have c7b2 : ((rd_L3 l0 x11_1).length == l0.length) = false := (by first | simpa using c7 | (simp at c7 ⊢; omega)); obtain rfl := Option.some.inj H; have p102 : 0 ≤ (x11_1 : Int) := od_; have q102 : x11_1 < (l0.length : Int) := od_; obtain ⟨ad102, A102_0, c102_0, e102, hx102_0, hl102_0, hi102_0⟩ := at_L3 HR0.out x11_1 p102 q102; cases e102; have HR102_0 := am_ hi102_0; have HC102_0 := am_ hl102_0; clear hi102_0 hl102_0; replace p102 := eq_true p102; replace q102 := eq_true q102; go_wp2
      go_ret
      exact ⟨tc8_, tc12_⟩
    ·obtain rfl := Option.some.inj H; go_wp2
     go_ret
     exact ⟨tc8_, tc12_⟩
 ·replace c3 := Bool.eq_false_iff.mpr c3; subst c3; have H1 : (some false) = some r := tc14_; clear H; have H := H1; clear H1; obtain rfl := Option.some.inj H; go_enter Try.func57, Try.ntmps57
  go_wp2_with (first | (refine gc_ (some 7) Try.func25 #[.int .i64 (l0.length : Int), .int .i64 1, .int .i64 6] ?_; (with_reducible refine (spec_l1In.calls (l0.length : Int) 1 6 false _ A2.out).mono ?_); rintro e w' ⟨rfl, ⟨nd, rfl⟩⟩; refine ⟨_, rfl, ?_⟩))
  go_ret
  exact ⟨tc8_, tc12_⟩

/-! ### spec_sgRows: function 58 -/
mutual
def spec_sgRows.l0 : Nat → Tb_ → Int → Int → Option (Bool)
 | 0, _, _, _ => none
 | k + 1, x8, x9, x10 => if x10 < x9 then (if 0 ≤ x10 then (if x10 < (x8.length : Int) then (spec_sgRows.l1 k 0 x8 x9 x10 (rd_L3 x8 x10) ((rd_L3 x8 x10).length : Int) 0) else (none)) else (none)) else (some true)
def spec_sgRows.l1 : Nat → Int → Tb_ → Int → Int → List Int → Int → Int → Option (Bool)
 | 0, _, _, _, _, _, _, _ => none
 | k + 1, x5, x8, x9, x10, x14, x15, x16 => if x16 < x15 then (if 0 ≤ x16 then (if x16 < (x14.length : Int) then ((spec_l1In.f (rd x14 x16) (-1) 1).bind fun t103 => (if t103 = true then ((spec_l1In.f (wrap64 (x5 + (rd x14 x16))) 0 1).bind fun t104 => (if t104 = true then (spec_sgRows.l1 k (wrap64 (x5 + (rd x14 x16))) x8 x9 x10 x14 x15 (wrap64 (x16 + 1))) else (some false))) else (some false))) else (none)) else (none)) else (if x5 = 1 then (spec_sgRows.l0 k x8 x9 (wrap64 (x10 + 1))) else (some false))
end
def spec_sgRows.f (k : Nat) (l0 : Tb_) : Option (Bool) := spec_sgRows.l0 k l0 (l0.length : Int) 0
theorem spec_sgRows.calls (k : Nat) (A0 : Option Addr) (c0 : Nat) (l0 : Tb_) (r : Bool) (w : World) (hr0 : Kd.C (Kd.slice 3 (Kd.int .i64)) w A0 l0.length l0) (hc0 : l0.length ≤ c0) (h : spec_sgRows.f k l0 = some r) :
  Calls Try.prog 58 #[.slice A0 l0.length c0] w fun e w' => e = .returned (.bool r) ∧ Drawn0 w w' := by
 have HR0 := am_ hr0; have HC0 := am_ hc0; clear hr0 hc0; (try unfold spec_sgRows.f at h); have H := h; clear h; have H' := am_ H; clear H; go_enter Try.func58, Try.ntmps58; go_wp2
 go_loopg [10] k (fun kq v10 w' => ∃ (x10_1 : Int), v10 = .int .i64 x10_1 ∧ Aside0 (spec_sgRows.l0 kq l0 (l0.length : Int) x10_1 = some r) ∧ Aside0 (kq ≤ k) ∧ Drawn0 w w')
 case atStart => exact ⟨(0), tc8_, H', ⟨Nat.le_refl _⟩, tc12_⟩
 case round =>
  clear H'; obtain ⟨x10_1, rfl, HA, HK1, ⟨m1, rfl⟩⟩ := hrel
  cases gk with
  | zero => exact absurd HA.out (by simp [spec_sgRows.l0])
  | succ k1 =>
   have H := HA.out; clear HA; simp only [spec_sgRows.l0] at H
   replace H := sp_ H; obtain ⟨c2b0, H⟩ | ⟨c2b0, H⟩ := H
   ·replace H := ps_ H; obtain ⟨c3b0, H⟩ := H; replace H := ps_ H; obtain ⟨c4b0, H⟩ := H; have H' := am_ H; clear H; have p101 : 0 ≤ (x10_1 : Int) := od_; have q101 : x10_1 < (l0.length : Int) := od_; obtain ⟨ad101, A101_0, c101_0, e101, hx101_0, hl101_0, hi101_0⟩ := at_L3 HR0.out x10_1 p101 q101; cases e101; have HR101_0 := am_ hi101_0; have HC101_0 := am_ hl101_0; clear hi101_0 hl101_0; replace p101 := eq_true p101; replace q101 := eq_true q101; go_wp2
    go_loopg [5, 16] k1 (fun kq v5 v16 w' => ∃ (x5_2 : Int) (x16_2 : Int), v5 = .int .i64 x5_2 ∧ v16 = .int .i64 x16_2 ∧ Aside0 (spec_sgRows.l1 kq x5_2 l0 (l0.length : Int) x10_1 (rd_L3 l0 x10_1) ((rd_L3 l0 x10_1).length : Int) x16_2 = some r) ∧ Aside0 (kq ≤ k1) ∧ Drawn0 w w')
    case atStart => exact ⟨(0), (0), tc8_, tc8_, H', ⟨Nat.le_refl _⟩, tc12_⟩
    case round =>
     clear H'; (try clear c1); (try clear p1); (try clear q1); (try clear hx1); (try clear c2); (try clear c2b0); (try clear p2); (try clear c3); (try clear c3b0); (try clear c4); (try clear c4b0); (try clear hx101_0); (try clear p101); (try clear q101); obtain ⟨x5_2, x16_2, rfl, rfl, HA, HK2, ⟨m2, rfl⟩⟩ := hrel
     cases gk with
     | zero => exact absurd HA.out (by simp [spec_sgRows.l1])
     | succ k2 =>
      have H := HA.out; clear HA; simp only [spec_sgRows.l1] at H
      replace H := sp_ H; obtain ⟨c5b0, H⟩ | ⟨c5b0, H⟩ := H
      ·replace H := ps_ H; obtain ⟨c6b0, H⟩ := H; replace H := ps_ H; obtain ⟨c7b0, H⟩ := H; replace H := bd_ H; obtain ⟨t103, A8, H⟩ := H; (try dsimp only at H)
       by_cases c9 : t103 = true
       ·subst c9; have H1 : ((spec_l1In.f (wrap64 (x5_2 + (rd (rd_L3 l0 x10_1) x16_2))) 0 1).bind fun t104 => (if t104 = true then (spec_sgRows.l1 k2 (wrap64 (x5_2 + (rd (rd_L3 l0 x10_1) x16_2))) l0 (l0.length : Int) x10_1 (rd_L3 l0 x10_1) ((rd_L3 l0 x10_1).length : Int) (wrap64 (x16_2 + 1))) else (some false))) = some r := tc21_; clear H; have H := H1; clear H1; replace H := bd_ H; obtain ⟨t104, A10, H⟩ := H; (try dsimp only at H)
        by_cases c11 : t104 = true
        ·subst c11; have H1 : (spec_sgRows.l1 k2 (wrap64 (x5_2 + (rd (rd_L3 l0 x10_1) x16_2))) l0 (l0.length : Int) x10_1 (rd_L3 l0 x10_1) ((rd_L3 l0 x10_1).length : Int) (wrap64 (x16_2 + 1))) = some r := tc21_; clear H; have H := H1; clear H1; have H' := am_ H; clear H; have p102 : 0 ≤ (x16_2 : Int) := od_; have q102 : x16_2 < ((rd_L3 l0 x10_1).length : Int) := od_; obtain ⟨ad102, e102, hx102_0⟩ := Kd.at_int HR101_0.out x16_2 p102 q102; cases e102; replace p102 := eq_true p102; replace q102 := eq_true q102
         go_wp2_with (first | (refine gc_ (some 21) Try.func25 #[.int .i64 (rd (rd_L3 l0 x10_1) x16_2), .int .i64 (-1), .int .i64 1] ?_; (with_reducible refine (spec_l1In.calls (rd (rd_L3 l0 x10_1) x16_2) (-1) 1 true _ A8.out).mono ?_); rintro e w' ⟨rfl, ⟨nd, rfl⟩⟩; refine ⟨_, rfl, ?_⟩) | (refine gc_ (some 27) Try.func25 #[.int .i64 (wrap64 (x5_2 + (rd (rd_L3 l0 x10_1) x16_2))), .int .i64 0, .int .i64 1] ?_; (with_reducible refine (spec_l1In.calls (wrap64 (x5_2 + (rd (rd_L3 l0 x10_1) x16_2))) 0 1 true _ A10.out).mono ?_); rintro e w' ⟨rfl, ⟨nd, rfl⟩⟩; refine ⟨_, rfl, ?_⟩))
         go_roundg k2
         case measure => have := HK1.out; have := HK2.out; omega
         case rel => exact ⟨(wrap64 (x5_2 + (rd (rd_L3 l0 x10_1) x16_2))), (wrap64 (x16_2 + 1)), tc8_, tc8_, H', ⟨tc39_⟩, tc12_⟩
        ·replace c11 := Bool.eq_false_iff.mpr c11; subst c11; have H1 : (some false) = some r := tc14_; clear H; have H := H1; clear H1; obtain rfl := Option.some.inj H; have p102 : 0 ≤ (x16_2 : Int) := od_; have q102 : x16_2 < ((rd_L3 l0 x10_1).length : Int) := od_; obtain ⟨ad102, e102, hx102_0⟩ := Kd.at_int HR101_0.out x16_2 p102 q102; cases e102; replace p102 := eq_true p102; replace q102 := eq_true q102
         go_wp2_with (first | (refine gc_ (some 21) Try.func25 #[.int .i64 (rd (rd_L3 l0 x10_1) x16_2), .int .i64 (-1), .int .i64 1] ?_; (with_reducible refine (spec_l1In.calls (rd (rd_L3 l0 x10_1) x16_2) (-1) 1 true _ A8.out).mono ?_); rintro e w' ⟨rfl, ⟨nd, rfl⟩⟩; refine ⟨_, rfl, ?_⟩) | (refine gc_ (some 27) Try.func25 #[.int .i64 (wrap64 (x5_2 + (rd (rd_L3 l0 x10_1) x16_2))), .int .i64 0, .int .i64 1] ?_; (with_reducible refine (spec_l1In.calls (wrap64 (x5_2 + (rd (rd_L3 l0 x10_1) x16_2))) 0 1 false _ A10.out).mono ?_); rintro e w' ⟨rfl, ⟨nd, rfl⟩⟩; refine ⟨_, rfl, ?_⟩))
         go_ret
         exact ⟨tc8_, tc12_⟩
       ·replace c9 := Bool.eq_false_iff.mpr c9; subst c9; have H1 : (some false) = some r := tc14_; clear H; have H := H1; clear H1; obtain rfl := Option.some.inj H; have p102 : 0 ≤ (x16_2 : Int) := od_; have q102 : x16_2 < ((rd_L3 l0 x10_1).length : Int) := od_; obtain ⟨ad102, e102, hx102_0⟩ := Kd.at_int HR101_0.out x16_2 p102 q102; cases e102; replace p102 := eq_true p102; replace q102 := eq_true q102
        go_wp2_with (first | (refine gc_ (some 21) Try.func25 #[.int .i64 (rd (rd_L3 l0 x10_1) x16_2), .int .i64 (-1), .int .i64 1] ?_; (with_reducible refine (spec_l1In.calls (rd (rd_L3 l0 x10_1) x16_2) (-1) 1 false _ A8.out).mono ?_); rintro e w' ⟨rfl, ⟨nd, rfl⟩⟩; refine ⟨_, rfl, ?_⟩))
        go_ret
        exact ⟨tc8_, tc12_⟩
      ·replace H := pn_ H; obtain ⟨c12, H⟩ | ⟨c12, H⟩ := H
       ·have c12b0 : (x5_2 == 1) = true := beq_iff_eq.mpr c12; have c12b1 : (x5_2 != 1) = false := bne_eq_false_iff_eq.mpr c12; clear c12; have H' := am_ H; clear H; go_wp2
        go_roundg k2
        case measure => have := HK1.out; have := HK2.out; omega
        case rel => exact ⟨(wrap64 (x10_1 + 1)), tc8_, H', ⟨tc39_⟩, tc12_⟩
       ·have c12b0 : (x5_2 == 1) = false := beq_eq_false_iff_ne.mpr c12; have c12b1 : (x5_2 != 1) = true := bne_iff_ne.mpr c12; obtain rfl := Option.some.inj H; go_wp2
        go_ret
        exact ⟨tc8_, tc12_⟩
   ·obtain rfl := Option.some.inj H; go_wp2
    go_ret
    exact ⟨tc8_, tc12_⟩

/-! ### spec_sgTurn: function 59 -/
mutual
def spec_sgTurn.l0 : Nat → Tb_ → Tb_ → Int → Int → Option (Tb_)
 | 0, _, _, _, _ => none
 | k + 1, x0, x3, x9, x10 => if x10 < x9 then (spec_sgTurn.l1 k x0 x3 x10 ([] : List Int) x9 x10 x0 (x0.length : Int) 0) else (some x3)
def spec_sgTurn.l1 : Nat → Tb_ → Tb_ → Int → List Int → Int → Int → Tb_ → Int → Int → Option (Tb_)
 | 0, _, _, _, _, _, _, _, _, _ => none
 | k + 1, x0, x3, x4, x5, x9, x10, x13, x14, x15 => if x15 < x14 then (if 0 ≤ x15 then (if x15 < (x13.length : Int) then (if 0 ≤ x4 then (if x4 < ((rd_L3 x13 x15).length : Int) then (if x5.length < 17592186044416 then (spec_sgTurn.l1 k x0 x3 x4 (x5 ++ [rd (rd_L3 x13 x15) x4]) x9 x10 x13 x14 (wrap64 (x15 + 1))) else (none)) else (none)) else (none)) else (none)) else (none)) else (if x3.length < 5864062014805 then (spec_sgTurn.l0 k x0 (x3 ++ [x5]) x9 (wrap64 (x10 + 1))) else (none))
end
def spec_sgTurn.f (k : Nat) (l0 : Tb_) : Option (Tb_) := spec_sgTurn.l0 k l0 ([] : Tb_) (l0.length : Int) 0
theorem spec_sgTurn.calls (k : Nat) (A0 : Option Addr) (c0 : Nat) (l0 : Tb_) (r : Tb_) (w : World) (hr0 : Kd.C (Kd.slice 3 (Kd.int .i64)) w A0 l0.length l0) (hc0 : l0.length ≤ c0) (h : spec_sgTurn.f k l0 = some r) :
  Calls Try.prog 59 #[.slice A0 l0.length c0] w fun e w' => ∃ v0_ : Value, e = .returned (v0_) ∧ Kd.S (Kd.slice 3 (Kd.int .i64)) 32 w' w.heap.size (fun _ => True) v0_ r ∧ Below w.heap.size w w' := by
 have HR0 := am_ hr0; have HC0 := am_ hc0; clear hr0 hc0; have HB := am_ (Below.refl w.heap.size w); (try unfold spec_sgTurn.f at h); have H := h; clear h; have H' := am_ H; clear H; go_enter Try.func59, Try.ntmps59; go_wp2
 go_loopg [3, 10] k (fun kq v3 v10 w' => ∃ (x3_1 : Tb_) (x10_1 : Int), v10 = .int .i64 x10_1 ∧ Aside0 (spec_sgTurn.l0 kq l0 x3_1 (l0.length : Int) x10_1 = some r) ∧ Aside0 (kq ≤ k) ∧ Aside0 (Kd.S (Kd.slice 3 (Kd.int .i64)) 32 w' w.heap.size (fun _ => True) v3 x3_1) ∧ Aside0 (Below w.heap.size w w'))
 case atStart => exact ⟨(([] : Tb_)), (0), tc8_, H', ⟨Nat.le_refl _⟩, ⟨tc17_⟩, ⟨tc0_⟩⟩
 case round =>
  clear H'; obtain ⟨x3_1, x10_1, rfl, HA, HK1, HO_3, HB⟩ := hrel
  cases gk with
  | zero => exact absurd HA.out (by simp [spec_sgTurn.l0])
  | succ k1 =>
   have H := HA.out; clear HA; simp only [spec_sgTurn.l0] at H
   replace H := sp_ H; obtain ⟨c2b0, H⟩ | ⟨c2b0, H⟩ := H
   ·have H' := am_ H; clear H; go_wp2
    go_loopg [5, 15] k1 (fun kq v5 v15 w' => ∃ (x5_2 : List Int) (x15_2 : Int), v15 = .int .i64 x15_2 ∧ Aside0 (spec_sgTurn.l1 kq l0 x3_1 x10_1 x5_2 (l0.length : Int) x10_1 l0 (l0.length : Int) x15_2 = some r) ∧ Aside0 (kq ≤ k1) ∧ Aside0 (Kd.S (Kd.slice 3 (Kd.int .i64)) 32 w' w.heap.size (fun k_ => some k_ ≠ (v5 : Value).ownBlock) u3 x3_1) ∧ Aside0 (Kd.R (Kd.int .i64) 3 w' w.heap.size (fun _ => True) v5 x5_2) ∧ Aside0 (Below w.heap.size w w'))
    case atStart => exact ⟨(([] : List Int)), (0), tc8_, H', ⟨Nat.le_refl _⟩, ⟨(by (with_reducible repeat (first | apply Kd.S_alloc | apply Kd.S_drewN | apply Kd.S_drew)); exact Kd.S_mono HO_3.out (fun _ hk => tc100_))⟩, ⟨tc123_⟩, ⟨tc0_⟩⟩
    case round =>
     clear H'; (try clear c2); (try clear c2b0); (try clear p2); obtain ⟨x5_2, x15_2, rfl, HA, HK2, HO_3, HO_5, HB⟩ := hrel
     cases gk with
     | zero => exact absurd HA.out (by simp [spec_sgTurn.l1])
     | succ k2 =>
      have H := HA.out; clear HA; simp only [spec_sgTurn.l1] at H
      replace H := sp_ H; obtain ⟨c3b0, H⟩ | ⟨c3b0, H⟩ := H
      ·replace H := ps_ H; obtain ⟨c4b0, H⟩ := H; replace H := ps_ H; obtain ⟨c5b0, H⟩ := H; replace H := ps_ H; obtain ⟨c6b0, H⟩ := H; replace H := ps_ H; obtain ⟨c7b0, H⟩ := H; replace H := pp_ H; obtain ⟨c8, H⟩ := H; have LMc8 := am_ c8; clear c8; obtain ⟨y103, hy103⟩ : ∃ y_ : List Int, y_ = (x5_2 ++ [rd (rd_L3 l0 x15_2) x10_1]) := ⟨_, rfl⟩; replace H : (spec_sgTurn.l1 k2 l0 x3_1 x10_1 y103 (l0.length : Int) x10_1 l0 (l0.length : Int) (wrap64 (x15_2 + 1))) = some r := tc65_; have Ny103 := am_ hy103; clear hy103; have H' := am_ H; clear H; have p101 : 0 ≤ (x15_2 : Int) := od_; have q101 : x15_2 < (l0.length : Int) := od_; obtain ⟨ad101, A101_0, c101_0, e101, hx101_0, hl101_0, hi101_0⟩ := at_L3 HR0.out x15_2 p101 q101; cases e101; replace hx101_0 := (HB.out.cell (World.block_lt_of_cell? w _ hx101_0)).trans hx101_0; have HR101_0 := am_ hi101_0; have HC101_0 := am_ hl101_0; clear hi101_0 hl101_0; replace p101 := eq_true p101; replace q101 := eq_true q101; have p102 : 0 ≤ (x10_1 : Int) := od_; have q102 : x10_1 < ((rd_L3 l0 x15_2).length : Int) := od_; obtain ⟨ad102, e102, hx102_0⟩ := Kd.at_int HR101_0.out x10_1 p102 q102; cases e102; replace hx102_0 := (HB.out.cell (World.block_lt_of_cell? w _ hx102_0)).trans hx102_0; replace p102 := eq_true p102; replace q102 := eq_true q102
       go_wp2_with (first | ((with_reducible refine gate_builtin (b := .append) (xs := #[.tmp 19, .tmp 24]) rfl ?_); at_builtin; refine Kd.R_append (Kd.int .i64) (w0 := w) w.heap.size rfl (.tmp 19) (.tmp 24) 32 3 (.int .i64 0) 8 rfl Try.underlying32 info3 rfl (by decide) (by omega) u5 x5_2 (rd (rd_L3 l0 x15_2) x10_1) [.int .i64 (rd (rd_L3 l0 x15_2) x10_1)] (fun _ => True) (fun _ => False) rfl rfl ?aP (fun _ hk => hk.elim) ?aF ?aO ?aB ?aS ?aL ?_; (case aP => exact rfl); (case aB => exact tc15_); (case aF => exact tc132_); (case aO => exact tc113_); (case aS => exact tc22_); (case aL => have := LMc8.out; omega); intro v104 w9 ho hb hg hat; rw [← Ny103.out] at ho; have n0_ := am_ (Kd.S_after (ok := (fun _ => True)) (by (with_reducible repeat (first | apply Kd.S_alloc | apply Kd.S_drewN | apply Kd.S_drew)); exact Kd.S_mono HO_3.out (fun _ hk => ⟨trivial, hk⟩)) hg hat); have n1_ := am_ (hb); have n2_ := am_ (ho); clear HO_3 HB HO_5; have HO_3 := n0_; have HB := n1_; have HO105 := n2_; clear n0_ n1_ n2_; clear ho hb hg hat))
       go_roundg k2
       case measure => have := HK1.out; have := HK2.out; omega
       case rel => exact ⟨(y103), (wrap64 (x15_2 + 1)), tc8_, H', ⟨tc39_⟩, ⟨tc128_⟩, ⟨tc104_⟩, ⟨tc0_⟩⟩
      ·replace H := pp_ H; obtain ⟨c10, H⟩ := H; have LMc10 := am_ c10; clear c10; obtain ⟨y106, hy106⟩ : ∃ y_ : Tb_, y_ = (x3_1 ++ [x5_2]) := ⟨_, rfl⟩; replace H : (spec_sgTurn.l0 k2 l0 y106 (l0.length : Int) (wrap64 (x10_1 + 1))) = some r := tc47_; have Ny106 := am_ hy106; clear hy106; have H' := am_ H; clear H; obtain ⟨Ao12, co12, eo12⟩ := Kd.R_slice HO_5.out; subst eo12
       go_wp2_with (first | ((with_reducible refine gate_builtin (b := .append) (xs := #[.tmp 27, .tmp 29]) rfl ?_); at_builtin; refine Kd.S_append (Kd.slice 3 (Kd.int .i64)) (w0 := w) w.heap.size rfl (.tmp 27) (.tmp 29) 24 32 (.slice none 0 0) 24 rfl Try.underlying24 info32 rfl (by decide) (by omega) u3 x3_1 x5_2 [.slice Ao12 x5_2.length co12] (fun _ => True) (fun k_ => some k_ = (.slice Ao12 x5_2.length co12 : Value).ownBlock) rfl rfl ?aP (fun k_ hk_ => ((Kd.R_mono (ok' := fun k_ => ((fun _ => True)) k_ ∧ some k_ ≠ (u3 : Value).ownBlock) (Kd.R_apart' (HO_5.out) (Kd.S_typed HO_3.out) (by decide)) (fun k_ hk => ⟨trivial, hk.2⟩))).1 k_ hk_.symm) ?aF ?aO ?aB ?aS ?aL ?_; (case aP => exact Kd.M_row (Kd.R_mono (Kd.R_tight rfl (Kd.R_mono (ok' := fun k_ => ((fun _ => True)) k_ ∧ some k_ ≠ (u3 : Value).ownBlock) (Kd.R_apart' (HO_5.out) (Kd.S_typed HO_3.out) (by decide)) (fun k_ hk => ⟨trivial, hk.2⟩))) (fun _ h_ => h_))); (case aB => exact tc15_); (case aF => exact tc132_); (case aO => exact (by (with_reducible repeat (first | apply Kd.S_alloc | apply Kd.S_drewN | apply Kd.S_drew)); exact Kd.S_mono HO_3.out (fun k_ hk => ⟨trivial, fun e_ => hk e_⟩))); (case aS => exact tc22_); (case aL => have := LMc10.out; omega); intro v107 w11 ho hb hg hat; rw [← Ny106.out] at ho; replace HB := am_ (hb); have HO108 := am_ (ho); clear HO_3 HO_5; clear ho hb hg hat))
       go_roundg k2
       case measure => have := HK1.out; have := HK2.out; omega
       case rel => exact ⟨(y106), (wrap64 (x10_1 + 1)), tc8_, H', ⟨tc39_⟩, ⟨(by (with_reducible repeat (first | apply Kd.S_alloc | apply Kd.S_drewN | apply Kd.S_drew)); exact HO108.out)⟩, ⟨tc0_⟩⟩
   ·obtain rfl := Option.some.inj H; go_wp2
    go_ret
    exact ⟨_, tc9_, tc29_, tc0_⟩

/-! ### spec_sgGood: function 24 -/
def spec_sgGood.f (k : Nat) (l0 : Tb_) : Option (Bool) := (spec_sgSquare.f k l0).bind fun t101 => (if t101 = true then ((spec_sgRows.f k l0).bind fun t102 => (if t102 = true then ((spec_sgTurn.f k l0).bind fun t103 => ((spec_sgRows.f k t103).bind fun t106 => (some t106))) else (some false))) else (some false))
theorem spec_sgGood.calls (k : Nat) (A0 : Option Addr) (c0 : Nat) (l0 : Tb_) (r : Bool) (w : World) (hr0 : Kd.C (Kd.slice 3 (Kd.int .i64)) w A0 l0.length l0) (hc0 : l0.length ≤ c0) (h : spec_sgGood.f k l0 = some r) :
  Calls Try.prog 24 #[.slice A0 l0.length c0] w fun e w' => e = .returned (.bool r) ∧ Below w.heap.size w w' := by
 have HR0 := am_ hr0; have HC0 := am_ hc0; clear hr0 hc0; have HB := am_ (Below.refl w.heap.size w); (try unfold spec_sgGood.f at h); have H := h; clear h; replace H := bd_ H; obtain ⟨t101, A2, H⟩ := H; (try dsimp only at H)
 by_cases c3 : t101 = true
 ·subst c3; have H1 : ((spec_sgRows.f k l0).bind fun t102 => (if t102 = true then ((spec_sgTurn.f k l0).bind fun t103 => ((spec_sgRows.f k t103).bind fun t106 => (some t106))) else (some false))) = some r := tc21_; clear H; have H := H1; clear H1; replace H := bd_ H; obtain ⟨t102, A4, H⟩ := H; (try dsimp only at H)
  by_cases c5 : t102 = true
  ·subst c5; have H1 : ((spec_sgTurn.f k l0).bind fun t103 => ((spec_sgRows.f k t103).bind fun t106 => (some t106))) = some r := tc21_; clear H; have H := H1; clear H1; replace H := bd_ H; obtain ⟨t103, A6, H⟩ := H; (try dsimp only at H); replace H := bd_ H; obtain ⟨t106, A7, H⟩ := H; (try dsimp only at H); obtain rfl := Option.some.inj H; go_enter Try.func24, Try.ntmps24
   go_wp2_with (first | (refine gc_ (some 4) Try.func57 #[.slice A0 l0.length c0] ?_; (with_reducible refine (spec_sgSquare.calls k _ _ l0 true _ ?side1 ?side2 A2.out).mono ?_); (case side1 => exact tc11_); (case side2 => exact HC0.out); rintro e w' ⟨rfl, ⟨nd, rfl⟩⟩; refine ⟨_, rfl, ?_⟩) | (go_at_call 58; (with_reducible refine (spec_sgRows.calls k _ _ l0 true _ ?side1 ?side2 A4.out).mono ?_); (case side1 => exact tc11_); (case side2 => exact HC0.out); rintro e w' ⟨rfl, ⟨nd, rfl⟩⟩) | (go_at_call 59; (with_reducible refine (spec_sgTurn.calls k _ _ l0 t103 _ ?side1 ?side2 A6.out).mono ?_); (case side1 => exact tc11_); (case side2 => exact HC0.out); rintro e w8 ⟨v104, rfl, ho0, hb⟩; have HO105 := am_ (Kd.S_lower ho0 (below_size tc0_)); replace HB := am_ (below_step tc0_ hb); (try clear hb ho0); obtain ⟨Ao9, co9, eo9⟩ := Kd.S_slice HO105.out; subst eo9) | (go_at_call 58; (with_reducible refine (spec_sgRows.calls k _ _ t103 t106 _ ?side1 ?side2 A7.out).mono ?_); (case side1 => repeat (first | exact (Kd.S_reads' HO105.out).2.2 | (with_reducible refine Kd.C_alloc ?_ _) | (with_reducible refine Kd.C_drewN ?_ _) | (with_reducible refine Kd.C_drew ?_))); (case side2 => exact (Kd.S_reads' HO105.out).2.1); rintro e w' ⟨rfl, ⟨nd, rfl⟩⟩))
   go_ret
   exact ⟨tc9_, tc0_⟩
  ·replace c5 := Bool.eq_false_iff.mpr c5; subst c5; have H1 : (some false) = some r := tc14_; clear H; have H := H1; clear H1; obtain rfl := Option.some.inj H; go_enter Try.func24, Try.ntmps24
   go_wp2_with (first | (refine gc_ (some 4) Try.func57 #[.slice A0 l0.length c0] ?_; (with_reducible refine (spec_sgSquare.calls k _ _ l0 true _ ?side1 ?side2 A2.out).mono ?_); (case side1 => exact tc11_); (case side2 => exact HC0.out); rintro e w' ⟨rfl, ⟨nd, rfl⟩⟩; refine ⟨_, rfl, ?_⟩) | (go_at_call 58; (with_reducible refine (spec_sgRows.calls k _ _ l0 false _ ?side1 ?side2 A4.out).mono ?_); (case side1 => exact tc11_); (case side2 => exact HC0.out); rintro e w' ⟨rfl, ⟨nd, rfl⟩⟩))
   go_ret
   exact ⟨tc9_, tc0_⟩
 ·replace c3 := Bool.eq_false_iff.mpr c3; subst c3; have H1 : (some false) = some r := tc14_; clear H; have H := H1; clear H1; obtain rfl := Option.some.inj H; go_enter Try.func24, Try.ntmps24
  go_wp2_with (first | (refine gc_ (some 4) Try.func57 #[.slice A0 l0.length c0] ?_; (with_reducible refine (spec_sgSquare.calls k _ _ l0 false _ ?side1 ?side2 A2.out).mono ?_); (case side1 => exact tc11_); (case side2 => exact HC0.out); rintro e w' ⟨rfl, ⟨nd, rfl⟩⟩; refine ⟨_, rfl, ?_⟩))
  go_ret
  exact ⟨tc9_, tc0_⟩

/-! ### spec_sgZero: function 77 -/
def spec_sgZero.l0 : Nat → Int → Tb_ → Int → Option (Tb_)
 | 0, _, _, _ => none
 | k + 1, x0, x3, x4 => if x4 < x0 then (if 0 ≤ x0 then (if (x0 : Int).toNat ≤ 35184372088832 then (if x3.length < 5864062014805 then (spec_sgZero.l0 k x0 (x3 ++ [(List.replicate (x0 : Int).toNat 0)]) (wrap64 (x4 + 1))) else (none)) else (none)) else (none)) else (some x3)
def spec_sgZero.f (k : Nat) (a0 : Int) : Option (Tb_) := spec_sgZero.l0 k a0 ([] : Tb_) 0
theorem spec_sgZero.calls (k : Nat) (a0 : Int) (r : Tb_) (w : World) (h : spec_sgZero.f k a0 = some r) :
  Calls Try.prog 77 #[.int .i64 a0] w fun e w' => ∃ v0_ : Value, e = .returned (v0_) ∧ Kd.S (Kd.slice 3 (Kd.int .i64)) 32 w' w.heap.size (fun _ => True) v0_ r ∧ Below w.heap.size w w' := by
 have HB := am_ (Below.refl w.heap.size w); (try unfold spec_sgZero.f at h); have H := h; clear h; have H' := am_ H; clear H; go_enter Try.func77, Try.ntmps77; go_wp2
 go_loopg [3, 4] k (fun kq v3 v4 w' => ∃ (x3_1 : Tb_) (x4_1 : Int), v4 = .int .i64 x4_1 ∧ Aside0 (spec_sgZero.l0 kq a0 x3_1 x4_1 = some r) ∧ Aside0 (kq ≤ k) ∧ Aside0 (Kd.S (Kd.slice 3 (Kd.int .i64)) 32 w' w.heap.size (fun _ => True) v3 x3_1) ∧ Aside0 (Below w.heap.size w w'))
 case atStart => exact ⟨(([] : Tb_)), (0), tc8_, H', ⟨Nat.le_refl _⟩, ⟨tc17_⟩, ⟨tc0_⟩⟩
 case round =>
  clear H'; obtain ⟨x3_1, x4_1, rfl, HA, HK1, HO_3, HB⟩ := hrel
  cases gk with
  | zero => exact absurd HA.out (by simp [spec_sgZero.l0])
  | succ k1 =>
   have H := HA.out; clear HA; simp only [spec_sgZero.l0] at H
   replace H := sp_ H; obtain ⟨c2b0, H⟩ | ⟨c2b0, H⟩ := H
   ·replace H := pp_ H; obtain ⟨c3, H⟩ := H; have c3b0 := eq_true c3; have c3b1 : decide (0 ≤ a0) = true := decide_eq_true c3; clear c3; replace H := pp_ H; obtain ⟨c4, H⟩ := H; have c4b0 := eq_true c4; have c4b1 : decide ((a0 : Int).toNat ≤ 35184372088832) = true := decide_eq_true c4; clear c4; obtain ⟨y101, hy101⟩ : ∃ y_ : List Int, y_ = (List.replicate (a0 : Int).toNat 0) := ⟨_, rfl⟩; replace H : (if x3_1.length < 5864062014805 then (spec_sgZero.l0 k1 a0 (x3_1 ++ [y101]) (wrap64 (x4_1 + 1))) else (none)) = some r := tc30_; have Ny101 := am_ hy101; clear hy101; replace H := pp_ H; obtain ⟨c5, H⟩ := H; have LMc5 := am_ c5; clear c5; obtain ⟨y104, hy104⟩ : ∃ y_ : Tb_, y_ = (x3_1 ++ [y101]) := ⟨_, rfl⟩; replace H : (spec_sgZero.l0 k1 a0 y104 (wrap64 (x4_1 + 1))) = some r := tc66_; have Ny104 := am_ hy104; clear hy104; have H' := am_ H; clear H
    go_wp2_with (first | ((with_reducible refine gate_dst (N := 12) rfl ?_); refine Kd.R_make (Kd.int .i64) _ 3 rfl (N := 12) rfl 32 _ _ rfl a0 rfl rfl Try.underlying32 (.int .i64 0) 8 info3 rfl (by decide) (by omega) 0 (ok := fun _ => True) (okp := fun _ => True) rfl (fun _ hk => hk) trivial (od_) (Nat.le_trans (Nat.mul_le_mul_right _ (od_ : a0.toNat ≤ 35184372088832)) (by omega)) (Below.refl _ _) (Nat.le_refl _) ?_; intro v102 w6 ho7 hb hg_ hnew_; clear hg_ hnew_; (first | rw [← Ny101.out] at ho7 | (simp only [Int.reduceToNat] at ho7; rw [← Ny101.out] at ho7)); replace HO_3 := am_ (Kd.S_elder' tc29_ (Kd.R_base ho7) hb); have HO103 := am_ (Kd.R_lower ho7 (below_size tc0_)); replace HB := am_ (below_step tc0_ hb); clear hb ho7; obtain ⟨Ao9, co9, eo9⟩ := Kd.R_slice HO103.out; subst eo9) | ((with_reducible refine gate_builtin (b := .append) (xs := #[.tmp 10, .tmp 13]) rfl ?_); at_builtin; refine Kd.S_append (Kd.slice 3 (Kd.int .i64)) (w0 := w) w.heap.size rfl (.tmp 10) (.tmp 13) 24 32 (.slice none 0 0) 24 rfl Try.underlying24 info32 rfl (by decide) (by omega) u3 x3_1 y101 [.slice Ao9 y101.length co9] (fun _ => True) (fun k_ => some k_ = (.slice Ao9 y101.length co9 : Value).ownBlock) rfl rfl ?aP (fun k_ hk_ => ((Kd.R_mono (ok' := fun k_ => ((fun _ => True)) k_ ∧ some k_ ≠ (u3 : Value).ownBlock) (Kd.R_apart' (HO103.out) (Kd.S_typed HO_3.out) (by decide)) (fun k_ hk => ⟨trivial, hk.2⟩))).1 k_ hk_.symm) ?aF ?aO ?aB ?aS ?aL ?_; (case aP => exact Kd.M_row (Kd.R_mono (Kd.R_tight rfl (Kd.R_mono (ok' := fun k_ => ((fun _ => True)) k_ ∧ some k_ ≠ (u3 : Value).ownBlock) (Kd.R_apart' (HO103.out) (Kd.S_typed HO_3.out) (by decide)) (fun k_ hk => ⟨trivial, hk.2⟩))) (fun _ h_ => h_))); (case aB => exact tc15_); (case aF => exact tc132_); (case aO => exact (by (with_reducible repeat (first | apply Kd.S_alloc | apply Kd.S_drewN | apply Kd.S_drew)); exact Kd.S_mono HO_3.out (fun k_ hk => ⟨trivial, fun e_ => hk.2 e_⟩))); (case aS => exact tc22_); (case aL => have := LMc5.out; omega); intro v105 w8 ho hb hg hat; rw [← Ny104.out] at ho; replace HB := am_ (hb); have HO106 := am_ (ho); clear HO_3 HO103; clear ho hb hg hat))
    go_roundg k1
    case measure => have := HK1.out; omega
    case rel => exact ⟨(y104), (wrap64 (x4_1 + 1)), tc8_, H', ⟨tc101_⟩, ⟨tc23_⟩, ⟨tc0_⟩⟩
   ·obtain rfl := Option.some.inj H; go_wp2
    go_ret
    exact ⟨_, tc9_, tc29_, tc0_⟩

/-! ### spec_sgAt: function 69 -/
def spec_sgAt.f (l0 : Tb_) (a1 : Int) (a2 : Int) : Option (Int) := if a1 < 0 then (some 0) else (if a2 < 0 then (some 0) else (if 0 ≤ a1 then (if a1 < (l0.length : Int) then (if 0 ≤ a2 then (if a2 < ((rd_L3 l0 a1).length : Int) then (some (rd (rd_L3 l0 a1) a2)) else (none)) else (none)) else (none)) else (none)))
theorem spec_sgAt.calls (A0 : Option Addr) (c0 : Nat) (l0 : Tb_) (a1 : Int) (a2 : Int) (r : Int) (w : World) (hr0 : Kd.C (Kd.slice 3 (Kd.int .i64)) w A0 l0.length l0) (hc0 : l0.length ≤ c0) (h : spec_sgAt.f l0 a1 a2 = some r) :
  Calls Try.prog 69 #[.slice A0 l0.length c0, .int .i64 a1, .int .i64 a2] w fun e w' => e = .returned (.int .i64 r) ∧ Drawn0 w w' := by
 have HR0 := am_ hr0; have HC0 := am_ hc0; clear hr0 hc0; (try unfold spec_sgAt.f at h); have H := h; clear h
 replace H := sp_ H; obtain ⟨c4b0, H⟩ | ⟨c4b0, H⟩ := H
 ·obtain rfl := Option.some.inj H; go_enter Try.func69, Try.ntmps69; go_wp2
  go_ret
  exact ⟨tc8_, tc12_⟩
 ·replace H := sp_ H; obtain ⟨c5b0, H⟩ | ⟨c5b0, H⟩ := H
  ·obtain rfl := Option.some.inj H; go_enter Try.func69, Try.ntmps69; go_wp2
   go_ret
   exact ⟨tc8_, tc12_⟩
  ·replace H := ps_ H; obtain ⟨c6b0, H⟩ := H; replace H := ps_ H; obtain ⟨c7b0, H⟩ := H; replace H := ps_ H; obtain ⟨c8b0, H⟩ := H; replace H := ps_ H; obtain ⟨c9b0, H⟩ := H; obtain rfl := Option.some.inj H; have p101 : 0 ≤ (a1 : Int) := od_; have q101 : a1 < (l0.length : Int) := od_; obtain ⟨ad101, A101_0, c101_0, e101, hx101_0, hl101_0, hi101_0⟩ := at_L3 HR0.out a1 p101 q101; cases e101; have HR101_0 := am_ hi101_0; have HC101_0 := am_ hl101_0; clear hi101_0 hl101_0; replace p101 := eq_true p101; replace q101 := eq_true q101; have p102 : 0 ≤ (a2 : Int) := od_; have q102 : a2 < ((rd_L3 l0 a1).length : Int) := od_; obtain ⟨ad102, e102, hx102_0⟩ := Kd.at_int HR101_0.out a2 p102 q102; cases e102; replace p102 := eq_true p102; replace q102 := eq_true q102; go_enter Try.func69, Try.ntmps69; go_wp2
   go_ret
   exact ⟨tc8_, tc12_⟩

/-! ### spec_sgFrom: function 78 -/
mutual
def spec_sgFrom.l0 : Nat → Tb_ → Tb_ → Int → Int → Option (Tb_)
 | 0, _, _, _, _ => none
 | k + 1, x0, x3, x10, x11 => if x11 < x10 then (spec_sgFrom.l1 k x0 x3 x11 x10 x11 (x0.length : Int) 0) else (some x3)
def spec_sgFrom.l1 : Nat → Tb_ → Tb_ → Int → Int → Int → Int → Int → Option (Tb_)
 | 0, _, _, _, _, _, _, _ => none
 | k + 1, x0, x3, x4, x10, x11, x15, x16 => if x16 < x15 then (if 0 ≤ x4 then (if x4 < (x3.length : Int) then ((spec_sgAt.f x0 x4 x16).bind fun t105 => ((spec_sgAt.f x0 (wrap64 (x4 - 1)) x16).bind fun t106 => ((spec_sgAt.f x0 x4 (wrap64 (x16 - 1))).bind fun t107 => ((spec_sgAt.f x0 (wrap64 (x4 - 1)) (wrap64 (x16 - 1))).bind fun t108 => (if 0 ≤ x16 then (if x16 < ((rd_L3 x3 x4).length : Int) then (spec_sgFrom.l1 k x0 (x3.set (x4 : Int).toNat ((rd_L3 x3 x4).set (x16 : Int).toNat (wrap64 ((wrap64 ((wrap64 (t105 - t106)) - t107)) + t108)))) x4 x10 x11 x15 (wrap64 (x16 + 1))) else (none)) else (none)))))) else (none)) else (none)) else (spec_sgFrom.l0 k x0 x3 x10 (wrap64 (x11 + 1)))
end
def spec_sgFrom.f (k : Nat) (l0 : Tb_) : Option (Tb_) := (spec_sgZero.f k (l0.length : Int)).bind fun t101 => (spec_sgFrom.l0 k l0 t101 (l0.length : Int) 0)
def spec_sgFrom.T8 : Bool × List (List Nat × List Nat) := (true, [([], []), ([], []), ([0, 1], [0, 1]), ([2], [2]), ([], []), ([], []), ([], []), ([], []), ([5, 6, 7], [5, 6, 7]), ([], []), ([], []), ([10], [10]), ([], []), ([9, 11, 12, 8], [9, 11, 12]), ([8, 13], [8, 13]), ([], []), ([], []), ([], []), ([17], [17]), ([15, 16, 18, 13], [15, 16, 18]), ([14, 19], [14, 19]), ([], []), ([], []), ([22], [22]), ([], []), ([24], [24]), ([21, 23, 25, 19], [21, 23, 25]), ([20, 26], [20, 26]), ([3, 4, 0, 1, 2, 3, 4, 5, 6, 7, 8, 9, 10, 11, 12, 13, 14, 15, 16, 17, 18, 19, 20, 21, 22, 23, 24, 25, 26, 27], [3, 4]), ([28, 27, 26, 0, 1, 2, 3, 4, 5, 6, 7, 8, 9, 10, 11, 12, 13, 14, 15, 16, 17, 18, 19, 20, 21, 22, 23, 24, 25, 26, 27], [27, 28])])
def spec_sgFrom.B8 : List Nat := [0, 0, 3, 7, 0, 0, 0, 0, 224, 0, 0, 1024, 0, 8160, 16352, 0, 0, 0, 131072, 507872, 1048544, 0, 0, 4194304, 0, 16777216, 66043872, 134217696, 268435455, 536870911]
theorem spec_sgFrom.tab8 : rtab .any (opsOf Try.f78 8) = spec_sgFrom.T8 := by kernel_rfl
theorem spec_sgFrom.bits8 : waitsOk spec_sgFrom.T8.2 spec_sgFrom.B8 = true := by kernel_rfl
theorem spec_sgFrom.calls (k : Nat) (A0 : Option Addr) (c0 : Nat) (l0 : Tb_) (r : Tb_) (w : World) (hr0 : Kd.C (Kd.slice 3 (Kd.int .i64)) w A0 l0.length l0) (hc0 : l0.length ≤ c0) (h : spec_sgFrom.f k l0 = some r) :
  Calls Try.prog 78 #[.slice A0 l0.length c0] w fun e w' => ∃ v0_ : Value, e = .returned (v0_) ∧ Kd.S (Kd.slice 3 (Kd.int .i64)) 32 w' w.heap.size (fun _ => True) v0_ r ∧ Below w.heap.size w w' := by
 have HR0 := am_ hr0; have HC0 := am_ hc0; clear hr0 hc0; have HB := am_ (Below.refl w.heap.size w); (try unfold spec_sgFrom.f at h); have H := h; clear h; replace H := bd_ H; obtain ⟨t101, A2, H⟩ := H; (try dsimp only at H); have H' := am_ H; clear H; go_enter Try.func78, Try.ntmps78
 go_wp2_with (first | (refine gc_ (some 8) Try.func77 #[.int .i64 (l0.length : Int)] ?_; (with_reducible refine (spec_sgZero.calls k (l0.length : Int) t101 _ A2.out).mono ?_); rintro e w3 ⟨v102, rfl, ho0, hb⟩; refine ⟨_, rfl, ?_⟩; have HO103 := am_ (Kd.S_lower ho0 (below_size tc0_)); replace HB := am_ (below_step tc0_ hb); (try clear hb ho0)))
 go_loopg [11] k (fun kq v11 w' => ∃ (x3_1 : Tb_) (x11_1 : Int), v11 = .int .i64 x11_1 ∧ Aside0 (spec_sgFrom.l0 kq l0 x3_1 (l0.length : Int) x11_1 = some r) ∧ Aside0 (kq ≤ k) ∧ Aside0 (Kd.S (Kd.slice 3 (Kd.int .i64)) 32 w' w.heap.size (fun _ => True) v102 x3_1) ∧ Aside0 (Below w.heap.size w w'))
 case atStart => exact ⟨(t101), (0), tc8_, H', ⟨Nat.le_refl _⟩, ⟨tc24_⟩, ⟨tc0_⟩⟩
 case round =>
  clear H'; (try clear p2); obtain ⟨x3_1, x11_1, rfl, HA, HK1, HO_3, HB⟩ := hrel
  cases gk with
  | zero => exact absurd HA.out (by simp [spec_sgFrom.l0])
  | succ k1 =>
   have H := HA.out; clear HA; simp only [spec_sgFrom.l0] at H
   replace H := sp_ H; obtain ⟨c4b0, H⟩ | ⟨c4b0, H⟩ := H
   ·have H' := am_ H; clear H; go_wp2
    go_loopg [16] k1 (fun kq v16 w' => ∃ (x3_2 : Tb_) (x16_2 : Int), v16 = .int .i64 x16_2 ∧ Aside0 (spec_sgFrom.l1 kq l0 x3_2 x11_1 (l0.length : Int) x11_1 (l0.length : Int) x16_2 = some r) ∧ Aside0 (kq ≤ k1) ∧ Aside0 (Kd.S (Kd.slice 3 (Kd.int .i64)) 32 w' w.heap.size (fun _ => True) v102 x3_2) ∧ Aside0 (Below w.heap.size w w'))
    case atStart => exact ⟨(x3_1), (0), tc8_, H', ⟨Nat.le_refl _⟩, ⟨tc29_⟩, ⟨tc0_⟩⟩
    case round =>
     clear H'; (try clear p2); (try clear c4); (try clear c4b0); (try clear p2); obtain ⟨x3_2, x16_2, rfl, HA, HK2, HO_3, HB⟩ := hrel
     cases gk with
     | zero => exact absurd HA.out (by simp [spec_sgFrom.l1])
     | succ k2 =>
      have H := HA.out; clear HA; simp only [spec_sgFrom.l1] at H
      replace H := sp_ H; obtain ⟨c5b0, H⟩ | ⟨c5b0, H⟩ := H
      ·replace H := ps_ H; obtain ⟨c6b0, H⟩ := H; replace H := ps_ H; obtain ⟨c7b0, H⟩ := H; replace H := bd_ H; obtain ⟨t105, A8, H⟩ := H; (try dsimp only at H); replace H := bd_ H; obtain ⟨t106, A9, H⟩ := H; (try dsimp only at H); replace H := bd_ H; obtain ⟨t107, A10, H⟩ := H; (try dsimp only at H); replace H := bd_ H; obtain ⟨t108, A11, H⟩ := H; (try dsimp only at H); replace H := ps_ H; obtain ⟨c12b0, H⟩ := H; replace H := ps_ H; obtain ⟨c13b0, H⟩ := H; obtain ⟨y109, hy109⟩ : ∃ y_ : List Int, y_ = ((rd_L3 x3_2 x11_1).set (x16_2 : Int).toNat (wrap64 ((wrap64 ((wrap64 (t105 - t106)) - t107)) + t108))) := ⟨_, rfl⟩; replace H : (spec_sgFrom.l1 k2 l0 (x3_2.set (x11_1 : Int).toNat y109) x11_1 (l0.length : Int) x11_1 (l0.length : Int) (wrap64 (x16_2 + 1))) = some r := tc48_; have Ny109 := am_ hy109; clear hy109; obtain ⟨y111, hy111⟩ : ∃ y_ : Tb_, y_ = (x3_2.set (x11_1 : Int).toNat y109) := ⟨_, rfl⟩; replace H : (spec_sgFrom.l1 k2 l0 y111 x11_1 (l0.length : Int) x11_1 (l0.length : Int) (wrap64 (x16_2 + 1))) = some r := tc49_; have Ny111 := am_ hy111; clear hy111; have H' := am_ H; clear H
       try go_wp2
       replace HO_3 := am_ (Kd.S_drew HO_3.out); replace HB := am_ (below_drew1 HB.out); obtain ⟨Ao16, co16, eo16⟩ := Kd.S_slice HO_3.out; (first | subst eo16 | (injection eo16 with f1_ f2_ f3_; have f4_ := f1_.symm; have f5_ := f3_.symm; clear f1_ f2_ f3_; subst f4_; subst f5_)); have p104 : 0 ≤ (x11_1 : Int) := od_; have q104 : x11_1 < (x3_2.length : Int) := od_; obtain ⟨ad104, A104_0, c104_0, e104, hx104_0, hl104_0, hi104_0⟩ := at_L3 (Kd.S_reads' HO_3.out).2.2 x11_1 p104 q104; cases e104; obtain ⟨ce104, hce104, hMe104, hcc104⟩ := Kd.S_get HO_3.out [] x11_1 p104 (by first | exact q104 | exact od_ | (have e_ := (Kd.S_reads' HO_3.out).1; omega)); obtain ⟨ve104_0, rfl, ge104_0⟩ := hMe104; have hv104_0 := hcc104 0 _ rfl; rw [Nat.add_zero, show ((Kd.slice 3 (Kd.int .i64))).sz = 1 from rfl, Nat.mul_one] at hv104_0; replace hv104_0 := Option.some.inj (hv104_0.symm.trans hx104_0); rw [hv104_0] at ge104_0; have HL104_0 := am_ (show Kd.R (Kd.int .i64) 3 _ _ _ _ (rd_L3 x3_2 x11_1) from ge104_0); clear hv104_0 ge104_0; have HX104_0 := am_ hx104_0; clear hcc104 hce104; have HR104_0 := am_ hi104_0; have HC104_0 := am_ hl104_0; clear hi104_0 hl104_0; replace p104 := eq_true p104; replace q104 := eq_true q104; refine start_ (n := 30) (S := fun w' => w'.cell? (ad104.add (x11_1).toNat) = some (.slice A104_0 (rd_L3 x3_2 x11_1).length c104_0)) (ds := [29]) #[F,F,F,F,F,F,F,F,F,F,F,F,F,F,F,F,F,F,F,F,F,F,F,F,F,F,F,F,F,F] (by kernel_rfl) rfl rfl (hx104_0) (fun hHeld => ?_); refine with_tabW spec_sgFrom.tab8 spec_sgFrom.bits8 (fun HT_ HW_ => ?_); generalize wr.drew = w15 at HO_3 HB HL104_0 HR104_0 HX104_0 hx104_0 hHeld ⊢; refine pure_ (i := 0) (N := some 19) #[T,F,F,F,F,F,F,F,F,F,F,F,F,F,F,F,F,F,F,F,F,F,F,F,F,F,F,F,F,F] rfl rfl an_ hq_ yi_ nm_ ?_; refine pure_ (i := 1) (N := some 20) #[T,T,F,F,F,F,F,F,F,F,F,F,F,F,F,F,F,F,F,F,F,F,F,F,F,F,F,F,F,F] rfl rfl an_ hq_ yi_ nm_ ?_; refine pure_ (i := 2) (N := some 21) #[T,T,T,F,F,F,F,F,F,F,F,F,F,F,F,F,F,F,F,F,F,F,F,F,F,F,F,F,F,F] rfl rfl an_ hq_ yi_ nm_ ?_; refine pure_ (i := 4) (N := some 23) #[T,T,T,F,T,F,F,F,F,F,F,F,F,F,F,F,F,F,F,F,F,F,F,F,F,F,F,F,F,F] rfl rfl an_ hq_ yi_ nm_ ?_; refine pure_ (i := 5) (N := some 24) #[T,T,T,F,T,T,F,F,F,F,F,F,F,F,F,F,F,F,F,F,F,F,F,F,F,F,F,F,F,F] rfl rfl an_ hq_ yi_ nm_ ?_; refine pure_ (i := 6) (N := some 25) #[T,T,T,F,T,T,T,F,F,F,F,F,F,F,F,F,F,F,F,F,F,F,F,F,F,F,F,F,F,F] rfl rfl an_ hq_ yi_ nm_ ?_; refine pure_ (i := 7) (N := some 26) #[T,T,T,F,T,T,T,T,F,F,F,F,F,F,F,F,F,F,F,F,F,F,F,F,F,F,F,F,F,F] rfl rfl an_ hq_ yi_ nm_ ?_; refine pure_ (i := 9) (N := some 28) #[T,T,T,F,T,T,T,T,F,T,F,F,F,F,F,F,F,F,F,F,F,F,F,F,F,F,F,F,F,F] rfl rfl an_ hq_ yi_ nm_ ?_; refine pure_ (i := 10) (N := some 29) #[T,T,T,F,T,T,T,T,F,T,T,F,F,F,F,F,F,F,F,F,F,F,F,F,F,F,F,F,F,F] rfl rfl an_ hq_ yi_ nm_ ?_; refine pure_ (i := 11) (N := some 30) #[T,T,T,F,T,T,T,T,F,T,T,T,F,F,F,F,F,F,F,F,F,F,F,F,F,F,F,F,F,F] rfl rfl an_ hq_ yi_ nm_ ?_; refine pure_ (i := 12) (N := some 31) #[T,T,T,F,T,T,T,T,F,T,T,T,T,F,F,F,F,F,F,F,F,F,F,F,F,F,F,F,F,F] rfl rfl an_ hq_ yi_ nm_ ?_; refine pure_ (i := 15) (N := some 34) #[T,T,T,F,T,T,T,T,F,T,T,T,T,F,F,T,F,F,F,F,F,F,F,F,F,F,F,F,F,F] rfl rfl an_ hq_ yi_ nm_ ?_; refine pure_ (i := 16) (N := some 35) #[T,T,T,F,T,T,T,T,F,T,T,T,T,F,F,T,T,F,F,F,F,F,F,F,F,F,F,F,F,F] rfl rfl an_ hq_ yi_ nm_ ?_; refine pure_ (i := 17) (N := some 36) #[T,T,T,F,T,T,T,T,F,T,T,T,T,F,F,T,T,T,F,F,F,F,F,F,F,F,F,F,F,F] rfl rfl an_ hq_ yi_ nm_ ?_; refine pure_ (i := 18) (N := some 37) #[T,T,T,F,T,T,T,T,F,T,T,T,T,F,F,T,T,T,T,F,F,F,F,F,F,F,F,F,F,F] rfl rfl an_ hq_ yi_ nm_ ?_; refine pure_ (i := 21) (N := some 40) #[T,T,T,F,T,T,T,T,F,T,T,T,T,F,F,T,T,T,T,F,F,T,F,F,F,F,F,F,F,F] rfl rfl an_ hq_ yi_ nm_ ?_; refine pure_ (i := 22) (N := some 41) #[T,T,T,F,T,T,T,T,F,T,T,T,T,F,F,T,T,T,T,F,F,T,T,F,F,F,F,F,F,F] rfl rfl an_ hq_ yi_ nm_ ?_; refine pure_ (i := 23) (N := some 42) #[T,T,T,F,T,T,T,T,F,T,T,T,T,F,F,T,T,T,T,F,F,T,T,T,F,F,F,F,F,F] rfl rfl an_ hq_ yi_ nm_ ?_; refine pure_ (i := 24) (N := some 43) #[T,T,T,F,T,T,T,T,F,T,T,T,T,F,F,T,T,T,T,F,F,T,T,T,T,F,F,F,F,F] rfl rfl an_ hq_ yi_ nm_ ?_; refine pure_ (i := 25) (N := some 44) #[T,T,T,F,T,T,T,T,F,T,T,T,T,F,F,T,T,T,T,F,F,T,T,T,T,T,F,F,F,F] rfl rfl an_ hq_ yi_ nm_ ?_; refine take_ (i := 3) (N := some 22) #[T,T,T,T,T,T,T,T,F,T,T,T,T,F,F,T,T,T,T,F,F,T,T,T,T,T,F,F,F,F] rfl rfl av_ hq_ yj1_ hHeld nm_ ?_; refine one_ (i := 8) (N := some 27) #[T,T,T,T,T,T,T,T,T,T,T,T,T,F,F,T,T,T,T,F,F,T,T,T,T,T,F,F,F,F] rfl rfl (one_of HT_.out (by kernel_rfl)) (by decide) (fun K hK => ?_); refine goes_ Try.func69 (by kernel_rfl) rfl #[.slice A0 l0.length c0, .int .i64 x11_1, .int .i64 x16_2] (by rfl) rfl rfl tc1_ ?_
       with_reducible refine (spec_sgAt.calls _ _ l0 x11_1 x16_2 t105 _ ?side1 ?side2 A8.out).mono ?_
       (case side1 => exact tc20_)
       (case side2 => exact HC0.out)
       rintro e w' ⟨rfl, ⟨nd, rfl⟩⟩; refine ⟨_, rfl, ?_⟩; refine hK.out _ _ (hHeld) (fun hHeld => ?_); clear hK K; refine norm_ (a' := ?_) ?_ ?_; rotate_left
       ·show Act.put _ (some 27) _ = _
        simp only [Act.put, List.setIfInBounds_toArray, List.set_cons_zero, List.set_cons_succ, i64_w, i32_w]
        rfl
       refine one_ (i := 13) (N := some 32) #[T,T,T,T,T,T,T,T,T,T,T,T,T,T,F,T,T,T,T,F,F,T,T,T,T,T,F,F,F,F] rfl rfl (one_of HT_.out (by kernel_rfl)) (by decide) (fun K hK => ?_); refine goes_ Try.func69 (by kernel_rfl) rfl #[.slice A0 l0.length c0, .int .i64 (wrap64 (x11_1 - 1)), .int .i64 x16_2] (by rfl) rfl rfl tc1_ ?_
       with_reducible refine (spec_sgAt.calls _ _ l0 (wrap64 (x11_1 - 1)) x16_2 t106 _ ?side1 ?side2 A9.out).mono ?_
       (case side1 => exact tc19_)
       (case side2 => exact HC0.out)
       rintro e w' ⟨rfl, ⟨nd, rfl⟩⟩; refine ⟨_, rfl, ?_⟩; refine hK.out _ _ (hHeld) (fun hHeld => ?_); clear hK K; refine norm_ (a' := ?_) ?_ ?_; rotate_left
       ·show Act.put _ (some 32) _ = _
        simp only [Act.put, List.setIfInBounds_toArray, List.set_cons_zero, List.set_cons_succ, i64_w, i32_w]
        rfl
       refine pure_ (i := 14) (N := some 33) #[T,T,T,T,T,T,T,T,T,T,T,T,T,T,T,T,T,T,T,F,F,T,T,T,T,T,F,F,F,F] rfl rfl an_ hq_ yi_ nm_ ?_; refine one_ (i := 19) (N := some 38) #[T,T,T,T,T,T,T,T,T,T,T,T,T,T,T,T,T,T,T,T,F,T,T,T,T,T,F,F,F,F] rfl rfl (one_of HT_.out (by kernel_rfl)) (by decide) (fun K hK => ?_); refine goes_ Try.func69 (by kernel_rfl) rfl #[.slice A0 l0.length c0, .int .i64 x11_1, .int .i64 (wrap64 (x16_2 - 1))] (by rfl) rfl rfl tc1_ ?_
       with_reducible refine (spec_sgAt.calls _ _ l0 x11_1 (wrap64 (x16_2 - 1)) t107 _ ?side1 ?side2 A10.out).mono ?_
       (case side1 => exact tc19_)
       (case side2 => exact HC0.out)
       rintro e w' ⟨rfl, ⟨nd, rfl⟩⟩; refine ⟨_, rfl, ?_⟩; refine hK.out _ _ (hHeld) (fun hHeld => ?_); clear hK K; refine norm_ (a' := ?_) ?_ ?_; rotate_left
       ·show Act.put _ (some 38) _ = _
        simp only [Act.put, List.setIfInBounds_toArray, List.set_cons_zero, List.set_cons_succ, i64_w, i32_w]
        rfl
       refine pure_ (i := 20) (N := some 39) #[T,T,T,T,T,T,T,T,T,T,T,T,T,T,T,T,T,T,T,T,T,T,T,T,T,T,F,F,F,F] rfl rfl an_ hq_ yi_ nm_ ?_; refine one_ (i := 26) (N := some 45) #[T,T,T,T,T,T,T,T,T,T,T,T,T,T,T,T,T,T,T,T,T,T,T,T,T,T,T,F,F,F] rfl rfl (one_of HT_.out (by kernel_rfl)) (by decide) (fun K hK => ?_); refine goes_ Try.func69 (by kernel_rfl) rfl #[.slice A0 l0.length c0, .int .i64 (wrap64 (x11_1 - 1)), .int .i64 (wrap64 (x16_2 - 1))] (by rfl) rfl rfl tc1_ ?_
       with_reducible refine (spec_sgAt.calls _ _ l0 (wrap64 (x11_1 - 1)) (wrap64 (x16_2 - 1)) t108 _ ?side1 ?side2 A11.out).mono ?_
       (case side1 => exact tc19_)
       (case side2 => exact HC0.out)
       rintro e w' ⟨rfl, ⟨nd, rfl⟩⟩; refine ⟨_, rfl, ?_⟩; have p14 : 0 ≤ (x16_2 : Int) := od_; have q14 : (x16_2 : Int) < (((rd_L3 x3_2 x11_1).length : Int) : Int) := od_; obtain ⟨go14, co14, eo14, gb14, gl14, cl14, HG14⟩ := Kd.R_form HL104_0.out (by omega); (first | cases eo14 | (injection eo14 with ea_ en_ ec_; (first | subst ea_ | (injection ea_ with ea_; subst ea_)); subst ec_; clear en_)); have GB14 := am_ gb14; have GG14 := am_ HG14; clear gb14 gl14 HG14; obtain ⟨hx14_0, hf14_0⟩ := Kd.R_celln 0 HL104_0.out (x16_2 : Int) p14 q14; replace p14 := eq_true p14; replace q14 := eq_true q14; have hq17 : (x11_1 : Int) < (x3_2.length : Int) := (by have h_ : (x11_1 : Int) < ((x3_2.length : Int) : Int) := od_; first | exact h_ | (have e_ := (Kd.S_reads' HO_3.out).1; omega) | simpa only [List.length_set, List.length_set] using h_); obtain ⟨oki17, ce17, hcl17, hM17, hcc17, hok17, hbk17⟩ := Kd.S_borrow HO_3.out [] (x11_1 : Int) (od_) hq17; obtain ⟨ve17_0, rfl, ge17_0⟩ := hM17; have hv17 := hcc17 0 _ rfl; rw [Nat.add_zero, show ((Kd.slice 3 (Kd.int .i64))).sz = 1 from rfl, Nat.mul_one] at hv17; replace hv17 := Option.some.inj (hv17.symm.trans HX104_0.out); subst hv17; clear hcc17 hcl17; replace ge17_0 := (show Kd.R (Kd.int .i64) 3 _ _ _ _ (rd_L3 x3_2 x11_1) from ge17_0); have HP17 := Kd.R_putg ge17_0 (x16_2 : Int) (wrap64 ((wrap64 ((wrap64 (t105 - t106)) - t107)) + t108)); rw [← Ny109.out] at HP17; have HS17 := hbk17 HP17.2 (fun k_ e_ => by injection e_ with e_; subst e_; exact ge17_0.1 _ rfl) (x' := y109) (Kd.M_row HP17.1); rw [← Ny111.out] at HS17; have HQ17 := am_ HS17; clear HP17 HS17 hbk17 hok17; refine hK.out _ _ (hHeld) (fun hHeld => ?_); clear hK K; refine norm_ (a' := ?_) ?_ ?_; rotate_left
       ·show Act.put _ (some 45) _ = _
        simp only [Act.put, List.setIfInBounds_toArray, List.set_cons_zero, List.set_cons_succ, i64_w, i32_w]
        rfl
       refine pure_ (i := 27) (N := some 46) #[T,T,T,T,T,T,T,T,T,T,T,T,T,T,T,T,T,T,T,T,T,T,T,T,T,T,T,T,F,F] rfl rfl an_ hq_ yi_ nm_ ?_; refine pure_ (i := 28) (N := some 47) #[T,T,T,T,T,T,T,T,T,T,T,T,T,T,T,T,T,T,T,T,T,T,T,T,T,T,T,T,T,F] rfl rfl an_ hq_ yi_ nm_ ?_; refine last_ (i := 29) (N := none) #[T,T,T,T,T,T,T,T,T,T,T,T,T,T,T,T,T,T,T,T,T,T,T,T,T,T,T,T,T,T] rfl rfl (one_of HT_.out (by kernel_rfl)) (by decide) (fun K hK => ?_); refine skip_ (w1 := ?_) (by rfl) rfl ?_ ?_; rotate_left
       ·go_simp
        rfl
       refine hK.out _ _ ?_; clear hK K; refine done_ (done_of HT_.out (by kernel_rfl)) ?_
       try go_wp2
       go_roundg k2
       case measure => have := HK1.out; have := HK2.out; omega
       case rel => exact ⟨(y111), (wrap64 (x16_2 + 1)), tc8_, H', ⟨tc39_⟩, ⟨(by (with_reducible repeat (first | apply Kd.S_alloc | apply Kd.S_drewN | apply Kd.S_drew)); exact HQ17.out)⟩, ⟨(by repeat (first | (with_reducible first | exact HB.out | apply below_alloc | apply pw_below_drewN | apply below_drew1 | refine below_set ?_ GB14.out) | exact HB.out))⟩⟩
      ·have H' := am_ H; clear H; go_wp2
       go_roundg k2
       case measure => have := HK1.out; have := HK2.out; omega
       case rel => exact ⟨(x3_2), (wrap64 (x11_1 + 1)), tc8_, H', ⟨tc39_⟩, ⟨tc29_⟩, ⟨tc0_⟩⟩
   ·obtain rfl := Option.some.inj H; go_wp2
    go_ret
    exact ⟨_, tc9_, tc29_, tc0_⟩

/-! ### spec_l1Least: function 79 -/
def spec_l1Least.f (a0 : Int) (a1 : Int) : Option (Int) := if a0 < a1 then (some a0) else (some a1)
theorem spec_l1Least.calls (a0 : Int) (a1 : Int) (r : Int) (w : World) (h : spec_l1Least.f a0 a1 = some r) :
  Calls Try.prog 79 #[.int .i64 a0, .int .i64 a1] w fun e w' => e = .returned (.int .i64 r) ∧ Drawn0 w w' := by
 (try unfold spec_l1Least.f at h); have H := h; clear h
 replace H := sp_ H; obtain ⟨c3b0, H⟩ | ⟨c3b0, H⟩ := H
 ·obtain rfl := Option.some.inj H; go_enter Try.func79, Try.ntmps79; go_wp2
  go_ret
  exact ⟨tc8_, tc12_⟩
 ·obtain rfl := Option.some.inj H; go_enter Try.func79, Try.ntmps79; go_wp2
  go_ret
  exact ⟨tc8_, tc12_⟩

/-! ### spec_l1Cur_sure: function 51 -/
mutual
def spec_l1Cur_sure.l0 : Nat → Int → Tb_ → Int → Int → List Int → Int → Int → Option (Tb_ × Int × Int)
 | 0, _, _, _, _, _, _, _ => none
 | k + 1, x1, x5, x15, x16, x1000, x1001, x1002 => if x16 < x15 then (spec_l1Cur_sure.l1 k x1 x5 x16 x15 x16 (x5.length : Int) 0 x1000 x1001 x1002) else ((spec_l1Cur_pick.f x1000 x1001 x1002 (wrap64 ((wrap64 (3 * x1)) * x1))).bind fun bt109 => (spec_l1Cur_sure.l2 k x1 x5 bt109.1 x1000 bt109.2.1 bt109.2.2))
def spec_l1Cur_sure.l1 : Nat → Int → Tb_ → Int → Int → Int → Int → Int → List Int → Int → Int → Option (Tb_ × Int × Int)
 | 0, _, _, _, _, _, _, _, _, _, _ => none
 | k + 1, x1, x5, x6, x15, x16, x20, x21, x1000, x1001, x1002 => if x21 < x20 then (if 0 ≤ x6 then (if x6 < (x5.length : Int) then ((spec_l1Least.f x6 x21).bind fun t105 => (if 0 ≤ x21 then (if x21 < ((rd_L3 x5 x6).length : Int) then (spec_l1Cur_sure.l1 k x1 (x5.set (x6 : Int).toNat ((rd_L3 x5 x6).set (x21 : Int).toNat (wrap64 (t105 + 1)))) x6 x15 x16 x20 (wrap64 (x21 + 1)) x1000 x1001 x1002) else (none)) else (none))) else (none)) else (none)) else (spec_l1Cur_sure.l0 k x1 x5 x15 (wrap64 (x16 + 1)) x1000 x1001 x1002)
def spec_l1Cur_sure.l2 : Nat → Int → Tb_ → Int → List Int → Int → Int → Option (Tb_ × Int × Int)
 | 0, _, _, _, _, _, _ => none
 | k + 1, x1, x5, x8, x1000, x1001, x1002 => if x8 > 0 then (spec_l1Cur_sure.j3 k x1 x5 x8 (decide (x1 > 1)) x1000 x1001 x1002) else (spec_l1Cur_sure.j3 k x1 x5 x8 false x1000 x1001 x1002)
def spec_l1Cur_sure.j3 : Nat → Int → Tb_ → Int → Bool → List Int → Int → Int → Option (Tb_ × Int × Int)
 | 0, _, _, _, _, _, _, _ => none
 | k + 1, x1, x5, x8, x47, x1000, x1001, x1002 => if x47 = true then ((spec_l1Cur_pick.f x1000 x1001 x1002 (wrap64 (x1 - 1))).bind fun bt115 => ((spec_l1Cur_pick.f x1000 bt115.2.1 bt115.2.2 (wrap64 (x1 - 1))).bind fun bt118 => ((spec_l1Cur_pick.f x1000 bt118.2.1 bt118.2.2 2).bind fun bt121 => (if 0 ≤ bt115.1 then (if bt115.1 < (x5.length : Int) then (if 0 ≤ bt118.1 then (if bt118.1 < ((rd_L3 x5 bt115.1).length : Int) then ((some (x5.set (bt115.1 : Int).toNat ((rd_L3 x5 bt115.1).set (bt118.1 : Int).toNat (wrap64 ((rd (rd_L3 x5 bt115.1) bt118.1) + (wrap64 ((wrap64 (2 * bt121.1)) - 1))))) : Tb_)).bind fun y128 => ((spec_sgFrom.f k y128).bind fun t129 => ((spec_sgGood.f k t129).bind fun t132 => (if t132 = true then (spec_l1Cur_sure.l2 k x1 y128 (wrap64 (x8 - 1)) x1000 bt121.2.1 bt121.2.2) else (if bt118.1 < ((rd_L3 y128 bt115.1).length : Int) then (spec_l1Cur_sure.l2 k x1 (y128.set (bt115.1 : Int).toNat ((rd_L3 y128 bt115.1).set (bt118.1 : Int).toNat (wrap64 ((rd (rd_L3 y128 bt115.1) bt118.1) - (wrap64 ((wrap64 (2 * bt121.1)) - 1)))))) (wrap64 (x8 - 1)) x1000 bt121.2.1 bt121.2.2) else (none)))))) else (none)) else (none)) else (none)) else (none))))) else ((spec_sgFrom.f k x5).bind fun t112 => (some (t112, x1001, x1002)))
end
def spec_l1Cur_sure.f (k : Nat) (s0_0 : List Int) (s0_1 : Int) (s0_2 : Int) (a1 : Int) : Option (Tb_ × Int × Int) := (spec_sgZero.f k a1).bind fun t101 => (spec_l1Cur_sure.l0 k a1 t101 (t101.length : Int) 0 s0_0 s0_1 s0_2)
def spec_l1Cur_sure.T8 : Bool × List (List Nat × List Nat) := (true, [([], []), ([], []), ([0, 1], [0, 1]), ([2], [2]), ([], []), ([], []), ([], []), ([5, 6], [5, 6]), ([7], [7]), ([3, 4, 0, 1, 2, 3, 4, 5, 6, 7, 8], [3, 4]), ([9, 8, 7, 0, 1, 2, 3, 4, 5, 6, 7, 8], [8, 9])])
def spec_l1Cur_sure.B8 : List Nat := [0, 0, 3, 7, 0, 0, 0, 96, 224, 511, 1023]
theorem spec_l1Cur_sure.tab8 : rtab .any (opsOf Try.f51 8) = spec_l1Cur_sure.T8 := by kernel_rfl
theorem spec_l1Cur_sure.bits8 : waitsOk spec_l1Cur_sure.T8.2 spec_l1Cur_sure.B8 = true := by kernel_rfl
theorem spec_l1Cur_sure.calls (k : Nat) (g : Nat) (s0_0 : List Int) (s0_1 : Int) (s0_2 : Int) (a1 : Int) (r1 : Tb_) (r2 : Int) (r3 : Int) (w0 w : World) (hI : IsS41 w0 w g s0_0 s0_1 s0_2) (hB : Below w0.heap.size w0 w) (h : spec_l1Cur_sure.f k s0_0 s0_1 s0_2 a1 = some (r1, r2, r3)) :
  Calls Try.prog 51 #[.pointer (some ⟨g, 0, none⟩), .int .i64 a1] w fun e w' => ∃ v0_ : Value, e = .returned (v0_) ∧ Kd.S (Kd.slice 3 (Kd.int .i64)) 32 w' w.heap.size (fun _ => True) v0_ r1 ∧ IsS41 w0 w' g s0_0 r2 r3 ∧ Below w0.heap.size w0 w' ∧ KeepBut w w' g none := by
 have HI0 := am_ hI; have HK := am_ (KeepBut.refl w g none); have HL := am_ hB.size; clear hI; have HW0 := am_ hB.size; have HB := am_ hB; clear hB; (try unfold spec_l1Cur_sure.f at h); have H := h; clear h; replace H := bd_ H; obtain ⟨t101, A3, H⟩ := H; (try dsimp only at H); have H' := am_ H; clear H; go_enter Try.func51, Try.ntmps51
 go_wp2_with (first | (refine gc_ (some 13) Try.func77 #[.int .i64 a1] ?_; (with_reducible refine (spec_sgZero.calls k a1 t101 _ A3.out).mono ?_); rintro e w4 ⟨v102, rfl, ho0, hb⟩; refine ⟨_, rfl, ?_⟩; have HO103 := am_ (Kd.S_lower ho0 (keep_size (w := w) (g := g) (row := none) tc4_)); replace HK := am_ (KeepBut.trans tc4_ (KeepBut.of_below hb g none) (.inl rfl)); replace HB := am_ (below_step tc5_ hb); replace HI0 := am_ (IsS41.below tc3_ hb); (try clear hb ho0); obtain ⟨Ao5, co5, eo5⟩ := Kd.S_slice HO103.out; subst eo5))
 go_loopg [16] k (fun kq v16 w' => ∃ (x5_1 : Tb_) (x16_1 : Int), v16 = .int .i64 x16_1 ∧ Aside0 (spec_l1Cur_sure.l0 kq a1 x5_1 (t101.length : Int) x16_1 s0_0 s0_1 s0_2 = some (r1, r2, r3)) ∧ Aside0 (kq ≤ k) ∧ Aside0 (Kd.S (Kd.slice 3 (Kd.int .i64)) 32 w' w.heap.size (fun _ => True) (.slice Ao5 t101.length co5) x5_1) ∧ Aside0 (IsS41 w0 w' g s0_0 s0_1 s0_2) ∧ Aside0 (KeepBut w w' g none) ∧ Aside0 (Below w0.heap.size w0 w'))
 case atStart => exact ⟨(t101), (0), tc8_, H', ⟨Nat.le_refl _⟩, ⟨tc24_⟩, ⟨tc3_⟩, ⟨tc4_⟩, ⟨tc5_⟩⟩
 case round =>
  clear H'; (try clear p2); (try clear c5); obtain ⟨x5_1, x16_1, rfl, HA, HK1, HO_5, HI0, HK, HB⟩ := hrel; have hl5_1 := (Kd.S_reads' HO_5.out).1; rw [hl5_1] at HO_5; (try simp only [hl5_1])
  cases gk with
  | zero => exact absurd HA.out (by simp [spec_l1Cur_sure.l0])
  | succ k1 =>
   have H := HA.out; clear HA; simp only [spec_l1Cur_sure.l0] at H
   replace H := sp_ H; obtain ⟨c6b0, H⟩ | ⟨c6b0, H⟩ := H
   ·(try simp only [hl5_1] at c6b0); have H' := am_ H; clear H; go_wp2
    go_loopg [21] k1 (fun kq v21 w' => ∃ (x5_2 : Tb_) (x21_2 : Int), v21 = .int .i64 x21_2 ∧ Aside0 (spec_l1Cur_sure.l1 kq a1 x5_2 x16_1 (t101.length : Int) x16_1 (x5_1.length : Int) x21_2 s0_0 s0_1 s0_2 = some (r1, r2, r3)) ∧ Aside0 (kq ≤ k1) ∧ Aside0 (Kd.S (Kd.slice 3 (Kd.int .i64)) 32 w' w.heap.size (fun _ => True) (.slice Ao5 x5_1.length co5) x5_2) ∧ Aside0 (IsS41 w0 w' g s0_0 s0_1 s0_2) ∧ Aside0 (KeepBut w w' g none) ∧ Aside0 (Below w0.heap.size w0 w'))
    case atStart => exact ⟨(x5_1), (0), tc8_, H', ⟨Nat.le_refl _⟩, ⟨tc130_⟩, ⟨tc3_⟩, ⟨tc4_⟩, ⟨tc5_⟩⟩
    case round =>
     clear H'; (try clear p2); (try clear c5); (try clear c6); (try clear c6b0); (try clear p2); obtain ⟨x5_2, x21_2, rfl, HA, HK2, HO_5, HI0, HK, HB⟩ := hrel; have hl5_2 := (Kd.S_reads' HO_5.out).1; rw [hl5_2] at HO_5; (try simp only [hl5_2])
     cases gk with
     | zero => exact absurd HA.out (by simp [spec_l1Cur_sure.l1])
     | succ k2 =>
      have H := HA.out; clear HA; simp only [spec_l1Cur_sure.l1] at H
      replace H := sp_ H; obtain ⟨c7b0, H⟩ | ⟨c7b0, H⟩ := H
      ·(try simp only [hl5_1, hl5_2] at c7b0); replace H := ps_ H; obtain ⟨c8b0, H⟩ := H; replace H := ps_ H; obtain ⟨c9b0, H⟩ := H; (try simp only [hl5_1, hl5_2] at c9b0); replace H := bd_ H; obtain ⟨t105, A10, H⟩ := H; (try dsimp only at H); replace H := ps_ H; obtain ⟨c11b0, H⟩ := H; replace H := ps_ H; obtain ⟨c12b0, H⟩ := H; (try simp only [hl5_1, hl5_2] at c12b0); obtain ⟨y106, hy106⟩ : ∃ y_ : List Int, y_ = ((rd_L3 x5_2 x16_1).set (x21_2 : Int).toNat (wrap64 (t105 + 1))) := ⟨_, rfl⟩; replace H : (spec_l1Cur_sure.l1 k2 a1 (x5_2.set (x16_1 : Int).toNat y106) x16_1 (t101.length : Int) x16_1 (x5_1.length : Int) (wrap64 (x21_2 + 1)) s0_0 s0_1 s0_2) = some (r1, r2, r3) := tc47_; have Ny106 := am_ hy106; clear hy106; obtain ⟨y108, hy108⟩ : ∃ y_ : Tb_, y_ = (x5_2.set (x16_1 : Int).toNat y106) := ⟨_, rfl⟩; replace H : (spec_l1Cur_sure.l1 k2 a1 y108 x16_1 (t101.length : Int) x16_1 (x5_1.length : Int) (wrap64 (x21_2 + 1)) s0_0 s0_1 s0_2) = some (r1, r2, r3) := tc50_; have Ny108 := am_ hy108; clear hy108; have H' := am_ H; clear H
       try go_wp2
       replace HO_5 := am_ (Kd.S_drew HO_5.out); replace HI0 := am_ (IsS41.drew HI0.out); replace HK := am_ (keep_drew HK.out); replace HB := am_ (below_drew1 HB.out); have p104 : 0 ≤ (x16_1 : Int) := od_; have q104 : x16_1 < (x5_2.length : Int) := od_; obtain ⟨ad104, A104_0, c104_0, e104, hx104_0, hl104_0, hi104_0⟩ := at_L3 (Kd.S_reads' HO_5.out).2.2 x16_1 p104 q104; cases e104; obtain ⟨ce104, hce104, hMe104, hcc104⟩ := Kd.S_get HO_5.out [] x16_1 p104 (by first | exact q104 | exact od_ | (have e_ := (Kd.S_reads' HO_5.out).1; omega)); obtain ⟨ve104_0, rfl, ge104_0⟩ := hMe104; have hv104_0 := hcc104 0 _ rfl; rw [Nat.add_zero, show ((Kd.slice 3 (Kd.int .i64))).sz = 1 from rfl, Nat.mul_one] at hv104_0; replace hv104_0 := Option.some.inj (hv104_0.symm.trans hx104_0); rw [hv104_0] at ge104_0; have HL104_0 := am_ (show Kd.R (Kd.int .i64) 3 _ _ _ _ (rd_L3 x5_2 x16_1) from ge104_0); clear hv104_0 ge104_0; have HX104_0 := am_ hx104_0; clear hcc104 hce104; have HR104_0 := am_ hi104_0; have HC104_0 := am_ hl104_0; clear hi104_0 hl104_0; replace p104 := eq_true p104; replace q104 := eq_true q104; refine start_ (n := 11) (S := fun w' => w'.cell? (ad104.add (x16_1).toNat) = some (.slice A104_0 (rd_L3 x5_2 x16_1).length c104_0)) (ds := [10]) #[F,F,F,F,F,F,F,F,F,F,F] (by kernel_rfl) rfl rfl (hx104_0) (fun hHeld => ?_); refine with_tabW spec_l1Cur_sure.tab8 spec_l1Cur_sure.bits8 (fun HT_ HW_ => ?_); generalize wr.drew = w14 at HO_5 HI0 HK HB HL104_0 HR104_0 HX104_0 hx104_0 hHeld ⊢; refine pure_ (i := 0) (N := some 24) #[T,F,F,F,F,F,F,F,F,F,F] rfl rfl an_ hq_ yi_ nm_ ?_; refine pure_ (i := 1) (N := some 25) #[T,T,F,F,F,F,F,F,F,F,F] rfl rfl an_ hq_ yi_ nm_ ?_; refine pure_ (i := 2) (N := some 26) #[T,T,T,F,F,F,F,F,F,F,F] rfl rfl an_ hq_ yi_ nm_ ?_; refine pure_ (i := 4) (N := some 28) #[T,T,T,F,T,F,F,F,F,F,F] rfl rfl an_ hq_ yi_ nm_ ?_; refine pure_ (i := 5) (N := some 29) #[T,T,T,F,T,T,F,F,F,F,F] rfl rfl an_ hq_ yi_ nm_ ?_; refine pure_ (i := 6) (N := some 30) #[T,T,T,F,T,T,T,F,F,F,F] rfl rfl an_ hq_ yi_ nm_ ?_; refine take_ (i := 3) (N := some 27) #[T,T,T,T,T,T,T,F,F,F,F] rfl rfl av_ hq_ yj1_ hHeld nm_ ?_; refine one_ (i := 7) (N := some 31) #[T,T,T,T,T,T,T,T,F,F,F] rfl rfl (one_of HT_.out (by kernel_rfl)) (by decide) (fun K hK => ?_); refine goes_ Try.func79 (by kernel_rfl) rfl #[.int .i64 x16_1, .int .i64 x21_2] (by rfl) rfl rfl tc1_ ?_
       with_reducible refine (spec_l1Least.calls x16_1 x21_2 t105 _ A10.out).mono ?_
       rintro e w' ⟨rfl, ⟨nd, rfl⟩⟩; refine ⟨_, rfl, ?_⟩; have p13 : 0 ≤ (x21_2 : Int) := od_; have q13 : (x21_2 : Int) < (((rd_L3 x5_2 x16_1).length : Int) : Int) := od_; obtain ⟨go13, co13, eo13, gb13, gl13, cl13, HG13⟩ := Kd.R_form HL104_0.out (by omega); (first | cases eo13 | (injection eo13 with ea_ en_ ec_; (first | subst ea_ | (injection ea_ with ea_; subst ea_)); subst ec_; clear en_)); have GB13 := am_ gb13; have GG13 := am_ HG13; clear gb13 gl13 HG13; obtain ⟨hx13_0, hf13_0⟩ := Kd.R_celln 0 HL104_0.out (x21_2 : Int) p13 q13; replace p13 := eq_true p13; replace q13 := eq_true q13; have hq15 : (x16_1 : Int) < (x5_2.length : Int) := (by have h_ : (x16_1 : Int) < ((x5_2.length : Int) : Int) := od_; first | exact h_ | (have e_ := (Kd.S_reads' HO_5.out).1; omega) | simpa only [List.length_set, List.length_set] using h_); obtain ⟨oki15, ce15, hcl15, hM15, hcc15, hok15, hbk15⟩ := Kd.S_borrow HO_5.out [] (x16_1 : Int) (od_) (by first | exact hq15 | (have e_ := (Kd.S_reads' HO_5.out).1; omega)); obtain ⟨ve15_0, rfl, ge15_0⟩ := hM15; have hv15 := hcc15 0 _ rfl; rw [Nat.add_zero, show ((Kd.slice 3 (Kd.int .i64))).sz = 1 from rfl, Nat.mul_one] at hv15; replace hv15 := Option.some.inj (hv15.symm.trans HX104_0.out); subst hv15; clear hcc15 hcl15; replace ge15_0 := (show Kd.R (Kd.int .i64) 3 _ _ _ _ (rd_L3 x5_2 x16_1) from ge15_0); have HP15 := Kd.R_putg ge15_0 (x21_2 : Int) (wrap64 (t105 + 1)); have HN0_go13 := am_ (show g ≠ go13 from (by have h_ := IsS41.own_ne HI0.out HL104_0.out (by decide); intro e_; exact h_ (by rw [e_]; rfl))); rw [← Ny106.out] at HP15; have HS15 := hbk15 HP15.2 (fun k_ e_ => by injection e_ with e_; subst e_; exact ge15_0.1 _ rfl) (x' := y106) (Kd.M_row HP15.1); rw [← Ny108.out] at HS15; have HQ15 := am_ HS15; clear HP15 HS15 hbk15 hok15; refine hK.out _ _ (hHeld) (fun hHeld => ?_); clear hK K; refine norm_ (a' := ?_) ?_ ?_; rotate_left
       ·show Act.put _ (some 31) _ = _
        simp only [Act.put, List.setIfInBounds_toArray, List.set_cons_zero, List.set_cons_succ, i64_w, i32_w]
        rfl
       refine pure_ (i := 8) (N := some 32) #[T,T,T,T,T,T,T,T,T,F,F] rfl rfl an_ hq_ yi_ nm_ ?_; refine pure_ (i := 9) (N := some 33) #[T,T,T,T,T,T,T,T,T,T,F] rfl rfl an_ hq_ yi_ nm_ ?_; refine last_ (i := 10) (N := none) #[T,T,T,T,T,T,T,T,T,T,T] rfl rfl (one_of HT_.out (by kernel_rfl)) (by decide) (fun K hK => ?_); refine skip_ (w1 := ?_) (by rfl) rfl ?_ ?_; rotate_left
       ·go_simp
        rfl
       refine hK.out _ _ ?_; clear hK K; refine done_ (done_of HT_.out (by kernel_rfl)) ?_
       try go_wp2
       (try simp only [← hl5_2])
       go_roundg k2
       case measure => have := HK1.out; have := HK2.out; omega
       case rel => exact ⟨(y108), (wrap64 (x21_2 + 1)), tc8_, H', ⟨tc39_⟩, ⟨(by (try simp only [hl5_1]); (try simp only [hl5_2]); (with_reducible repeat (first | apply Kd.S_alloc | apply Kd.S_drewN | apply Kd.S_drew)); exact HQ15.out)⟩, ⟨(by repeat (first | (with_reducible first | exact HI0.out | apply IsS41.alloc | apply IsS41.drewN | apply IsS41.drew | apply IsS41.set_1 | apply IsS41.set_2 | refine IsS41.far ?_ HN0_go13.out _) | exact HI0.out))⟩, ⟨(by repeat (first | (with_reducible first | exact HK.out | apply KeepBut.set_ | apply keep_drewN | apply keep_drew | apply keep_alloc | refine keep_far ?_ GB13.out _) | exact HK.out))⟩, ⟨(by repeat (first | (with_reducible first | exact HB.out | apply below_alloc | apply pw_below_drewN | apply below_drew1 | refine below_set ?_ (Nat.le_trans HL.out GB13.out) | refine below_set ?_ (IsS41.ge HI0.out)) | exact HB.out))⟩⟩
      ·(try simp only [hl5_1, hl5_2] at c7b0); have H' := am_ H; clear H; go_wp2; (try simp only [← hl5_1, ← hl5_2])
       go_roundg k2
       case measure => have := HK1.out; have := HK2.out; omega
       case rel => exact ⟨(x5_2), (wrap64 (x16_1 + 1)), tc8_, H', ⟨tc39_⟩, ⟨tc61_⟩, ⟨tc3_⟩, ⟨tc4_⟩, ⟨tc5_⟩⟩
   ·(try simp only [hl5_1] at c6b0); replace H := Option.bind_eq_some_iff.mp H; obtain ⟨⟨t109, t110, t111⟩, A170, H⟩ := H; (try dsimp only at H); have A17 := am_ A170; clear A170; have H' := am_ H; clear H
    go_wp2_with (first | (refine gc_ (some 41) Try.func39 #[.pointer (some ⟨g, 0, none⟩), .int .i64 (wrap64 ((wrap64 (3 * a1)) * a1))] ?_; (with_reducible refine (spec_l1Cur_pick.calls g s0_0 s0_1 s0_2 (wrap64 ((wrap64 (3 * a1)) * a1)) t109 t110 t111 w0 _ ?side1 ?side2 A17.out).mono ?_); (case side1 => exact tc3_); (case side2 => exact tc5_); rintro e w18 ⟨rfl, hi, hb, hk⟩; refine ⟨_, rfl, ?_⟩; replace HO_5 := am_ (Kd.S_mono (Kd.S_keep (IsS41.apartS (show IsS41 w0 _ g s0_0 s0_1 s0_2 from tc3_) tc10_ (by decide)) hk (fun _ h => h.2)) (fun _ h => h.1)); replace HK := am_ (KeepBut.trans tc4_ hk (.inl rfl)); replace HB := am_ (hb); replace HI0 := am_ (hi); (try clear hb hk hi)))
    go_loopg [8] k1 (fun kq v8 w' => ∃ (x5_2 : Tb_) (x8_2 : Int) (x1001_2 : Int) (x1002_2 : Int), v8 = .int .i64 x8_2 ∧ Aside0 (spec_l1Cur_sure.l2 kq a1 x5_2 x8_2 s0_0 x1001_2 x1002_2 = some (r1, r2, r3)) ∧ Aside0 (kq ≤ k1) ∧ Aside0 (Kd.S (Kd.slice 3 (Kd.int .i64)) 32 w' w.heap.size (fun _ => True) (.slice Ao5 x5_1.length co5) x5_2) ∧ Aside0 (IsS41 w0 w' g s0_0 x1001_2 x1002_2) ∧ Aside0 (KeepBut w w' g none) ∧ Aside0 (Below w0.heap.size w0 w'))
    case atStart => exact ⟨(x5_1), (t109), (t110), (t111), tc8_, H', ⟨Nat.le_refl _⟩, ⟨tc130_⟩, ⟨tc3_⟩, ⟨tc4_⟩, ⟨tc5_⟩⟩
    case round =>
     clear H'; (try clear c1); (try clear p1); (try clear q1); (try clear hx1); (try clear p2); (try clear c3); (try clear c5); (try clear c6); (try clear c6b0); (try clear p6); (try clear c7); (try clear c7b0); (try clear c8); (try clear c8b0); (try clear c9); (try clear c9b0); (try clear c10); (try clear p10); (try clear q10); (try clear hx10); (try clear c11); (try clear c11b0); (try clear c12); (try clear c12b0); (try clear p13); (try clear q13); (try clear hx13); (try clear hf13); (try clear c15); (try clear q15); (try clear hx104_0); (try clear hx13_0); (try clear p104); (try clear p13); (try clear p2); (try clear q104); (try clear q13); obtain ⟨x5_2, x8_2, x1001_2, x1002_2, rfl, HA, HK2, HO_5, HI0, HK, HB⟩ := hrel; have hl5_2 := (Kd.S_reads' HO_5.out).1; rw [hl5_2] at HO_5; (try simp only [hl5_2])
     cases gk with
     | zero => exact absurd HA.out (by simp [spec_l1Cur_sure.l2])
     | succ k2 =>
      have H := HA.out; clear HA; simp only [spec_l1Cur_sure.l2] at H; have HC19 := am_ H; clear H
      go_upto_region 12 with (fail)
      go_cut [47] (fun v47 wc => ∃ (kq : Nat) (x47_18 : Bool), v47 = .bool x47_18 ∧ Aside0 (spec_l1Cur_sure.j3 kq a1 x5_2 x8_2 x47_18 s0_0 x1001_2 x1002_2 = some (r1, r2, r3)) ∧ Aside0 (kq ≤ k2) ∧ Aside0 (Kd.S (Kd.slice 3 (Kd.int .i64)) 32 wc w.heap.size (fun _ => True) (.slice Ao5 x5_2.length co5) x5_2) ∧ Aside0 (IsS41 w0 wc g s0_0 x1001_2 x1002_2) ∧ Aside0 (KeepBut w wc g none) ∧ Aside0 (Below w0.heap.size w0 wc))
      case first =>
       have H := HC19.out; clear HC19
       replace H := pn_ H; obtain ⟨c20, H⟩ | ⟨c20, H⟩ := H
       ·have c20b0 : decide (0 < x8_2) = true := decide_eq_true c20; clear c20; (first | rw [c20b0] | (simp only [i64_w, i32_w]; rw [c20b0]) | skip); have H' := am_ H; clear H; go_wp2
        go_meet
        case rel => exact ⟨_, (decide (a1 > 1)), tc8_, H', ⟨(by have := HK1.out; have := HK2.out; first | omega | exact Nat.le_refl _)⟩, ⟨tc61_⟩, ⟨tc3_⟩, ⟨tc4_⟩, ⟨tc5_⟩⟩
       ·have c20b0 : decide (0 < x8_2) = false := decide_eq_false c20; clear c20; (first | rw [c20b0] | (simp only [i64_w, i32_w]; rw [c20b0]) | skip); have H' := am_ H; clear H; go_wp2
        go_meet
        case rel => exact ⟨_, (false), tc8_, H', ⟨(by have := HK1.out; have := HK2.out; first | omega | exact Nat.le_refl _)⟩, ⟨tc61_⟩, ⟨tc3_⟩, ⟨tc4_⟩, ⟨tc5_⟩⟩
      case rest =>
       clear HC19; (try clear c1); (try clear p1); (try clear q1); (try clear hx1); (try clear c2); (try clear p2); (try clear c3); (try clear c5); (try clear c6); (try clear c6b0); (try clear p6); (try clear c7); (try clear c7b0); (try clear c8); (try clear c8b0); (try clear c9); (try clear c9b0); (try clear c10); (try clear p10); (try clear q10); (try clear hx10); (try clear c11); (try clear c11b0); (try clear c12); (try clear c12b0); (try clear p13); (try clear q13); (try clear hx13); (try clear hf13); (try clear c15); (try clear q15); (try clear c20); (try clear c20b0); (try clear hx104_0); (try clear hx13_0); (try clear p1); (try clear p10); (try clear p104); (try clear p13); (try clear p2); (try clear p6); (try clear q1); (try clear q10); (try clear q104); (try clear q13); (try clear q15); obtain ⟨kq, x47_18, rfl, HA, HJ18, HO_5, HI0, HK, HB⟩ := hcut
       cases kq with
       | zero => exact absurd HA.out (by simp [spec_l1Cur_sure.j3])
       | succ kj18 =>
        have H := HA.out; clear HA; simp only [spec_l1Cur_sure.j3] at H
        by_cases c21 : x47_18 = true
        ·subst c21; have H1 : ((spec_l1Cur_pick.f s0_0 x1001_2 x1002_2 (wrap64 (a1 - 1))).bind fun bt115 => ((spec_l1Cur_pick.f s0_0 bt115.2.1 bt115.2.2 (wrap64 (a1 - 1))).bind fun bt118 => ((spec_l1Cur_pick.f s0_0 bt118.2.1 bt118.2.2 2).bind fun bt121 => (if 0 ≤ bt115.1 then (if bt115.1 < (x5_2.length : Int) then (if 0 ≤ bt118.1 then (if bt118.1 < ((rd_L3 x5_2 bt115.1).length : Int) then ((some (x5_2.set (bt115.1 : Int).toNat ((rd_L3 x5_2 bt115.1).set (bt118.1 : Int).toNat (wrap64 ((rd (rd_L3 x5_2 bt115.1) bt118.1) + (wrap64 ((wrap64 (2 * bt121.1)) - 1))))) : Tb_)).bind fun y128 => ((spec_sgFrom.f kj18 y128).bind fun t129 => ((spec_sgGood.f kj18 t129).bind fun t132 => (if t132 = true then (spec_l1Cur_sure.l2 kj18 a1 y128 (wrap64 (x8_2 - 1)) s0_0 bt121.2.1 bt121.2.2) else (if bt118.1 < ((rd_L3 y128 bt115.1).length : Int) then (spec_l1Cur_sure.l2 kj18 a1 (y128.set (bt115.1 : Int).toNat ((rd_L3 y128 bt115.1).set (bt118.1 : Int).toNat (wrap64 ((rd (rd_L3 y128 bt115.1) bt118.1) - (wrap64 ((wrap64 (2 * bt121.1)) - 1)))))) (wrap64 (x8_2 - 1)) s0_0 bt121.2.1 bt121.2.2) else (none)))))) else (none)) else (none)) else (none)) else (none))))) = some (r1, r2, r3) := tc21_; clear H; have H := H1; clear H1; replace H := Option.bind_eq_some_iff.mp H; obtain ⟨⟨t115, t116, t117⟩, A220, H⟩ := H; (try dsimp only at H); have A22 := am_ A220; clear A220; replace H := Option.bind_eq_some_iff.mp H; obtain ⟨⟨t118, t119, t120⟩, A230, H⟩ := H; (try dsimp only at H); have A23 := am_ A230; clear A230; replace H := Option.bind_eq_some_iff.mp H; obtain ⟨⟨t121, t122, t123⟩, A240, H⟩ := H; (try dsimp only at H); have A24 := am_ A240; clear A240; replace H := ps_ H; obtain ⟨c25b0, H⟩ := H; replace H := ps_ H; obtain ⟨c26b0, H⟩ := H; (try simp only [hl5_1, hl5_2] at c26b0); replace H := ps_ H; obtain ⟨c27b0, H⟩ := H; replace H := ps_ H; obtain ⟨c28b0, H⟩ := H; (try simp only [hl5_1, hl5_2] at c28b0); obtain ⟨y126, hy126⟩ : ∃ y_ : List Int, y_ = ((rd_L3 x5_2 t115).set (t118 : Int).toNat (wrap64 ((rd (rd_L3 x5_2 t115) t118) + (wrap64 ((wrap64 (2 * t121)) - 1))))) := ⟨_, rfl⟩; replace H : ((some (x5_2.set (t115 : Int).toNat y126 : Tb_)).bind fun y128 => ((spec_sgFrom.f kj18 y128).bind fun t129 => ((spec_sgGood.f kj18 t129).bind fun t132 => (if t132 = true then (spec_l1Cur_sure.l2 kj18 a1 y128 (wrap64 (x8_2 - 1)) s0_0 t122 t123) else (if t118 < ((rd_L3 y128 t115).length : Int) then (spec_l1Cur_sure.l2 kj18 a1 (y128.set (t115 : Int).toNat ((rd_L3 y128 t115).set (t118 : Int).toNat (wrap64 ((rd (rd_L3 y128 t115) t118) - (wrap64 ((wrap64 (2 * t121)) - 1)))))) (wrap64 (x8_2 - 1)) s0_0 t122 t123) else (none)))))) = some (r1, r2, r3) := (by first | (rw [hy126]; with_reducible exact H) | (have H2_ := (Option.bind_some _ _).symm.trans H; rw [hy126]; with_reducible exact H2_) | (have H2_ := (Option.bind_some _ _).symm.trans H; with_reducible exact H2_) | with_reducible exact H | (rw [hy126]; exact H) | exact H); have Ny126 := am_ hy126; clear hy126; obtain ⟨y128, hy128⟩ : ∃ y_ : Tb_, y_ = (x5_2.set (t115 : Int).toNat y126) := ⟨_, rfl⟩; replace H : ((spec_sgFrom.f kj18 y128).bind fun t129 => ((spec_sgGood.f kj18 t129).bind fun t132 => (if t132 = true then (spec_l1Cur_sure.l2 kj18 a1 y128 (wrap64 (x8_2 - 1)) s0_0 t122 t123) else (if t118 < ((rd_L3 y128 t115).length : Int) then (spec_l1Cur_sure.l2 kj18 a1 (y128.set (t115 : Int).toNat ((rd_L3 y128 t115).set (t118 : Int).toNat (wrap64 ((rd (rd_L3 y128 t115) t118) - (wrap64 ((wrap64 (2 * t121)) - 1)))))) (wrap64 (x8_2 - 1)) s0_0 t122 t123) else (none))))) = some (r1, r2, r3) := tc67_; have Ny128 := am_ hy128; clear hy128; replace H := bd_ H; obtain ⟨t129, A30, H⟩ := H; (try dsimp only at H); replace H := bd_ H; obtain ⟨t132, A31, H⟩ := H; (try dsimp only at H)
         by_cases c32 : t132 = true
         ·subst c32; have H1 : (spec_l1Cur_sure.l2 kj18 a1 y128 (wrap64 (x8_2 - 1)) s0_0 t122 t123) = some (r1, r2, r3) := tc21_; clear H; have H := H1; clear H1; have H' := am_ H; clear H
          go_wp2_with (first | (refine gc_ (some 53) Try.func39 #[.pointer (some ⟨g, 0, none⟩), .int .i64 (wrap64 (a1 - 1))] ?_; (with_reducible refine (spec_l1Cur_pick.calls g s0_0 x1001_2 x1002_2 (wrap64 (a1 - 1)) t115 t116 t117 w0 _ ?side1 ?side2 A22.out).mono ?_); (case side1 => exact tc3_); (case side2 => exact tc5_); rintro e w33 ⟨rfl, hi, hb, hk⟩; refine ⟨_, rfl, ?_⟩; replace HO_5 := am_ (Kd.S_mono (Kd.S_keep (IsS41.apartS (show IsS41 w0 _ g s0_0 x1001_2 x1002_2 from tc3_) tc10_ (by decide)) hk (fun _ h => h.2)) (fun _ h => h.1)); replace HK := am_ (KeepBut.trans tc4_ hk (.inl rfl)); replace HB := am_ (hb); replace HI0 := am_ (hi); (try clear hb hk hi)) | (refine gc_ (some 57) Try.func39 #[.pointer (some ⟨g, 0, none⟩), .int .i64 (wrap64 (a1 - 1))] ?_; (with_reducible refine (spec_l1Cur_pick.calls g s0_0 t116 t117 (wrap64 (a1 - 1)) t118 t119 t120 w0 _ ?side1 ?side2 A23.out).mono ?_); (case side1 => exact tc3_); (case side2 => exact tc5_); rintro e w34 ⟨rfl, hi, hb, hk⟩; refine ⟨_, rfl, ?_⟩; replace HO_5 := am_ (Kd.S_mono (Kd.S_keep (IsS41.apartS (show IsS41 w0 _ g s0_0 t116 t117 from tc3_) tc10_ (by decide)) hk (fun _ h => h.2)) (fun _ h => h.1)); replace HK := am_ (KeepBut.trans tc4_ hk (.inl rfl)); replace HB := am_ (hb); replace HI0 := am_ (hi); (try clear hb hk hi)) | (refine gc_ (some 59) Try.func39 #[.pointer (some ⟨g, 0, none⟩), .int .i64 2] ?_; (with_reducible refine (spec_l1Cur_pick.calls g s0_0 t119 t120 2 t121 t122 t123 w0 _ ?side1 ?side2 A24.out).mono ?_); (case side1 => exact tc3_); (case side2 => exact tc5_); rintro e w35 ⟨rfl, hi, hb, hk⟩; refine ⟨_, rfl, ?_⟩; replace HO_5 := am_ (Kd.S_mono (Kd.S_keep (IsS41.apartS (show IsS41 w0 _ g s0_0 t119 t120 from tc3_) tc10_ (by decide)) hk (fun _ h => h.2)) (fun _ h => h.1)); replace HK := am_ (KeepBut.trans tc4_ hk (.inl rfl)); replace HB := am_ (hb); replace HI0 := am_ (hi); (try clear hb hk hi); have p124 : 0 ≤ (t115 : Int) := od_; have q124 : t115 < (x5_2.length : Int) := od_; obtain ⟨ad124, A124_0, c124_0, e124, hx124_0, hl124_0, hi124_0⟩ := at_L3 (Kd.S_reads' HO_5.out).2.2 t115 p124 q124; cases e124; obtain ⟨ce124, hce124, hMe124, hcc124⟩ := Kd.S_get HO_5.out [] t115 p124 tc119_; obtain ⟨ve124_0, rfl, ge124_0⟩ := hMe124; have hv124_0 := hcc124 0 _ rfl; rw [Nat.add_zero, show ((Kd.slice 3 (Kd.int .i64))).sz = 1 from rfl, Nat.mul_one] at hv124_0; replace hv124_0 := Option.some.inj (hv124_0.symm.trans hx124_0); rw [hv124_0] at ge124_0; have HL124_0 := am_ (show Kd.R (Kd.int .i64) 3 _ _ _ _ (rd_L3 x5_2 t115) from ge124_0); clear hv124_0 ge124_0; have HX124_0 := am_ hx124_0; clear hcc124 hce124; have HR124_0 := am_ hi124_0; have HC124_0 := am_ hl124_0; clear hi124_0 hl124_0; replace p124 := eq_true p124; replace q124 := eq_true q124; have p125 : 0 ≤ (t118 : Int) := od_; have q125 : t118 < ((rd_L3 x5_2 t115).length : Int) := od_; obtain ⟨ad125, e125, hx125_0⟩ := Kd.at_int tc95_ t118 p125 q125; cases e125; replace p125 := eq_true p125; replace q125 := eq_true q125; have p29 : 0 ≤ (t118 : Int) := od_; have q29 : (t118 : Int) < (((rd_L3 x5_2 t115).length : Int) : Int) := od_; obtain ⟨go29, co29, eo29, gb29, gl29, cl29, HG29⟩ := Kd.R_form HL124_0.out (by omega); (first | cases eo29 | (injection eo29 with ea_ en_ ec_; (first | subst ea_ | (injection ea_ with ea_; subst ea_)); subst ec_; clear en_)); have GB29 := am_ gb29; have GG29 := am_ HG29; clear gb29 gl29 HG29; (first | simp only [add_plain] at hx125_0 | skip); obtain ⟨hx29_0, hf29_0⟩ := Kd.R_celln 0 HL124_0.out (t118 : Int) p29 q29; replace p29 := eq_true p29; replace q29 := eq_true q29; have hq36 : (t115 : Int) < (x5_2.length : Int) := (by have h_ : (t115 : Int) < ((x5_2.length : Int) : Int) := od_; first | exact h_ | (have e_ := (Kd.S_reads' HO_5.out).1; omega) | simpa only [List.length_set, List.length_set] using h_); obtain ⟨oki36, ce36, hcl36, hM36, hcc36, hok36, hbk36⟩ := Kd.S_borrow HO_5.out [] (t115 : Int) (od_) (by first | exact hq36 | (have e_ := (Kd.S_reads' HO_5.out).1; omega)); obtain ⟨ve36_0, rfl, ge36_0⟩ := hM36; have hv36 := hcc36 0 _ rfl; rw [Nat.add_zero, show ((Kd.slice 3 (Kd.int .i64))).sz = 1 from rfl, Nat.mul_one] at hv36; replace hv36 := Option.some.inj (hv36.symm.trans HX124_0.out); subst hv36; clear hcc36 hcl36; replace ge36_0 := (show Kd.R (Kd.int .i64) 3 _ _ _ _ (rd_L3 x5_2 t115) from ge36_0); have HP36 := Kd.R_putg ge36_0 (t118 : Int) (wrap64 ((rd (rd_L3 x5_2 t115) t118) + (wrap64 ((wrap64 (2 * t121)) - 1))))) | ((with_reducible refine gate_store (t := 3) (p := 71) rfl ?_); refine store_event (t := 3) (p := 71) (v := ?vo_w37) (w1 := (w35.setCell ⟨go29, (t118 : Int).toNat, none⟩ (.int .i64 (wrap64 ((rd (rd_L3 x5_2 t115) t118) + (wrap64 ((wrap64 (2 * t121)) - 1))))))) ?hg ?ho ?hn ?hr ?_; (case ho => rfl); (case hg => rfl); (case hn => rfl); (case hr => exact tc26_); intro w37 hw; have hg : w35.grownBy w37 (some go29) := (by rw [hw]; exact HP36.2); have hz_ : Kd.R (Kd.int .i64) 3 w37 w.heap.size oki36 (.slice (some ⟨go29, 0, none⟩) (rd_L3 x5_2 t115).length c124_0) y126 := (by rw [hw, Ny126.out]; exact HP36.1); have hp_ : Kd.S (Kd.slice 3 (Kd.int .i64)) 32 w37 w.heap.size (fun _ => True) (.slice (some ad124) x5_2.length co5) y128 := (by rw [Ny128.out]; exact hbk36 hg (fun k_ e_ => by injection e_ with e_; subst e_; exact ge36_0.1 _ rfl) (Kd.M_row hz_)); have hm_ := Kd.R_mono hz_ hok36; clear HP36 hbk36; replace HO_5 := am_ (hp_); replace HI0 := am_ (IsS41.grown tc3_ hg (IsS41.own_ne HI0.out HL124_0.out (by decide))); replace HB := am_ ((by rw [hw]; exact below_set (HB.out) (Nat.le_trans HL.out GB29.out) : Below w0.heap.size w0 w37)); replace HK := am_ (KeepBut.trans tc4_ (KeepBut.of_grown hg g) (Kd.R_base2 HL124_0.out)); have HL138 := am_ (hm_); have HC127 := am_ ((Kd.R_reads' hm_).2.1); clear HL124_0; clear hg hw hp_ hz_ hm_ hok36) | ((with_reducible refine gate_callee (f := 78) rfl ?_); refine goesL_ (some 73) rfl rfl Try.func78 (by kernel_rfl) rfl #[.slice (some ad124) y128.length co5] rfl tc86_ ?_; (with_reducible refine (spec_sgFrom.calls kj18 _ _ y128 t129 _ ?side1 ?side2 A30.out).mono ?_); (case side1 => exact tc43_); (case side2 => rw [show y128.length = x5_2.length from (Kd.S_reads' HO_5.out).1.symm]; exact (Kd.S_reads' HO_5.out).2.1); rintro e w38 ⟨v130, rfl, ho0, hb⟩; refine ⟨_, rfl, ?_⟩; have HO131 := am_ (Kd.S_lower (Kd.S_new' (Kd.S_new' ho0 (Kd.S_lt tc10_)) (Kd.R_lt tc105_)) (keep_size (w := w) (g := g) (row := none) tc4_)); replace HO_5 := am_ (Kd.S_elder' tc10_ (Kd.S_base ho0) hb); replace HL138 := am_ (Kd.R_below tc105_ hb); replace HK := am_ (KeepBut.trans tc4_ (KeepBut.of_below hb g none) (.inl rfl)); replace HB := am_ (below_step tc5_ hb); replace HI0 := am_ (IsS41.below tc3_ hb); (try clear hb ho0); obtain ⟨Ao39, co39, eo39⟩ := Kd.S_slice HO131.out; subst eo39) | (refine gc_ (some 74) Try.func24 #[.slice Ao39 t129.length co39] ?_; (with_reducible refine (spec_sgGood.calls kj18 _ _ t129 true _ ?side1 ?side2 A31.out).mono ?_); (case side1 => repeat (first | exact (Kd.S_reads' HO131.out).2.2 | (with_reducible refine Kd.C_alloc ?_ _) | (with_reducible refine Kd.C_drewN ?_ _) | (with_reducible refine Kd.C_drew ?_))); (case side2 => exact (Kd.S_reads' HO131.out).2.1); rintro e w40 ⟨rfl, hb⟩; refine ⟨_, rfl, ?_⟩; have n0_ := am_ (Kd.S_below tc10_ hb); have n1_ := am_ (Kd.R_below tc105_ hb); have n2_ := am_ (Kd.S_below (by (with_reducible repeat (first | apply Kd.S_alloc | apply Kd.S_drewN | apply Kd.S_drew)); exact HO131.out) hb); have n3_ := am_ (IsS41.below tc3_ hb); have n4_ := am_ (KeepBut.trans tc4_ (KeepBut.of_below hb g none) (.inl rfl)); have n5_ := am_ (below_step tc5_ hb); clear HO_5 HL138; clear HO131 HI0; clear HK HB; have HO_5 := n0_; have HL138 := n1_; have HO131 := n2_; have HI0 := n3_; have HK := n4_; have HB := n5_; clear n0_ n1_ n2_ n3_ n4_ n5_; (try clear hb)))
          (try simp only [← hl5_2])
          go_roundg kj18
          case measure => have := HK1.out; have := HK2.out; have := HJ18.out; omega
          case rel => exact ⟨(y128), (wrap64 (x8_2 - 1)), (t122), (t123), tc8_, H', ⟨(by have := HK1.out; have := HK2.out; have := HJ18.out; omega)⟩, ⟨(by (try simp only [hl5_1]); (try simp only [hl5_2]); (with_reducible repeat (first | apply Kd.S_alloc | apply Kd.S_drewN | apply Kd.S_drew)); exact Kd.S_mono HO_5.out (fun _ hk => trivial))⟩, ⟨tc3_⟩, ⟨tc4_⟩, ⟨tc5_⟩⟩
         ·replace c32 := Bool.eq_false_iff.mpr c32; subst c32; have H1 : (if t118 < ((rd_L3 y128 t115).length : Int) then (spec_l1Cur_sure.l2 kj18 a1 (y128.set (t115 : Int).toNat ((rd_L3 y128 t115).set (t118 : Int).toNat (wrap64 ((rd (rd_L3 y128 t115) t118) - (wrap64 ((wrap64 (2 * t121)) - 1)))))) (wrap64 (x8_2 - 1)) s0_0 t122 t123) else (none)) = some (r1, r2, r3) := tc14_; clear H; have H := H1; clear H1; replace H := ps_ H; obtain ⟨c41b0, H⟩ := H; (try simp only [hl5_1, hl5_2] at c41b0); obtain ⟨y135, hy135⟩ : ∃ y_ : List Int, y_ = ((rd_L3 y128 t115).set (t118 : Int).toNat (wrap64 ((rd (rd_L3 y128 t115) t118) - (wrap64 ((wrap64 (2 * t121)) - 1))))) := ⟨_, rfl⟩; replace H : (spec_l1Cur_sure.l2 kj18 a1 (y128.set (t115 : Int).toNat y135) (wrap64 (x8_2 - 1)) s0_0 t122 t123) = some (r1, r2, r3) := tc68_; have Ny135 := am_ hy135; clear hy135; obtain ⟨y137, hy137⟩ : ∃ y_ : Tb_, y_ = (y128.set (t115 : Int).toNat y135) := ⟨_, rfl⟩; replace H : (spec_l1Cur_sure.l2 kj18 a1 y137 (wrap64 (x8_2 - 1)) s0_0 t122 t123) = some (r1, r2, r3) := (by first | (rw [hy137]; with_reducible exact H) | (have H2_ := (Option.bind_some _ _).symm.trans H; rw [hy137]; with_reducible exact H2_) | (have H2_ := (Option.bind_some _ _).symm.trans H; with_reducible exact H2_) | with_reducible exact H | (rw [hy137]; exact H) | exact H); have Ny137 := am_ hy137; clear hy137; have H' := am_ H; clear H
          go_wp2_with (first | (refine gc_ (some 53) Try.func39 #[.pointer (some ⟨g, 0, none⟩), .int .i64 (wrap64 (a1 - 1))] ?_; (with_reducible refine (spec_l1Cur_pick.calls g s0_0 x1001_2 x1002_2 (wrap64 (a1 - 1)) t115 t116 t117 w0 _ ?side1 ?side2 A22.out).mono ?_); (case side1 => exact tc3_); (case side2 => exact tc5_); rintro e w43 ⟨rfl, hi, hb, hk⟩; refine ⟨_, rfl, ?_⟩; replace HO_5 := am_ (Kd.S_mono (Kd.S_keep (IsS41.apartS (show IsS41 w0 _ g s0_0 x1001_2 x1002_2 from tc3_) tc10_ (by decide)) hk (fun _ h => h.2)) (fun _ h => h.1)); replace HK := am_ (KeepBut.trans tc4_ hk (.inl rfl)); replace HB := am_ (hb); replace HI0 := am_ (hi); (try clear hb hk hi)) | (refine gc_ (some 57) Try.func39 #[.pointer (some ⟨g, 0, none⟩), .int .i64 (wrap64 (a1 - 1))] ?_; (with_reducible refine (spec_l1Cur_pick.calls g s0_0 t116 t117 (wrap64 (a1 - 1)) t118 t119 t120 w0 _ ?side1 ?side2 A23.out).mono ?_); (case side1 => exact tc3_); (case side2 => exact tc5_); rintro e w44 ⟨rfl, hi, hb, hk⟩; refine ⟨_, rfl, ?_⟩; replace HO_5 := am_ (Kd.S_mono (Kd.S_keep (IsS41.apartS (show IsS41 w0 _ g s0_0 t116 t117 from tc3_) tc10_ (by decide)) hk (fun _ h => h.2)) (fun _ h => h.1)); replace HK := am_ (KeepBut.trans tc4_ hk (.inl rfl)); replace HB := am_ (hb); replace HI0 := am_ (hi); (try clear hb hk hi)) | (refine gc_ (some 59) Try.func39 #[.pointer (some ⟨g, 0, none⟩), .int .i64 2] ?_; (with_reducible refine (spec_l1Cur_pick.calls g s0_0 t119 t120 2 t121 t122 t123 w0 _ ?side1 ?side2 A24.out).mono ?_); (case side1 => exact tc3_); (case side2 => exact tc5_); rintro e w45 ⟨rfl, hi, hb, hk⟩; refine ⟨_, rfl, ?_⟩; replace HO_5 := am_ (Kd.S_mono (Kd.S_keep (IsS41.apartS (show IsS41 w0 _ g s0_0 t119 t120 from tc3_) tc10_ (by decide)) hk (fun _ h => h.2)) (fun _ h => h.1)); replace HK := am_ (KeepBut.trans tc4_ hk (.inl rfl)); replace HB := am_ (hb); replace HI0 := am_ (hi); (try clear hb hk hi); have p124 : 0 ≤ (t115 : Int) := od_; have q124 : t115 < (x5_2.length : Int) := od_; obtain ⟨ad124, A124_0, c124_0, e124, hx124_0, hl124_0, hi124_0⟩ := at_L3 (Kd.S_reads' HO_5.out).2.2 t115 p124 q124; cases e124; obtain ⟨ce124, hce124, hMe124, hcc124⟩ := Kd.S_get HO_5.out [] t115 p124 tc119_; obtain ⟨ve124_0, rfl, ge124_0⟩ := hMe124; have hv124_0 := hcc124 0 _ rfl; rw [Nat.add_zero, show ((Kd.slice 3 (Kd.int .i64))).sz = 1 from rfl, Nat.mul_one] at hv124_0; replace hv124_0 := Option.some.inj (hv124_0.symm.trans hx124_0); rw [hv124_0] at ge124_0; have HL124_0 := am_ (show Kd.R (Kd.int .i64) 3 _ _ _ _ (rd_L3 x5_2 t115) from ge124_0); clear hv124_0 ge124_0; have HX124_0 := am_ hx124_0; clear hcc124 hce124; have HR124_0 := am_ hi124_0; have HC124_0 := am_ hl124_0; clear hi124_0 hl124_0; replace p124 := eq_true p124; replace q124 := eq_true q124; have p125 : 0 ≤ (t118 : Int) := od_; have q125 : t118 < ((rd_L3 x5_2 t115).length : Int) := od_; obtain ⟨ad125, e125, hx125_0⟩ := Kd.at_int tc95_ t118 p125 q125; cases e125; replace p125 := eq_true p125; replace q125 := eq_true q125; have p29 : 0 ≤ (t118 : Int) := od_; have q29 : (t118 : Int) < (((rd_L3 x5_2 t115).length : Int) : Int) := od_; obtain ⟨go29, co29, eo29, gb29, gl29, cl29, HG29⟩ := Kd.R_form HL124_0.out (by omega); (first | cases eo29 | (injection eo29 with ea_ en_ ec_; (first | subst ea_ | (injection ea_ with ea_; subst ea_)); subst ec_; clear en_)); have GB29 := am_ gb29; have GG29 := am_ HG29; clear gb29 gl29 HG29; (first | simp only [add_plain] at hx125_0 | skip); obtain ⟨hx29_0, hf29_0⟩ := Kd.R_celln 0 HL124_0.out (t118 : Int) p29 q29; replace p29 := eq_true p29; replace q29 := eq_true q29; have hq46 : (t115 : Int) < (x5_2.length : Int) := (by have h_ : (t115 : Int) < ((x5_2.length : Int) : Int) := od_; first | exact h_ | (have e_ := (Kd.S_reads' HO_5.out).1; omega) | simpa only [List.length_set, List.length_set] using h_); obtain ⟨oki46, ce46, hcl46, hM46, hcc46, hok46, hbk46⟩ := Kd.S_borrow HO_5.out [] (t115 : Int) (od_) (by first | exact hq46 | (have e_ := (Kd.S_reads' HO_5.out).1; omega)); obtain ⟨ve46_0, rfl, ge46_0⟩ := hM46; have hv46 := hcc46 0 _ rfl; rw [Nat.add_zero, show ((Kd.slice 3 (Kd.int .i64))).sz = 1 from rfl, Nat.mul_one] at hv46; replace hv46 := Option.some.inj (hv46.symm.trans HX124_0.out); subst hv46; clear hcc46 hcl46; replace ge46_0 := (show Kd.R (Kd.int .i64) 3 _ _ _ _ (rd_L3 x5_2 t115) from ge46_0); have HP46 := Kd.R_putg ge46_0 (t118 : Int) (wrap64 ((rd (rd_L3 x5_2 t115) t118) + (wrap64 ((wrap64 (2 * t121)) - 1))))) | ((with_reducible refine gate_store (t := 3) (p := 71) rfl ?_); refine store_event (t := 3) (p := 71) (v := ?vo_w47) (w1 := (w45.setCell ⟨go29, (t118 : Int).toNat, none⟩ (.int .i64 (wrap64 ((rd (rd_L3 x5_2 t115) t118) + (wrap64 ((wrap64 (2 * t121)) - 1))))))) ?hg ?ho ?hn ?hr ?_; (case ho => rfl); (case hg => rfl); (case hn => rfl); (case hr => exact tc26_); intro w47 hw; have hg : w45.grownBy w47 (some go29) := (by rw [hw]; exact HP46.2); have hz_ : Kd.R (Kd.int .i64) 3 w47 w.heap.size oki46 (.slice (some ⟨go29, 0, none⟩) (rd_L3 x5_2 t115).length c124_0) y126 := (by rw [hw, Ny126.out]; exact HP46.1); have hp_ : Kd.S (Kd.slice 3 (Kd.int .i64)) 32 w47 w.heap.size (fun _ => True) (.slice (some ad124) x5_2.length co5) y128 := (by rw [Ny128.out]; exact hbk46 hg (fun k_ e_ => by injection e_ with e_; subst e_; exact ge46_0.1 _ rfl) (Kd.M_row hz_)); have hm_ := Kd.R_mono hz_ hok46; clear HP46 hbk46; replace HO_5 := am_ (hp_); replace HI0 := am_ (IsS41.grown tc3_ hg (IsS41.own_ne HI0.out HL124_0.out (by decide))); replace HB := am_ ((by rw [hw]; exact below_set (HB.out) (Nat.le_trans HL.out GB29.out) : Below w0.heap.size w0 w47)); replace HK := am_ (KeepBut.trans tc4_ (KeepBut.of_grown hg g) (Kd.R_base2 HL124_0.out)); have HL139 := am_ (hm_); have HC127 := am_ ((Kd.R_reads' hm_).2.1); clear HL124_0; clear hg hw hp_ hz_ hm_ hok46) | ((with_reducible refine gate_callee (f := 78) rfl ?_); refine goesL_ (some 73) rfl rfl Try.func78 (by kernel_rfl) rfl #[.slice (some ad124) y128.length co5] rfl tc86_ ?_; (with_reducible refine (spec_sgFrom.calls kj18 _ _ y128 t129 _ ?side1 ?side2 A30.out).mono ?_); (case side1 => exact tc43_); (case side2 => rw [show y128.length = x5_2.length from (Kd.S_reads' HO_5.out).1.symm]; exact (Kd.S_reads' HO_5.out).2.1); rintro e w48 ⟨v130, rfl, ho0, hb⟩; refine ⟨_, rfl, ?_⟩; have HO131 := am_ (Kd.S_lower (Kd.S_new' (Kd.S_new' ho0 (Kd.S_lt tc10_)) (Kd.R_lt tc106_)) (keep_size (w := w) (g := g) (row := none) tc4_)); replace HO_5 := am_ (Kd.S_elder' tc10_ (Kd.S_base ho0) hb); replace HL139 := am_ (Kd.R_below tc106_ hb); replace HK := am_ (KeepBut.trans tc4_ (KeepBut.of_below hb g none) (.inl rfl)); replace HB := am_ (below_step tc5_ hb); replace HI0 := am_ (IsS41.below tc3_ hb); (try clear hb ho0); obtain ⟨Ao49, co49, eo49⟩ := Kd.S_slice HO131.out; subst eo49) | (refine gc_ (some 74) Try.func24 #[.slice Ao49 t129.length co49] ?_; (with_reducible refine (spec_sgGood.calls kj18 _ _ t129 false _ ?side1 ?side2 A31.out).mono ?_); (case side1 => repeat (first | exact (Kd.S_reads' HO131.out).2.2 | (with_reducible refine Kd.C_alloc ?_ _) | (with_reducible refine Kd.C_drewN ?_ _) | (with_reducible refine Kd.C_drew ?_))); (case side2 => exact (Kd.S_reads' HO131.out).2.1); rintro e w50 ⟨rfl, hb⟩; refine ⟨_, rfl, ?_⟩; have n0_ := am_ (Kd.S_below tc10_ hb); have n1_ := am_ (Kd.R_below tc106_ hb); have n2_ := am_ (Kd.S_below (by (with_reducible repeat (first | apply Kd.S_alloc | apply Kd.S_drewN | apply Kd.S_drew)); exact HO131.out) hb); have n3_ := am_ (IsS41.below tc3_ hb); have n4_ := am_ (KeepBut.trans tc4_ (KeepBut.of_below hb g none) (.inl rfl)); have n5_ := am_ (below_step tc5_ hb); clear HO_5 HL139; clear HO131 HI0; clear HK HB; have HO_5 := n0_; have HL139 := n1_; have HO131 := n2_; have HI0 := n3_; have HK := n4_; have HB := n5_; clear n0_ n1_ n2_ n3_ n4_ n5_; (try clear hb); have p133 : 0 ≤ (t115 : Int) := od_; have q133 : t115 < (y128.length : Int) := (by have h_ : (t115 : Int) < ((x5_2.length : Int) : Int) := od_; first | (have e_ := (Kd.S_reads' HO_5.out).1; omega) | simpa only [Ny128.out, List.length_set] using h_); have ql133 : ((t115 : Int) < ((x5_2.length : Int) : Int)) = True := eq_true (od_); obtain ⟨ad133, A133_0, c133_0, e133, hx133_0, hl133_0, hi133_0⟩ := at_L3 (Kd.S_reads' HO_5.out).2.2 t115 p133 q133; obtain rfl : ad124 = ad133 := (by injection e133); obtain ⟨ce133, hce133, hMe133, hcc133⟩ := Kd.S_get HO_5.out [] t115 p133 (by first | exact q133 | exact od_ | (have e_ := (Kd.S_reads' HO_5.out).1; omega)); obtain ⟨ve133_0, rfl, ge133_0⟩ := hMe133; have hv133_0 := hcc133 0 _ rfl; rw [Nat.add_zero, show ((Kd.slice 3 (Kd.int .i64))).sz = 1 from rfl, Nat.mul_one] at hv133_0; replace hv133_0 := Option.some.inj (hv133_0.symm.trans hx133_0); rw [hv133_0] at ge133_0; have HL133_0 := am_ (show Kd.R (Kd.int .i64) 3 _ _ _ _ (rd_L3 y128 t115) from ge133_0); clear hv133_0 ge133_0; have HX133_0 := am_ hx133_0; clear hcc133 hce133; have HR133_0 := am_ hi133_0; have HC133_0 := am_ hl133_0; clear hi133_0 hl133_0; replace p133 := eq_true p133; replace q133 := eq_true q133; have p134 : 0 ≤ (t118 : Int) := od_; have q134 : t118 < ((rd_L3 y128 t115).length : Int) := od_; obtain ⟨ad134, e134, hx134_0⟩ := Kd.at_int (by repeat (first | (with_reducible exact HR133_0.out) | (with_reducible refine Kd.C_alloc ?_ _) | (with_reducible refine Kd.C_drewN ?_ _) | (with_reducible refine Kd.C_drew ?_) | exact HR133_0.out)) t118 p134 q134; cases e134; replace p134 := eq_true p134; replace q134 := eq_true q134; have p42 : 0 ≤ (t118 : Int) := od_; have q42 : (t118 : Int) < (((rd_L3 y128 t115).length : Int) : Int) := od_; obtain ⟨go42, co42, eo42, gb42, gl42, cl42, HG42⟩ := Kd.R_form HL133_0.out (by omega); (first | cases eo42 | (injection eo42 with ea_ en_ ec_; (first | subst ea_ | (injection ea_ with ea_; subst ea_)); subst ec_; clear en_)); have GB42 := am_ gb42; have GG42 := am_ HG42; clear gb42 gl42 HG42; (first | simp only [add_plain] at hx134_0 | skip); obtain ⟨hx42_0, hf42_0⟩ := Kd.R_celln 0 HL133_0.out (t118 : Int) p42 q42; replace p42 := eq_true p42; replace q42 := eq_true q42; have n_ := am_ (Kd.S_mono (ok' := (fun _ => True)) HO_5.out (fun k_ hk => trivial)); clear HO_5; have HO_5 := n_; clear n_; have hq51 : (t115 : Int) < (y128.length : Int) := (by have h_ : (t115 : Int) < ((x5_2.length : Int) : Int) := od_; first | exact h_ | (have e_ := (Kd.S_reads' HO_5.out).1; omega) | simpa only [Ny128.out, List.length_set] using h_); obtain ⟨oki51, ce51, hcl51, hM51, hcc51, hok51, hbk51⟩ := Kd.S_borrow HO_5.out [] (t115 : Int) (od_) (by first | exact hq51 | (have e_ := (Kd.S_reads' HO_5.out).1; omega)); obtain ⟨ve51_0, rfl, ge51_0⟩ := hM51; have hv51 := hcc51 0 _ rfl; rw [Nat.add_zero, show ((Kd.slice 3 (Kd.int .i64))).sz = 1 from rfl, Nat.mul_one] at hv51; replace hv51 := Option.some.inj (hv51.symm.trans HX133_0.out); subst hv51; clear hcc51 hcl51; replace ge51_0 := (show Kd.R (Kd.int .i64) 3 _ _ _ _ (rd_L3 y128 t115) from ge51_0); have HP51 := Kd.R_putg ge51_0 (t118 : Int) (wrap64 ((rd (rd_L3 y128 t115) t118) - (wrap64 ((wrap64 (2 * t121)) - 1))))) | ((with_reducible refine gate_store (t := 3) (p := 85) rfl ?_); refine store_event (t := 3) (p := 85) (v := ?vo_w52) (w1 := (w50.setCell ⟨go42, (t118 : Int).toNat, none⟩ (.int .i64 (wrap64 ((rd (rd_L3 y128 t115) t118) - (wrap64 ((wrap64 (2 * t121)) - 1))))))) ?hg ?ho ?hn ?hr ?_; (case ho => rfl); (case hg => rfl); (case hn => rfl); (case hr => exact tc26_); intro w52 hw; have hg : w50.grownBy w52 (some go42) := (by rw [hw]; exact HP51.2); have hz_ : Kd.R (Kd.int .i64) 3 w52 w.heap.size oki51 (.slice (some ⟨go42, 0, none⟩) (rd_L3 y128 t115).length c133_0) y135 := (by rw [hw, Ny135.out]; exact HP51.1); have hp_ : Kd.S (Kd.slice 3 (Kd.int .i64)) 32 w52 w.heap.size (fun _ => True) (.slice (some ad124) x5_2.length co5) y137 := (by rw [Ny137.out]; exact hbk51 hg (fun k_ e_ => by injection e_ with e_; subst e_; exact ge51_0.1 _ rfl) (Kd.M_row hz_)); have hm_ := Kd.R_mono hz_ hok51; clear HP51 hbk51; replace HO_5 := am_ (hp_); replace HI0 := am_ (IsS41.grown tc3_ hg (IsS41.own_ne HI0.out HL133_0.out (by decide))); replace HB := am_ ((by rw [hw]; exact below_set (HB.out) (Nat.le_trans HL.out GB42.out) : Below w0.heap.size w0 w52)); replace HK := am_ (KeepBut.trans tc4_ (KeepBut.of_grown hg g) (Kd.R_base2 HL133_0.out)); have HL140 := am_ (hm_); have HC136 := am_ ((Kd.R_reads' hm_).2.1); clear HL139 HL133_0; clear hg hw hp_ hz_ hm_ hok51))
          (try simp only [← hl5_2])
          go_roundg kj18
          case measure => have := HK1.out; have := HK2.out; have := HJ18.out; omega
          case rel => exact ⟨(y137), (wrap64 (x8_2 - 1)), (t122), (t123), tc8_, H', ⟨(by have := HK1.out; have := HK2.out; have := HJ18.out; omega)⟩, ⟨tc61_⟩, ⟨tc3_⟩, ⟨tc4_⟩, ⟨tc5_⟩⟩
        ·replace c21 := Bool.eq_false_iff.mpr c21; subst c21; have H1 : ((spec_sgFrom.f kj18 x5_2).bind fun t112 => (some (t112, x1001_2, x1002_2))) = some (r1, r2, r3) := tc14_; clear H; have H := H1; clear H1; replace H := bd_ H; obtain ⟨t112, A53, H⟩ := H; (try dsimp only at H); simp only [Option.some.injEq, Prod.mk.injEq] at H; obtain ⟨rfl, rfl, rfl⟩ := H
         go_wp2_with (first | (refine gc_ (some 87) Try.func78 #[.slice Ao5 x5_2.length co5] ?_; (with_reducible refine (spec_sgFrom.calls kj18 _ _ x5_2 t112 _ ?side1 ?side2 A53.out).mono ?_); (case side1 => exact tc43_); (case side2 => exact (Kd.S_reads' HO_5.out).2.1); rintro e w54 ⟨v113, rfl, ho0, hb⟩; refine ⟨_, rfl, ?_⟩; have HO114 := am_ (Kd.S_lower (Kd.S_new' ho0 (Kd.S_lt tc10_)) (keep_size (w := w) (g := g) (row := none) tc4_)); replace HO_5 := am_ (Kd.S_elder' tc10_ (Kd.S_base ho0) hb); replace HK := am_ (KeepBut.trans tc4_ (KeepBut.of_below hb g none) (.inl rfl)); replace HB := am_ (below_step tc5_ hb); replace HI0 := am_ (IsS41.below tc3_ hb); (try clear hb ho0)))
         go_ret
         exact ⟨_, tc9_, (by (with_reducible repeat (first | apply Kd.S_alloc | apply Kd.S_drewN | apply Kd.S_drew)); exact Kd.S_mono HO114.out (fun _ hk => trivial)), tc3_, tc5_, tc4_⟩

end Go.Proofs.Ytgmeijbomnijiaa.X
