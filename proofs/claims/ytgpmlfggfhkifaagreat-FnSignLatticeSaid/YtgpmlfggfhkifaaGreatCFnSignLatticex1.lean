-- Written by a program of this session (wip/xprint.py) that drives the kit's print; the contracts of what it does not take are this session's own.
import Derived.Test.YtgpmlfggfhkifaaGreatCFnSignLatticex0
namespace Go.Proofs.YtgpmlfggfhkifaaGreat.X
open Go.RowKit Go.Proofs.YtgpmlfggfhkifaaGreatW.PrintWords Go.Proofs.YtgpmlfggfhkifaaGreatW.PrintLast Go.Proofs.YtgpmlfggfhkifaaGreatW.PrintMore
set_option maxHeartbeats 8000000
set_option maxRecDepth 100000
attribute [local go_sem] max2_int min2_int max_two min_two max_three min_three max_four min_four   -- for this text's walks alone
set_option linter.unusedVariables false
set_option linter.unusedSimpArgs false

/-! ### at_1: function 0 -/
/-! ### What is asked of function values, and plain words -/
/-- A function value of one parameter that answers as p says, wherever memory has only grown. -/
structure Fn1 {α ρ : Type} (d : Kd α) (enc : ρ → Value) (P : Program) (g : Nat) (lb : Array Value) (p : α → Option ρ) (w : World) : Prop where
 eg : ∀ args w, (callFunc g args).run P w = .ok (.enter g args) w
 cl : ∀ W, Below w.heap.size w W → ∀ x v, d.K W x [v] → ∀ r, p x = some r → Calls P g (#[v] ++ lb) W fun e W' => e = .returned (enc r) ∧ Below W.heap.size W W'
/-- .. of two. -/
structure Fn2 {α β ρ : Type} (d : Kd α) (d2 : Kd β) (enc : ρ → Value) (P : Program) (g : Nat) (lb : Array Value) (p : α → β → Option ρ) (w : World) : Prop where
 eg : ∀ args w, (callFunc g args).run P w = .ok (.enter g args) w
 cl : ∀ W, Below w.heap.size w W → ∀ x v, d.K W x [v] → ∀ y u, d2.K W y [u] → ∀ r, p x y = some r → Calls P g (#[v, u] ++ lb) W fun e W' => e = .returned (enc r) ∧ Below W.heap.size W W'
theorem Fn1.later {α ρ : Type} {d : Kd α} {enc : ρ → Value} {P : Program} {g : Nat} {lb : Array Value} {p : α → Option ρ} {w W : World} (h : Fn1 d enc P g lb p w) (hb : Below w.heap.size w W) : Fn1 d enc P g lb p W :=
 ⟨h.eg, fun W' hb' => h.cl W' (hb.trans (hb'.mono hb.size))⟩
theorem Fn2.later {α β ρ : Type} {d : Kd α} {d2 : Kd β} {enc : ρ → Value} {P : Program} {g : Nat} {lb : Array Value} {p : α → β → Option ρ} {w W : World} (h : Fn2 d d2 enc P g lb p w) (hb : Below w.heap.size w W) : Fn2 d d2 enc P g lb p W :=
 ⟨h.eg, fun W' hb' => h.cl W' (hb.trans (hb'.mono hb.size))⟩
theorem K_int {k : IntKind} {w : World} {x : Int} : (Kd.int k).K w x [.int k x] := rfl
theorem K_slice {α : Type} {e : Nat} {d : Kd α} {w : World} {xs : List α} {A : Option Addr} {c : Nat} (h1 : xs.length ≤ c) (h2 : d.C w A xs.length xs) : (Kd.slice e d).K w xs [.slice A xs.length c] := ⟨A, c, rfl, h1, h2⟩
/-- A call of a function value that lies in a slot, as one step of a region that draws. -/
theorem goesF_ {P : Program} {ops : Array Oper} {Q : Exit → Act → World → Prop} {oi : Oper} {N : Option Tmp} {a : Act} {w : World} {K : Act → World → Prop} {g : Nat} {lb : Array Value} {fo : Operand} {aa : Array Operand} {ts : Array TypeId} (eg : ∀ args w, (callFunc g args).run P w = .ok (.enter g args) w) (args : Array Value)
  (hw : Region.wanted oi (yielded ops a.tmps) = true) (hN : oi.dst = N) (hop : oi.op = .call { callee := .value fo, args := aa, argTypes := ts }) (hf : a.eval fo = .func (.func g) #[] lb) (hargs : aa.map a.eval = args)
  (h : Calls P g (args ++ lb) w fun e w' => ∃ v, e = .returned v ∧ K (a.put N v) w') : if Region.wanted oi (yielded ops a.tmps) = true then Oper.wp P oi a w K Q else K (a.put N undef) w := by
 refine call_ g (args ++ lb) hw hN ?_ h; have he := eg (args ++ lb) w; unfold execOp
 simp [hop, resolve, Deferred.ofValue, invoke, hargs, he, hf]

/-! ### at_2: function 0 -/
section
variable {α : Type} {d : Kd α} {e : Nat} {w0 w w1 : World} {lo hi lo' hi' : Nat} {v : Value} {x : List α} {S : Nat → Prop}
/-- A row of this call's own whose blocks lie between two sizes of the heap. -/
def ObS (d : Kd α) (e : Nat) (w0 w : World) (lo hi : Nat) (v : Value) (x : List α) : Prop := hi ≤ w.heap.size ∧ Kd.S d e w w0.heap.size (fun k => lo ≤ k ∧ k < hi) v x
def ObR (d : Kd α) (e : Nat) (w0 w : World) (lo hi : Nat) (v : Value) (x : List α) : Prop := hi ≤ w.heap.size ∧ d.R e w w0.heap.size (fun k => lo ≤ k ∧ k < hi) v x
theorem ObS.later (h : ObS d e w0 w lo hi v x) (hb : Below w.heap.size w w1) : ObS d e w0 w1 lo hi v x := ⟨Nat.le_trans h.1 hb.size, Kd.S_below h.2 hb⟩
theorem ObR.later (h : ObR d e w0 w lo hi v x) (hb : Below w.heap.size w w1) : ObR d e w0 w1 lo hi v x := ⟨Nat.le_trans h.1 hb.size, Kd.R_below h.2 hb⟩
end
/-! ### at_3: function 0 -/
section
variable {α : Type} {d : Kd α} {e : Nat} {w0 w w1 : World} {A : Option Addr} {n c : Nat} {l : List α} {x : α} {S : Nat → Prop}
/-- A block of one cell, just made, as a row that is read. -/
theorem C_box (hs : d.sz = 1) {v : Value} (hK : d.K w x [v]) (t : TypeId) : d.C (w.alloc (.cells #[v] t)) (some ⟨w.heap.size, 0, none⟩) 1 [x] := by
  refine ⟨rfl, by omega, fun _ => ⟨_, rfl, fun j p hj => ?_⟩⟩
  cases j with
  | succ j => simp at hj
  | zero =>
    obtain rfl : x = p := by simpa using hj
    refine ⟨[v], hs.symm, d.K_below (below_alloc (Below.refl _ _) _) hK, fun i u hu => ?_⟩
    cases i with
    | succ i => simp at hu
    | zero =>
      obtain rfl : v = u := by simpa using hu
      rw [Nat.zero_mul, Nat.add_zero, Addr.add_lit]
      exact (blk_cell (blk_new w (.cells #[v] t)) 0).trans rfl
/-- An empty row, just made. -/
theorem R_empty {g base : Nat} {ok : Nat → Prop} (hg : w.heap[g]? = some (.cells #[] e (0, 0))) (hb : base ≤ g) (hok : ok g := by trivial) : d.R e w base ok (.slice (some ⟨g, 0, none⟩) 0 0) [] :=
  ⟨fun k hk => by (have e : g = k := by simpa [Value.ownBlock] using hk); exact e ▸ hok, [], ⟨by simp, .inr ⟨g, 0, #[], rfl, hb, hg, Nat.le_refl _, by unfold maxLen; omega, by simp, by simp⟩⟩, Reps.none _ _⟩
theorem blk_new' {o : Obj} {n : Nat} (h : w.heap.size = n) : (w.alloc o).heap[n]? = some o := h ▸ blk_new w o
theorem cell_of_below {a : Addr} {v : Value} (hb : Below w.heap.size w w1) (h : w.cell? a = some v) : w1.cell? a = some v := (hb.cell (World.block_lt_of_cell? _ _ h)).trans h
/-- A row whose cells have just been copied into a new block. -/
theorem N_grown {W : World} {ok : Nat → Prop} {v1 : Value} {xs : List α} {inner : List Value} (h : Reps (fun x c => Kd.FK d W ok x c) d.sz xs inner) (hown : w1.ownsRow W.heap.size e d.sz v1 xs.length inner) (hg : W.grownBy w1 none) :
    Kd.N d e w1 W.heap.size (fun k => ok k ∨ W.heap.size ≤ k) v1 xs := by
  refine ⟨fun k hk => .inr (own_base hown k hk), Kd.chunks d.sz xs.length inner, Kd.chunks_length _ _ _, ⟨fun k hk => hk.symm, inner, by rw [Kd.chunks_length]; exact hown, Kd.reps_raw h (fun x c hp => ⟨d.K_len (Kd.FK_now hp), d.K_one (Kd.FK_now hp)⟩)⟩, fun j x c hx hc => ?_⟩
  rw [Kd.chunks_get hc]
  refine Kd.FK_mono (Kd.FK_step (Kd.FK_bound (h.2 j x hx)) (fun k hk hlt => hg.block k hlt (by simp))) (fun k hk => ⟨.inl hk.1, fun he => ?_⟩)
  have := own_base hown k he.symm
  have := hk.2
  omega
/-- append onto a row that has no room left: a new row, the old one is only read. -/
theorem V_push_step {P : Program} {ops : Array Oper} {o : Oper} {a : Act} {W : World} {K : Act → World → Prop} {Q : Exit → Act → World → Prop} {E : Prop} {ok : Nat → Prop}
    (hg : o.guard = none) (s x : Operand) (t : TypeId) (hop : o.op = Op.call { callee := Callee.builtin Builtin.append, args := #[s, x], argTypes := #[t, t] }) (z : Value) (bytes : Nat)
    (h1 : P.underlying t = some (.slice e)) (h2 : (P.info? e).map (fun i => (i.zero, i.size, i.bytes)) = some (some z, 1, bytes)) (h6 : z.cells.size = 1) (hs1 : d.sz = 1)
    {A : Option Addr} {xs : List α} {y : α} {u : Value} {ad : Addr} (hs : a.eval s = .slice A xs.length xs.length) (hF : Kd.F d W ok A xs.length xs) (hx : a.eval x = .slice (some ad) 1 1) (hK : Kd.FK d W ok y [u]) (hc : W.cell? ad = some u)
    (b2 : (xs.length + 1) * bytes ≤ 140737488355328) (b3 : xs.length + 1 ≤ 140737488355328)
    (h : ∀ v1 w1, Kd.N d e w1 W.heap.size (fun k => ok k ∨ W.heap.size ≤ k) v1 (xs ++ [y]) → Below W.heap.size W w1 → K (a.put o.dst v1) w1) :
    if Region.wanted o (yielded ops a.tmps) = true then Oper.wp P o a W K Q else E := by
  obtain ⟨i0, hi, hzz⟩ := Option.map_eq_some_iff.1 h2
  simp only [Prod.mk.injEq] at hzz
  obtain ⟨hz0, hz1, hz2⟩ := hzz
  have hone : ∀ w ∈ [u], w.oneCell' = true := d.K_one (Kd.FK_now hK)
  have hol : ∃ olds, Reps (fun x c => Kd.FK d W ok x c) d.sz xs olds ∧ ∀ b, A = some b → ∀ j u, olds[j]? = some u → W.cell? (b.add j) = some u := by
    cases A with
    | some b =>
      obtain ⟨olds, h3, h4⟩ := ReadsRow.inner_ (Kd.F_rows hF)
      exact ⟨olds, h3, fun b' hb => by injection hb with hb; subst hb; exact h4⟩
    | none =>
      have h0 : xs = [] := by
        have h1 := (Kd.F_now hF).2.2
        cases xs with
        | nil => rfl
        | cons x xs =>
          obtain ⟨ad, e, _⟩ := h1 (by simp)
          cases e
      subst h0
      exact ⟨[], Reps.none _ _, fun b hb => by cases hb⟩
  obtain ⟨olds, hr, hcells⟩ := hol
  have hnone : A = none → xs.length = 0 ∧ xs.length = 0 := by
    rintro rfl
    have h1 := (Kd.F_now hF).2.2
    rcases Nat.eq_zero_or_pos xs.length with h0 | h0
    · exact ⟨h0, h0⟩
    · obtain ⟨ad, e, _⟩ := h1 h0
      cases e
  refine step_append_grows hg s x t hop e i0 z 1 bytes h1 hi hz0 hz1 hz2 h6 (by omega) A xs.length xs.length olds hs hnone (by rw [hr.1, hs1]) hcells ad 1 1 [u] hx rfl ?_ hone (by omega) (by simp only [maxLen]; omega) b2 ?_
  · intro j v hv
    cases j with
    | zero =>
      obtain rfl : u = v := by simpa using hv
      simpa [Addr.add] using hc
    | succ j => simp at hv
  · intro v1 w1 hown hgr
    have hr2 := hr.snoc hK (by rw [hs1]; rfl)
    have hown2 : w1.ownsRow W.heap.size e d.sz v1 (xs ++ [y]).length (olds ++ [u]) := by
      rw [hs1, List.length_append]
      exact hown
    exact h v1 w1 (N_grown hr2 hown2 hgr) ((Below.refl _ _).grown hgr (Nat.le_refl _) (fun _ h => by cases h))
/-- Kept, and the streams are as they were. -/
def Kp (w W : World) (S : Nat → Prop) : Prop := Kept w W S ∧ Below 0 w W
theorem Kp.refl (w : World) (S : Nat → Prop) : Kp w w S := ⟨Kept.refl _ _, Below.refl _ _⟩
theorem Kp.sz {W : World} (h : Kp w W S) : w.heap.size ≤ W.heap.size := h.1.1
theorem Kp.at {W : World} (h : Kp w W S) (k : Nat) (hk : k < w.heap.size) (hn : ¬ S k) : W.heap[k]? = w.heap[k]? := h.1.2 k hk hn
theorem Kp.mono {W : World} {S' : Nat → Prop} (h : Kp w W S) (hs : ∀ k, S k → S' k) : Kp w W S' := ⟨h.1.mono hs, h.2⟩
theorem Kp.then_ {W W2 : World} {S2 : Nat → Prop} (h : Kp w W S) (k : Kp W W2 S2) (hs : ∀ k, S2 k → S k ∨ w.heap.size ≤ k) : Kp w W2 S := ⟨h.1.then_ k.1 hs, h.2.trans k.2⟩
theorem Kp.below {W W2 : World} (h : Kp w W S) (hb : Below W.heap.size W W2) : Kp w W2 S := ⟨h.1.below hb, h.2.trans (hb.mono (Nat.zero_le _))⟩
theorem Kp.of_below {W : World} (h : Below w.heap.size w W) (S : Nat → Prop) : Kp w W S := ⟨Kept.of_below h S, h.mono (Nat.zero_le _)⟩
theorem Kp.drew {W : World} (h : Kp w W S) : Kp w W.drew S := ⟨h.1, h.2.drew⟩
theorem Kp.drewN {W : World} (h : Kp w W S) (m : Nat) : Kp w (W.drewN m) S := h.below (pw_below_drewN (Below.refl _ _) m)
theorem Kp.setCell {W : World} (h : Kp w W S) {p : Addr} (hp : S p.block ∨ w.heap.size ≤ p.block) (u : Value) : Kp w (W.setCell p u) S := ⟨h.1.setCell hp u, h.2.setCell (Nat.zero_le _) u⟩
/-- What lies below all of S is as it was. -/
theorem Kp.to_below {W : World} {B : Nat} (h : Kp w W S) (hB : B ≤ w.heap.size) (hs : ∀ k, S k → B ≤ k) : Below B w W :=
  ⟨h.2.os, h.2.tape, h.2.output, h.2.size, fun k hk => h.1.2 k (by omega) (fun h1 => by have := hs k h1; omega)⟩
/-- An element of a row of rows. -/
theorem V_row {W : World} {ok : Nat → Prop} {e' b b' cc : Nat} {xs : List (List α)} (h : Kd.V (Kd.slice e d) e' W b ok (.slice A xs.length cc) xs) (i : Int) (h0 : 0 ≤ i) (h1 : i < xs.length) :
    ∃ ad Aw cw, A = some ad ∧ W.cell? (ad.add i.toNat) = some (.slice Aw (xs.getD i.toNat []).length cw) ∧ Kd.V d e W b' ok (.slice Aw (xs.getD i.toNat []).length cw) (xs.getD i.toNat []) := by
  obtain ⟨ad, cs, he, _, hK, hcc, _⟩ := Kd.F_get (Kd.V_F h) [] i h0 (by simpa using h1)
  obtain ⟨Aw, cw, rfl, hl, hf⟩ := Kd.FK_slice_open hK
  have hx := hcc 0 _ rfl
  rw [show (Kd.slice e d).sz = 1 from rfl, Nat.mul_one, Nat.add_zero] at hx
  exact ⟨ad, Aw, cw, he, hx, Kd.V_mk hl hf⟩
theorem V_kept_to {W : World} {S' : Nat → Prop} {v : Value} {xs : List α} {b g : Nat} (h : Kd.V d e W b (fun k => ¬ S k ∧ k ≠ g) v xs) (hk : Kp W w1 S) (hs : ∀ k, S' k → S k ∨ W.heap.size ≤ k) : Kd.V d e w1 b (fun k => ¬ S' k ∧ k ≠ g) v xs :=
  Kd.V_mono (Kd.V_kept (Kd.V_bound h) hk.1 (fun k hk => hk.1.1)) (fun k hk => ⟨fun h' => (hs k h').elim hk.1.1 (fun h2 => by have := hk.2; omega), hk.1.2⟩)
/-- A block of numbers, whole, as a row that is read. -/
theorem C_nums {k : IntKind} {g t : Nat} {xs : List Int} (h : w.heap[g]? = some (.cells (nums k xs).toArray t (0, 0))) (hl : xs.length ≤ 9223372036854775807) : (Kd.int k).C w (some ⟨g, 0, none⟩) xs.length xs := by
  refine ⟨rfl, hl, fun _ => ⟨_, rfl, fun j p hj => ⟨[.int k p], rfl, rfl, fun i u hu => ?_⟩⟩⟩
  cases i with
  | succ i => simp at hu
  | zero =>
    obtain rfl : Value.int k p = u := by simpa using hu
    have hx := blk_cell h j
    rw [show j * (Kd.int k).sz + 0 = j from by show j * 1 + 0 = j; omega, Addr.add_lit, Nat.zero_add, hx]
    simp [nums, hj]
/-- A block of numbers, whole, as a row of one's own. -/
theorem R_nums {k : IntKind} {g e base : Nat} {w : World} {xs : List Int} {ok : Nat → Prop} (h : w.heap[g]? = some (.cells (nums k xs).toArray e (0, 0))) (hb : base ≤ g) (hl : xs.length ≤ 9223372036854775807) (hok : ok g := by trivial) :
    (Kd.int k).R e w base ok (.slice (some ⟨g, 0, none⟩) xs.length xs.length) xs :=
  ⟨fun i hi => by (have e : g = i := by simpa [Value.ownBlock] using hi); exact e ▸ hok,
    nums k xs, ⟨by show _ = xs.length * 1; simp [nums], .inr ⟨g, xs.length, (nums k xs).toArray, rfl, hb, h, Nat.le_refl _, hl, by show _ = xs.length * 1; simp [nums], by show List.take (xs.length * 1) _ = _; rw [List.toList_toArray]; exact List.take_of_length_le (by simp [nums])⟩⟩, Kd.reps_scalar xs⟩
theorem nums_set {k : IntKind} {xs : List Int} (i : Nat) (v : Int) : (nums k xs).toArray.setIfInBounds i (.int k v) = (nums k (xs.set i v)).toArray := by
  simp [nums, List.map_set]
/-- make([]int, n): a block of zeros. -/
theorem make_zeros {P : Program} {o : Oper} {a : Act} {x : Operand} {ty e0 : TypeId} (ho : o.op = .makeSlice ty x x) (n : Int) (hx : a.eval x = .int .i64 n) (ht : P.underlying ty = some (.slice e0))
    (hinfo : (P.info? e0).map (fun i => (i.zero, i.size, i.bytes)) = some (some (.int .i64 0), 1, 8)) (h0 : 0 ≤ n) (h1 : n ≤ 1000000) (W : World) :
    (execOp a.eval o).run P W = .ok (.value (.slice (some ⟨W.heap.size, 0, none⟩) n.toNat n.toNat)) (W.alloc (.cells (nums .i64 (List.replicate n.toNat 0)).toArray e0)) := by
  obtain ⟨i0, hi, hzz⟩ := Option.map_eq_some_iff.1 hinfo
  simp only [Prod.mk.injEq] at hzz
  obtain ⟨hz0, hz1, hz2⟩ := hzz
  have hr := run_make (P := P) W ty e0 i0 _ ht hi hz0 .i64 .i64 n n h0 (Int.le_refl _) (by rw [hz2]; omega) (by omega)
  have hm : madeCells (Value.int .i64 0).cells (n.toNat * i0.size) = (nums .i64 (List.replicate n.toNat 0)).toArray := by
    rw [hz1, Nat.mul_one]
    refine Array.ext (by simp [madeCells, nums]) fun i h1 h2 => ?_
    simp [madeCells, nums, Value.cells, Nat.mod_one]
  rw [hm] at hr
  simp [execOp, ho, hx, hr]
/-- A number of a row of rows of one's own: it is read, it may be written, and then the rows are told anew. -/
theorem S_cell2k {W : World} {base e e' n cap : Nat} {ok : Nat → Prop} {ad : Addr} {xs : Tb_} (h : Kd.S (Kd.slice e' (Kd.int .i64)) e W base ok (.slice (some ad) n cap) xs) (i : Int) (h0 : 0 ≤ i) (h1 : i < n) :
    ∃ Aw cw, W.cell? (ad.add i.toNat) = some (.slice Aw (xs.getD i.toNat []).length cw) ∧ ∀ j : Int, 0 ≤ j → j < (xs.getD i.toNat []).length → ∃ aw, Aw = some aw ∧ W.cell? (aw.add j.toNat) = some (.int .i64 (rd (xs.getD i.toNat []) j)) ∧ W.frozen? (aw.add j.toNat) = false ∧ base ≤ (aw.add j.toNat).block ∧ ok (aw.add j.toNat).block ∧
      ∀ v : Int, Kd.S (Kd.slice e' (Kd.int .i64)) e (W.setCell (aw.add j.toNat) (.int .i64 v)) base ok (.slice (some ad) n cap) (xs.set i.toNat ((xs.getD i.toNat []).set j.toNat v)) := by
  obtain ⟨oki, c, hcl, hM, hcc, hok, hbk⟩ := Kd.S_borrow h [] i h0 h1
  obtain ⟨v0, rfl, hR⟩ := hM
  obtain ⟨Aw, cw, rfl⟩ := Kd.R_slice hR
  have hx := hcc 0 _ rfl
  rw [show (Kd.slice e' (Kd.int .i64)).sz = 1 from rfl, Nat.mul_one, Nat.add_zero] at hx
  refine ⟨Aw, cw, hx, fun j j0 j1 => ?_⟩
  obtain ⟨g, cap', ev, hbg, hgl, _⟩ := Kd.R_form hR (by omega)
  injection ev with e1 _ _
  subst e1
  obtain ⟨q1, q2⟩ := Kd.R_celln (0 : Int) hR j j0 (by omega)
  refine ⟨⟨g, 0, none⟩, rfl, ?_, ?_, by rw [Addr.add_lit]; exact hbg, by rw [Addr.add_lit]; exact (hok g (hR.1 g rfl)).1, fun v => ?_⟩
  · rw [Addr.add_lit, Nat.zero_add]; exact q1
  · rw [Addr.add_lit, Nat.zero_add]; exact q2
  · rw [Addr.add_lit, Nat.zero_add]
    obtain ⟨r1, r2⟩ := Kd.R_putg hR j v
    exact hbk r2 (fun k hk => hR.1 k (by rw [← hk]; rfl)) ⟨_, rfl, r1⟩
/-- What was written and then put back. -/
theorem Kp.back {W : World} {g : Nat} {o : Obj} (h : Kp w W (fun k => S k ∨ k = g)) (h1 : w.heap[g]? = some o) (h2 : W.heap[g]? = some o) : Kp w W S :=
  ⟨⟨h.sz, fun i hi hn => by
    by_cases hg : i = g
    · subst hg; rw [h1, h2]
    · exact h.at i hi (fun hs => hs.elim hn hg)⟩, h.2⟩
/-- A function value with a state of its own: what it holds in memory is told by Inv over the blocks of S. -/
structure FnS {σ α ρ : Type} (d : Kd α) (enc : ρ → Value) (P : Program) (g : Nat) (lb : Array Value) (p : σ → α → Option (σ × ρ)) (Inv : σ → World → (Nat → Prop) → Prop) : Prop where
  eg : ∀ args w, (callFunc g args).run P w = .ok (.enter g args) w
  bd : ∀ s W S, Inv s W S → ∀ k, S k → k < W.heap.size
  st : ∀ s W S W', Inv s W S → Below 0 W W' → (∀ k, S k → W'.heap[k]? = W.heap[k]?) → Inv s W' S
  cl : ∀ s W S, Inv s W S → ∀ x v, d.K W x [v] → ∀ s' r, p s x = some (s', r) → Calls P g (#[v] ++ lb) W fun e W' => e = .returned (enc r) ∧ ∃ S', Inv s' W' S' ∧ Kp W W' S ∧ ∀ k, S' k → S k ∨ W.heap.size ≤ k
end
def rowOk (sums row : List Int) : Bool := decide (sums.length = row.length) && sums.all (fun s => decide (0 ≤ s) && decide (s ≤ 1)) && row.all (fun s => decide (-1 ≤ s) && decide (s ≤ 1))
/-! ### at_4: function 0 -/
/-- Rows whose own rows lie apart: as Kd.slice, what is owned told by S. -/
def sliceS {α : Type} (e : Nat) (d : Kd α) : Kd (List α) where
  sz := 1
  E := e :: d.E
  K := (Kd.slice e d).K
  M := fun w base ok xs cs => ∃ v, cs = [v] ∧ Kd.S d e w base ok v xs
  K_len := fun h => (Kd.slice e d).K_len h
  K_one := fun h => (Kd.slice e d).K_one h
  K_below := fun hb h => (Kd.slice e d).K_below hb h
  K_of_M := by
    rintro w base ok x cs ⟨v, rfl, h⟩
    obtain ⟨A, c, rfl, hl, hr⟩ := Kd.S_reads h
    exact ⟨A, c, rfl, hl, hr⟩
  M_mono := by
    rintro w base ok ok' x cs hok ⟨v, rfl, h⟩
    exact ⟨v, rfl, Kd.S_mono h hok⟩
  M_bound := by
    rintro w base ok x cs ⟨v, rfl, h⟩
    exact ⟨v, rfl, Kd.S_bound h⟩
  M_move := by
    rintro w w1 base ok x cs hm ⟨v, rfl, h⟩
    exact ⟨v, rfl, Kd.S_move h hm⟩
  M_lower := by
    rintro w base base' ok x cs hb ⟨v, rfl, h⟩
    exact ⟨v, rfl, Kd.S_lower h hb⟩
section
variable {α : Type} {d : Kd α} {e lo hi lo' hi' : Nat} {w0 w w1 : World} {v : Value} {x : List α}
/-- A new row whose rows may be one another's, that is only read: its blocks lie between lo and hi. -/
def ObN (d : Kd α) (e : Nat) (w0 w : World) (lo hi : Nat) (v : Value) (x : List α) : Prop := hi ≤ w.heap.size ∧ Kd.N d e w w0.heap.size (fun k => lo ≤ k ∧ k < hi) v x
theorem ObN.later (h : ObN d e w0 w lo hi v x) (hb : Below w.heap.size w w1) : ObN d e w0 w1 lo hi v x := ⟨Nat.le_trans h.1 hb.size, Kd.N_below h.2 hb⟩
end

/-! ### laws_big: function 4 -/
def laws_big.f (l0 : List Int) (l1 : List Int) : Option (Bool) := if (l0.length : Int) > 1048576 then (some true) else (some (decide ((l1.length : Int) > (wrap64 (1048576 - (l0.length : Int))))))
theorem laws_big.calls (A0 : Option Addr) (c0 : Nat) (l0 : List Int) (A1 : Option Addr) (c1 : Nat) (l1 : List Int) (r : Bool) (w : World) (hr0 : Kd.C (Kd.int .u8) w A0 l0.length l0) (hc0 : l0.length ≤ c0) (hr1 : Kd.C (Kd.int .u8) w A1 l1.length l1) (hc1 : l1.length ≤ c1) (h : laws_big.f l0 l1 = some r) :
  Calls Tryz.prog 4 #[.slice A0 l0.length c0, .slice A1 l1.length c1] w fun e w' => e = .returned (.bool r) ∧ Drawn0 w w' := by
 have HR0 := am_ hr0; have HC0 := am_ hc0; clear hr0 hc0; have HR1 := am_ hr1; have HC1 := am_ hc1; clear hr1 hc1; unfold laws_big.f at h; have H := h; clear h
 replace H := pn_ H; obtain ⟨c3, H⟩ | ⟨c3, H⟩ := H
 ·have c3b0 : decide (1048576 < (l0.length : Int)) = true := decide_eq_true c3; have c3b1 : decide (1048576 < l0.length) = true := decide_eq_true (by omega); clear c3; obtain rfl := Option.some.inj H; go_enter Tryz.func4, Tryz.ntmps4; go_wp2
  go_ret
  exact ⟨tc6_, tc13_⟩
 ·have c3b0 : decide (1048576 < (l0.length : Int)) = false := decide_eq_false c3; have c3b1 : decide (1048576 < l0.length) = false := decide_eq_false (by omega); clear c3; obtain rfl := Option.some.inj H; go_enter Tryz.func4, Tryz.ntmps4; go_wp2
  go_ret
  exact ⟨tc6_, tc13_⟩

/-! ### spec_sgZero: function 58 -/
def spec_sgZero.l0 : Nat → Int → Tb_ → Int → Option (Tb_)
 | 0, _, _, _ => none
 | k + 1, x0, x3, x4 => if x4 < x0 then (if 0 ≤ x0 then (if (x0 : Int).toNat ≤ 35184372088832 then (if x3.length < 5864062014805 then (spec_sgZero.l0 k x0 (x3 ++ [(List.replicate (x0 : Int).toNat 0)]) (wrap64 (x4 + 1))) else (none)) else (none)) else (none)) else (some x3)
def spec_sgZero.f (k : Nat) (a0 : Int) : Option (Tb_) := spec_sgZero.l0 k a0 ([] : Tb_) 0
theorem spec_sgZero.calls (k : Nat) (a0 : Int) (r : Tb_) (w : World) (h : spec_sgZero.f k a0 = some r) :
  Calls Tryz.prog 58 #[.int .i64 a0] w fun e w' => ∃ v0_ : Value, e = .returned (v0_) ∧ Kd.S (Kd.slice 3 (Kd.int .i64)) 44 w' w.heap.size (fun _ => True) v0_ r ∧ Below w.heap.size w w' := by
 have HB := am_ (Below.refl w.heap.size w); unfold spec_sgZero.f at h; have H := h; clear h; have H' := am_ H; clear H; go_enter Tryz.func58, Tryz.ntmps58; go_wp2
 go_loopg [3, 4] k (fun kq v3 v4 w' => ∃ (x3_1 : Tb_) (x4_1 : Int), v4 = .int .i64 x4_1 ∧ Aside0 (spec_sgZero.l0 kq a0 x3_1 x4_1 = some r) ∧ Aside0 (kq ≤ k) ∧ Aside0 (Kd.S (Kd.slice 3 (Kd.int .i64)) 44 w' w.heap.size (fun _ => True) v3 x3_1) ∧ Aside0 (Below w.heap.size w w'))
 case atStart => exact ⟨(([] : Tb_)), (0), tc6_, H', ⟨Nat.le_refl _⟩, ⟨tc29_⟩, ⟨tc0_⟩⟩
 case round =>
  clear H'; obtain ⟨x3_1, x4_1, rfl, HA, HK1, HO_3, HB⟩ := hrel
  cases gk with
  | zero => exact absurd HA.out (by simp [spec_sgZero.l0])
  | succ k1 =>
   have H := HA.out; clear HA; simp only [spec_sgZero.l0] at H
   replace H := sp_ H; obtain ⟨c2b0, H⟩ | ⟨c2b0, H⟩ := H
   ·replace H := pp_ H; obtain ⟨c3, H⟩ := H; have c3b0 := eq_true c3; have c3b1 : decide (0 ≤ a0) = true := decide_eq_true c3; clear c3; replace H := pp_ H; obtain ⟨c4, H⟩ := H; have c4b0 := eq_true c4; have c4b1 : decide ((a0 : Int).toNat ≤ 35184372088832) = true := decide_eq_true c4; clear c4; obtain ⟨y101, hy101⟩ : ∃ y_ : List Int, y_ = (List.replicate (a0 : Int).toNat 0) := ⟨_, rfl⟩; replace H : (if x3_1.length < 5864062014805 then (spec_sgZero.l0 k1 a0 (x3_1 ++ [y101]) (wrap64 (x4_1 + 1))) else (none)) = some r := tc24_; have Ny101 := am_ hy101; clear hy101; replace H := pp_ H; obtain ⟨c5, H⟩ := H; have LMc5 := am_ c5; clear c5; obtain ⟨y104, hy104⟩ : ∃ y_ : Tb_, y_ = (x3_1 ++ [y101]) := ⟨_, rfl⟩; replace H : (spec_sgZero.l0 k1 a0 y104 (wrap64 (x4_1 + 1))) = some r := tc51_; have Ny104 := am_ hy104; clear hy104; have H' := am_ H; clear H
    go_wp2_with (first | ((with_reducible refine gate_dst (N := 12) rfl ?_); refine Kd.R_make (Kd.int .i64) _ 3 rfl (N := 12) rfl 44 _ _ rfl a0 rfl rfl Tryz.underlying44 (.int .i64 0) 8 info3 rfl (by decide) (by omega) 0 (ok := fun _ => True) (okp := fun _ => True) rfl (fun _ hk => hk) trivial (od_) (Nat.le_trans (Nat.mul_le_mul_right _ (od_ : a0.toNat ≤ 35184372088832)) (by omega)) (Below.refl _ _) (Nat.le_refl _) ?_; intro v102 w6 ho7 hb hg_ hnew_; clear hg_ hnew_; (first | rw [← Ny101.out] at ho7 | (simp only [Int.reduceToNat] at ho7; rw [← Ny101.out] at ho7)); replace HO_3 := am_ (Kd.S_elder' tc35_ (Kd.R_base ho7) hb); have HO103 := am_ (Kd.R_lower ho7 (below_size tc0_)); replace HB := am_ (below_step tc0_ hb); clear hb ho7; obtain ⟨Ao9, co9, eo9⟩ := Kd.R_slice HO103.out; subst eo9) | ((with_reducible refine gate_builtin (b := .append) (xs := #[.tmp 10, .tmp 13]) rfl ?_); at_builtin; refine Kd.S_append (Kd.slice 3 (Kd.int .i64)) (w0 := w) w.heap.size rfl (.tmp 10) (.tmp 13) 24 44 (.slice none 0 0) 24 rfl Tryz.underlying24 info44 rfl (by decide) (by omega) u3 x3_1 y101 [.slice Ao9 y101.length co9] (fun _ => True) (fun k_ => some k_ = (.slice Ao9 y101.length co9 : Value).ownBlock) rfl rfl ?aP (fun k_ hk_ => ((Kd.R_mono (ok' := fun k_ => ((fun _ => True)) k_ ∧ some k_ ≠ (u3 : Value).ownBlock) (Kd.R_apart' (HO103.out) (Kd.S_typed HO_3.out) (by decide)) (fun k_ hk => ⟨trivial, hk.2⟩))).1 k_ hk_.symm) ?aF ?aO ?aB ?aS ?aL ?_; (case aP => exact Kd.M_row (Kd.R_mono (Kd.R_tight rfl (Kd.R_mono (ok' := fun k_ => ((fun _ => True)) k_ ∧ some k_ ≠ (u3 : Value).ownBlock) (Kd.R_apart' (HO103.out) (Kd.S_typed HO_3.out) (by decide)) (fun k_ hk => ⟨trivial, hk.2⟩))) (fun _ h_ => h_))); (case aB => exact tc10_); (case aF => exact tc151_); (case aO => exact tc175_); (case aS => exact tc11_); (case aL => have := LMc5.out; omega); intro v105 w8 ho hb hg hat; rw [← Ny104.out] at ho; replace HB := am_ (hb); have HO106 := am_ (ho); clear HO_3 HO103; clear ho hb hg hat))
    go_roundg k1
    case measure => have := HK1.out; omega
    case rel => exact ⟨(y104), (wrap64 (x4_1 + 1)), tc6_, H', ⟨tc135_⟩, ⟨tc31_⟩, ⟨tc0_⟩⟩
   ·obtain rfl := Option.some.inj H; go_wp2
    go_ret
    exact ⟨_, tc7_, tc35_, tc0_⟩

/-! ### spec_sgCorners: function 60 -/
mutual
def spec_sgCorners.l0 : Nat → Tb_ → Tb_ → Int → Int → Option (Tb_)
 | 0, _, _, _, _ => none
 | k + 1, x0, x3, x12, x13 => if x13 < x12 then (if 0 ≤ x13 then (if x13 < (x0.length : Int) then (spec_sgCorners.l1 k x0 x3 x13 0 x12 x13 (rd_L3 x0 x13) ((rd_L3 x0 x13).length : Int) 0) else (none)) else (none)) else (some x3)
def spec_sgCorners.l1 : Nat → Tb_ → Tb_ → Int → Int → Int → Int → List Int → Int → Int → Option (Tb_)
 | 0, _, _, _, _, _, _, _, _, _ => none
 | k + 1, x0, x3, x4, x5, x12, x13, x19, x20, x21 => if x21 < x20 then (if 0 ≤ x21 then (if x21 < (x19.length : Int) then (if 0 ≤ x4 then (if x4 < (x3.length : Int) then (if x21 < ((rd_L3 x3 x4).length : Int) then ((some (x3.set (x4 : Int).toNat ((rd_L3 x3 x4).set (x21 : Int).toNat (wrap64 (x5 + (rd x19 x21)))) : Tb_)).bind fun y109 => (if x4 > 0 then (if x21 < ((rd_L3 y109 x4).length : Int) then (if 0 ≤ (wrap64 (x4 - 1)) then (if (wrap64 (x4 - 1)) < (x3.length : Int) then (if x21 < ((rd_L3 y109 (wrap64 (x4 - 1))).length : Int) then (spec_sgCorners.l1 k x0 (y109.set (x4 : Int).toNat ((rd_L3 y109 x4).set (x21 : Int).toNat (wrap64 ((rd (rd_L3 y109 x4) x21) + (rd (rd_L3 y109 (wrap64 (x4 - 1))) x21))))) x4 (wrap64 (x5 + (rd x19 x21))) x12 x13 x19 x20 (wrap64 (x21 + 1))) else (none)) else (none)) else (none)) else (none)) else (spec_sgCorners.l1 k x0 y109 x4 (wrap64 (x5 + (rd x19 x21))) x12 x13 x19 x20 (wrap64 (x21 + 1))))) else (none)) else (none)) else (none)) else (none)) else (none)) else (spec_sgCorners.l0 k x0 x3 x12 (wrap64 (x13 + 1)))
end
def spec_sgCorners.f (k : Nat) (l0 : Tb_) : Option (Tb_) := (spec_sgZero.f k (l0.length : Int)).bind fun t101 => (spec_sgCorners.l0 k l0 t101 (l0.length : Int) 0)
def spec_sgCorners.T12 : Bool × List (List Nat × List Nat) := (true, [([], []), ([], []), ([0, 1], [0, 1]), ([2], [2]), ([], []), ([3, 4], [3, 4]), ([5], [5]), ([], []), ([], []), ([8], [8]), ([7, 9], [7, 9]), ([10], [10]), ([], []), ([11, 12], [11, 12]), ([13], [13]), ([6, 14], [6, 14]), ([3, 4, 0, 1, 2, 3, 4, 5, 6, 7, 8, 9, 10, 11, 12, 13, 14, 15], [3, 4]), ([16, 15, 0, 1, 2, 3, 4, 5, 6, 7, 8, 9, 10, 11, 12, 13, 14, 15], [15, 16])])
def spec_sgCorners.B12 : List Nat := [0, 0, 3, 7, 0, 31, 63, 0, 0, 256, 896, 1920, 0, 8064, 16256, 32767, 65535, 131071]
theorem spec_sgCorners.tab12 : rtab .any (opsOf Tryz.f60 12) = spec_sgCorners.T12 := by kernel_rfl
theorem spec_sgCorners.bits12 : waitsOk spec_sgCorners.T12.2 spec_sgCorners.B12 = true := by kernel_rfl
theorem spec_sgCorners.calls (k : Nat) (A0 : Option Addr) (c0 : Nat) (l0 : Tb_) (r : Tb_) (w : World) (hr0 : Kd.C (Kd.slice 3 (Kd.int .i64)) w A0 l0.length l0) (hc0 : l0.length ≤ c0) (h : spec_sgCorners.f k l0 = some r) :
  Calls Tryz.prog 60 #[.slice A0 l0.length c0] w fun e w' => ∃ v0_ : Value, e = .returned (v0_) ∧ Kd.S (Kd.slice 3 (Kd.int .i64)) 44 w' w.heap.size (fun _ => True) v0_ r ∧ Below w.heap.size w w' := by
 have HR0 := am_ hr0; have HC0 := am_ hc0; clear hr0 hc0; have HB := am_ (Below.refl w.heap.size w); unfold spec_sgCorners.f at h; have H := h; clear h; replace H := bd_ H; obtain ⟨t101, A2, H⟩ := H; (try dsimp only at H); have H' := am_ H; clear H; go_enter Tryz.func60, Tryz.ntmps60
 go_wp2_with (first | (refine gc_ (some 10) Tryz.func58 #[.int .i64 (l0.length : Int)] ?_; (with_reducible refine (spec_sgZero.calls k (l0.length : Int) t101 _ A2.out).mono ?_); rintro e w3 ⟨v102, rfl, ho0, hb⟩; refine ⟨_, rfl, ?_⟩; have HO103 := am_ (Kd.S_lower ho0 (below_size tc0_)); replace HB := am_ (below_step tc0_ hb); (try clear hb ho0)))
 go_loopg [13] k (fun kq v13 w' => ∃ (x3_1 : Tb_) (x13_1 : Int), v13 = .int .i64 x13_1 ∧ Aside0 (spec_sgCorners.l0 kq l0 x3_1 (l0.length : Int) x13_1 = some r) ∧ Aside0 (kq ≤ k) ∧ Aside0 (Kd.S (Kd.slice 3 (Kd.int .i64)) 44 w' w.heap.size (fun _ => True) v102 x3_1) ∧ Aside0 (Below w.heap.size w w'))
 case atStart => exact ⟨(t101), (0), tc6_, H', ⟨Nat.le_refl _⟩, ⟨tc22_⟩, ⟨tc0_⟩⟩
 case round =>
  clear H'; (try clear p2); obtain ⟨x3_1, x13_1, rfl, HA, HK1, HO_3, HB⟩ := hrel
  cases gk with
  | zero => exact absurd HA.out (by simp [spec_sgCorners.l0])
  | succ k1 =>
   have H := HA.out; clear HA; simp only [spec_sgCorners.l0] at H
   replace H := sp_ H; obtain ⟨c4b0, H⟩ | ⟨c4b0, H⟩ := H
   ·replace H := ps_ H; obtain ⟨c5b0, H⟩ := H; replace H := ps_ H; obtain ⟨c6b0, H⟩ := H; have H' := am_ H; clear H; have p104 : 0 ≤ (x13_1 : Int) := od_; have q104 : x13_1 < (l0.length : Int) := od_; obtain ⟨ad104, A104_0, c104_0, e104, hx104_0, hl104_0, hi104_0⟩ := at_L3 HR0.out x13_1 p104 q104; cases e104; replace hx104_0 := (HB.out.cell (World.block_lt_of_cell? w _ hx104_0)).trans hx104_0; have HR104_0 := am_ hi104_0; have HC104_0 := am_ hl104_0; clear hi104_0 hl104_0; replace p104 := eq_true p104; replace q104 := eq_true q104; go_wp2
    go_loopg [5, 21] k1 (fun kq v5 v21 w' => ∃ (x3_2 : Tb_) (x5_2 : Int) (x21_2 : Int), v5 = .int .i64 x5_2 ∧ v21 = .int .i64 x21_2 ∧ Aside0 (spec_sgCorners.l1 kq l0 x3_2 x13_1 x5_2 (l0.length : Int) x13_1 (rd_L3 l0 x13_1) ((rd_L3 l0 x13_1).length : Int) x21_2 = some r) ∧ Aside0 (kq ≤ k1) ∧ Aside0 (Kd.S (Kd.slice 3 (Kd.int .i64)) 44 w' w.heap.size (fun _ => True) v102 x3_2) ∧ Aside0 (Below w.heap.size w w'))
    case atStart => exact ⟨(x3_1), (0), (0), tc6_, tc6_, H', ⟨Nat.le_refl _⟩, ⟨tc35_⟩, ⟨tc0_⟩⟩
    case round =>
     clear H'; (try clear c1); (try clear p1); (try clear q1); (try clear hx1); (try clear p2); (try clear c4); (try clear c4b0); (try clear c5); (try clear c5b0); (try clear c6); (try clear c6b0); (try clear hx104_0); (try clear p104); (try clear p2); (try clear q104); obtain ⟨x3_2, x5_2, x21_2, rfl, rfl, HA, HK2, HO_3, HB⟩ := hrel
     cases gk with
     | zero => exact absurd HA.out (by simp [spec_sgCorners.l1])
     | succ k2 =>
      have H := HA.out; clear HA; simp only [spec_sgCorners.l1] at H
      replace H := sp_ H; obtain ⟨c7b0, H⟩ | ⟨c7b0, H⟩ := H
      ·replace H := ps_ H; obtain ⟨c8b0, H⟩ := H; replace H := ps_ H; obtain ⟨c9b0, H⟩ := H; replace H := ps_ H; obtain ⟨c10b0, H⟩ := H; replace H := ps_ H; obtain ⟨c11b0, H⟩ := H; replace H := ps_ H; obtain ⟨c12b0, H⟩ := H; obtain ⟨y107, hy107⟩ : ∃ y_ : List Int, y_ = ((rd_L3 x3_2 x13_1).set (x21_2 : Int).toNat (wrap64 (x5_2 + (rd (rd_L3 l0 x13_1) x21_2)))) := ⟨_, rfl⟩; replace H : ((some (x3_2.set (x13_1 : Int).toNat y107 : Tb_)).bind fun y109 => (if x13_1 > 0 then (if x21_2 < ((rd_L3 y109 x13_1).length : Int) then (if 0 ≤ (wrap64 (x13_1 - 1)) then (if (wrap64 (x13_1 - 1)) < (x3_2.length : Int) then (if x21_2 < ((rd_L3 y109 (wrap64 (x13_1 - 1))).length : Int) then (spec_sgCorners.l1 k2 l0 (y109.set (x13_1 : Int).toNat ((rd_L3 y109 x13_1).set (x21_2 : Int).toNat (wrap64 ((rd (rd_L3 y109 x13_1) x21_2) + (rd (rd_L3 y109 (wrap64 (x13_1 - 1))) x21_2))))) x13_1 (wrap64 (x5_2 + (rd (rd_L3 l0 x13_1) x21_2))) (l0.length : Int) x13_1 (rd_L3 l0 x13_1) ((rd_L3 l0 x13_1).length : Int) (wrap64 (x21_2 + 1))) else (none)) else (none)) else (none)) else (none)) else (spec_sgCorners.l1 k2 l0 y109 x13_1 (wrap64 (x5_2 + (rd (rd_L3 l0 x13_1) x21_2))) (l0.length : Int) x13_1 (rd_L3 l0 x13_1) ((rd_L3 l0 x13_1).length : Int) (wrap64 (x21_2 + 1))))) = some r := tc61_; have Ny107 := am_ hy107; clear hy107; obtain ⟨y109, hy109⟩ : ∃ y_ : Tb_, y_ = (x3_2.set (x13_1 : Int).toNat y107) := ⟨_, rfl⟩; replace H : (if x13_1 > 0 then (if x21_2 < ((rd_L3 y109 x13_1).length : Int) then (if 0 ≤ (wrap64 (x13_1 - 1)) then (if (wrap64 (x13_1 - 1)) < (x3_2.length : Int) then (if x21_2 < ((rd_L3 y109 (wrap64 (x13_1 - 1))).length : Int) then (spec_sgCorners.l1 k2 l0 (y109.set (x13_1 : Int).toNat ((rd_L3 y109 x13_1).set (x21_2 : Int).toNat (wrap64 ((rd (rd_L3 y109 x13_1) x21_2) + (rd (rd_L3 y109 (wrap64 (x13_1 - 1))) x21_2))))) x13_1 (wrap64 (x5_2 + (rd (rd_L3 l0 x13_1) x21_2))) (l0.length : Int) x13_1 (rd_L3 l0 x13_1) ((rd_L3 l0 x13_1).length : Int) (wrap64 (x21_2 + 1))) else (none)) else (none)) else (none)) else (none)) else (spec_sgCorners.l1 k2 l0 y109 x13_1 (wrap64 (x5_2 + (rd (rd_L3 l0 x13_1) x21_2))) (l0.length : Int) x13_1 (rd_L3 l0 x13_1) ((rd_L3 l0 x13_1).length : Int) (wrap64 (x21_2 + 1)))) = some r := tc52_; have Ny109 := am_ hy109; clear hy109
       replace H := pn_ H; obtain ⟨c14, H⟩ | ⟨c14, H⟩ := H
       ·have c14b0 : decide (0 < x13_1) = true := decide_eq_true c14; clear c14; replace H := ps_ H; obtain ⟨c15b0, H⟩ := H; obtain ⟨ji16, hji16⟩ : ∃ j_ : Int, (wrap64 (x13_1 - 1)) = j_ := ⟨_, rfl⟩; replace H : (if 0 ≤ (ji16) then (if (ji16) < (x3_2.length : Int) then (if x21_2 < ((rd_L3 y109 (ji16)).length : Int) then (spec_sgCorners.l1 k2 l0 (y109.set (x13_1 : Int).toNat ((rd_L3 y109 x13_1).set (x21_2 : Int).toNat (wrap64 ((rd (rd_L3 y109 x13_1) x21_2) + (rd (rd_L3 y109 (ji16)) x21_2))))) x13_1 (wrap64 (x5_2 + (rd (rd_L3 l0 x13_1) x21_2))) (l0.length : Int) x13_1 (rd_L3 l0 x13_1) ((rd_L3 l0 x13_1).length : Int) (wrap64 (x21_2 + 1))) else (none)) else (none)) else (none)) = some r := (by first | (rw [hji16] at H; exact H) | (simp only [hji16] at H ⊢; exact H)); have hji16w : (IntKind.i64.wrap (x13_1 - 1)) = ji16 := (i64_w _).trans hji16; replace H := ps_ H; obtain ⟨c17b0, H⟩ := H; replace H := ps_ H; obtain ⟨c18b0, H⟩ := H; replace H := ps_ H; obtain ⟨c19b0, H⟩ := H; obtain ⟨y114, hy114⟩ : ∃ y_ : List Int, y_ = ((rd_L3 y109 x13_1).set (x21_2 : Int).toNat (wrap64 ((rd (rd_L3 y109 x13_1) x21_2) + (rd (rd_L3 y109 (ji16)) x21_2)))) := ⟨_, rfl⟩; replace H : (spec_sgCorners.l1 k2 l0 (y109.set (x13_1 : Int).toNat y114) x13_1 (wrap64 (x5_2 + (rd (rd_L3 l0 x13_1) x21_2))) (l0.length : Int) x13_1 (rd_L3 l0 x13_1) ((rd_L3 l0 x13_1).length : Int) (wrap64 (x21_2 + 1))) = some r := tc88_; have Ny114 := am_ hy114; clear hy114; obtain ⟨y116, hy116⟩ : ∃ y_ : Tb_, y_ = (y109.set (x13_1 : Int).toNat y114) := ⟨_, rfl⟩; replace H : (spec_sgCorners.l1 k2 l0 y116 x13_1 (wrap64 (x5_2 + (rd (rd_L3 l0 x13_1) x21_2))) (l0.length : Int) x13_1 (rd_L3 l0 x13_1) ((rd_L3 l0 x13_1).length : Int) (wrap64 (x21_2 + 1))) = some r := tc116_; have Ny116 := am_ hy116; clear hy116; have H' := am_ H; clear H; have p105 : 0 ≤ (x21_2 : Int) := od_; have q105 : x21_2 < ((rd_L3 l0 x13_1).length : Int) := od_; obtain ⟨ad105, e105, hx105_0⟩ := Kd.at_int HR104_0.out x21_2 p105 q105; cases e105; replace hx105_0 := (HB.out.cell (World.block_lt_of_cell? w _ hx105_0)).trans hx105_0; replace p105 := eq_true p105; replace q105 := eq_true q105; obtain ⟨Ao21, co21, eo21⟩ := Kd.S_slice HO_3.out; subst eo21; have p106 : 0 ≤ (x13_1 : Int) := od_; have q106 : x13_1 < (x3_2.length : Int) := od_; obtain ⟨ad106, A106_0, c106_0, e106, hx106_0, hl106_0, hi106_0⟩ := at_L3 (Kd.S_reads' HO_3.out).2.2 x13_1 p106 q106; cases e106; obtain ⟨ce106, hce106, hMe106, hcc106⟩ := Kd.S_get HO_3.out [] x13_1 p106 tc180_; obtain ⟨ve106_0, rfl, ge106_0⟩ := hMe106; have hv106_0 := hcc106 0 _ rfl; rw [Nat.add_zero, show ((Kd.slice 3 (Kd.int .i64))).sz = 1 from rfl, Nat.mul_one] at hv106_0; replace hv106_0 := Option.some.inj (hv106_0.symm.trans hx106_0); rw [hv106_0] at ge106_0; have HL106_0 := am_ (show Kd.R (Kd.int .i64) 3 _ _ _ _ (rd_L3 x3_2 x13_1) from ge106_0); clear hv106_0 ge106_0; have HX106_0 := am_ hx106_0; clear hcc106 hce106; have HR106_0 := am_ hi106_0; have HC106_0 := am_ hl106_0; clear hi106_0 hl106_0; replace p106 := eq_true p106; replace q106 := eq_true q106; have p13 : 0 ≤ (x21_2 : Int) := od_; have q13 : (x21_2 : Int) < (((rd_L3 x3_2 x13_1).length : Int) : Int) := od_; obtain ⟨go13, co13, eo13, gb13, gl13, cl13, HG13⟩ := Kd.R_form HL106_0.out (by omega); (first | cases eo13 | (injection eo13 with ea_ en_ ec_; (first | subst ea_ | (injection ea_ with ea_; subst ea_)); subst ec_; clear en_)); have GB13 := am_ gb13; have GG13 := am_ HG13; clear gb13 gl13 HG13; obtain ⟨hx13_0, hf13_0⟩ := Kd.R_celln 0 HL106_0.out (x21_2 : Int) p13 q13; replace p13 := eq_true p13; replace q13 := eq_true q13; have hq22 : (x13_1 : Int) < (x3_2.length : Int) := (by have h_ : (x13_1 : Int) < ((x3_2.length : Int) : Int) := od_; first | exact h_ | (have e_ := (Kd.S_reads' HO_3.out).1; omega) | simpa only [List.length_set, List.length_set] using h_); obtain ⟨oki22, ce22, hcl22, hM22, hcc22, hok22, hbk22⟩ := Kd.S_borrow HO_3.out [] (x13_1 : Int) (od_) (by first | exact hq22 | (have e_ := (Kd.S_reads' HO_3.out).1; omega)); obtain ⟨ve22_0, rfl, ge22_0⟩ := hM22; have hv22 := hcc22 0 _ rfl; rw [Nat.add_zero, show ((Kd.slice 3 (Kd.int .i64))).sz = 1 from rfl, Nat.mul_one] at hv22; replace hv22 := Option.some.inj (hv22.symm.trans HX106_0.out); subst hv22; clear hcc22 hcl22; replace ge22_0 := (show Kd.R (Kd.int .i64) 3 _ _ _ _ (rd_L3 x3_2 x13_1) from ge22_0); have HP22 := Kd.R_putg ge22_0 (x21_2 : Int) (wrap64 (x5_2 + (rd (rd_L3 l0 x13_1) x21_2)))
        try go_wp2_with (first | ((with_reducible refine gate_store (t := 3) (p := 35) rfl ?_); refine store_event (t := 3) (p := 35) (v := ?vo_w23) (w1 := (wr.setCell ⟨go13, (x21_2 : Int).toNat, none⟩ (.int .i64 (wrap64 (x5_2 + (rd (rd_L3 l0 x13_1) x21_2)))))) ?hg ?ho ?hn ?hr ?_; (case ho => rfl); (case hg => rfl); (case hn => rfl); (case hr => exact tc27_); intro w23 hw; have hg : wr.grownBy w23 (some go13) := (by rw [hw]; exact HP22.2); have hz_ : Kd.R (Kd.int .i64) 3 w23 w.heap.size oki22 (.slice (some ⟨go13, 0, none⟩) (rd_L3 x3_2 x13_1).length c106_0) y107 := (by rw [hw, Ny107.out]; exact HP22.1); have hp_ : Kd.S (Kd.slice 3 (Kd.int .i64)) 44 w23 w.heap.size (fun _ => True) (.slice (some ad106) x3_2.length co21) y109 := (by rw [Ny109.out]; exact hbk22 hg (fun k_ e_ => by injection e_ with e_; subst e_; exact ge22_0.1 _ rfl) (Kd.M_row hz_)); have hm_ := Kd.R_mono hz_ hok22; clear HP22 hbk22; replace HO_3 := am_ (hp_); replace HB := am_ ((by rw [hw]; exact below_set (HB.out) GB13.out : Below w.heap.size w w23)); have HL117 := am_ (hm_); have HC108 := am_ ((Kd.R_reads' hm_).2.1); clear HL106_0; clear hg hw hp_ hz_ hm_ hok22))
        replace HO_3 := am_ (Kd.S_drew HO_3.out); replace HL117 := am_ (Kd.R_drew HL117.out); replace HB := am_ (below_drew1 HB.out); have p110 : 0 ≤ (x13_1 : Int) := od_; have q110 : x13_1 < (y109.length : Int) := (by have h_ : (x13_1 : Int) < ((x3_2.length : Int) : Int) := od_; first | (have e_ := (Kd.S_reads' HO_3.out).1; omega) | simpa only [Ny109.out, List.length_set] using h_); have ql110 : ((x13_1 : Int) < ((x3_2.length : Int) : Int)) = True := eq_true (od_); obtain ⟨ad110, A110_0, c110_0, e110, hx110_0, hl110_0, hi110_0⟩ := at_L3 (Kd.S_reads' HO_3.out).2.2 x13_1 p110 q110; obtain rfl : ad106 = ad110 := (by injection e110); obtain ⟨ce110, hce110, hMe110, hcc110⟩ := Kd.S_get HO_3.out [] x13_1 p110 (by first | exact q110 | exact od_ | (have e_ := (Kd.S_reads' HO_3.out).1; omega)); obtain ⟨ve110_0, rfl, ge110_0⟩ := hMe110; have hv110_0 := hcc110 0 _ rfl; rw [Nat.add_zero, show ((Kd.slice 3 (Kd.int .i64))).sz = 1 from rfl, Nat.mul_one] at hv110_0; replace hv110_0 := Option.some.inj (hv110_0.symm.trans hx110_0); rw [hv110_0] at ge110_0; have HL110_0 := am_ (show Kd.R (Kd.int .i64) 3 _ _ _ _ (rd_L3 y109 x13_1) from ge110_0); clear hv110_0 ge110_0; have HX110_0 := am_ hx110_0; clear hcc110 hce110; have HR110_0 := am_ hi110_0; have HC110_0 := am_ hl110_0; clear hi110_0 hl110_0; replace p110 := eq_true p110; replace q110 := eq_true q110; have p111 : 0 ≤ (x21_2 : Int) := od_; have q111 : x21_2 < ((rd_L3 y109 x13_1).length : Int) := od_; obtain ⟨ad111, e111, hx111_0⟩ := Kd.at_int (by repeat (first | (with_reducible exact HR110_0.out) | (with_reducible refine Kd.C_alloc ?_ _) | (with_reducible refine Kd.C_drewN ?_ _) | (with_reducible refine Kd.C_drew ?_) | exact HR110_0.out)) x21_2 p111 q111; cases e111; replace p111 := eq_true p111; replace q111 := eq_true q111; have p112 : 0 ≤ ((ji16) : Int) := od_; have q112 : (ji16) < (y109.length : Int) := (by have h_ : ((ji16) : Int) < ((x3_2.length : Int) : Int) := od_; first | (have e_ := (Kd.S_reads' HO_3.out).1; omega) | simpa only [Ny109.out, List.length_set] using h_); have ql112 : (((ji16) : Int) < ((x3_2.length : Int) : Int)) = True := eq_true (od_); obtain ⟨ad112, A112_0, c112_0, e112, hx112_0, hl112_0, hi112_0⟩ := at_L3 (Kd.S_reads' HO_3.out).2.2 (ji16) p112 q112; obtain rfl : ad106 = ad112 := (by injection e112); obtain ⟨ce112, hce112, hMe112, hcc112⟩ := Kd.S_get HO_3.out [] (ji16) p112 (by first | exact q112 | exact od_ | (have e_ := (Kd.S_reads' HO_3.out).1; omega)); obtain ⟨ve112_0, rfl, ge112_0⟩ := hMe112; have hv112_0 := hcc112 0 _ rfl; rw [Nat.add_zero, show ((Kd.slice 3 (Kd.int .i64))).sz = 1 from rfl, Nat.mul_one] at hv112_0; replace hv112_0 := Option.some.inj (hv112_0.symm.trans hx112_0); rw [hv112_0] at ge112_0; have HL112_0 := am_ (show Kd.R (Kd.int .i64) 3 _ _ _ _ (rd_L3 y109 (ji16)) from ge112_0); clear hv112_0 ge112_0; have HX112_0 := am_ hx112_0; clear hcc112 hce112; have HR112_0 := am_ hi112_0; have HC112_0 := am_ hl112_0; clear hi112_0 hl112_0; replace p112 := eq_true p112; replace q112 := eq_true q112; have p113 : 0 ≤ (x21_2 : Int) := od_; have q113 : x21_2 < ((rd_L3 y109 (ji16)).length : Int) := od_; obtain ⟨ad113, e113, hx113_0⟩ := Kd.at_int (by repeat (first | (with_reducible exact HR112_0.out) | (with_reducible refine Kd.C_alloc ?_ _) | (with_reducible refine Kd.C_drewN ?_ _) | (with_reducible refine Kd.C_drew ?_) | exact HR112_0.out)) x21_2 p113 q113; cases e113; replace p113 := eq_true p113; replace q113 := eq_true q113; have p20 : 0 ≤ (x21_2 : Int) := od_; have q20 : (x21_2 : Int) < (((rd_L3 y109 x13_1).length : Int) : Int) := od_; obtain ⟨go20, co20, eo20, gb20, gl20, cl20, HG20⟩ := Kd.R_form HL110_0.out (by omega); (first | cases eo20 | (injection eo20 with ea_ en_ ec_; (first | subst ea_ | (injection ea_ with ea_; subst ea_)); subst ec_; clear en_)); have GB20 := am_ gb20; have GG20 := am_ HG20; clear gb20 gl20 HG20; (first | simp only [add_plain] at hx111_0 | skip); obtain ⟨hx20_0, hf20_0⟩ := Kd.R_celln 0 HL110_0.out (x21_2 : Int) p20 q20; replace p20 := eq_true p20; replace q20 := eq_true q20; have hq25 : (x13_1 : Int) < (y109.length : Int) := (by have h_ : (x13_1 : Int) < ((x3_2.length : Int) : Int) := od_; first | exact h_ | (have e_ := (Kd.S_reads' HO_3.out).1; omega) | simpa only [Ny109.out, List.length_set] using h_); obtain ⟨oki25, ce25, hcl25, hM25, hcc25, hok25, hbk25⟩ := Kd.S_borrow HO_3.out [] (x13_1 : Int) (od_) (by first | exact hq25 | (have e_ := (Kd.S_reads' HO_3.out).1; omega)); obtain ⟨ve25_0, rfl, ge25_0⟩ := hM25; have hv25 := hcc25 0 _ rfl; rw [Nat.add_zero, show ((Kd.slice 3 (Kd.int .i64))).sz = 1 from rfl, Nat.mul_one] at hv25; replace hv25 := Option.some.inj (hv25.symm.trans HX110_0.out); subst hv25; clear hcc25 hcl25; replace ge25_0 := (show Kd.R (Kd.int .i64) 3 _ _ _ _ (rd_L3 y109 x13_1) from ge25_0); have HP25 := Kd.R_putg ge25_0 (x21_2 : Int) (wrap64 ((rd (rd_L3 y109 x13_1) x21_2) + (rd (rd_L3 y109 (ji16)) x21_2))); rw [← Ny114.out] at HP25; have HS25 := hbk25 HP25.2 (fun k_ e_ => by injection e_ with e_; subst e_; exact ge25_0.1 _ rfl) (x' := y114) (Kd.M_row HP25.1); rw [← Ny116.out] at HS25; have HQ25 := am_ HS25; clear HP25 HS25 hbk25 hok25; refine start_ (n := 18) (S := fun w' => w'.cell? (ad106.add (x13_1).toNat) = some (.slice (some ⟨go20, 0, none⟩) (rd_L3 y109 x13_1).length c110_0) ∧ w'.cell? ⟨go20, (x21_2).toNat, none⟩ = some (.int .i64 (rd (rd_L3 y109 x13_1) x21_2)) ∧ w'.cell? (ad106.add ((ji16)).toNat) = some (.slice (some ad113) (rd_L3 y109 (ji16)).length c112_0) ∧ w'.cell? (ad113.add (x21_2).toNat) = some (.int .i64 (rd (rd_L3 y109 (ji16)) x21_2))) (ds := [17]) #[F,F,F,F,F,F,F,F,F,F,F,F,F,F,F,F,F,F] (by kernel_rfl) rfl rfl ⟨hx110_0, hx111_0, hx112_0, hx113_0⟩ (fun hHeld => ?_); refine with_tabW spec_sgCorners.tab12 spec_sgCorners.bits12 (fun HT_ HW_ => ?_); generalize w23.drew = w24 at HO_3 HL117 HB GG20 HL110_0 HL112_0 HQ25 HR110_0 HR112_0 HX110_0 HX112_0 hf20_0 hx110_0 hx111_0 hx112_0 hx113_0 hx20_0 hHeld ⊢; refine pure_ (i := 0) (N := some 38) #[T,F,F,F,F,F,F,F,F,F,F,F,F,F,F,F,F,F] rfl rfl an_ hq_ yi_ nm_ ?_; refine pure_ (i := 1) (N := some 39) #[T,T,F,F,F,F,F,F,F,F,F,F,F,F,F,F,F,F] rfl rfl an_ hq_ yi_ nm_ ?_; refine pure_ (i := 2) (N := some 40) #[T,T,T,F,F,F,F,F,F,F,F,F,F,F,F,F,F,F] rfl rfl an_ hq_ yi_ nm_ ?_; refine pure_ (i := 4) (N := some 42) #[T,T,T,F,T,F,F,F,F,F,F,F,F,F,F,F,F,F] rfl rfl an_ hq_ yi_ nm_ ?_; refine pure_ (i := 7) (N := some 45) #[T,T,T,F,T,F,F,T,F,F,F,F,F,F,F,F,F,F] rfl rfl an_ hq_ yi_ nm_ ?_; refine pure_ (i := 8) (N := some 46) #[T,T,T,F,T,F,F,T,T,F,F,F,F,F,F,F,F,F] rfl rfl an_ hq_ yi_ nm_ ?_; refine pure_ (i := 9) (N := some 47) #[T,T,T,F,T,F,F,T,T,T,F,F,F,F,F,F,F,F] rfl rfl an_ hq_ yi_ nm_ ?_; refine pure_ (i := 10) (N := some 48) #[T,T,T,F,T,F,F,T,T,T,T,F,F,F,F,F,F,F] rfl rfl an_ hq_ yi_ nm_ ?_; refine pure_ (i := 12) (N := some 50) #[T,T,T,F,T,F,F,T,T,T,T,F,T,F,F,F,F,F] rfl rfl an_ hq_ yi_ nm_ ?_; refine take_ (i := 3) (N := some 41) #[T,T,T,T,T,F,F,T,T,T,T,F,T,F,F,F,F,F] rfl rfl av_ hq_ yj4_ hHeld nm_ ?_; refine pure_ (i := 5) (N := some 43) #[T,T,T,T,T,T,F,T,T,T,T,F,T,F,F,F,F,F] rfl rfl an_ hq_ yi_ nm_ ?_; refine take_ (i := 6) (N := some 44) #[T,T,T,T,T,T,T,T,T,T,T,F,T,F,F,F,F,F] rfl rfl av_ hq_ yj4_ hHeld nm_ ?_; refine take_ (i := 11) (N := some 49) #[T,T,T,T,T,T,T,T,T,T,T,T,T,F,F,F,F,F] rfl rfl av_ hq_ yj4_ hHeld nm_ ?_; refine pure_ (i := 13) (N := some 51) #[T,T,T,T,T,T,T,T,T,T,T,T,T,T,F,F,F,F] rfl rfl an_ hq_ yi_ nm_ ?_; refine take_ (i := 14) (N := some 52) #[T,T,T,T,T,T,T,T,T,T,T,T,T,T,T,F,F,F] rfl rfl av_ hq_ yj4_ hHeld nm_ ?_; refine pure_ (i := 15) (N := some 53) #[T,T,T,T,T,T,T,T,T,T,T,T,T,T,T,T,F,F] rfl rfl an_ hq_ yi_ nm_ ?_; refine pure_ (i := 16) (N := some 54) #[T,T,T,T,T,T,T,T,T,T,T,T,T,T,T,T,T,F] rfl rfl an_ hq_ yi_ nm_ ?_; refine last_ (i := 17) (N := none) #[T,T,T,T,T,T,T,T,T,T,T,T,T,T,T,T,T,T] rfl rfl (one_of HT_.out (by kernel_rfl)) (by decide) (fun K hK => ?_); refine skip_ (w1 := ?_) (by rfl) rfl ?_ ?_; rotate_left
        ·go_simp
         rfl
        refine hK.out _ _ ?_; clear hK K; refine done_ (done_of HT_.out (by kernel_rfl)) ?_
        try go_wp2
        go_roundg k2
        case measure => have := HK1.out; have := HK2.out; omega
        case rel => exact ⟨(y116), (wrap64 (x5_2 + (rd (rd_L3 l0 x13_1) x21_2))), (wrap64 (x21_2 + 1)), tc6_, tc6_, H', ⟨tc39_⟩, ⟨(by (with_reducible repeat (first | apply Kd.S_alloc | apply Kd.S_drewN | apply Kd.S_drew)); exact HQ25.out)⟩, ⟨(by repeat (first | (with_reducible first | exact HB.out | apply below_alloc | apply pw_below_drewN | apply below_drew1 | refine below_set ?_ GB20.out) | exact HB.out))⟩⟩
       ·have c14b0 : decide (0 < x13_1) = false := decide_eq_false c14; clear c14; have H' := am_ H; clear H; have p105 : 0 ≤ (x21_2 : Int) := od_; have q105 : x21_2 < ((rd_L3 l0 x13_1).length : Int) := od_; obtain ⟨ad105, e105, hx105_0⟩ := Kd.at_int HR104_0.out x21_2 p105 q105; cases e105; replace hx105_0 := (HB.out.cell (World.block_lt_of_cell? w _ hx105_0)).trans hx105_0; replace p105 := eq_true p105; replace q105 := eq_true q105; obtain ⟨Ao27, co27, eo27⟩ := Kd.S_slice HO_3.out; subst eo27; have p106 : 0 ≤ (x13_1 : Int) := od_; have q106 : x13_1 < (x3_2.length : Int) := od_; obtain ⟨ad106, A106_0, c106_0, e106, hx106_0, hl106_0, hi106_0⟩ := at_L3 (Kd.S_reads' HO_3.out).2.2 x13_1 p106 q106; cases e106; obtain ⟨ce106, hce106, hMe106, hcc106⟩ := Kd.S_get HO_3.out [] x13_1 p106 tc180_; obtain ⟨ve106_0, rfl, ge106_0⟩ := hMe106; have hv106_0 := hcc106 0 _ rfl; rw [Nat.add_zero, show ((Kd.slice 3 (Kd.int .i64))).sz = 1 from rfl, Nat.mul_one] at hv106_0; replace hv106_0 := Option.some.inj (hv106_0.symm.trans hx106_0); rw [hv106_0] at ge106_0; have HL106_0 := am_ (show Kd.R (Kd.int .i64) 3 _ _ _ _ (rd_L3 x3_2 x13_1) from ge106_0); clear hv106_0 ge106_0; have HX106_0 := am_ hx106_0; clear hcc106 hce106; have HR106_0 := am_ hi106_0; have HC106_0 := am_ hl106_0; clear hi106_0 hl106_0; replace p106 := eq_true p106; replace q106 := eq_true q106; have p13 : 0 ≤ (x21_2 : Int) := od_; have q13 : (x21_2 : Int) < (((rd_L3 x3_2 x13_1).length : Int) : Int) := od_; obtain ⟨go13, co13, eo13, gb13, gl13, cl13, HG13⟩ := Kd.R_form HL106_0.out (by omega); (first | cases eo13 | (injection eo13 with ea_ en_ ec_; (first | subst ea_ | (injection ea_ with ea_; subst ea_)); subst ec_; clear en_)); have GB13 := am_ gb13; have GG13 := am_ HG13; clear gb13 gl13 HG13; obtain ⟨hx13_0, hf13_0⟩ := Kd.R_celln 0 HL106_0.out (x21_2 : Int) p13 q13; replace p13 := eq_true p13; replace q13 := eq_true q13; have hq28 : (x13_1 : Int) < (x3_2.length : Int) := (by have h_ : (x13_1 : Int) < ((x3_2.length : Int) : Int) := od_; first | exact h_ | (have e_ := (Kd.S_reads' HO_3.out).1; omega) | simpa only [List.length_set, List.length_set] using h_); obtain ⟨oki28, ce28, hcl28, hM28, hcc28, hok28, hbk28⟩ := Kd.S_borrow HO_3.out [] (x13_1 : Int) (od_) (by first | exact hq28 | (have e_ := (Kd.S_reads' HO_3.out).1; omega)); obtain ⟨ve28_0, rfl, ge28_0⟩ := hM28; have hv28 := hcc28 0 _ rfl; rw [Nat.add_zero, show ((Kd.slice 3 (Kd.int .i64))).sz = 1 from rfl, Nat.mul_one] at hv28; replace hv28 := Option.some.inj (hv28.symm.trans HX106_0.out); subst hv28; clear hcc28 hcl28; replace ge28_0 := (show Kd.R (Kd.int .i64) 3 _ _ _ _ (rd_L3 x3_2 x13_1) from ge28_0); have HP28 := Kd.R_putg ge28_0 (x21_2 : Int) (wrap64 (x5_2 + (rd (rd_L3 l0 x13_1) x21_2)))
        go_wp2_with (first | ((with_reducible refine gate_store (t := 3) (p := 35) rfl ?_); refine store_event (t := 3) (p := 35) (v := ?vo_w29) (w1 := (wr.setCell ⟨go13, (x21_2 : Int).toNat, none⟩ (.int .i64 (wrap64 (x5_2 + (rd (rd_L3 l0 x13_1) x21_2)))))) ?hg ?ho ?hn ?hr ?_; (case ho => rfl); (case hg => rfl); (case hn => rfl); (case hr => exact tc27_); intro w29 hw; have hg : wr.grownBy w29 (some go13) := (by rw [hw]; exact HP28.2); have hz_ : Kd.R (Kd.int .i64) 3 w29 w.heap.size oki28 (.slice (some ⟨go13, 0, none⟩) (rd_L3 x3_2 x13_1).length c106_0) y107 := (by rw [hw, Ny107.out]; exact HP28.1); have hp_ : Kd.S (Kd.slice 3 (Kd.int .i64)) 44 w29 w.heap.size (fun _ => True) (.slice (some ad106) x3_2.length co27) y109 := (by rw [Ny109.out]; exact hbk28 hg (fun k_ e_ => by injection e_ with e_; subst e_; exact ge28_0.1 _ rfl) (Kd.M_row hz_)); have hm_ := Kd.R_mono hz_ hok28; clear HP28 hbk28; replace HO_3 := am_ (hp_); replace HB := am_ ((by rw [hw]; exact below_set (HB.out) GB13.out : Below w.heap.size w w29)); have HL118 := am_ (hm_); have HC108 := am_ ((Kd.R_reads' hm_).2.1); clear HL106_0; clear hg hw hp_ hz_ hm_ hok28))
        go_roundg k2
        case measure => have := HK1.out; have := HK2.out; omega
        case rel => exact ⟨(y109), (wrap64 (x5_2 + (rd (rd_L3 l0 x13_1) x21_2))), (wrap64 (x21_2 + 1)), tc6_, tc6_, H', ⟨tc39_⟩, ⟨tc35_⟩, ⟨tc0_⟩⟩
      ·have H' := am_ H; clear H; go_wp2
       go_roundg k2
       case measure => have := HK1.out; have := HK2.out; omega
       case rel => exact ⟨(x3_2), (wrap64 (x13_1 + 1)), tc6_, H', ⟨tc39_⟩, ⟨tc35_⟩, ⟨tc0_⟩⟩
   ·obtain rfl := Option.some.inj H; go_wp2
    go_ret
    exact ⟨_, tc7_, tc35_, tc0_⟩

/-! ### spec_sgAt: function 61 -/
def spec_sgAt.f (l0 : Tb_) (a1 : Int) (a2 : Int) : Option (Int) := if a1 < 0 then (some 0) else (if a2 < 0 then (some 0) else (if 0 ≤ a1 then (if a1 < (l0.length : Int) then (if 0 ≤ a2 then (if a2 < ((rd_L3 l0 a1).length : Int) then (some (rd (rd_L3 l0 a1) a2)) else (none)) else (none)) else (none)) else (none)))
theorem spec_sgAt.calls (A0 : Option Addr) (c0 : Nat) (l0 : Tb_) (a1 : Int) (a2 : Int) (r : Int) (w : World) (hr0 : Kd.C (Kd.slice 3 (Kd.int .i64)) w A0 l0.length l0) (hc0 : l0.length ≤ c0) (h : spec_sgAt.f l0 a1 a2 = some r) :
  Calls Tryz.prog 61 #[.slice A0 l0.length c0, .int .i64 a1, .int .i64 a2] w fun e w' => e = .returned (.int .i64 r) ∧ Drawn0 w w' := by
 have HR0 := am_ hr0; have HC0 := am_ hc0; clear hr0 hc0; unfold spec_sgAt.f at h; have H := h; clear h
 replace H := sp_ H; obtain ⟨c4b0, H⟩ | ⟨c4b0, H⟩ := H
 ·obtain rfl := Option.some.inj H; go_enter Tryz.func61, Tryz.ntmps61; go_wp2
  go_ret
  exact ⟨tc6_, tc13_⟩
 ·replace H := sp_ H; obtain ⟨c5b0, H⟩ | ⟨c5b0, H⟩ := H
  ·obtain rfl := Option.some.inj H; go_enter Tryz.func61, Tryz.ntmps61; go_wp2
   go_ret
   exact ⟨tc6_, tc13_⟩
  ·replace H := ps_ H; obtain ⟨c6b0, H⟩ := H; replace H := ps_ H; obtain ⟨c7b0, H⟩ := H; replace H := ps_ H; obtain ⟨c8b0, H⟩ := H; replace H := ps_ H; obtain ⟨c9b0, H⟩ := H; obtain rfl := Option.some.inj H; have p101 : 0 ≤ (a1 : Int) := od_; have q101 : a1 < (l0.length : Int) := od_; obtain ⟨ad101, A101_0, c101_0, e101, hx101_0, hl101_0, hi101_0⟩ := at_L3 HR0.out a1 p101 q101; cases e101; have HR101_0 := am_ hi101_0; have HC101_0 := am_ hl101_0; clear hi101_0 hl101_0; replace p101 := eq_true p101; replace q101 := eq_true q101; have p102 : 0 ≤ (a2 : Int) := od_; have q102 : a2 < ((rd_L3 l0 a1).length : Int) := od_; obtain ⟨ad102, e102, hx102_0⟩ := Kd.at_int HR101_0.out a2 p102 q102; cases e102; replace p102 := eq_true p102; replace q102 := eq_true q102; go_enter Tryz.func61, Tryz.ntmps61; go_wp2
   go_ret
   exact ⟨tc6_, tc13_⟩

/-! ### spec_heOf: function 28 -/
mutual
def spec_heOf.l0 : Nat → Tb_ → Tb_ → Tb_ → Int → Option (Tb_)
 | 0, _, _, _, _ => none
 | k + 1, x0, x3, x4, x5 => if x5 ≤ (x0.length : Int) then (spec_heOf.l1 k x0 x3 x4 x5 ([] : List Int) 0) else (some x4)
def spec_heOf.l1 : Nat → Tb_ → Tb_ → Tb_ → Int → List Int → Int → Option (Tb_)
 | 0, _, _, _, _, _, _ => none
 | k + 1, x0, x3, x4, x5, x6, x7 => if x7 ≤ (x0.length : Int) then ((spec_sgAt.f x3 (wrap64 (x5 - 1)) (wrap64 (x7 - 1))).bind fun t104 => (if x6.length < 17592186044416 then (spec_heOf.l1 k x0 x3 x4 x5 (x6 ++ [wrap64 ((wrap64 (x5 + x7)) - (wrap64 (2 * t104)))]) (wrap64 (x7 + 1))) else (none))) else (if x4.length < 5864062014805 then (spec_heOf.l0 k x0 x3 (x4 ++ [x6]) (wrap64 (x5 + 1))) else (none))
end
def spec_heOf.f (k : Nat) (l0 : Tb_) : Option (Tb_) := (spec_sgCorners.f k l0).bind fun t101 => (spec_heOf.l0 k l0 t101 ([] : Tb_) 0)
theorem spec_heOf.calls (k : Nat) (A0 : Option Addr) (c0 : Nat) (l0 : Tb_) (r : Tb_) (w : World) (hr0 : Kd.C (Kd.slice 3 (Kd.int .i64)) w A0 l0.length l0) (hc0 : l0.length ≤ c0) (h : spec_heOf.f k l0 = some r) :
  Calls Tryz.prog 28 #[.slice A0 l0.length c0] w fun e w' => ∃ v0_ : Value, e = .returned (v0_) ∧ Kd.S (Kd.slice 3 (Kd.int .i64)) 44 w' w.heap.size (fun _ => True) v0_ r ∧ Below w.heap.size w w' := by
 have HR0 := am_ hr0; have HC0 := am_ hc0; clear hr0 hc0; have HB := am_ (Below.refl w.heap.size w); unfold spec_heOf.f at h; have H := h; clear h; replace H := bd_ H; obtain ⟨t101, A2, H⟩ := H; (try dsimp only at H); have H' := am_ H; clear H; go_enter Tryz.func28, Tryz.ntmps28
 go_wp2_with (first | (refine gc_ (some 9) Tryz.func60 #[.slice A0 l0.length c0] ?_; (with_reducible refine (spec_sgCorners.calls k _ _ l0 t101 _ ?side1 ?side2 A2.out).mono ?_); (case side1 => exact tc8_); (case side2 => exact HC0.out); rintro e w3 ⟨v102, rfl, ho0, hb⟩; refine ⟨_, rfl, ?_⟩; have HO103 := am_ (Kd.S_lower ho0 (below_size tc0_)); replace HB := am_ (below_step tc0_ hb); (try clear hb ho0)))
 go_loopg [4, 5] k (fun kq v4 v5 w' => ∃ (x4_1 : Tb_) (x5_1 : Int), v5 = .int .i64 x5_1 ∧ Aside0 (spec_heOf.l0 kq l0 t101 x4_1 x5_1 = some r) ∧ Aside0 (kq ≤ k) ∧ Aside0 (Kd.S (Kd.slice 3 (Kd.int .i64)) 44 w' w.heap.size (fun k_ => some k_ ≠ (v4 : Value).ownBlock) v102 t101) ∧ Aside0 (Kd.S (Kd.slice 3 (Kd.int .i64)) 44 w' w.heap.size (fun k_ => some k_ ≠ (v102 : Value).ownBlock) v4 x4_1) ∧ Aside0 (Below w.heap.size w w'))
 case atStart => exact ⟨(([] : Tb_)), (0), tc6_, H', ⟨Nat.le_refl _⟩, ⟨(by (with_reducible repeat (first | apply Kd.S_alloc | apply Kd.S_drewN | apply Kd.S_drew)); exact Kd.S_mono HO103.out (fun _ hk => tc201_))⟩, ⟨tc29_⟩, ⟨tc0_⟩⟩
 case round =>
  clear H'; (try clear c2); (try clear p2); obtain ⟨x4_1, x5_1, rfl, HA, HK1, HO_3, HO_4, HB⟩ := hrel
  cases gk with
  | zero => exact absurd HA.out (by simp [spec_heOf.l0])
  | succ k1 =>
   have H := HA.out; clear HA; simp only [spec_heOf.l0] at H
   replace H := sp_ H; obtain ⟨c4b0, H⟩ | ⟨c4b0, H⟩ := H
   ·have H' := am_ H; clear H; go_wp2
    go_loopg [6, 7] k1 (fun kq v6 v7 w' => ∃ (x6_2 : List Int) (x7_2 : Int), v7 = .int .i64 x7_2 ∧ Aside0 (spec_heOf.l1 kq l0 t101 x4_1 x5_1 x6_2 x7_2 = some r) ∧ Aside0 (kq ≤ k1) ∧ Aside0 (Kd.S (Kd.slice 3 (Kd.int .i64)) 44 w' w.heap.size (fun k_ => some k_ ≠ (u4 : Value).ownBlock ∧ some k_ ≠ (v6 : Value).ownBlock) v102 t101) ∧ Aside0 (Kd.S (Kd.slice 3 (Kd.int .i64)) 44 w' w.heap.size (fun k_ => some k_ ≠ (v102 : Value).ownBlock ∧ some k_ ≠ (v6 : Value).ownBlock) u4 x4_1) ∧ Aside0 (Kd.R (Kd.int .i64) 3 w' w.heap.size (fun _ => True) v6 x6_2) ∧ Aside0 (Below w.heap.size w w'))
    case atStart => exact ⟨(([] : List Int)), (0), tc6_, H', ⟨Nat.le_refl _⟩, ⟨(by (with_reducible repeat (first | apply Kd.S_alloc | apply Kd.S_drewN | apply Kd.S_drew)); exact Kd.S_mono HO_3.out (fun _ hk => ⟨hk, tc201_⟩))⟩, ⟨(by (with_reducible repeat (first | apply Kd.S_alloc | apply Kd.S_drewN | apply Kd.S_drew)); exact Kd.S_mono HO_4.out (fun _ hk => ⟨hk, tc201_⟩))⟩, ⟨tc113_⟩, ⟨tc0_⟩⟩
    case round =>
     clear H'; (try clear c2); (try clear p2); (try clear c4); (try clear c4b0); (try clear p2); obtain ⟨x6_2, x7_2, rfl, HA, HK2, HO_3, HO_4, HO_6, HB⟩ := hrel
     cases gk with
     | zero => exact absurd HA.out (by simp [spec_heOf.l1])
     | succ k2 =>
      have H := HA.out; clear HA; simp only [spec_heOf.l1] at H
      replace H := sp_ H; obtain ⟨c5b0, H⟩ | ⟨c5b0, H⟩ := H
      ·replace H := bd_ H; obtain ⟨t104, A6, H⟩ := H; (try dsimp only at H); replace H := pp_ H; obtain ⟨c7, H⟩ := H; have LMc7 := am_ c7; clear c7; obtain ⟨y105, hy105⟩ : ∃ y_ : List Int, y_ = (x6_2 ++ [wrap64 ((wrap64 (x5_1 + x7_2)) - (wrap64 (2 * t104)))]) := ⟨_, rfl⟩; replace H : (spec_heOf.l1 k2 l0 t101 x4_1 x5_1 y105 (wrap64 (x7_2 + 1))) = some r := tc53_; have Ny105 := am_ hy105; clear hy105; have H' := am_ H; clear H; obtain ⟨Ao8, co8, eo8⟩ := Kd.S_slice HO_3.out; subst eo8
       go_wp2_with (first | (refine gc_ (some 31) Tryz.func61 #[.slice Ao8 t101.length co8, .int .i64 (wrap64 (x5_1 - 1)), .int .i64 (wrap64 (x7_2 - 1))] ?_; (with_reducible refine (spec_sgAt.calls _ _ t101 (wrap64 (x5_1 - 1)) (wrap64 (x7_2 - 1)) t104 _ ?side1 ?side2 A6.out).mono ?_); (case side1 => repeat (first | exact (Kd.S_reads' HO_3.out).2.2 | (with_reducible refine Kd.C_alloc ?_ _) | (with_reducible refine Kd.C_drewN ?_ _) | (with_reducible refine Kd.C_drew ?_))); (case side2 => exact (Kd.S_reads' HO_3.out).2.1); rintro e w' ⟨rfl, ⟨nd, rfl⟩⟩; refine ⟨_, rfl, ?_⟩) | ((with_reducible refine gate_builtin (b := .append) (xs := #[.tmp 22, .tmp 34]) rfl ?_); at_builtin; refine Kd.R_append (Kd.int .i64) (w0 := w) w.heap.size rfl (.tmp 22) (.tmp 34) 44 3 (.int .i64 0) 8 rfl Tryz.underlying44 info3 rfl (by decide) (by omega) u6 x6_2 (wrap64 ((wrap64 (x5_1 + x7_2)) - (wrap64 (2 * t104)))) [.int .i64 (wrap64 ((wrap64 (x5_1 + x7_2)) - (wrap64 (2 * t104))))] (fun _ => True) (fun _ => False) rfl rfl ?aP (fun _ hk => hk.elim) ?aF ?aO ?aB ?aS ?aL ?_; (case aP => exact rfl); (case aB => exact tc10_); (case aF => exact tc151_); (case aO => exact (by (with_reducible repeat (first | apply Kd.R_alloc | apply Kd.R_drewN | apply Kd.R_drew)); exact HO_6.out)); (case aS => exact tc11_); (case aL => have := LMc7.out; omega); intro v106 w9 ho hb hg hat; rw [← Ny105.out] at ho; replace HO_3 := am_ (Kd.S_after (ok := (fun k_ => some k_ ≠ (u4 : Value).ownBlock)) tc35_ hg hat); replace HO_4 := am_ (Kd.S_after (ok := (fun k_ => some k_ ≠ (.slice Ao8 t101.length co8 : Value).ownBlock)) tc152_ hg hat); replace HB := am_ (hb); have HO107 := am_ (ho); clear HO_6; clear ho hb hg hat))
       go_roundg k2
       case measure => have := HK1.out; have := HK2.out; omega
       case rel => exact ⟨(y105), (wrap64 (x7_2 + 1)), tc6_, H', ⟨tc39_⟩, ⟨tc35_⟩, ⟨tc152_⟩, ⟨(by (with_reducible repeat (first | apply Kd.R_alloc | apply Kd.R_drewN | apply Kd.R_drew)); exact HO107.out)⟩, ⟨tc0_⟩⟩
      ·replace H := pp_ H; obtain ⟨c10, H⟩ := H; have LMc10 := am_ c10; clear c10; obtain ⟨y108, hy108⟩ : ∃ y_ : Tb_, y_ = (x4_1 ++ [x6_2]) := ⟨_, rfl⟩; replace H : (spec_heOf.l0 k2 l0 t101 y108 (wrap64 (x5_1 + 1))) = some r := tc62_; have Ny108 := am_ hy108; clear hy108; have H' := am_ H; clear H; obtain ⟨Ao12, co12, eo12⟩ := Kd.R_slice HO_6.out; subst eo12
       go_wp2_with (first | ((with_reducible refine gate_builtin (b := .append) (xs := #[.tmp 36, .tmp 38]) rfl ?_); at_builtin; refine Kd.S_append (Kd.slice 3 (Kd.int .i64)) (w0 := w) w.heap.size rfl (.tmp 36) (.tmp 38) 24 44 (.slice none 0 0) 24 rfl Tryz.underlying24 info44 rfl (by decide) (by omega) u4 x4_1 x6_2 [.slice Ao12 x6_2.length co12] (fun k_ => some k_ ≠ (v102 : Value).ownBlock) (fun k_ => some k_ = (.slice Ao12 x6_2.length co12 : Value).ownBlock) rfl rfl ?aP (fun k_ hk_ => ((Kd.R_mono (ok' := fun k_ => ((fun k_ => some k_ ≠ (v102 : Value).ownBlock)) k_ ∧ some k_ ≠ (u4 : Value).ownBlock) (Kd.R_apart' (Kd.R_apart' (HO_6.out) (Kd.S_typed HO_3.out) (by decide)) (Kd.S_typed HO_4.out) (by decide)) (fun k_ hk => ⟨hk.1.2, hk.2⟩))).1 k_ hk_.symm) ?aF ?aO ?aB ?aS ?aL ?_; (case aP => exact Kd.M_row (Kd.R_mono (Kd.R_tight rfl (Kd.R_mono (ok' := fun k_ => ((fun k_ => some k_ ≠ (v102 : Value).ownBlock)) k_ ∧ some k_ ≠ (u4 : Value).ownBlock) (Kd.R_apart' (Kd.R_apart' (HO_6.out) (Kd.S_typed HO_3.out) (by decide)) (Kd.S_typed HO_4.out) (by decide)) (fun k_ hk => ⟨hk.1.2, hk.2⟩))) (fun _ h_ => h_))); (case aB => exact tc10_); (case aF => exact (fun k_ hk => Kd.fresh' (Kd.S_lt tc35_) k_ hk)); (case aO => exact (by (with_reducible repeat (first | apply Kd.S_alloc | apply Kd.S_drewN | apply Kd.S_drew)); exact Kd.S_mono HO_4.out (fun k_ hk => ⟨hk.1, fun e_ => hk.2 e_⟩))); (case aS => exact tc11_); (case aL => have := LMc10.out; omega); intro v109 w11 ho hb hg hat; rw [← Ny108.out] at ho; have n0_ := am_ (Kd.S_after (ok := (fun k_ => some k_ ≠ (.slice Ao12 x6_2.length co12 : Value).ownBlock)) (by (with_reducible repeat (first | apply Kd.S_alloc | apply Kd.S_drewN | apply Kd.S_drew)); exact Kd.S_mono HO_3.out (fun _ hk => ⟨hk.2, hk.1⟩)) hg hat); have n1_ := am_ (hb); have n2_ := am_ (ho); clear HO_3 HB; clear HO_4 HO_6; have HO_3 := n0_; have HB := n1_; have HO110 := n2_; clear n0_ n1_ n2_; clear ho hb hg hat))
       go_roundg k2
       case measure => have := HK1.out; have := HK2.out; omega
       case rel => exact ⟨(y108), (wrap64 (x5_1 + 1)), tc6_, H', ⟨tc39_⟩, ⟨tc193_⟩, ⟨tc74_⟩, ⟨tc0_⟩⟩
   ·obtain rfl := Option.some.inj H; go_wp2
    go_ret
    exact ⟨_, tc7_, (by (with_reducible repeat (first | apply Kd.S_alloc | apply Kd.S_drewN | apply Kd.S_drew)); exact Kd.S_mono HO_4.out (fun _ hk => trivial)), tc0_⟩

/-- A state of type 53 at block g of W; what its slices lead to came in by w0. -/
def IsS53 (w0 W : World) (g : Nat) (f0 : List Int) (f1 : Int) (f2 : Int) : Prop := ∃ A0 c0, W.heap[g]? = some (.cells #[.slice A0 f0.length c0, .int .i64 f1, .int .u64 f2] 53 (0, 0)) ∧ w0.heap.size ≤ g ∧ Kd.C (Kd.int .u8) w0 A0 f0.length f0
theorem IsS53.grown {w0 W : World} {g : Nat} {f0 : List Int} {f1 : Int} {f2 : Int} {W1 : World} {row : Option Nat} (h : IsS53 w0 W g f0 f1 f2) (hw : W.grownBy W1 row) (hne : some g ≠ row) : IsS53 w0 W1 g f0 f1 f2 := by
 obtain ⟨A0, c0, hb, hg, hr0⟩ := h; exact ⟨A0, c0, blk_grown hb hw hne, hg, hr0⟩
theorem IsS53.own_neN {w0 W : World} {g : Nat} {f0 : List Int} {f1 : Int} {f2 : Int} {α : Type} {d : Kd α} {e : Nat} {base : Nat} {ok : Nat → Prop} {v : Value} {xs : List α} (h : IsS53 w0 W g f0 f1 f2) (ho : Kd.N d e W base ok v xs) (ht : e ≠ 53) : some g ≠ v.ownBlock := by
 obtain ⟨A0, c0, hb, hg, hr0⟩ := h; exact Kd.N_ne ho hb ht
theorem IsS53.fresh {w0 W : World} {g : Nat} {f0 : List Int} {f1 : Int} {f2 : Int} (h : IsS53 w0 W g f0 f1 f2) : ∀ k, W.heap.size ≤ k → k ≠ g := by
 obtain ⟨A0, c0, hb, hg, hr0⟩ := h; exact Kd.freshB hb
theorem IsS53.kept {w0 W : World} {g : Nat} {f0 : List Int} {f1 : Int} {f2 : Int} {W1 : World} {S : Nat → Prop} (h : IsS53 w0 W g f0 f1 f2) (hk : Kept W W1 S) (hne : ¬ S g) : IsS53 w0 W1 g f0 f1 f2 := by
 obtain ⟨A0, c0, hb, hg, hr0⟩ := h; exact ⟨A0, c0, blk_kept hb hk hne, hg, hr0⟩
theorem IsS53.below {w0 W : World} {g : Nat} {f0 : List Int} {f1 : Int} {f2 : Int} {W1 : World} (h : IsS53 w0 W g f0 f1 f2) (hw : Below W.heap.size W W1) : IsS53 w0 W1 g f0 f1 f2 := h.grown (grown_of_below hw none) (by simp)
theorem IsS53.alloc {w0 W : World} {g : Nat} {f0 : List Int} {f1 : Int} {f2 : Int} (h : IsS53 w0 W g f0 f1 f2) (o : Obj) : IsS53 w0 (W.alloc o) g f0 f1 f2 := h.below (below_alloc (Below.refl _ _) o)
theorem IsS53.drewN {w0 W : World} {g : Nat} {f0 : List Int} {f1 : Int} {f2 : Int} (h : IsS53 w0 W g f0 f1 f2) (m : Nat) : IsS53 w0 (W.drewN m) g f0 f1 f2 := h
theorem IsS53.drew {w0 W : World} {g : Nat} {f0 : List Int} {f1 : Int} {f2 : Int} (h : IsS53 w0 W g f0 f1 f2) : IsS53 w0 W.drew g f0 f1 f2 := h
theorem IsS53.at_ {w0 W : World} {g : Nat} {f0 : List Int} {f1 : Int} {f2 : Int} {w' : World} {m : Nat} (hq : W.drewN m = w') (h : IsS53 w0 W g f0 f1 f2) : IsS53 w0 w' g f0 f1 f2 := by subst hq; exact IsS53.drewN h m
theorem IsS53.apart {w0 W : World} {g : Nat} {f0 : List Int} {f1 : Int} {f2 : Int} {α : Type} {d : Kd α} {e : Nat} {base : Nat} {ok : Nat → Prop} {v : Value} {xs : List α} (h : IsS53 w0 W g f0 f1 f2) (ho : d.R e W base ok v xs) (ht : ∀ q, q ∈ e :: d.E → q ≠ 53) : d.R e W base (fun k => ok k ∧ k ≠ g) v xs := by
 obtain ⟨A0, c0, hb, hg, hr0⟩ := h; exact Kd.R_types ho hb ht
theorem IsS53.own_ne {w0 W : World} {g : Nat} {f0 : List Int} {f1 : Int} {f2 : Int} {α : Type} {d : Kd α} {e : Nat} {base : Nat} {ok : Nat → Prop} {v : Value} {xs : List α} (h : IsS53 w0 W g f0 f1 f2) (ho : d.R e W base ok v xs) (ht : e ≠ 53) : some g ≠ v.ownBlock := by
 obtain ⟨A0, c0, hb, hg, hr0⟩ := h; exact Kd.R_ne ho hb ht
theorem IsS53.apartQ {w0 W : World} {g : Nat} {f0 : List Int} {f1 : Int} {f2 : Int} {α : Type} {d : Kd α} {e : Nat} {base : Nat} {ok : Nat → Prop} {v : Value} {xs : List α} (h : IsS53 w0 W g f0 f1 f2) (ho : d.Q e W base ok v xs) (ht : ∀ q, q ∈ e :: d.E → q ≠ 53) : d.Q e W base (fun k => ok k ∧ k ≠ g) v xs := by
 obtain ⟨A0, c0, hb, hg, hr0⟩ := h; exact Kd.Q_types ho hb ht
theorem IsS53.own_neQ {w0 W : World} {g : Nat} {f0 : List Int} {f1 : Int} {f2 : Int} {α : Type} {d : Kd α} {e : Nat} {base : Nat} {ok : Nat → Prop} {v : Value} {xs : List α} (h : IsS53 w0 W g f0 f1 f2) (ho : d.Q e W base ok v xs) (ht : e ≠ 53) : some g ≠ v.ownBlock := by
 obtain ⟨A0, c0, hb, hg, hr0⟩ := h; exact Kd.Q_ne ho hb ht
theorem IsS53.apartS {w0 W : World} {g : Nat} {f0 : List Int} {f1 : Int} {f2 : Int} {α : Type} {d : Kd α} {e : Nat} {base : Nat} {ok : Nat → Prop} {v : Value} {xs : List α} (h : IsS53 w0 W g f0 f1 f2) (ho : d.S e W base ok v xs) (ht : ∀ q, q ∈ e :: d.E → q ≠ 53) : d.S e W base (fun k => ok k ∧ k ≠ g) v xs := by
 obtain ⟨A0, c0, hb, hg, hr0⟩ := h; exact Kd.S_types ho hb ht
theorem IsS53.own_neS {w0 W : World} {g : Nat} {f0 : List Int} {f1 : Int} {f2 : Int} {α : Type} {d : Kd α} {e : Nat} {base : Nat} {ok : Nat → Prop} {v : Value} {xs : List α} (h : IsS53 w0 W g f0 f1 f2) (ho : d.S e W base ok v xs) (ht : e ≠ 53) : some g ≠ v.ownBlock := by
 obtain ⟨A0, c0, hb, hg, hr0⟩ := h; exact Kd.S_ne ho hb ht
theorem IsS53.lt {w0 W : World} {g : Nat} {f0 : List Int} {f1 : Int} {f2 : Int} (h : IsS53 w0 W g f0 f1 f2) : g < W.heap.size := by
 obtain ⟨A0, c0, hb, hg, hr0⟩ := h; exact blk_lt hb
theorem IsS53.ge {w0 W : World} {g : Nat} {f0 : List Int} {f1 : Int} {f2 : Int} (h : IsS53 w0 W g f0 f1 f2) : w0.heap.size ≤ g := by
 obtain ⟨A0, c0, hb, hg, hr0⟩ := h; exact hg
theorem IsS53.ne_blk {w0 W : World} {g : Nat} {f0 : List Int} {f1 : Int} {f2 : Int} {a : Nat} {cs : Array Value} {t : TypeId} {fr : Nat × Nat} (h : IsS53 w0 W g f0 f1 f2) (hb2 : W.heap[a]? = some (.cells cs t fr)) (ht : t ≠ 53) : g ≠ a := by
 obtain ⟨A0, c0, hb, hg, hr0⟩ := h; rintro rfl; rw [hb] at hb2
 injection hb2 with hb2
 injection hb2 with _ ht2
 exact ht ht2.symm
theorem IsS53.far {w0 W : World} {g : Nat} {f0 : List Int} {f1 : Int} {f2 : Int} {p : Addr} (h : IsS53 w0 W g f0 f1 f2) (hne : g ≠ p.block) (u : Value) : IsS53 w0 (W.setCell p u) g f0 f1 f2 := by
 obtain ⟨A0, c0, hb, hg, hr0⟩ := h; exact ⟨A0, c0, blk_far hb hne u, hg, hr0⟩
theorem cellS53_0 {W : World} {g : Nat} {A0 : Option Addr} {c0 : Nat} {f0 : List Int} {f1 : Int} {f2 : Int} (h : W.heap[g]? = some (.cells #[.slice A0 f0.length c0, .int .i64 f1, .int .u64 f2] 53 (0, 0))) : W.cell? ⟨g, 0, none⟩ = some (.slice A0 f0.length c0) := (blk_cell h 0).trans rfl
theorem cellS53_1 {W : World} {g : Nat} {A0 : Option Addr} {c0 : Nat} {f0 : List Int} {f1 : Int} {f2 : Int} (h : W.heap[g]? = some (.cells #[.slice A0 f0.length c0, .int .i64 f1, .int .u64 f2] 53 (0, 0))) : W.cell? ⟨g, 1, none⟩ = some (.int .i64 f1) := (blk_cell h 1).trans rfl
theorem IsS53.set_1 {w0 W : World} {g : Nat} {f0 : List Int} {f1 : Int} {f2 : Int} (h : IsS53 w0 W g f0 f1 f2) (x : Int) : IsS53 w0 (W.setCell ⟨g, 1, none⟩ (.int .i64 x)) g f0 x f2 := by
 obtain ⟨A0, c0, hb, hg, hr0⟩ := h; exact ⟨A0, c0, (by simpa using blk_set hb 1 (.int .i64 x)), hg, hr0⟩
theorem cellS53_2 {W : World} {g : Nat} {A0 : Option Addr} {c0 : Nat} {f0 : List Int} {f1 : Int} {f2 : Int} (h : W.heap[g]? = some (.cells #[.slice A0 f0.length c0, .int .i64 f1, .int .u64 f2] 53 (0, 0))) : W.cell? ⟨g, 2, none⟩ = some (.int .u64 f2) := (blk_cell h 2).trans rfl
theorem IsS53.set_2 {w0 W : World} {g : Nat} {f0 : List Int} {f1 : Int} {f2 : Int} (h : IsS53 w0 W g f0 f1 f2) (x : Int) : IsS53 w0 (W.setCell ⟨g, 2, none⟩ (.int .u64 x)) g f0 f1 x := by
 obtain ⟨A0, c0, hb, hg, hr0⟩ := h; exact ⟨A0, c0, (by simpa using blk_set hb 2 (.int .u64 x)), hg, hr0⟩
theorem IsS53.new (w0 W : World) (A0 : Option Addr) (c0 : Nat) (f0 : List Int) (f1 : Int) (f2 : Int) (hB : Below w0.heap.size w0 W) (hr0 : Kd.C (Kd.int .u8) w0 A0 f0.length f0) : IsS53 w0 (W.alloc (.cells #[.slice A0 f0.length c0, .int .i64 f1, .int .u64 f2] 53)) W.heap.size f0 f1 f2 := ⟨A0, c0, (by simpa using heap_alloc_new W _), hB.size, hr0⟩

/-! ### spec_l1Cur_next: function 67 -/
def spec_l1Cur_next.f (s0_0 : List Int) (s0_1 : Int) (s0_2 : Int) : Option (Int × Int × Int) := if s0_1 < (s0_0.length : Int) then (if 0 ≤ s0_1 then (if (wrap64 (s0_1 + 1)) ≤ (s0_0.length : Int) then (some (wrap64 (rd s0_0 s0_1), wrap64 (s0_1 + 1), IntKind.u64.wrap ((IntKind.u64.wrap ((IntKind.u64.wrap (s0_2 * 6364136223846793005)) + (IntKind.u64.wrap (wrap64 (rd s0_0 s0_1))))) + 1442695040888963407))) else (some (wrap64 (Go.bits .and .u64 ((IntKind.u64.wrap ((IntKind.u64.wrap ((IntKind.u64.wrap (s0_2 * 6364136223846793005)) + (IntKind.u64.wrap (wrap64 (rd s0_0 s0_1))))) + 1442695040888963407)) / 1099511627776) 255), wrap64 (s0_1 + 1), IntKind.u64.wrap ((IntKind.u64.wrap ((IntKind.u64.wrap (s0_2 * 6364136223846793005)) + (IntKind.u64.wrap (wrap64 (rd s0_0 s0_1))))) + 1442695040888963407)))) else (none)) else (if (wrap64 (s0_1 + 1)) ≤ (s0_0.length : Int) then (some (0, wrap64 (s0_1 + 1), IntKind.u64.wrap ((IntKind.u64.wrap ((IntKind.u64.wrap (s0_2 * 6364136223846793005)) + 0)) + 1442695040888963407))) else (some (wrap64 (Go.bits .and .u64 ((IntKind.u64.wrap ((IntKind.u64.wrap ((IntKind.u64.wrap (s0_2 * 6364136223846793005)) + 0)) + 1442695040888963407)) / 1099511627776) 255), wrap64 (s0_1 + 1), IntKind.u64.wrap ((IntKind.u64.wrap ((IntKind.u64.wrap (s0_2 * 6364136223846793005)) + 0)) + 1442695040888963407))))
theorem spec_l1Cur_next.calls (g : Nat) (s0_0 : List Int) (s0_1 : Int) (s0_2 : Int) (r1 : Int) (r2 : Int) (r3 : Int) (w0 w : World) (hI : IsS53 w0 w g s0_0 s0_1 s0_2) (hB : Below w0.heap.size w0 w) (h : spec_l1Cur_next.f s0_0 s0_1 s0_2 = some (r1, r2, r3)) :
  Calls Tryz.prog 67 #[.pointer (some ⟨g, 0, none⟩)] w fun e w' => e = .returned (.int .i64 r1) ∧ IsS53 w0 w' g s0_0 r2 r3 ∧ Below w0.heap.size w0 w' ∧ KeepBut w w' g none := by
 have HI0 := am_ hI; have HK := am_ (KeepBut.refl w g none); have HL := am_ hB.size; clear hI; have HW0 := am_ hB.size; have HB := am_ hB; clear hB; unfold spec_l1Cur_next.f at h; have H := h; clear h
 replace H := sp_ H; obtain ⟨c2b0, H⟩ | ⟨c2b0, H⟩ := H
 ·replace H := ps_ H; obtain ⟨c3b0, H⟩ := H
  replace H := sp_ H; obtain ⟨c4b0, H⟩ | ⟨c4b0, H⟩ := H
  ·simp only [Option.some.injEq, Prod.mk.injEq] at H; obtain ⟨rfl, rfl, rfl⟩ := H; obtain ⟨ASz5_0, cSz5_0, HGz5, hgz5, HSz5_0⟩ := HI0.out; have hcz5_0 := cellS53_0 HGz5; have hcz5_1 := cellS53_1 HGz5; have hcz5_2 := cellS53_2 HGz5; have hfz5_1 := blk_frozen HGz5 1; have hfz5_2 := blk_frozen HGz5 2; clear HGz5 hgz5; have p101 : 0 ≤ (s0_1 : Int) := od_; have q101 : s0_1 < (s0_0.length : Int) := od_; obtain ⟨ad101, e101, hx101_0⟩ := Kd.at_int HSz5_0 s0_1 p101 q101; cases e101; replace hx101_0 := pw_cell_below HB.out hx101_0; replace p101 := eq_true p101; replace q101 := eq_true q101; go_enter Tryz.func67, Tryz.ntmps67; go_wp2
   repeat (go_quiet (fail); try go_wp2)
   go_ret
   exact ⟨tc7_, tc89_, tc5_, tc4_⟩
  ·simp only [Option.some.injEq, Prod.mk.injEq] at H; obtain ⟨rfl, rfl, rfl⟩ := H; obtain ⟨ASz6_0, cSz6_0, HGz6, hgz6, HSz6_0⟩ := HI0.out; have hcz6_0 := cellS53_0 HGz6; have hcz6_1 := cellS53_1 HGz6; have hcz6_2 := cellS53_2 HGz6; have hfz6_1 := blk_frozen HGz6 1; have hfz6_2 := blk_frozen HGz6 2; clear HGz6 hgz6; have p101 : 0 ≤ (s0_1 : Int) := od_; have q101 : s0_1 < (s0_0.length : Int) := od_; obtain ⟨ad101, e101, hx101_0⟩ := Kd.at_int HSz6_0 s0_1 p101 q101; cases e101; replace hx101_0 := pw_cell_below HB.out hx101_0; replace p101 := eq_true p101; replace q101 := eq_true q101; go_enter Tryz.func67, Tryz.ntmps67; go_wp2
   repeat (go_quiet (fail); try go_wp2)
   go_ret
   exact ⟨tc7_, tc89_, tc5_, tc4_⟩
 ·replace H := sp_ H; obtain ⟨c7b0, H⟩ | ⟨c7b0, H⟩ := H
  ·simp only [Option.some.injEq, Prod.mk.injEq] at H; obtain ⟨rfl, rfl, rfl⟩ := H; obtain ⟨ASz8_0, cSz8_0, HGz8, hgz8, HSz8_0⟩ := HI0.out; have hcz8_0 := cellS53_0 HGz8; have hcz8_1 := cellS53_1 HGz8; have hcz8_2 := cellS53_2 HGz8; have hfz8_1 := blk_frozen HGz8 1; have hfz8_2 := blk_frozen HGz8 2; clear HGz8 hgz8; go_enter Tryz.func67, Tryz.ntmps67; go_wp2
   repeat (go_quiet (fail); try go_wp2)
   go_ret
   exact ⟨tc7_, tc89_, tc5_, tc4_⟩
  ·simp only [Option.some.injEq, Prod.mk.injEq] at H; obtain ⟨rfl, rfl, rfl⟩ := H; obtain ⟨ASz9_0, cSz9_0, HGz9, hgz9, HSz9_0⟩ := HI0.out; have hcz9_0 := cellS53_0 HGz9; have hcz9_1 := cellS53_1 HGz9; have hcz9_2 := cellS53_2 HGz9; have hfz9_1 := blk_frozen HGz9 1; have hfz9_2 := blk_frozen HGz9 2; clear HGz9 hgz9; go_enter Tryz.func67, Tryz.ntmps67; go_wp2
   repeat (go_quiet (fail); try go_wp2)
   go_ret
   exact ⟨tc7_, tc89_, tc5_, tc4_⟩

/-! ### spec_l1Cur_pick: function 39 -/
def spec_l1Cur_pick.f (s0_0 : List Int) (s0_1 : Int) (s0_2 : Int) (a1 : Int) : Option (Int × Int × Int) := if a1 ≤ 1 then (some (0, s0_1, s0_2)) else ((spec_l1Cur_next.f s0_0 s0_1 s0_2).bind fun bt101 => (if a1 > 200 then ((spec_l1Cur_next.f s0_0 bt101.2.1 bt101.2.2).bind fun bt104 => (if a1 = 0 then (none) else (some (Int.tmod (wrap64 ((wrap64 (bt101.1 * 256)) + bt104.1)) a1, bt104.2.1, bt104.2.2)))) else (if a1 = 0 then (none) else (some (Int.tmod bt101.1 a1, bt101.2.1, bt101.2.2)))))
theorem spec_l1Cur_pick.calls (g : Nat) (s0_0 : List Int) (s0_1 : Int) (s0_2 : Int) (a1 : Int) (r1 : Int) (r2 : Int) (r3 : Int) (w0 w : World) (hI : IsS53 w0 w g s0_0 s0_1 s0_2) (hB : Below w0.heap.size w0 w) (h : spec_l1Cur_pick.f s0_0 s0_1 s0_2 a1 = some (r1, r2, r3)) :
  Calls Tryz.prog 39 #[.pointer (some ⟨g, 0, none⟩), .int .i64 a1] w fun e w' => e = .returned (.int .i64 r1) ∧ IsS53 w0 w' g s0_0 r2 r3 ∧ Below w0.heap.size w0 w' ∧ KeepBut w w' g none := by
 have HI0 := am_ hI; have HK := am_ (KeepBut.refl w g none); have HL := am_ hB.size; clear hI; have HW0 := am_ hB.size; have HB := am_ hB; clear hB; unfold spec_l1Cur_pick.f at h; have H := h; clear h
 replace H := sp_ H; obtain ⟨c3b0, H⟩ | ⟨c3b0, H⟩ := H
 ·simp only [Option.some.injEq, Prod.mk.injEq] at H; obtain ⟨rfl, rfl, rfl⟩ := H; go_enter Tryz.func39, Tryz.ntmps39; go_wp2
  go_ret
  exact ⟨tc7_, tc3_, tc5_, tc4_⟩
 ·replace H := Option.bind_eq_some_iff.mp H; obtain ⟨⟨t101, t102, t103⟩, A40, H⟩ := H; (try dsimp only at H); have A4 := am_ A40; clear A40
  replace H := pn_ H; obtain ⟨c5, H⟩ | ⟨c5, H⟩ := H
  ·have c5b0 : decide (200 < a1) = true := decide_eq_true c5; clear c5; replace H := Option.bind_eq_some_iff.mp H; obtain ⟨⟨t104, t105, t106⟩, A60, H⟩ := H; (try dsimp only at H); have A6 := am_ A60; clear A60
   replace H := pn_ H; obtain ⟨c7, H⟩ | ⟨c7, H⟩ := H
   ·exact absurd H (by simp)
   ·have c7b0 : (a1 == 0) = false := beq_eq_false_iff_ne.mpr c7; have c7b1 : (a1 != 0) = true := bne_iff_ne.mpr c7; simp only [Option.some.injEq, Prod.mk.injEq] at H; obtain ⟨rfl, rfl, rfl⟩ := H; go_enter Tryz.func39, Tryz.ntmps39
    go_wp2_with (first | (refine gc_ (some 9) Tryz.func67 #[.pointer (some ⟨g, 0, none⟩)] ?_; (with_reducible refine (spec_l1Cur_next.calls g s0_0 s0_1 s0_2 t101 t102 t103 w0 _ ?side1 ?side2 A4.out).mono ?_); (case side1 => exact tc3_); (case side2 => exact tc5_); rintro e w8 ⟨rfl, hi, hb, hk⟩; refine ⟨_, rfl, ?_⟩; replace HK := am_ (KeepBut.trans tc4_ hk (.inl rfl)); replace HB := am_ (hb); replace HI0 := am_ (hi); (try clear hb hk hi)) | (refine gc_ (some 15) Tryz.func67 #[.pointer (some ⟨g, 0, none⟩)] ?_; (with_reducible refine (spec_l1Cur_next.calls g s0_0 t102 t103 t104 t105 t106 w0 _ ?side1 ?side2 A6.out).mono ?_); (case side1 => exact tc3_); (case side2 => exact tc5_); rintro e w9 ⟨rfl, hi, hb, hk⟩; refine ⟨_, rfl, ?_⟩; replace HK := am_ (KeepBut.trans tc4_ hk (.inl rfl)); replace HB := am_ (hb); replace HI0 := am_ (hi); (try clear hb hk hi)))
    go_ret
    exact ⟨tc7_, tc3_, tc5_, tc4_⟩
  ·have c5b0 : decide (200 < a1) = false := decide_eq_false c5; clear c5
   replace H := pn_ H; obtain ⟨c10, H⟩ | ⟨c10, H⟩ := H
   ·exact absurd H (by simp)
   ·have c10b0 : (a1 == 0) = false := beq_eq_false_iff_ne.mpr c10; have c10b1 : (a1 != 0) = true := bne_iff_ne.mpr c10; simp only [Option.some.injEq, Prod.mk.injEq] at H; obtain ⟨rfl, rfl, rfl⟩ := H; go_enter Tryz.func39, Tryz.ntmps39
    go_wp2_with (first | (refine gc_ (some 9) Tryz.func67 #[.pointer (some ⟨g, 0, none⟩)] ?_; (with_reducible refine (spec_l1Cur_next.calls g s0_0 s0_1 s0_2 t101 t102 t103 w0 _ ?side1 ?side2 A4.out).mono ?_); (case side1 => exact tc3_); (case side2 => exact tc5_); rintro e w11 ⟨rfl, hi, hb, hk⟩; refine ⟨_, rfl, ?_⟩; replace HK := am_ (KeepBut.trans tc4_ hk (.inl rfl)); replace HB := am_ (hb); replace HI0 := am_ (hi); (try clear hb hk hi)))
    go_ret
    exact ⟨tc7_, tc3_, tc5_, tc4_⟩

/-! ### spec_l1Cur_one: function 40 -/
def spec_l1Cur_one.f (s0_0 : List Int) (s0_1 : Int) (s0_2 : Int) (a1 : Int) : Option (Bool × Int × Int) := (spec_l1Cur_pick.f s0_0 s0_1 s0_2 a1).bind fun bt101 => (some ((bt101.1 == 0), bt101.2.1, bt101.2.2))
theorem spec_l1Cur_one.calls (g : Nat) (s0_0 : List Int) (s0_1 : Int) (s0_2 : Int) (a1 : Int) (r1 : Bool) (r2 : Int) (r3 : Int) (w0 w : World) (hI : IsS53 w0 w g s0_0 s0_1 s0_2) (hB : Below w0.heap.size w0 w) (h : spec_l1Cur_one.f s0_0 s0_1 s0_2 a1 = some (r1, r2, r3)) :
  Calls Tryz.prog 40 #[.pointer (some ⟨g, 0, none⟩), .int .i64 a1] w fun e w' => e = .returned (.bool r1) ∧ IsS53 w0 w' g s0_0 r2 r3 ∧ Below w0.heap.size w0 w' ∧ KeepBut w w' g none := by
 have HI0 := am_ hI; have HK := am_ (KeepBut.refl w g none); have HL := am_ hB.size; clear hI; have HW0 := am_ hB.size; have HB := am_ hB; clear hB; unfold spec_l1Cur_one.f at h; have H := h; clear h; replace H := Option.bind_eq_some_iff.mp H; obtain ⟨⟨t101, t102, t103⟩, A30, H⟩ := H; (try dsimp only at H); have A3 := am_ A30; clear A30; simp only [Option.some.injEq, Prod.mk.injEq] at H; obtain ⟨rfl, rfl, rfl⟩ := H; go_enter Tryz.func40, Tryz.ntmps40
 go_wp2_with (first | (refine gc_ (some 7) Tryz.func39 #[.pointer (some ⟨g, 0, none⟩), .int .i64 a1] ?_; (with_reducible refine (spec_l1Cur_pick.calls g s0_0 s0_1 s0_2 a1 t101 t102 t103 w0 _ ?side1 ?side2 A3.out).mono ?_); (case side1 => exact tc3_); (case side2 => exact tc5_); rintro e w4 ⟨rfl, hi, hb, hk⟩; refine ⟨_, rfl, ?_⟩; replace HK := am_ (KeepBut.trans tc4_ hk (.inl rfl)); replace HB := am_ (hb); replace HI0 := am_ (hi); (try clear hb hk hi)))
 go_ret
 exact ⟨tc7_, tc3_, tc5_, tc4_⟩

/-! ### spec_l1In: function 99 -/
def spec_l1In.f (a0 : Int) (a1 : Int) (a2 : Int) : Option (Bool) := if a0 ≥ a1 then (some (decide (a0 ≤ a2))) else (some false)
theorem spec_l1In.calls (a0 : Int) (a1 : Int) (a2 : Int) (r : Bool) (w : World) (h : spec_l1In.f a0 a1 a2 = some r) :
  Calls Tryz.prog 99 #[.int .i64 a0, .int .i64 a1, .int .i64 a2] w fun e w' => e = .returned (.bool r) ∧ Drawn0 w w' := by
 unfold spec_l1In.f at h; have H := h; clear h
 replace H := pn_ H; obtain ⟨c4, H⟩ | ⟨c4, H⟩ := H
 ·have c4b0 : decide (a1 ≤ a0) = true := decide_eq_true c4; clear c4; obtain rfl := Option.some.inj H; go_enter Tryz.func99, Tryz.ntmps99; go_wp2
  go_ret
  exact ⟨tc6_, tc13_⟩
 ·have c4b0 : decide (a1 ≤ a0) = false := decide_eq_false c4; clear c4; obtain rfl := Option.some.inj H; go_enter Tryz.func99, Tryz.ntmps99; go_wp2
  go_ret
  exact ⟨tc6_, tc13_⟩

/-! ### spec_sgSquare: function 79 -/
def spec_sgSquare.l0 : Nat → Tb_ → Tb_ → Int → Int → Option (Bool)
 | 0, _, _, _, _ => none
 | k + 1, x0, x9, x10, x11 => if x11 < x10 then (if 0 ≤ x11 then (if x11 < (x9.length : Int) then (if ((rd_L3 x9 x11).length : Int) = (x0.length : Int) then (spec_sgSquare.l0 k x0 x9 x10 (wrap64 (x11 + 1))) else (some false)) else (none)) else (none)) else (some true)
def spec_sgSquare.f (k : Nat) (l0 : Tb_) : Option (Bool) := (spec_l1In.f (l0.length : Int) 1 6).bind fun t101 => (if t101 = true then (spec_sgSquare.l0 k l0 l0 (l0.length : Int) 0) else (some false))
theorem spec_sgSquare.calls (k : Nat) (A0 : Option Addr) (c0 : Nat) (l0 : Tb_) (r : Bool) (w : World) (hr0 : Kd.C (Kd.slice 3 (Kd.int .i64)) w A0 l0.length l0) (hc0 : l0.length ≤ c0) (h : spec_sgSquare.f k l0 = some r) :
  Calls Tryz.prog 79 #[.slice A0 l0.length c0] w fun e w' => e = .returned (.bool r) ∧ Drawn0 w w' := by
 have HR0 := am_ hr0; have HC0 := am_ hc0; clear hr0 hc0; unfold spec_sgSquare.f at h; have H := h; clear h; replace H := bd_ H; obtain ⟨t101, A2, H⟩ := H; (try dsimp only at H)
 by_cases c3 : t101 = true
 ·subst c3; have H1 : (spec_sgSquare.l0 k l0 l0 (l0.length : Int) 0) = some r := tc21_; clear H; have H := H1; clear H1; have H' := am_ H; clear H; go_enter Tryz.func79, Tryz.ntmps79
  go_wp2_with (first | (refine gc_ (some 7) Tryz.func99 #[.int .i64 (l0.length : Int), .int .i64 1, .int .i64 6] ?_; (with_reducible refine (spec_l1In.calls (l0.length : Int) 1 6 true _ A2.out).mono ?_); rintro e w' ⟨rfl, ⟨nd, rfl⟩⟩; refine ⟨_, rfl, ?_⟩))
  go_loopg [11] k (fun kq v11 w' => ∃ (x11_1 : Int), v11 = .int .i64 x11_1 ∧ Aside0 (spec_sgSquare.l0 kq l0 l0 (l0.length : Int) x11_1 = some r) ∧ Aside0 (kq ≤ k) ∧ Drawn0 w w')
  case atStart => exact ⟨(0), tc6_, H', ⟨Nat.le_refl _⟩, tc13_⟩
  case round =>
   clear H'; (try clear p2); (try clear c3); obtain ⟨x11_1, rfl, HA, HK1, ⟨m1, rfl⟩⟩ := hrel
   cases gk with
   | zero => exact absurd HA.out (by simp [spec_sgSquare.l0])
   | succ k1 =>
    have H := HA.out; clear HA; simp only [spec_sgSquare.l0] at H
    replace H := sp_ H; obtain ⟨c4b0, H⟩ | ⟨c4b0, H⟩ := H
    ·replace H := ps_ H; obtain ⟨c5b0, H⟩ := H; replace H := ps_ H; obtain ⟨c6b0, H⟩ := H
     replace H := pn_ H; obtain ⟨c7, H⟩ | ⟨c7, H⟩ := H
     ·have c7b0 : (((rd_L3 l0 x11_1).length : Int) == (l0.length : Int)) = true := beq_iff_eq.mpr c7; have c7b1 : (((rd_L3 l0 x11_1).length : Int) != (l0.length : Int)) = false := bne_eq_false_iff_eq.mpr c7; have c7b2 : ((rd_L3 l0 x11_1).length == l0.length) = true := (by first | simpa using c7 | (simp at c7 ⊢; omega)); clear c7; have H' := am_ H; clear H; have p102 : 0 ≤ (x11_1 : Int) := od_; have q102 : x11_1 < (l0.length : Int) := od_; obtain ⟨ad102, A102_0, c102_0, e102, hx102_0, hl102_0, hi102_0⟩ := at_L3 HR0.out x11_1 p102 q102; cases e102; have HR102_0 := am_ hi102_0; have HC102_0 := am_ hl102_0; clear hi102_0 hl102_0; replace p102 := eq_true p102; replace q102 := eq_true q102; go_wp2
      go_roundg k1
      case measure => have := HK1.out; omega
      case rel => exact ⟨(wrap64 (x11_1 + 1)), tc6_, H', ⟨tc135_⟩, tc13_⟩
     ·have c7b0 : (((rd_L3 l0 x11_1).length : Int) == (l0.length : Int)) = false := beq_eq_false_iff_ne.mpr c7; have c7b1 : (((rd_L3 l0 x11_1).length : Int) != (l0.length : Int)) = true := bne_iff_ne.mpr c7; have c7b2 : ((rd_L3 l0 x11_1).length == l0.length) = false := (by first | simpa using c7 | (simp at c7 ⊢; omega)); obtain rfl := Option.some.inj H; have p102 : 0 ≤ (x11_1 : Int) := od_; have q102 : x11_1 < (l0.length : Int) := od_; obtain ⟨ad102, A102_0, c102_0, e102, hx102_0, hl102_0, hi102_0⟩ := at_L3 HR0.out x11_1 p102 q102; cases e102; have HR102_0 := am_ hi102_0; have HC102_0 := am_ hl102_0; clear hi102_0 hl102_0; replace p102 := eq_true p102; replace q102 := eq_true q102; go_wp2
      go_ret
      exact ⟨tc6_, tc13_⟩
    ·obtain rfl := Option.some.inj H; go_wp2
     go_ret
     exact ⟨tc6_, tc13_⟩
 ·replace c3 := Bool.eq_false_iff.mpr c3; subst c3; have H1 : (some false) = some r := tc12_; clear H; have H := H1; clear H1; obtain rfl := Option.some.inj H; go_enter Tryz.func79, Tryz.ntmps79
  go_wp2_with (first | (refine gc_ (some 7) Tryz.func99 #[.int .i64 (l0.length : Int), .int .i64 1, .int .i64 6] ?_; (with_reducible refine (spec_l1In.calls (l0.length : Int) 1 6 false _ A2.out).mono ?_); rintro e w' ⟨rfl, ⟨nd, rfl⟩⟩; refine ⟨_, rfl, ?_⟩))
  go_ret
  exact ⟨tc6_, tc13_⟩

/-! ### spec_sgRows: function 80 -/
mutual
def spec_sgRows.l0 : Nat → Tb_ → Int → Int → Option (Bool)
 | 0, _, _, _ => none
 | k + 1, x8, x9, x10 => if x10 < x9 then (if 0 ≤ x10 then (if x10 < (x8.length : Int) then (spec_sgRows.l1 k 0 x8 x9 x10 (rd_L3 x8 x10) ((rd_L3 x8 x10).length : Int) 0) else (none)) else (none)) else (some true)
def spec_sgRows.l1 : Nat → Int → Tb_ → Int → Int → List Int → Int → Int → Option (Bool)
 | 0, _, _, _, _, _, _, _ => none
 | k + 1, x5, x8, x9, x10, x14, x15, x16 => if x16 < x15 then (if 0 ≤ x16 then (if x16 < (x14.length : Int) then ((spec_l1In.f (rd x14 x16) (-1) 1).bind fun t103 => (if t103 = true then ((spec_l1In.f (wrap64 (x5 + (rd x14 x16))) 0 1).bind fun t104 => (if t104 = true then (spec_sgRows.l1 k (wrap64 (x5 + (rd x14 x16))) x8 x9 x10 x14 x15 (wrap64 (x16 + 1))) else (some false))) else (some false))) else (none)) else (none)) else (if x5 = 1 then (spec_sgRows.l0 k x8 x9 (wrap64 (x10 + 1))) else (some false))
end
def spec_sgRows.f (k : Nat) (l0 : Tb_) : Option (Bool) := spec_sgRows.l0 k l0 (l0.length : Int) 0
theorem spec_sgRows.calls (k : Nat) (A0 : Option Addr) (c0 : Nat) (l0 : Tb_) (r : Bool) (w : World) (hr0 : Kd.C (Kd.slice 3 (Kd.int .i64)) w A0 l0.length l0) (hc0 : l0.length ≤ c0) (h : spec_sgRows.f k l0 = some r) :
  Calls Tryz.prog 80 #[.slice A0 l0.length c0] w fun e w' => e = .returned (.bool r) ∧ Drawn0 w w' := by
 have HR0 := am_ hr0; have HC0 := am_ hc0; clear hr0 hc0; unfold spec_sgRows.f at h; have H := h; clear h; have H' := am_ H; clear H; go_enter Tryz.func80, Tryz.ntmps80; go_wp2
 go_loopg [10] k (fun kq v10 w' => ∃ (x10_1 : Int), v10 = .int .i64 x10_1 ∧ Aside0 (spec_sgRows.l0 kq l0 (l0.length : Int) x10_1 = some r) ∧ Aside0 (kq ≤ k) ∧ Drawn0 w w')
 case atStart => exact ⟨(0), tc6_, H', ⟨Nat.le_refl _⟩, tc13_⟩
 case round =>
  clear H'; obtain ⟨x10_1, rfl, HA, HK1, ⟨m1, rfl⟩⟩ := hrel
  cases gk with
  | zero => exact absurd HA.out (by simp [spec_sgRows.l0])
  | succ k1 =>
   have H := HA.out; clear HA; simp only [spec_sgRows.l0] at H
   replace H := sp_ H; obtain ⟨c2b0, H⟩ | ⟨c2b0, H⟩ := H
   ·replace H := ps_ H; obtain ⟨c3b0, H⟩ := H; replace H := ps_ H; obtain ⟨c4b0, H⟩ := H; have H' := am_ H; clear H; have p101 : 0 ≤ (x10_1 : Int) := od_; have q101 : x10_1 < (l0.length : Int) := od_; obtain ⟨ad101, A101_0, c101_0, e101, hx101_0, hl101_0, hi101_0⟩ := at_L3 HR0.out x10_1 p101 q101; cases e101; have HR101_0 := am_ hi101_0; have HC101_0 := am_ hl101_0; clear hi101_0 hl101_0; replace p101 := eq_true p101; replace q101 := eq_true q101; go_wp2
    go_loopg [5, 16] k1 (fun kq v5 v16 w' => ∃ (x5_2 : Int) (x16_2 : Int), v5 = .int .i64 x5_2 ∧ v16 = .int .i64 x16_2 ∧ Aside0 (spec_sgRows.l1 kq x5_2 l0 (l0.length : Int) x10_1 (rd_L3 l0 x10_1) ((rd_L3 l0 x10_1).length : Int) x16_2 = some r) ∧ Aside0 (kq ≤ k1) ∧ Drawn0 w w')
    case atStart => exact ⟨(0), (0), tc6_, tc6_, H', ⟨Nat.le_refl _⟩, tc13_⟩
    case round =>
     clear H'; (try clear c1); (try clear p1); (try clear q1); (try clear hx1); (try clear c2); (try clear c2b0); (try clear p2); (try clear c3); (try clear c3b0); (try clear c4); (try clear c4b0); (try clear hx101_0); (try clear p101); (try clear q101); obtain ⟨x5_2, x16_2, rfl, rfl, HA, HK2, ⟨m2, rfl⟩⟩ := hrel
     cases gk with
     | zero => exact absurd HA.out (by simp [spec_sgRows.l1])
     | succ k2 =>
      have H := HA.out; clear HA; simp only [spec_sgRows.l1] at H
      replace H := sp_ H; obtain ⟨c5b0, H⟩ | ⟨c5b0, H⟩ := H
      ·replace H := ps_ H; obtain ⟨c6b0, H⟩ := H; replace H := ps_ H; obtain ⟨c7b0, H⟩ := H; replace H := bd_ H; obtain ⟨t103, A8, H⟩ := H; (try dsimp only at H)
       by_cases c9 : t103 = true
       ·subst c9; have H1 : ((spec_l1In.f (wrap64 (x5_2 + (rd (rd_L3 l0 x10_1) x16_2))) 0 1).bind fun t104 => (if t104 = true then (spec_sgRows.l1 k2 (wrap64 (x5_2 + (rd (rd_L3 l0 x10_1) x16_2))) l0 (l0.length : Int) x10_1 (rd_L3 l0 x10_1) ((rd_L3 l0 x10_1).length : Int) (wrap64 (x16_2 + 1))) else (some false))) = some r := tc21_; clear H; have H := H1; clear H1; replace H := bd_ H; obtain ⟨t104, A10, H⟩ := H; (try dsimp only at H)
        by_cases c11 : t104 = true
        ·subst c11; have H1 : (spec_sgRows.l1 k2 (wrap64 (x5_2 + (rd (rd_L3 l0 x10_1) x16_2))) l0 (l0.length : Int) x10_1 (rd_L3 l0 x10_1) ((rd_L3 l0 x10_1).length : Int) (wrap64 (x16_2 + 1))) = some r := tc21_; clear H; have H := H1; clear H1; have H' := am_ H; clear H; have p102 : 0 ≤ (x16_2 : Int) := od_; have q102 : x16_2 < ((rd_L3 l0 x10_1).length : Int) := od_; obtain ⟨ad102, e102, hx102_0⟩ := Kd.at_int HR101_0.out x16_2 p102 q102; cases e102; replace p102 := eq_true p102; replace q102 := eq_true q102
         go_wp2_with (first | (refine gc_ (some 21) Tryz.func99 #[.int .i64 (rd (rd_L3 l0 x10_1) x16_2), .int .i64 (-1), .int .i64 1] ?_; (with_reducible refine (spec_l1In.calls (rd (rd_L3 l0 x10_1) x16_2) (-1) 1 true _ A8.out).mono ?_); rintro e w' ⟨rfl, ⟨nd, rfl⟩⟩; refine ⟨_, rfl, ?_⟩) | (refine gc_ (some 27) Tryz.func99 #[.int .i64 (wrap64 (x5_2 + (rd (rd_L3 l0 x10_1) x16_2))), .int .i64 0, .int .i64 1] ?_; (with_reducible refine (spec_l1In.calls (wrap64 (x5_2 + (rd (rd_L3 l0 x10_1) x16_2))) 0 1 true _ A10.out).mono ?_); rintro e w' ⟨rfl, ⟨nd, rfl⟩⟩; refine ⟨_, rfl, ?_⟩))
         go_roundg k2
         case measure => have := HK1.out; have := HK2.out; omega
         case rel => exact ⟨(wrap64 (x5_2 + (rd (rd_L3 l0 x10_1) x16_2))), (wrap64 (x16_2 + 1)), tc6_, tc6_, H', ⟨tc39_⟩, tc13_⟩
        ·replace c11 := Bool.eq_false_iff.mpr c11; subst c11; have H1 : (some false) = some r := tc12_; clear H; have H := H1; clear H1; obtain rfl := Option.some.inj H; have p102 : 0 ≤ (x16_2 : Int) := od_; have q102 : x16_2 < ((rd_L3 l0 x10_1).length : Int) := od_; obtain ⟨ad102, e102, hx102_0⟩ := Kd.at_int HR101_0.out x16_2 p102 q102; cases e102; replace p102 := eq_true p102; replace q102 := eq_true q102
         go_wp2_with (first | (refine gc_ (some 21) Tryz.func99 #[.int .i64 (rd (rd_L3 l0 x10_1) x16_2), .int .i64 (-1), .int .i64 1] ?_; (with_reducible refine (spec_l1In.calls (rd (rd_L3 l0 x10_1) x16_2) (-1) 1 true _ A8.out).mono ?_); rintro e w' ⟨rfl, ⟨nd, rfl⟩⟩; refine ⟨_, rfl, ?_⟩) | (refine gc_ (some 27) Tryz.func99 #[.int .i64 (wrap64 (x5_2 + (rd (rd_L3 l0 x10_1) x16_2))), .int .i64 0, .int .i64 1] ?_; (with_reducible refine (spec_l1In.calls (wrap64 (x5_2 + (rd (rd_L3 l0 x10_1) x16_2))) 0 1 false _ A10.out).mono ?_); rintro e w' ⟨rfl, ⟨nd, rfl⟩⟩; refine ⟨_, rfl, ?_⟩))
         go_ret
         exact ⟨tc6_, tc13_⟩
       ·replace c9 := Bool.eq_false_iff.mpr c9; subst c9; have H1 : (some false) = some r := tc12_; clear H; have H := H1; clear H1; obtain rfl := Option.some.inj H; have p102 : 0 ≤ (x16_2 : Int) := od_; have q102 : x16_2 < ((rd_L3 l0 x10_1).length : Int) := od_; obtain ⟨ad102, e102, hx102_0⟩ := Kd.at_int HR101_0.out x16_2 p102 q102; cases e102; replace p102 := eq_true p102; replace q102 := eq_true q102
        go_wp2_with (first | (refine gc_ (some 21) Tryz.func99 #[.int .i64 (rd (rd_L3 l0 x10_1) x16_2), .int .i64 (-1), .int .i64 1] ?_; (with_reducible refine (spec_l1In.calls (rd (rd_L3 l0 x10_1) x16_2) (-1) 1 false _ A8.out).mono ?_); rintro e w' ⟨rfl, ⟨nd, rfl⟩⟩; refine ⟨_, rfl, ?_⟩))
        go_ret
        exact ⟨tc6_, tc13_⟩
      ·replace H := pn_ H; obtain ⟨c12, H⟩ | ⟨c12, H⟩ := H
       ·have c12b0 : (x5_2 == 1) = true := beq_iff_eq.mpr c12; have c12b1 : (x5_2 != 1) = false := bne_eq_false_iff_eq.mpr c12; clear c12; have H' := am_ H; clear H; go_wp2
        go_roundg k2
        case measure => have := HK1.out; have := HK2.out; omega
        case rel => exact ⟨(wrap64 (x10_1 + 1)), tc6_, H', ⟨tc39_⟩, tc13_⟩
       ·have c12b0 : (x5_2 == 1) = false := beq_eq_false_iff_ne.mpr c12; have c12b1 : (x5_2 != 1) = true := bne_iff_ne.mpr c12; obtain rfl := Option.some.inj H; go_wp2
        go_ret
        exact ⟨tc6_, tc13_⟩
   ·obtain rfl := Option.some.inj H; go_wp2
    go_ret
    exact ⟨tc6_, tc13_⟩

/-! ### spec_sgTurn: function 81 -/
mutual
def spec_sgTurn.l0 : Nat → Tb_ → Tb_ → Int → Int → Option (Tb_)
 | 0, _, _, _, _ => none
 | k + 1, x0, x3, x9, x10 => if x10 < x9 then (spec_sgTurn.l1 k x0 x3 x10 ([] : List Int) x9 x10 x0 (x0.length : Int) 0) else (some x3)
def spec_sgTurn.l1 : Nat → Tb_ → Tb_ → Int → List Int → Int → Int → Tb_ → Int → Int → Option (Tb_)
 | 0, _, _, _, _, _, _, _, _, _ => none
 | k + 1, x0, x3, x4, x5, x9, x10, x13, x14, x15 => if x15 < x14 then (if 0 ≤ x15 then (if x15 < (x13.length : Int) then (if 0 ≤ x4 then (if x4 < ((rd_L3 x13 x15).length : Int) then (if x5.length < 17592186044416 then (spec_sgTurn.l1 k x0 x3 x4 (x5 ++ [rd (rd_L3 x13 x15) x4]) x9 x10 x13 x14 (wrap64 (x15 + 1))) else (none)) else (none)) else (none)) else (none)) else (none)) else (if x3.length < 5864062014805 then (spec_sgTurn.l0 k x0 (x3 ++ [x5]) x9 (wrap64 (x10 + 1))) else (none))
end
def spec_sgTurn.f (k : Nat) (l0 : Tb_) : Option (Tb_) := spec_sgTurn.l0 k l0 ([] : Tb_) (l0.length : Int) 0
theorem spec_sgTurn.calls (k : Nat) (A0 : Option Addr) (c0 : Nat) (l0 : Tb_) (r : Tb_) (w : World) (hr0 : Kd.C (Kd.slice 3 (Kd.int .i64)) w A0 l0.length l0) (hc0 : l0.length ≤ c0) (h : spec_sgTurn.f k l0 = some r) :
  Calls Tryz.prog 81 #[.slice A0 l0.length c0] w fun e w' => ∃ v0_ : Value, e = .returned (v0_) ∧ Kd.S (Kd.slice 3 (Kd.int .i64)) 44 w' w.heap.size (fun _ => True) v0_ r ∧ Below w.heap.size w w' := by
 have HR0 := am_ hr0; have HC0 := am_ hc0; clear hr0 hc0; have HB := am_ (Below.refl w.heap.size w); unfold spec_sgTurn.f at h; have H := h; clear h; have H' := am_ H; clear H; go_enter Tryz.func81, Tryz.ntmps81; go_wp2
 go_loopg [3, 10] k (fun kq v3 v10 w' => ∃ (x3_1 : Tb_) (x10_1 : Int), v10 = .int .i64 x10_1 ∧ Aside0 (spec_sgTurn.l0 kq l0 x3_1 (l0.length : Int) x10_1 = some r) ∧ Aside0 (kq ≤ k) ∧ Aside0 (Kd.S (Kd.slice 3 (Kd.int .i64)) 44 w' w.heap.size (fun _ => True) v3 x3_1) ∧ Aside0 (Below w.heap.size w w'))
 case atStart => exact ⟨(([] : Tb_)), (0), tc6_, H', ⟨Nat.le_refl _⟩, ⟨tc29_⟩, ⟨tc0_⟩⟩
 case round =>
  clear H'; obtain ⟨x3_1, x10_1, rfl, HA, HK1, HO_3, HB⟩ := hrel
  cases gk with
  | zero => exact absurd HA.out (by simp [spec_sgTurn.l0])
  | succ k1 =>
   have H := HA.out; clear HA; simp only [spec_sgTurn.l0] at H
   replace H := sp_ H; obtain ⟨c2b0, H⟩ | ⟨c2b0, H⟩ := H
   ·have H' := am_ H; clear H; go_wp2
    go_loopg [5, 15] k1 (fun kq v5 v15 w' => ∃ (x5_2 : List Int) (x15_2 : Int), v15 = .int .i64 x15_2 ∧ Aside0 (spec_sgTurn.l1 kq l0 x3_1 x10_1 x5_2 (l0.length : Int) x10_1 l0 (l0.length : Int) x15_2 = some r) ∧ Aside0 (kq ≤ k1) ∧ Aside0 (Kd.S (Kd.slice 3 (Kd.int .i64)) 44 w' w.heap.size (fun k_ => some k_ ≠ (v5 : Value).ownBlock) u3 x3_1) ∧ Aside0 (Kd.R (Kd.int .i64) 3 w' w.heap.size (fun _ => True) v5 x5_2) ∧ Aside0 (Below w.heap.size w w'))
    case atStart => exact ⟨(([] : List Int)), (0), tc6_, H', ⟨Nat.le_refl _⟩, ⟨(by (with_reducible repeat (first | apply Kd.S_alloc | apply Kd.S_drewN | apply Kd.S_drew)); exact Kd.S_mono HO_3.out (fun _ hk => tc201_))⟩, ⟨tc113_⟩, ⟨tc0_⟩⟩
    case round =>
     clear H'; (try clear c2); (try clear c2b0); (try clear p2); obtain ⟨x5_2, x15_2, rfl, HA, HK2, HO_3, HO_5, HB⟩ := hrel
     cases gk with
     | zero => exact absurd HA.out (by simp [spec_sgTurn.l1])
     | succ k2 =>
      have H := HA.out; clear HA; simp only [spec_sgTurn.l1] at H
      replace H := sp_ H; obtain ⟨c3b0, H⟩ | ⟨c3b0, H⟩ := H
      ·replace H := ps_ H; obtain ⟨c4b0, H⟩ := H; replace H := ps_ H; obtain ⟨c5b0, H⟩ := H; replace H := ps_ H; obtain ⟨c6b0, H⟩ := H; replace H := ps_ H; obtain ⟨c7b0, H⟩ := H; replace H := pp_ H; obtain ⟨c8, H⟩ := H; have LMc8 := am_ c8; clear c8; obtain ⟨y103, hy103⟩ : ∃ y_ : List Int, y_ = (x5_2 ++ [rd (rd_L3 l0 x15_2) x10_1]) := ⟨_, rfl⟩; replace H : (spec_sgTurn.l1 k2 l0 x3_1 x10_1 y103 (l0.length : Int) x10_1 l0 (l0.length : Int) (wrap64 (x15_2 + 1))) = some r := (by first | (rw [hy103]; with_reducible exact H) | (have H2_ := (Option.bind_some _ _).symm.trans H; rw [hy103]; with_reducible exact H2_) | (have H2_ := (Option.bind_some _ _).symm.trans H; with_reducible exact H2_) | with_reducible exact H | (rw [hy103]; exact H) | exact H); have Ny103 := am_ hy103; clear hy103; have H' := am_ H; clear H; have p101 : 0 ≤ (x15_2 : Int) := od_; have q101 : x15_2 < (l0.length : Int) := od_; obtain ⟨ad101, A101_0, c101_0, e101, hx101_0, hl101_0, hi101_0⟩ := at_L3 HR0.out x15_2 p101 q101; cases e101; replace hx101_0 := (HB.out.cell (World.block_lt_of_cell? w _ hx101_0)).trans hx101_0; have HR101_0 := am_ hi101_0; have HC101_0 := am_ hl101_0; clear hi101_0 hl101_0; replace p101 := eq_true p101; replace q101 := eq_true q101; have p102 : 0 ≤ (x10_1 : Int) := od_; have q102 : x10_1 < ((rd_L3 l0 x15_2).length : Int) := od_; obtain ⟨ad102, e102, hx102_0⟩ := Kd.at_int HR101_0.out x10_1 p102 q102; cases e102; replace hx102_0 := (HB.out.cell (World.block_lt_of_cell? w _ hx102_0)).trans hx102_0; replace p102 := eq_true p102; replace q102 := eq_true q102
       go_wp2_with (first | ((with_reducible refine gate_builtin (b := .append) (xs := #[.tmp 19, .tmp 24]) rfl ?_); at_builtin; refine Kd.R_append (Kd.int .i64) (w0 := w) w.heap.size rfl (.tmp 19) (.tmp 24) 44 3 (.int .i64 0) 8 rfl Tryz.underlying44 info3 rfl (by decide) (by omega) u5 x5_2 (rd (rd_L3 l0 x15_2) x10_1) [.int .i64 (rd (rd_L3 l0 x15_2) x10_1)] (fun _ => True) (fun _ => False) rfl rfl ?aP (fun _ hk => hk.elim) ?aF ?aO ?aB ?aS ?aL ?_; (case aP => exact rfl); (case aB => exact tc10_); (case aF => exact tc151_); (case aO => exact tc176_); (case aS => exact tc11_); (case aL => have := LMc8.out; omega); intro v104 w9 ho hb hg hat; rw [← Ny103.out] at ho; have n0_ := am_ (Kd.S_after (ok := (fun _ => True)) (by (with_reducible repeat (first | apply Kd.S_alloc | apply Kd.S_drewN | apply Kd.S_drew)); exact Kd.S_mono HO_3.out (fun _ hk => ⟨trivial, hk⟩)) hg hat); have n1_ := am_ (hb); have n2_ := am_ (ho); clear HO_3 HB HO_5; have HO_3 := n0_; have HB := n1_; have HO105 := n2_; clear n0_ n1_ n2_; clear ho hb hg hat))
       go_roundg k2
       case measure => have := HK1.out; have := HK2.out; omega
       case rel => exact ⟨(y103), (wrap64 (x15_2 + 1)), tc6_, H', ⟨tc39_⟩, ⟨tc193_⟩, ⟨(by (with_reducible repeat (first | apply Kd.R_alloc | apply Kd.R_drewN | apply Kd.R_drew)); exact HO105.out)⟩, ⟨tc0_⟩⟩
      ·replace H := pp_ H; obtain ⟨c10, H⟩ := H; have LMc10 := am_ c10; clear c10; obtain ⟨y106, hy106⟩ : ∃ y_ : Tb_, y_ = (x3_1 ++ [x5_2]) := ⟨_, rfl⟩; replace H : (spec_sgTurn.l0 k2 l0 y106 (l0.length : Int) (wrap64 (x10_1 + 1))) = some r := tc63_; have Ny106 := am_ hy106; clear hy106; have H' := am_ H; clear H; obtain ⟨Ao12, co12, eo12⟩ := Kd.R_slice HO_5.out; subst eo12
       go_wp2_with (first | ((with_reducible refine gate_builtin (b := .append) (xs := #[.tmp 27, .tmp 29]) rfl ?_); at_builtin; refine Kd.S_append (Kd.slice 3 (Kd.int .i64)) (w0 := w) w.heap.size rfl (.tmp 27) (.tmp 29) 24 44 (.slice none 0 0) 24 rfl Tryz.underlying24 info44 rfl (by decide) (by omega) u3 x3_1 x5_2 [.slice Ao12 x5_2.length co12] (fun _ => True) (fun k_ => some k_ = (.slice Ao12 x5_2.length co12 : Value).ownBlock) rfl rfl ?aP (fun k_ hk_ => ((Kd.R_mono (ok' := fun k_ => ((fun _ => True)) k_ ∧ some k_ ≠ (u3 : Value).ownBlock) (Kd.R_apart' (HO_5.out) (Kd.S_typed HO_3.out) (by decide)) (fun k_ hk => ⟨trivial, hk.2⟩))).1 k_ hk_.symm) ?aF ?aO ?aB ?aS ?aL ?_; (case aP => exact Kd.M_row (Kd.R_mono (Kd.R_tight rfl (Kd.R_mono (ok' := fun k_ => ((fun _ => True)) k_ ∧ some k_ ≠ (u3 : Value).ownBlock) (Kd.R_apart' (HO_5.out) (Kd.S_typed HO_3.out) (by decide)) (fun k_ hk => ⟨trivial, hk.2⟩))) (fun _ h_ => h_))); (case aB => exact tc10_); (case aF => exact tc151_); (case aO => exact (by (with_reducible repeat (first | apply Kd.S_alloc | apply Kd.S_drewN | apply Kd.S_drew)); exact Kd.S_mono HO_3.out (fun k_ hk => ⟨trivial, fun e_ => hk e_⟩))); (case aS => exact tc11_); (case aL => have := LMc10.out; omega); intro v107 w11 ho hb hg hat; rw [← Ny106.out] at ho; replace HB := am_ (hb); have HO108 := am_ (ho); clear HO_3 HO_5; clear ho hb hg hat))
       go_roundg k2
       case measure => have := HK1.out; have := HK2.out; omega
       case rel => exact ⟨(y106), (wrap64 (x10_1 + 1)), tc6_, H', ⟨tc39_⟩, ⟨tc124_⟩, ⟨tc0_⟩⟩
   ·obtain rfl := Option.some.inj H; go_wp2
    go_ret
    exact ⟨_, tc7_, tc35_, tc0_⟩

/-! ### spec_sgGood: function 50 -/
def spec_sgGood.f (k : Nat) (l0 : Tb_) : Option (Bool) := (spec_sgSquare.f k l0).bind fun t101 => (if t101 = true then ((spec_sgRows.f k l0).bind fun t102 => (if t102 = true then ((spec_sgTurn.f k l0).bind fun t103 => ((spec_sgRows.f k t103).bind fun t106 => (some t106))) else (some false))) else (some false))
theorem spec_sgGood.calls (k : Nat) (A0 : Option Addr) (c0 : Nat) (l0 : Tb_) (r : Bool) (w : World) (hr0 : Kd.C (Kd.slice 3 (Kd.int .i64)) w A0 l0.length l0) (hc0 : l0.length ≤ c0) (h : spec_sgGood.f k l0 = some r) :
  Calls Tryz.prog 50 #[.slice A0 l0.length c0] w fun e w' => e = .returned (.bool r) ∧ Below w.heap.size w w' := by
 have HR0 := am_ hr0; have HC0 := am_ hc0; clear hr0 hc0; have HB := am_ (Below.refl w.heap.size w); unfold spec_sgGood.f at h; have H := h; clear h; replace H := bd_ H; obtain ⟨t101, A2, H⟩ := H; (try dsimp only at H)
 by_cases c3 : t101 = true
 ·subst c3; have H1 : ((spec_sgRows.f k l0).bind fun t102 => (if t102 = true then ((spec_sgTurn.f k l0).bind fun t103 => ((spec_sgRows.f k t103).bind fun t106 => (some t106))) else (some false))) = some r := tc21_; clear H; have H := H1; clear H1; replace H := bd_ H; obtain ⟨t102, A4, H⟩ := H; (try dsimp only at H)
  by_cases c5 : t102 = true
  ·subst c5; have H1 : ((spec_sgTurn.f k l0).bind fun t103 => ((spec_sgRows.f k t103).bind fun t106 => (some t106))) = some r := tc21_; clear H; have H := H1; clear H1; replace H := bd_ H; obtain ⟨t103, A6, H⟩ := H; (try dsimp only at H); replace H := bd_ H; obtain ⟨t106, A7, H⟩ := H; (try dsimp only at H); obtain rfl := Option.some.inj H; go_enter Tryz.func50, Tryz.ntmps50
   go_wp2_with (first | (refine gc_ (some 4) Tryz.func79 #[.slice A0 l0.length c0] ?_; (with_reducible refine (spec_sgSquare.calls k _ _ l0 true _ ?side1 ?side2 A2.out).mono ?_); (case side1 => exact tc8_); (case side2 => exact HC0.out); rintro e w' ⟨rfl, ⟨nd, rfl⟩⟩; refine ⟨_, rfl, ?_⟩) | (go_at_call 80; (with_reducible refine (spec_sgRows.calls k _ _ l0 true _ ?side1 ?side2 A4.out).mono ?_); (case side1 => exact tc8_); (case side2 => exact HC0.out); rintro e w' ⟨rfl, ⟨nd, rfl⟩⟩) | (go_at_call 81; (with_reducible refine (spec_sgTurn.calls k _ _ l0 t103 _ ?side1 ?side2 A6.out).mono ?_); (case side1 => exact tc8_); (case side2 => exact HC0.out); rintro e w8 ⟨v104, rfl, ho0, hb⟩; have HO105 := am_ (Kd.S_lower ho0 (below_size tc0_)); replace HB := am_ (below_step tc0_ hb); (try clear hb ho0); obtain ⟨Ao9, co9, eo9⟩ := Kd.S_slice HO105.out; subst eo9) | (go_at_call 80; (with_reducible refine (spec_sgRows.calls k _ _ t103 t106 _ ?side1 ?side2 A7.out).mono ?_); (case side1 => exact tc44_); (case side2 => exact tc179_); rintro e w' ⟨rfl, ⟨nd, rfl⟩⟩))
   go_ret
   exact ⟨tc7_, tc0_⟩
  ·replace c5 := Bool.eq_false_iff.mpr c5; subst c5; have H1 : (some false) = some r := tc12_; clear H; have H := H1; clear H1; obtain rfl := Option.some.inj H; go_enter Tryz.func50, Tryz.ntmps50
   go_wp2_with (first | (refine gc_ (some 4) Tryz.func79 #[.slice A0 l0.length c0] ?_; (with_reducible refine (spec_sgSquare.calls k _ _ l0 true _ ?side1 ?side2 A2.out).mono ?_); (case side1 => exact tc8_); (case side2 => exact HC0.out); rintro e w' ⟨rfl, ⟨nd, rfl⟩⟩; refine ⟨_, rfl, ?_⟩) | (go_at_call 80; (with_reducible refine (spec_sgRows.calls k _ _ l0 false _ ?side1 ?side2 A4.out).mono ?_); (case side1 => exact tc8_); (case side2 => exact HC0.out); rintro e w' ⟨rfl, ⟨nd, rfl⟩⟩))
   go_ret
   exact ⟨tc7_, tc0_⟩
 ·replace c3 := Bool.eq_false_iff.mpr c3; subst c3; have H1 : (some false) = some r := tc12_; clear H; have H := H1; clear H1; obtain rfl := Option.some.inj H; go_enter Tryz.func50, Tryz.ntmps50
  go_wp2_with (first | (refine gc_ (some 4) Tryz.func79 #[.slice A0 l0.length c0] ?_; (with_reducible refine (spec_sgSquare.calls k _ _ l0 false _ ?side1 ?side2 A2.out).mono ?_); (case side1 => exact tc8_); (case side2 => exact HC0.out); rintro e w' ⟨rfl, ⟨nd, rfl⟩⟩; refine ⟨_, rfl, ?_⟩))
  go_ret
  exact ⟨tc7_, tc0_⟩

/-! ### spec_sgFrom: function 59 -/
mutual
def spec_sgFrom.l0 : Nat → Tb_ → Tb_ → Int → Int → Option (Tb_)
 | 0, _, _, _, _ => none
 | k + 1, x0, x3, x10, x11 => if x11 < x10 then (spec_sgFrom.l1 k x0 x3 x11 x10 x11 (x0.length : Int) 0) else (some x3)
def spec_sgFrom.l1 : Nat → Tb_ → Tb_ → Int → Int → Int → Int → Int → Option (Tb_)
 | 0, _, _, _, _, _, _, _ => none
 | k + 1, x0, x3, x4, x10, x11, x15, x16 => if x16 < x15 then (if 0 ≤ x4 then (if x4 < (x3.length : Int) then ((spec_sgAt.f x0 x4 x16).bind fun t105 => ((spec_sgAt.f x0 (wrap64 (x4 - 1)) x16).bind fun t106 => ((spec_sgAt.f x0 x4 (wrap64 (x16 - 1))).bind fun t107 => ((spec_sgAt.f x0 (wrap64 (x4 - 1)) (wrap64 (x16 - 1))).bind fun t108 => (if 0 ≤ x16 then (if x16 < ((rd_L3 x3 x4).length : Int) then (spec_sgFrom.l1 k x0 (x3.set (x4 : Int).toNat ((rd_L3 x3 x4).set (x16 : Int).toNat (wrap64 ((wrap64 ((wrap64 (t105 - t106)) - t107)) + t108)))) x4 x10 x11 x15 (wrap64 (x16 + 1))) else (none)) else (none)))))) else (none)) else (none)) else (spec_sgFrom.l0 k x0 x3 x10 (wrap64 (x11 + 1)))
end
def spec_sgFrom.f (k : Nat) (l0 : Tb_) : Option (Tb_) := (spec_sgZero.f k (l0.length : Int)).bind fun t101 => (spec_sgFrom.l0 k l0 t101 (l0.length : Int) 0)
def spec_sgFrom.T8 : Bool × List (List Nat × List Nat) := (true, [([], []), ([], []), ([0, 1], [0, 1]), ([2], [2]), ([], []), ([], []), ([], []), ([], []), ([5, 6, 7], [5, 6, 7]), ([], []), ([], []), ([10], [10]), ([], []), ([9, 11, 12, 8], [9, 11, 12]), ([8, 13], [8, 13]), ([], []), ([], []), ([], []), ([17], [17]), ([15, 16, 18, 13], [15, 16, 18]), ([14, 19], [14, 19]), ([], []), ([], []), ([22], [22]), ([], []), ([24], [24]), ([21, 23, 25, 19], [21, 23, 25]), ([20, 26], [20, 26]), ([3, 4, 0, 1, 2, 3, 4, 5, 6, 7, 8, 9, 10, 11, 12, 13, 14, 15, 16, 17, 18, 19, 20, 21, 22, 23, 24, 25, 26, 27], [3, 4]), ([28, 27, 26, 0, 1, 2, 3, 4, 5, 6, 7, 8, 9, 10, 11, 12, 13, 14, 15, 16, 17, 18, 19, 20, 21, 22, 23, 24, 25, 26, 27], [27, 28])])
def spec_sgFrom.B8 : List Nat := [0, 0, 3, 7, 0, 0, 0, 0, 224, 0, 0, 1024, 0, 8160, 16352, 0, 0, 0, 131072, 507872, 1048544, 0, 0, 4194304, 0, 16777216, 66043872, 134217696, 268435455, 536870911]
theorem spec_sgFrom.tab8 : rtab .any (opsOf Tryz.f59 8) = spec_sgFrom.T8 := by kernel_rfl
theorem spec_sgFrom.bits8 : waitsOk spec_sgFrom.T8.2 spec_sgFrom.B8 = true := by kernel_rfl
theorem spec_sgFrom.calls (k : Nat) (A0 : Option Addr) (c0 : Nat) (l0 : Tb_) (r : Tb_) (w : World) (hr0 : Kd.C (Kd.slice 3 (Kd.int .i64)) w A0 l0.length l0) (hc0 : l0.length ≤ c0) (h : spec_sgFrom.f k l0 = some r) :
  Calls Tryz.prog 59 #[.slice A0 l0.length c0] w fun e w' => ∃ v0_ : Value, e = .returned (v0_) ∧ Kd.S (Kd.slice 3 (Kd.int .i64)) 44 w' w.heap.size (fun _ => True) v0_ r ∧ Below w.heap.size w w' := by
 have HR0 := am_ hr0; have HC0 := am_ hc0; clear hr0 hc0; have HB := am_ (Below.refl w.heap.size w); unfold spec_sgFrom.f at h; have H := h; clear h; replace H := bd_ H; obtain ⟨t101, A2, H⟩ := H; (try dsimp only at H); have H' := am_ H; clear H; go_enter Tryz.func59, Tryz.ntmps59
 go_wp2_with (first | (refine gc_ (some 8) Tryz.func58 #[.int .i64 (l0.length : Int)] ?_; (with_reducible refine (spec_sgZero.calls k (l0.length : Int) t101 _ A2.out).mono ?_); rintro e w3 ⟨v102, rfl, ho0, hb⟩; refine ⟨_, rfl, ?_⟩; have HO103 := am_ (Kd.S_lower ho0 (below_size tc0_)); replace HB := am_ (below_step tc0_ hb); (try clear hb ho0)))
 go_loopg [11] k (fun kq v11 w' => ∃ (x3_1 : Tb_) (x11_1 : Int), v11 = .int .i64 x11_1 ∧ Aside0 (spec_sgFrom.l0 kq l0 x3_1 (l0.length : Int) x11_1 = some r) ∧ Aside0 (kq ≤ k) ∧ Aside0 (Kd.S (Kd.slice 3 (Kd.int .i64)) 44 w' w.heap.size (fun _ => True) v102 x3_1) ∧ Aside0 (Below w.heap.size w w'))
 case atStart => exact ⟨(t101), (0), tc6_, H', ⟨Nat.le_refl _⟩, ⟨tc22_⟩, ⟨tc0_⟩⟩
 case round =>
  clear H'; (try clear p2); obtain ⟨x3_1, x11_1, rfl, HA, HK1, HO_3, HB⟩ := hrel
  cases gk with
  | zero => exact absurd HA.out (by simp [spec_sgFrom.l0])
  | succ k1 =>
   have H := HA.out; clear HA; simp only [spec_sgFrom.l0] at H
   replace H := sp_ H; obtain ⟨c4b0, H⟩ | ⟨c4b0, H⟩ := H
   ·have H' := am_ H; clear H; go_wp2
    go_loopg [16] k1 (fun kq v16 w' => ∃ (x3_2 : Tb_) (x16_2 : Int), v16 = .int .i64 x16_2 ∧ Aside0 (spec_sgFrom.l1 kq l0 x3_2 x11_1 (l0.length : Int) x11_1 (l0.length : Int) x16_2 = some r) ∧ Aside0 (kq ≤ k1) ∧ Aside0 (Kd.S (Kd.slice 3 (Kd.int .i64)) 44 w' w.heap.size (fun _ => True) v102 x3_2) ∧ Aside0 (Below w.heap.size w w'))
    case atStart => exact ⟨(x3_1), (0), tc6_, H', ⟨Nat.le_refl _⟩, ⟨tc35_⟩, ⟨tc0_⟩⟩
    case round =>
     clear H'; (try clear p2); (try clear c4); (try clear c4b0); (try clear p2); obtain ⟨x3_2, x16_2, rfl, HA, HK2, HO_3, HB⟩ := hrel
     cases gk with
     | zero => exact absurd HA.out (by simp [spec_sgFrom.l1])
     | succ k2 =>
      have H := HA.out; clear HA; simp only [spec_sgFrom.l1] at H
      replace H := sp_ H; obtain ⟨c5b0, H⟩ | ⟨c5b0, H⟩ := H
      ·replace H := ps_ H; obtain ⟨c6b0, H⟩ := H; replace H := ps_ H; obtain ⟨c7b0, H⟩ := H; replace H := bd_ H; obtain ⟨t105, A8, H⟩ := H; (try dsimp only at H); replace H := bd_ H; obtain ⟨t106, A9, H⟩ := H; (try dsimp only at H); replace H := bd_ H; obtain ⟨t107, A10, H⟩ := H; (try dsimp only at H); replace H := bd_ H; obtain ⟨t108, A11, H⟩ := H; (try dsimp only at H); replace H := ps_ H; obtain ⟨c12b0, H⟩ := H; replace H := ps_ H; obtain ⟨c13b0, H⟩ := H; obtain ⟨y109, hy109⟩ : ∃ y_ : List Int, y_ = ((rd_L3 x3_2 x11_1).set (x16_2 : Int).toNat (wrap64 ((wrap64 ((wrap64 (t105 - t106)) - t107)) + t108))) := ⟨_, rfl⟩; replace H : (spec_sgFrom.l1 k2 l0 (x3_2.set (x11_1 : Int).toNat y109) x11_1 (l0.length : Int) x11_1 (l0.length : Int) (wrap64 (x16_2 + 1))) = some r := tc52_; have Ny109 := am_ hy109; clear hy109; obtain ⟨y111, hy111⟩ : ∃ y_ : Tb_, y_ = (x3_2.set (x11_1 : Int).toNat y109) := ⟨_, rfl⟩; replace H : (spec_sgFrom.l1 k2 l0 y111 x11_1 (l0.length : Int) x11_1 (l0.length : Int) (wrap64 (x16_2 + 1))) = some r := tc64_; have Ny111 := am_ hy111; clear hy111; have H' := am_ H; clear H
       try go_wp2
       replace HO_3 := am_ (Kd.S_drew HO_3.out); replace HB := am_ (below_drew1 HB.out); obtain ⟨Ao16, co16, eo16⟩ := Kd.S_slice HO_3.out; (first | subst eo16 | (injection eo16 with f1_ f2_ f3_; have f4_ := f1_.symm; have f5_ := f3_.symm; clear f1_ f2_ f3_; subst f4_; subst f5_)); have p104 : 0 ≤ (x11_1 : Int) := od_; have q104 : x11_1 < (x3_2.length : Int) := od_; obtain ⟨ad104, A104_0, c104_0, e104, hx104_0, hl104_0, hi104_0⟩ := at_L3 (Kd.S_reads' HO_3.out).2.2 x11_1 p104 q104; cases e104; obtain ⟨ce104, hce104, hMe104, hcc104⟩ := Kd.S_get HO_3.out [] x11_1 p104 tc181_; obtain ⟨ve104_0, rfl, ge104_0⟩ := hMe104; have hv104_0 := hcc104 0 _ rfl; rw [Nat.add_zero, show ((Kd.slice 3 (Kd.int .i64))).sz = 1 from rfl, Nat.mul_one] at hv104_0; replace hv104_0 := Option.some.inj (hv104_0.symm.trans hx104_0); rw [hv104_0] at ge104_0; have HL104_0 := am_ (show Kd.R (Kd.int .i64) 3 _ _ _ _ (rd_L3 x3_2 x11_1) from ge104_0); clear hv104_0 ge104_0; have HX104_0 := am_ hx104_0; clear hcc104 hce104; have HR104_0 := am_ hi104_0; have HC104_0 := am_ hl104_0; clear hi104_0 hl104_0; replace p104 := eq_true p104; replace q104 := eq_true q104; refine start_ (n := 30) (S := fun w' => w'.cell? (ad104.add (x11_1).toNat) = some (.slice A104_0 (rd_L3 x3_2 x11_1).length c104_0)) (ds := [29]) #[F,F,F,F,F,F,F,F,F,F,F,F,F,F,F,F,F,F,F,F,F,F,F,F,F,F,F,F,F,F] (by kernel_rfl) rfl rfl (hx104_0) (fun hHeld => ?_); refine with_tabW spec_sgFrom.tab8 spec_sgFrom.bits8 (fun HT_ HW_ => ?_); generalize wr.drew = w15 at HO_3 HB HL104_0 HR104_0 HX104_0 hx104_0 hHeld ⊢; refine pure_ (i := 0) (N := some 19) #[T,F,F,F,F,F,F,F,F,F,F,F,F,F,F,F,F,F,F,F,F,F,F,F,F,F,F,F,F,F] rfl rfl an_ hq_ yi_ nm_ ?_; refine pure_ (i := 1) (N := some 20) #[T,T,F,F,F,F,F,F,F,F,F,F,F,F,F,F,F,F,F,F,F,F,F,F,F,F,F,F,F,F] rfl rfl an_ hq_ yi_ nm_ ?_; refine pure_ (i := 2) (N := some 21) #[T,T,T,F,F,F,F,F,F,F,F,F,F,F,F,F,F,F,F,F,F,F,F,F,F,F,F,F,F,F] rfl rfl an_ hq_ yi_ nm_ ?_; refine pure_ (i := 4) (N := some 23) #[T,T,T,F,T,F,F,F,F,F,F,F,F,F,F,F,F,F,F,F,F,F,F,F,F,F,F,F,F,F] rfl rfl an_ hq_ yi_ nm_ ?_; refine pure_ (i := 5) (N := some 24) #[T,T,T,F,T,T,F,F,F,F,F,F,F,F,F,F,F,F,F,F,F,F,F,F,F,F,F,F,F,F] rfl rfl an_ hq_ yi_ nm_ ?_; refine pure_ (i := 6) (N := some 25) #[T,T,T,F,T,T,T,F,F,F,F,F,F,F,F,F,F,F,F,F,F,F,F,F,F,F,F,F,F,F] rfl rfl an_ hq_ yi_ nm_ ?_; refine pure_ (i := 7) (N := some 26) #[T,T,T,F,T,T,T,T,F,F,F,F,F,F,F,F,F,F,F,F,F,F,F,F,F,F,F,F,F,F] rfl rfl an_ hq_ yi_ nm_ ?_; refine pure_ (i := 9) (N := some 28) #[T,T,T,F,T,T,T,T,F,T,F,F,F,F,F,F,F,F,F,F,F,F,F,F,F,F,F,F,F,F] rfl rfl an_ hq_ yi_ nm_ ?_; refine pure_ (i := 10) (N := some 29) #[T,T,T,F,T,T,T,T,F,T,T,F,F,F,F,F,F,F,F,F,F,F,F,F,F,F,F,F,F,F] rfl rfl an_ hq_ yi_ nm_ ?_; refine pure_ (i := 11) (N := some 30) #[T,T,T,F,T,T,T,T,F,T,T,T,F,F,F,F,F,F,F,F,F,F,F,F,F,F,F,F,F,F] rfl rfl an_ hq_ yi_ nm_ ?_; refine pure_ (i := 12) (N := some 31) #[T,T,T,F,T,T,T,T,F,T,T,T,T,F,F,F,F,F,F,F,F,F,F,F,F,F,F,F,F,F] rfl rfl an_ hq_ yi_ nm_ ?_; refine pure_ (i := 15) (N := some 34) #[T,T,T,F,T,T,T,T,F,T,T,T,T,F,F,T,F,F,F,F,F,F,F,F,F,F,F,F,F,F] rfl rfl an_ hq_ yi_ nm_ ?_; refine pure_ (i := 16) (N := some 35) #[T,T,T,F,T,T,T,T,F,T,T,T,T,F,F,T,T,F,F,F,F,F,F,F,F,F,F,F,F,F] rfl rfl an_ hq_ yi_ nm_ ?_; refine pure_ (i := 17) (N := some 36) #[T,T,T,F,T,T,T,T,F,T,T,T,T,F,F,T,T,T,F,F,F,F,F,F,F,F,F,F,F,F] rfl rfl an_ hq_ yi_ nm_ ?_; refine pure_ (i := 18) (N := some 37) #[T,T,T,F,T,T,T,T,F,T,T,T,T,F,F,T,T,T,T,F,F,F,F,F,F,F,F,F,F,F] rfl rfl an_ hq_ yi_ nm_ ?_; refine pure_ (i := 21) (N := some 40) #[T,T,T,F,T,T,T,T,F,T,T,T,T,F,F,T,T,T,T,F,F,T,F,F,F,F,F,F,F,F] rfl rfl an_ hq_ yi_ nm_ ?_; refine pure_ (i := 22) (N := some 41) #[T,T,T,F,T,T,T,T,F,T,T,T,T,F,F,T,T,T,T,F,F,T,T,F,F,F,F,F,F,F] rfl rfl an_ hq_ yi_ nm_ ?_; refine pure_ (i := 23) (N := some 42) #[T,T,T,F,T,T,T,T,F,T,T,T,T,F,F,T,T,T,T,F,F,T,T,T,F,F,F,F,F,F] rfl rfl an_ hq_ yi_ nm_ ?_; refine pure_ (i := 24) (N := some 43) #[T,T,T,F,T,T,T,T,F,T,T,T,T,F,F,T,T,T,T,F,F,T,T,T,T,F,F,F,F,F] rfl rfl an_ hq_ yi_ nm_ ?_; refine pure_ (i := 25) (N := some 44) #[T,T,T,F,T,T,T,T,F,T,T,T,T,F,F,T,T,T,T,F,F,T,T,T,T,T,F,F,F,F] rfl rfl an_ hq_ yi_ nm_ ?_; refine take_ (i := 3) (N := some 22) #[T,T,T,T,T,T,T,T,F,T,T,T,T,F,F,T,T,T,T,F,F,T,T,T,T,T,F,F,F,F] rfl rfl av_ hq_ yj1_ hHeld nm_ ?_; refine one_ (i := 8) (N := some 27) #[T,T,T,T,T,T,T,T,T,T,T,T,T,F,F,T,T,T,T,F,F,T,T,T,T,T,F,F,F,F] rfl rfl (one_of HT_.out (by kernel_rfl)) (by decide) (fun K hK => ?_); refine goes_ Tryz.func61 (by kernel_rfl) rfl #[.slice A0 l0.length c0, .int .i64 x11_1, .int .i64 x16_2] (by rfl) rfl rfl tc1_ ?_
       with_reducible refine (spec_sgAt.calls _ _ l0 x11_1 x16_2 t105 _ ?side1 ?side2 A8.out).mono ?_
       (case side1 => exact tc9_)
       (case side2 => exact HC0.out)
       rintro e w' ⟨rfl, ⟨nd, rfl⟩⟩; refine ⟨_, rfl, ?_⟩; refine hK.out _ _ (hHeld) (fun hHeld => ?_); clear hK K; refine norm_ (a' := ?_) ?_ ?_; rotate_left
       ·show Act.put _ (some 27) _ = _
        simp only [Act.put, List.setIfInBounds_toArray, List.set_cons_zero, List.set_cons_succ, i64_w, i32_w]
        rfl
       refine one_ (i := 13) (N := some 32) #[T,T,T,T,T,T,T,T,T,T,T,T,T,T,F,T,T,T,T,F,F,T,T,T,T,T,F,F,F,F] rfl rfl (one_of HT_.out (by kernel_rfl)) (by decide) (fun K hK => ?_); refine goes_ Tryz.func61 (by kernel_rfl) rfl #[.slice A0 l0.length c0, .int .i64 (wrap64 (x11_1 - 1)), .int .i64 x16_2] (by rfl) rfl rfl tc1_ ?_
       with_reducible refine (spec_sgAt.calls _ _ l0 (wrap64 (x11_1 - 1)) x16_2 t106 _ ?side1 ?side2 A9.out).mono ?_
       (case side1 => exact tc30_)
       (case side2 => exact HC0.out)
       rintro e w' ⟨rfl, ⟨nd, rfl⟩⟩; refine ⟨_, rfl, ?_⟩; refine hK.out _ _ (hHeld) (fun hHeld => ?_); clear hK K; refine norm_ (a' := ?_) ?_ ?_; rotate_left
       ·show Act.put _ (some 32) _ = _
        simp only [Act.put, List.setIfInBounds_toArray, List.set_cons_zero, List.set_cons_succ, i64_w, i32_w]
        rfl
       refine pure_ (i := 14) (N := some 33) #[T,T,T,T,T,T,T,T,T,T,T,T,T,T,T,T,T,T,T,F,F,T,T,T,T,T,F,F,F,F] rfl rfl an_ hq_ yi_ nm_ ?_; refine one_ (i := 19) (N := some 38) #[T,T,T,T,T,T,T,T,T,T,T,T,T,T,T,T,T,T,T,T,F,T,T,T,T,T,F,F,F,F] rfl rfl (one_of HT_.out (by kernel_rfl)) (by decide) (fun K hK => ?_); refine goes_ Tryz.func61 (by kernel_rfl) rfl #[.slice A0 l0.length c0, .int .i64 x11_1, .int .i64 (wrap64 (x16_2 - 1))] (by rfl) rfl rfl tc1_ ?_
       with_reducible refine (spec_sgAt.calls _ _ l0 x11_1 (wrap64 (x16_2 - 1)) t107 _ ?side1 ?side2 A10.out).mono ?_
       (case side1 => exact tc30_)
       (case side2 => exact HC0.out)
       rintro e w' ⟨rfl, ⟨nd, rfl⟩⟩; refine ⟨_, rfl, ?_⟩; refine hK.out _ _ (hHeld) (fun hHeld => ?_); clear hK K; refine norm_ (a' := ?_) ?_ ?_; rotate_left
       ·show Act.put _ (some 38) _ = _
        simp only [Act.put, List.setIfInBounds_toArray, List.set_cons_zero, List.set_cons_succ, i64_w, i32_w]
        rfl
       refine pure_ (i := 20) (N := some 39) #[T,T,T,T,T,T,T,T,T,T,T,T,T,T,T,T,T,T,T,T,T,T,T,T,T,T,F,F,F,F] rfl rfl an_ hq_ yi_ nm_ ?_; refine one_ (i := 26) (N := some 45) #[T,T,T,T,T,T,T,T,T,T,T,T,T,T,T,T,T,T,T,T,T,T,T,T,T,T,T,F,F,F] rfl rfl (one_of HT_.out (by kernel_rfl)) (by decide) (fun K hK => ?_); refine goes_ Tryz.func61 (by kernel_rfl) rfl #[.slice A0 l0.length c0, .int .i64 (wrap64 (x11_1 - 1)), .int .i64 (wrap64 (x16_2 - 1))] (by rfl) rfl rfl tc1_ ?_
       with_reducible refine (spec_sgAt.calls _ _ l0 (wrap64 (x11_1 - 1)) (wrap64 (x16_2 - 1)) t108 _ ?side1 ?side2 A11.out).mono ?_
       (case side1 => exact tc30_)
       (case side2 => exact HC0.out)
       rintro e w' ⟨rfl, ⟨nd, rfl⟩⟩; refine ⟨_, rfl, ?_⟩; have p14 : 0 ≤ (x16_2 : Int) := od_; have q14 : (x16_2 : Int) < (((rd_L3 x3_2 x11_1).length : Int) : Int) := od_; obtain ⟨go14, co14, eo14, gb14, gl14, cl14, HG14⟩ := Kd.R_form HL104_0.out (by omega); (first | cases eo14 | (injection eo14 with ea_ en_ ec_; (first | subst ea_ | (injection ea_ with ea_; subst ea_)); subst ec_; clear en_)); have GB14 := am_ gb14; have GG14 := am_ HG14; clear gb14 gl14 HG14; obtain ⟨hx14_0, hf14_0⟩ := Kd.R_celln 0 HL104_0.out (x16_2 : Int) p14 q14; replace p14 := eq_true p14; replace q14 := eq_true q14; have hq17 : (x11_1 : Int) < (x3_2.length : Int) := (by have h_ : (x11_1 : Int) < ((x3_2.length : Int) : Int) := od_; first | exact h_ | (have e_ := (Kd.S_reads' HO_3.out).1; omega) | simpa only [List.length_set, List.length_set] using h_); obtain ⟨oki17, ce17, hcl17, hM17, hcc17, hok17, hbk17⟩ := Kd.S_borrow HO_3.out [] (x11_1 : Int) (od_) hq17; obtain ⟨ve17_0, rfl, ge17_0⟩ := hM17; have hv17 := hcc17 0 _ rfl; rw [Nat.add_zero, show ((Kd.slice 3 (Kd.int .i64))).sz = 1 from rfl, Nat.mul_one] at hv17; replace hv17 := Option.some.inj (hv17.symm.trans HX104_0.out); subst hv17; clear hcc17 hcl17; replace ge17_0 := (show Kd.R (Kd.int .i64) 3 _ _ _ _ (rd_L3 x3_2 x11_1) from ge17_0); have HP17 := Kd.R_putg ge17_0 (x16_2 : Int) (wrap64 ((wrap64 ((wrap64 (t105 - t106)) - t107)) + t108)); rw [← Ny109.out] at HP17; have HS17 := hbk17 HP17.2 (fun k_ e_ => by injection e_ with e_; subst e_; exact ge17_0.1 _ rfl) (x' := y109) (Kd.M_row HP17.1); rw [← Ny111.out] at HS17; have HQ17 := am_ HS17; clear HP17 HS17 hbk17 hok17; refine hK.out _ _ (hHeld) (fun hHeld => ?_); clear hK K; refine norm_ (a' := ?_) ?_ ?_; rotate_left
       ·show Act.put _ (some 45) _ = _
        simp only [Act.put, List.setIfInBounds_toArray, List.set_cons_zero, List.set_cons_succ, i64_w, i32_w]
        rfl
       refine pure_ (i := 27) (N := some 46) #[T,T,T,T,T,T,T,T,T,T,T,T,T,T,T,T,T,T,T,T,T,T,T,T,T,T,T,T,F,F] rfl rfl an_ hq_ yi_ nm_ ?_; refine pure_ (i := 28) (N := some 47) #[T,T,T,T,T,T,T,T,T,T,T,T,T,T,T,T,T,T,T,T,T,T,T,T,T,T,T,T,T,F] rfl rfl an_ hq_ yi_ nm_ ?_; refine last_ (i := 29) (N := none) #[T,T,T,T,T,T,T,T,T,T,T,T,T,T,T,T,T,T,T,T,T,T,T,T,T,T,T,T,T,T] rfl rfl (one_of HT_.out (by kernel_rfl)) (by decide) (fun K hK => ?_); refine skip_ (w1 := ?_) (by rfl) rfl ?_ ?_; rotate_left
       ·go_simp
        rfl
       refine hK.out _ _ ?_; clear hK K; refine done_ (done_of HT_.out (by kernel_rfl)) ?_
       try go_wp2
       go_roundg k2
       case measure => have := HK1.out; have := HK2.out; omega
       case rel => exact ⟨(y111), (wrap64 (x16_2 + 1)), tc6_, H', ⟨tc39_⟩, ⟨(by (with_reducible repeat (first | apply Kd.S_alloc | apply Kd.S_drewN | apply Kd.S_drew)); exact HQ17.out)⟩, ⟨(by repeat (first | (with_reducible first | exact HB.out | apply below_alloc | apply pw_below_drewN | apply below_drew1 | refine below_set ?_ GB14.out) | exact HB.out))⟩⟩
      ·have H' := am_ H; clear H; go_wp2
       go_roundg k2
       case measure => have := HK1.out; have := HK2.out; omega
       case rel => exact ⟨(x3_2), (wrap64 (x11_1 + 1)), tc6_, H', ⟨tc39_⟩, ⟨tc35_⟩, ⟨tc0_⟩⟩
   ·obtain rfl := Option.some.inj H; go_wp2
    go_ret
    exact ⟨_, tc7_, tc35_, tc0_⟩

/-! ### spec_l1Least: function 68 -/
def spec_l1Least.f (a0 : Int) (a1 : Int) : Option (Int) := if a0 < a1 then (some a0) else (some a1)
theorem spec_l1Least.calls (a0 : Int) (a1 : Int) (r : Int) (w : World) (h : spec_l1Least.f a0 a1 = some r) :
  Calls Tryz.prog 68 #[.int .i64 a0, .int .i64 a1] w fun e w' => e = .returned (.int .i64 r) ∧ Drawn0 w w' := by
 unfold spec_l1Least.f at h; have H := h; clear h
 replace H := sp_ H; obtain ⟨c3b0, H⟩ | ⟨c3b0, H⟩ := H
 ·obtain rfl := Option.some.inj H; go_enter Tryz.func68, Tryz.ntmps68; go_wp2
  go_ret
  exact ⟨tc6_, tc13_⟩
 ·obtain rfl := Option.some.inj H; go_enter Tryz.func68, Tryz.ntmps68; go_wp2
  go_ret
  exact ⟨tc6_, tc13_⟩

end Go.Proofs.YtgpmlfggfhkifaaGreat.X
