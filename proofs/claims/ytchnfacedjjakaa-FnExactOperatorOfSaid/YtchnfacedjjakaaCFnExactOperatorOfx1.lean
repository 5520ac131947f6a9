-- Written by a program of this session (wip/xprint.py) that drives the kit's print; the contracts of what it does not take are this session's own.
import Derived.Test.YtchnfacedjjakaaCFnExactOperatorOfx0
namespace Go.Proofs.Ytchnfacedjjakaa.X
open Go.RowKit Go.Proofs.YtchnfacedjjakaaW.PrintWords Go.Proofs.YtchnfacedjjakaaW.PrintLast Go.Proofs.YtchnfacedjjakaaW.PrintMore
attribute [local go_sem] max2_int min2_int max_two min_two max_three min_three max_four min_four   -- for this text's walks alone
set_option linter.unusedVariables false
set_option linter.unusedSimpArgs false

/-! ### at_1: function 0 -/
/-! ### What is asked of function values, and plain words -/
def findO {α : Type} (p : α → Option Bool) : List α → Int → Option Int
  | [], _ => some (-1)
  | x :: xs, i => (p x).bind fun b => if b = true then some i else findO p xs (i + 1)
def anyO {α : Type} (p : α → Option Bool) : List α → Option Bool
  | [] => some false
  | x :: xs => (p x).bind fun b => if b = true then some true else anyO p xs
theorem findO_drop {α : Type} (p : α → Option Bool) (l : List α) (k : Nat) (d : α) (h : k < l.length) : findO p (l.drop k) k = (p (l.getD k d)).bind fun b => if b = true then some (k : Int) else findO p (l.drop (k + 1)) ((k + 1 : Nat) : Int) := by
  rw [List.drop_eq_getElem_cons h]
  simp [findO, List.getD_eq_getElem?_getD, List.getElem?_eq_getElem h]
theorem findO_any {α : Type} (p : α → Option Bool) : ∀ (l : List α) (i : Int) (r : Bool), 0 ≤ i → anyO p l = some r → ∃ j, findO p l i = some j ∧ decide (j ≥ 0) = r
  | [], i, r, _, h => by simp [anyO] at h; subst h; exact ⟨-1, rfl, rfl⟩
  | x :: xs, i, r, hi, h => by
    simp only [anyO] at h
    cases hx : p x with
    | none => simp [hx] at h
    | some b =>
      cases b with
      | true => simp [hx] at h; subst h; exact ⟨i, by simp [findO, hx], by simp; omega⟩
      | false =>
        simp [hx] at h
        obtain ⟨j, h1, h2⟩ := findO_any p xs (i + 1) r (by omega) h
        exact ⟨j, by simp [findO, hx, h1], h2⟩
theorem findO_mono {α : Type} {p q : α → Option Bool} (h : ∀ x, LeO (p x) (q x)) : ∀ l i, LeO (findO p l i) (findO q l i)
  | [], i => LeO.refl _
  | x :: xs, i => by
    unfold findO
    exact LeO.bind (h x) (fun b => LeO.ite (LeO.refl _) (findO_mono h xs (i + 1)))
theorem anyO_mono {α : Type} {p q : α → Option Bool} (h : ∀ x, LeO (p x) (q x)) : ∀ l, LeO (anyO p l) (anyO q l)
  | [] => LeO.refl _
  | x :: xs => by
    unfold anyO
    exact LeO.bind (h x) (fun b => LeO.ite (LeO.refl _) (anyO_mono h xs))
/-- An element of a row of one-cell elements, at a world at which memory has only grown. -/
theorem C_at {α : Type} {d : Kd α} (hs : d.sz = 1) {w W : World} {A : Option Addr} {n : Nat} {xs : List α} (h : d.C w A n xs) (hb : Below w.heap.size w W) (z : α) (k : Nat) (h1 : k < n) :
    ∃ ad v, A = some ad ∧ W.cell? (ad.add k) = some v ∧ d.K W (xs.getD k z) [v] ∧ xs.getD k z ∈ xs := by
  obtain ⟨ad, c, e, hl, hK, hc⟩ := Kd.C_get h z (k : Int) (by omega) (by omega)
  rw [hs] at hl
  obtain ⟨v, rfl⟩ := List.length_eq_one_iff.1 hl
  have hx := hc 0 v rfl
  rw [hs, Nat.mul_one, Nat.add_zero, Int.toNat_natCast] at hx
  refine ⟨ad, v, e, (hb.cell (World.block_lt_of_cell? w _ hx)).trans hx, d.K_below hb hK, ?_⟩
  have hn : xs.length = n := h.1
  simp [List.getD_eq_getElem?_getD, List.getElem?_eq_getElem (show k < xs.length by omega)]
/-- A function value of one parameter that answers as p says, wherever memory has only grown. -/
structure Fn1 {α ρ : Type} (d : Kd α) (enc : ρ → Value) (P : Program) (g : Nat) (lb : Array Value) (p : α → Option ρ) (w : World) : Prop where
  eg : ∀ args w, (callFunc g args).run P w = .ok (.enter g args) w
  cl : ∀ W, Below w.heap.size w W → ∀ x v, d.K W x [v] → ∀ r, p x = some r → Calls P g (#[v] ++ lb) W fun e W' => e = .returned (enc r) ∧ Below W.heap.size W W'
/-- .. of two. -/
structure Fn2 {α β ρ : Type} (d : Kd α) (d2 : Kd β) (enc : ρ → Value) (P : Program) (g : Nat) (lb : Array Value) (p : α → β → Option ρ) (w : World) : Prop where
  eg : ∀ args w, (callFunc g args).run P w = .ok (.enter g args) w
  cl : ∀ W, Below w.heap.size w W → ∀ x v, d.K W x [v] → ∀ y u, d2.K W y [u] → ∀ r, p x y = some r → Calls P g (#[v, u] ++ lb) W fun e W' => e = .returned (enc r) ∧ Below W.heap.size W W'
theorem quiet_drawn {P : Program} {f : FuncId} {args : Array Value} {w : World} {n : Nat} {v : Value}
    (h : Calls P f args (w.drewN n) fun e w' => e = .returned v ∧ Drawn0 (w.drewN n) w') : Calls P f args (w.drewN n) fun e w'' => e = .returned v ∧ ∃ m, w'' = w.drewN m :=
  h.mono fun _ _ ⟨he, hm⟩ => by
    obtain ⟨m, rfl⟩ := hm
    exact ⟨he, n + m, World.drewN_drewN ..⟩
theorem drawn_keep {w w' : World} (h : Drawn0 w w') (g : Nat) (row : Option Nat) : KeepBut w w' g row := by
  obtain ⟨n, rfl⟩ := h
  exact ⟨Nat.le_refl _, fun _ _ _ _ => rfl⟩
theorem region_tail {P : Program} {id : Nat} {Q : Exit → Act → World → Prop} {a : Act} {w : World} {l : List Oper} (n : Nat) (hm : P.follows .mixedOrders = true) (hB : Region.lexTailB .any l.toArray n = true)
    (h : ∀ w', w' = w.drew → wpStill P l.toArray w' (fun a' => wpList P l.toArray Q (l.drop n) a' w') (l.take n) a) : (Code.region id l.toArray true).wp P Q a w :=
  wp_region_still_tail n hm hB (h _ rfl)
theorem Fn1.later {α ρ : Type} {d : Kd α} {enc : ρ → Value} {P : Program} {g : Nat} {lb : Array Value} {p : α → Option ρ} {w W : World} (h : Fn1 d enc P g lb p w) (hb : Below w.heap.size w W) : Fn1 d enc P g lb p W :=
  ⟨h.eg, fun W' hb' => h.cl W' (hb.trans (hb'.mono hb.size))⟩
theorem Fn2.later {α β ρ : Type} {d : Kd α} {d2 : Kd β} {enc : ρ → Value} {P : Program} {g : Nat} {lb : Array Value} {p : α → β → Option ρ} {w W : World} (h : Fn2 d d2 enc P g lb p w) (hb : Below w.heap.size w W) : Fn2 d d2 enc P g lb p W :=
  ⟨h.eg, fun W' hb' => h.cl W' (hb.trans (hb'.mono hb.size))⟩
theorem K_int {k : IntKind} {w : World} {x : Int} : (Kd.int k).K w x [.int k x] := rfl
theorem K_bool {w : World} {x : Bool} : Kd.bool.K w x [.bool x] := rfl
theorem K_string {w : World} {x : ByteArray} : Kd.string.K w x [.string x] := rfl
theorem K_slice {α : Type} {e : Nat} {d : Kd α} {w : World} {xs : List α} {A : Option Addr} {c : Nat} (h1 : xs.length ≤ c) (h2 : d.C w A xs.length xs) : (Kd.slice e d).K w xs [.slice A xs.length c] := ⟨A, c, rfl, h1, h2⟩
/-- A call of a function value that lies in a slot, as one step of a region that draws. -/
theorem goesF_ {P : Program} {ops : Array Oper} {Q : Exit → Act → World → Prop} {oi : Oper} {N : Option Tmp} {a : Act} {w : World} {K : Act → World → Prop} {g : Nat} {lb : Array Value} {fo : Operand} {aa : Array Operand} {ts : Array TypeId} (eg : ∀ args w, (callFunc g args).run P w = .ok (.enter g args) w) (args : Array Value)
    (hw : Region.wanted oi (yielded ops a.tmps) = true) (hN : oi.dst = N) (hop : oi.op = .call { callee := .value fo, args := aa, argTypes := ts }) (hf : a.eval fo = .func (.func g) #[] lb) (hargs : aa.map a.eval = args)
    (h : Calls P g (args ++ lb) w fun e w' => ∃ v, e = .returned v ∧ K (a.put N v) w') : if Region.wanted oi (yielded ops a.tmps) = true then Oper.wp P oi a w K Q else K (a.put N undef) w := by
  refine call_ g (args ++ lb) hw hN ?_ h
  have he := eg (args ++ lb) w
  unfold execOp
  simp [hop, resolve, Deferred.ofValue, invoke, hargs, he, hf]

/-! ### at_2: function 0 -/
section
variable {α : Type} {d : Kd α} {e : Nat} {w0 w w1 : World} {lo hi lo' hi' : Nat} {v : Value} {x : List α} {S : Nat → Prop}
/-- A row of this call's own whose blocks lie between two sizes of the heap. -/
def ObS (d : Kd α) (e : Nat) (w0 w : World) (lo hi : Nat) (v : Value) (x : List α) : Prop := hi ≤ w.heap.size ∧ Kd.S d e w w0.heap.size (fun k => lo ≤ k ∧ k < hi) v x
def ObR (d : Kd α) (e : Nat) (w0 w : World) (lo hi : Nat) (v : Value) (x : List α) : Prop := hi ≤ w.heap.size ∧ d.R e w w0.heap.size (fun k => lo ≤ k ∧ k < hi) v x
theorem ObS.new_ (h : Kd.S d e w1 w.heap.size (fun _ => True) v x) (hb : Below w0.heap.size w0 w) : ObS d e w0 w1 w.heap.size w1.heap.size v x :=
  ⟨Nat.le_refl _, Kd.S_lower (Kd.S_mono (Kd.S_bound h) (fun _ hk => ⟨hk.2.1, hk.2.2.1⟩)) hb.size⟩
theorem ObR.new_ (h : d.R e w1 w.heap.size (fun _ => True) v x) (hb : Below w0.heap.size w0 w) : ObR d e w0 w1 w.heap.size w1.heap.size v x :=
  ⟨Nat.le_refl _, Kd.R_lower (Kd.R_mono (Kd.R_bound h) (fun _ hk => ⟨hk.2.1, hk.2.2.1⟩)) hb.size⟩
theorem ObS.later (h : ObS d e w0 w lo hi v x) (hb : Below w.heap.size w w1) : ObS d e w0 w1 lo hi v x := ⟨Nat.le_trans h.1 hb.size, Kd.S_below h.2 hb⟩
theorem ObR.later (h : ObR d e w0 w lo hi v x) (hb : Below w.heap.size w w1) : ObR d e w0 w1 lo hi v x := ⟨Nat.le_trans h.1 hb.size, Kd.R_below h.2 hb⟩
theorem ObS.kept_ (h : ObS d e w0 w lo hi v x) (hk : Kept w w1 (fun k => lo' ≤ k ∧ k < hi')) (hd : hi ≤ lo' ∨ hi' ≤ lo) : ObS d e w0 w1 lo hi v x :=
  ⟨Nat.le_trans h.1 hk.1, Kd.S_kept h.2 hk (fun k a b => by omega)⟩
theorem ObR.kept_ (h : ObR d e w0 w lo hi v x) (hk : Kept w w1 (fun k => lo' ≤ k ∧ k < hi')) (hd : hi ≤ lo' ∨ hi' ≤ lo) : ObR d e w0 w1 lo hi v x :=
  ⟨Nat.le_trans h.1 hk.1, Kd.R_kept h.2 hk (fun k a b => by omega)⟩
end
/-- Rows of whole numbers, as the statement's row opens them, are read. -/
theorem rows_C {k : IntKind} {e : Nat} {w : World} {a : Addr} {len cap : Nat} {A : Nat → Option Addr} {L C : Nat → Nat} {Z : Nat → List Int} (hl : len ≤ cap) (hm : cap ≤ maxLen)
    (h : ∀ r, r < cap → w.cell? (a.add r) = some (.slice (A r) (L r) (C r)) ∧ L r ≤ C r ∧ C r ≤ maxLen ∧ (Z r).length = C r ∧ (∀ n ∈ Z r, (Lit.int k n).wf = true) ∧ (A r = none → C r = 0) ∧
        ∀ a', A r = some a' → 0 ≤ a'.block ∧ ∀ c, c < C r → w.cell? (a'.add c) = some (.int k ((Z r).getD c 0))) :
    ∃ l : List (List Int), len = l.length ∧ Kd.C (Kd.slice e (Kd.int k)) w (some a) l.length l ∧ l.length ≤ maxLen ∧ ∀ x ∈ l, x.length ≤ maxLen ∧ ∀ n ∈ x, (Lit.int k n).wf = true := by
  have e0 : ((List.range len).map fun r => (Z r).take (L r)).length = len := by simp
  refine ⟨(List.range len).map fun r => (Z r).take (L r), e0.symm, ⟨rfl, by rw [e0]; unfold maxLen at hm; omega, fun _ => ⟨a, rfl, fun j p hj => ?_⟩⟩, by rw [e0]; omega, ?_⟩
  · have hj' : j < len := by
      have := (List.getElem?_eq_some_iff.1 hj).1
      rwa [e0] at this
    obtain ⟨hc, h1, h2, h3, h4, h5, h6⟩ := h j (by omega)
    have hp : p = (Z j).take (L j) := by
      have := hj
      rw [List.getElem?_map, List.getElem?_range hj'] at this
      simpa using this.symm
    subst hp
    have hlen : ((Z j).take (L j)).length = L j := by rw [List.length_take]; omega
    refine ⟨[.slice (A j) (L j) (C j)], rfl, ⟨A j, C j, by rw [hlen], by rw [hlen]; exact h1, ?_⟩, fun i u hu => ?_⟩
    · rw [hlen]
      refine Kd.C_of_reads (d := (0 : Int)) (h1 := fun _ => rfl) ⟨hlen, by unfold maxLen at h2; omega, fun hn => ?_⟩
      cases hA : A j with
      | none => exact absurd (h5 hA) (by omega)
      | some a' =>
        refine ⟨a', rfl, fun c hc => ?_⟩
        rw [(h6 a' hA).2 c (by omega)]
        simp [List.getD_eq_getElem?_getD, hc]
    · cases i with
      | zero =>
        obtain rfl : Value.slice (A j) (L j) (C j) = u := by simpa using hu
        simpa [show (Kd.slice e (Kd.int k)).sz = 1 from rfl] using hc
      | succ i => simp at hu
  · intro x hx
    obtain ⟨r, hr, rfl⟩ := List.mem_map.1 hx
    have hr' : r < len := List.mem_range.1 hr
    obtain ⟨hc, h1, h2, h3, h4, h5, h6⟩ := h r (by omega)
    refine ⟨by rw [List.length_take]; omega, fun n hn => h4 n (List.mem_of_mem_take hn)⟩

/-! ### at_3: function 0 -/
section
variable {α : Type} {d : Kd α} {e : Nat} {w0 w w1 : World} {A : Option Addr} {n c : Nat} {l : List α} {x : α} {S : Nat → Prop}
/-- A block of one cell, just made, as a row that is read. -/
theorem C_box (hs : d.sz = 1) {v : Value} (hK : d.K w x [v]) (t : TypeId) : d.C (w.alloc (.cells #[v] t)) (some ⟨w.heap.size, 0, none⟩) 1 [x] := by
  refine ⟨rfl, by omega, fun _ => ⟨_, rfl, fun j p hj => ?_⟩⟩
  cases j with
  | succ j => simp at hj
  | zero =>
    obtain rfl : x = p := by simpa using hj
    refine ⟨[v], hs.symm, d.K_below (below_alloc (Below.refl _ _) _) hK, fun i u hu => ?_⟩
    cases i with
    | succ i => simp at hu
    | zero =>
      obtain rfl : v = u := by simpa using hu
      rw [Nat.zero_mul, Nat.add_zero, Addr.add_lit]
      exact (blk_cell (blk_new w (.cells #[v] t)) 0).trans rfl
/-- An empty row, just made. -/
theorem R_empty {g base : Nat} {ok : Nat → Prop} (hg : w.heap[g]? = some (.cells #[] e (0, 0))) (hb : base ≤ g) (hok : ok g := by trivial) : d.R e w base ok (.slice (some ⟨g, 0, none⟩) 0 0) [] :=
  ⟨fun k hk => by (have e : g = k := by simpa [Value.ownBlock] using hk); exact e ▸ hok, [], ⟨by simp, .inr ⟨g, 0, #[], rfl, hb, hg, Nat.le_refl _, by unfold maxLen; omega, by simp, by simp⟩⟩, Reps.none _ _⟩
theorem blk_new' {o : Obj} {n : Nat} (h : w.heap.size = n) : (w.alloc o).heap[n]? = some o := h ▸ blk_new w o
theorem below_of_drawn (h : Drawn0 w w1) : Below w.heap.size w w1 := by
  obtain ⟨n, rfl⟩ := h
  exact pw_below_drewN (Below.refl _ _) n
theorem cell_of_below {a : Addr} {v : Value} (hb : Below w.heap.size w w1) (h : w.cell? a = some v) : w1.cell? a = some v := (hb.cell (World.block_lt_of_cell? _ _ h)).trans h
/-- A row whose cells have just been copied into a new block. -/
theorem N_grown {W : World} {ok : Nat → Prop} {v1 : Value} {xs : List α} {inner : List Value} (h : Reps (fun x c => Kd.FK d W ok x c) d.sz xs inner) (hown : w1.ownsRow W.heap.size e d.sz v1 xs.length inner) (hg : W.grownBy w1 none) :
    Kd.N d e w1 W.heap.size (fun k => ok k ∨ W.heap.size ≤ k) v1 xs := by
  refine ⟨fun k hk => .inr (own_base hown k hk), Kd.chunks d.sz xs.length inner, Kd.chunks_length _ _ _, ⟨fun k hk => hk.symm, inner, by rw [Kd.chunks_length]; exact hown, Kd.reps_raw h (fun x c hp => ⟨d.K_len (Kd.FK_now hp), d.K_one (Kd.FK_now hp)⟩)⟩, fun j x c hx hc => ?_⟩
  rw [Kd.chunks_get hc]
  refine Kd.FK_mono (Kd.FK_step (Kd.FK_bound (h.2 j x hx)) (fun k hk hlt => hg.block k hlt (by simp))) (fun k hk => ⟨.inl hk.1, fun he => ?_⟩)
  have := own_base hown k he.symm
  have := hk.2
  omega
/-- append onto a row that has no room left: a new row, the old one is only read. -/
theorem V_push_step {P : Program} {ops : Array Oper} {o : Oper} {a : Act} {W : World} {K : Act → World → Prop} {Q : Exit → Act → World → Prop} {E : Prop} {ok : Nat → Prop}
    (hg : o.guard = none) (s x : Operand) (t : TypeId) (hop : o.op = Op.call { callee := Callee.builtin Builtin.append, args := #[s, x], argTypes := #[t, t] }) (z : Value) (bytes : Nat)
    (h1 : P.underlying t = some (.slice e)) (h2 : (P.info? e).map (fun i => (i.zero, i.size, i.bytes)) = some (some z, 1, bytes)) (h6 : z.cells.size = 1) (hs1 : d.sz = 1)
    {A : Option Addr} {xs : List α} {y : α} {u : Value} {ad : Addr} (hs : a.eval s = .slice A xs.length xs.length) (hF : Kd.F d W ok A xs.length xs) (hx : a.eval x = .slice (some ad) 1 1) (hK : Kd.FK d W ok y [u]) (hc : W.cell? ad = some u)
    (b2 : (xs.length + 1) * bytes ≤ 140737488355328) (b3 : xs.length + 1 ≤ 140737488355328)
    (h : ∀ v1 w1, Kd.N d e w1 W.heap.size (fun k => ok k ∨ W.heap.size ≤ k) v1 (xs ++ [y]) → Below W.heap.size W w1 → K (a.put o.dst v1) w1) :
    if Region.wanted o (yielded ops a.tmps) = true then Oper.wp P o a W K Q else E := by
  obtain ⟨i0, hi, hzz⟩ := Option.map_eq_some_iff.1 h2
  simp only [Prod.mk.injEq] at hzz
  obtain ⟨hz0, hz1, hz2⟩ := hzz
  have hone : ∀ w ∈ [u], w.oneCell' = true := d.K_one (Kd.FK_now hK)
  have hol : ∃ olds, Reps (fun x c => Kd.FK d W ok x c) d.sz xs olds ∧ ∀ b, A = some b → ∀ j u, olds[j]? = some u → W.cell? (b.add j) = some u := by
    cases A with
    | some b =>
      obtain ⟨olds, h3, h4⟩ := ReadsRow.inner_ (Kd.F_rows hF)
      exact ⟨olds, h3, fun b' hb => by injection hb with hb; subst hb; exact h4⟩
    | none =>
      have h0 : xs = [] := by
        have h1 := (Kd.F_now hF).2.2
        cases xs with
        | nil => rfl
        | cons x xs =>
          obtain ⟨ad, e, _⟩ := h1 (by simp)
          cases e
      subst h0
      exact ⟨[], Reps.none _ _, fun b hb => by cases hb⟩
  obtain ⟨olds, hr, hcells⟩ := hol
  have hnone : A = none → xs.length = 0 ∧ xs.length = 0 := by
    rintro rfl
    have h1 := (Kd.F_now hF).2.2
    rcases Nat.eq_zero_or_pos xs.length with h0 | h0
    · exact ⟨h0, h0⟩
    · obtain ⟨ad, e, _⟩ := h1 h0
      cases e
  refine step_append_grows hg s x t hop e i0 z 1 bytes h1 hi hz0 hz1 hz2 h6 (by omega) A xs.length xs.length olds hs hnone (by rw [hr.1, hs1]) hcells ad 1 1 [u] hx rfl ?_ hone (by omega) (by simp only [maxLen]; omega) b2 ?_
  · intro j v hv
    cases j with
    | zero =>
      obtain rfl : u = v := by simpa using hv
      simpa [Addr.add] using hc
    | succ j => simp at hv
  · intro v1 w1 hown hgr
    have hr2 := hr.snoc hK (by rw [hs1]; rfl)
    have hown2 : w1.ownsRow W.heap.size e d.sz v1 (xs ++ [y]).length (olds ++ [u]) := by
      rw [hs1, List.length_append]
      exact hown
    exact h v1 w1 (N_grown hr2 hown2 hgr) ((Below.refl _ _).grown hgr (Nat.le_refl _) (fun _ h => by cases h))
/-- Kept, and the streams are as they were. -/
def Kp (w W : World) (S : Nat → Prop) : Prop := Kept w W S ∧ Below 0 w W
theorem Kp.refl (w : World) (S : Nat → Prop) : Kp w w S := ⟨Kept.refl _ _, Below.refl _ _⟩
theorem Kp.sz {W : World} (h : Kp w W S) : w.heap.size ≤ W.heap.size := h.1.1
theorem Kp.at {W : World} (h : Kp w W S) (k : Nat) (hk : k < w.heap.size) (hn : ¬ S k) : W.heap[k]? = w.heap[k]? := h.1.2 k hk hn
theorem Kp.mono {W : World} {S' : Nat → Prop} (h : Kp w W S) (hs : ∀ k, S k → S' k) : Kp w W S' := ⟨h.1.mono hs, h.2⟩
theorem Kp.then_ {W W2 : World} {S2 : Nat → Prop} (h : Kp w W S) (k : Kp W W2 S2) (hs : ∀ k, S2 k → S k ∨ w.heap.size ≤ k) : Kp w W2 S := ⟨h.1.then_ k.1 hs, h.2.trans k.2⟩
theorem Kp.below {W W2 : World} (h : Kp w W S) (hb : Below W.heap.size W W2) : Kp w W2 S := ⟨h.1.below hb, h.2.trans (hb.mono (Nat.zero_le _))⟩
theorem Kp.of_below {W : World} (h : Below w.heap.size w W) (S : Nat → Prop) : Kp w W S := ⟨Kept.of_below h S, h.mono (Nat.zero_le _)⟩
theorem Kp.drew {W : World} (h : Kp w W S) : Kp w W.drew S := ⟨h.1, h.2.drew⟩
theorem Kp.drewN {W : World} (h : Kp w W S) (m : Nat) : Kp w (W.drewN m) S := h.below (pw_below_drewN (Below.refl _ _) m)
theorem Kp.setCell {W : World} (h : Kp w W S) {p : Addr} (hp : S p.block ∨ w.heap.size ≤ p.block) (u : Value) : Kp w (W.setCell p u) S := ⟨h.1.setCell hp u, h.2.setCell (Nat.zero_le _) u⟩
/-- What lies below all of S is as it was. -/
theorem Kp.to_below {W : World} {B : Nat} (h : Kp w W S) (hB : B ≤ w.heap.size) (hs : ∀ k, S k → B ≤ k) : Below B w W :=
  ⟨h.2.os, h.2.tape, h.2.output, h.2.size, fun k hk => h.1.2 k (by omega) (fun h1 => by have := hs k h1; omega)⟩
/-- An element of a row of rows. -/
theorem V_row {W : World} {ok : Nat → Prop} {e' b b' cc : Nat} {xs : List (List α)} (h : Kd.V (Kd.slice e d) e' W b ok (.slice A xs.length cc) xs) (i : Int) (h0 : 0 ≤ i) (h1 : i < xs.length) :
    ∃ ad Aw cw, A = some ad ∧ W.cell? (ad.add i.toNat) = some (.slice Aw (xs.getD i.toNat []).length cw) ∧ Kd.V d e W b' ok (.slice Aw (xs.getD i.toNat []).length cw) (xs.getD i.toNat []) := by
  obtain ⟨ad, cs, he, _, hK, hcc, _⟩ := Kd.F_get (Kd.V_F h) [] i h0 (by simpa using h1)
  obtain ⟨Aw, cw, rfl, hl, hf⟩ := Kd.FK_slice_open hK
  have hx := hcc 0 _ rfl
  rw [show (Kd.slice e d).sz = 1 from rfl, Nat.mul_one, Nat.add_zero] at hx
  exact ⟨ad, Aw, cw, he, hx, Kd.V_mk hl hf⟩
theorem V_kept_to {W : World} {S' : Nat → Prop} {v : Value} {xs : List α} {b g : Nat} (h : Kd.V d e W b (fun k => ¬ S k ∧ k ≠ g) v xs) (hk : Kp W w1 S) (hs : ∀ k, S' k → S k ∨ W.heap.size ≤ k) : Kd.V d e w1 b (fun k => ¬ S' k ∧ k ≠ g) v xs :=
  Kd.V_mono (Kd.V_kept (Kd.V_bound h) hk.1 (fun k hk => hk.1.1)) (fun k hk => ⟨fun h' => (hs k h').elim hk.1.1 (fun h2 => by have := hk.2; omega), hk.1.2⟩)
/-- A block of numbers, whole, as a row that is read. -/
theorem C_nums {k : IntKind} {g t : Nat} {xs : List Int} (h : w.heap[g]? = some (.cells (nums k xs).toArray t (0, 0))) (hl : xs.length ≤ 9223372036854775807) : (Kd.int k).C w (some ⟨g, 0, none⟩) xs.length xs := by
  refine ⟨rfl, hl, fun _ => ⟨_, rfl, fun j p hj => ⟨[.int k p], rfl, rfl, fun i u hu => ?_⟩⟩⟩
  cases i with
  | succ i => simp at hu
  | zero =>
    obtain rfl : Value.int k p = u := by simpa using hu
    have hx := blk_cell h j
    rw [show j * (Kd.int k).sz + 0 = j from by show j * 1 + 0 = j; omega, Addr.add_lit, Nat.zero_add, hx]
    simp [nums, hj]
/-- A block of numbers, whole, as a row of one's own. -/
theorem R_nums {k : IntKind} {g e base : Nat} {w : World} {xs : List Int} {ok : Nat → Prop} (h : w.heap[g]? = some (.cells (nums k xs).toArray e (0, 0))) (hb : base ≤ g) (hl : xs.length ≤ 9223372036854775807) (hok : ok g := by trivial) :
    (Kd.int k).R e w base ok (.slice (some ⟨g, 0, none⟩) xs.length xs.length) xs :=
  ⟨fun i hi => by (have e : g = i := by simpa [Value.ownBlock] using hi); exact e ▸ hok,
    nums k xs, ⟨by show _ = xs.length * 1; simp [nums], .inr ⟨g, xs.length, (nums k xs).toArray, rfl, hb, h, Nat.le_refl _, hl, by show _ = xs.length * 1; simp [nums], by show List.take (xs.length * 1) _ = _; rw [List.toList_toArray]; exact List.take_of_length_le (by simp [nums])⟩⟩, Kd.reps_scalar xs⟩
theorem nums_set {k : IntKind} {xs : List Int} (i : Nat) (v : Int) : (nums k xs).toArray.setIfInBounds i (.int k v) = (nums k (xs.set i v)).toArray := by
  simp [nums, List.map_set]
/-- make([]int, n): a block of zeros. -/
theorem make_zeros {P : Program} {o : Oper} {a : Act} {x : Operand} {ty e0 : TypeId} (ho : o.op = .makeSlice ty x x) (n : Int) (hx : a.eval x = .int .i64 n) (ht : P.underlying ty = some (.slice e0))
    (hinfo : (P.info? e0).map (fun i => (i.zero, i.size, i.bytes)) = some (some (.int .i64 0), 1, 8)) (h0 : 0 ≤ n) (h1 : n ≤ 1000000) (W : World) :
    (execOp a.eval o).run P W = .ok (.value (.slice (some ⟨W.heap.size, 0, none⟩) n.toNat n.toNat)) (W.alloc (.cells (nums .i64 (List.replicate n.toNat 0)).toArray e0)) := by
  obtain ⟨i0, hi, hzz⟩ := Option.map_eq_some_iff.1 hinfo
  simp only [Prod.mk.injEq] at hzz
  obtain ⟨hz0, hz1, hz2⟩ := hzz
  have hr := run_make (P := P) W ty e0 i0 _ ht hi hz0 .i64 .i64 n n h0 (Int.le_refl _) (by rw [hz2]; omega) (by omega)
  have hm : madeCells (Value.int .i64 0).cells (n.toNat * i0.size) = (nums .i64 (List.replicate n.toNat 0)).toArray := by
    rw [hz1, Nat.mul_one]
    refine Array.ext (by simp [madeCells, nums]) fun i h1 h2 => ?_
    simp [madeCells, nums, Value.cells, Nat.mod_one]
  rw [hm] at hr
  simp [execOp, ho, hx, hr]
/-- A number of a row of rows of one's own: it is read, it may be written, and then the rows are told anew. -/
theorem S_cell2 {W : World} {base e e' n cap : Nat} {ok : Nat → Prop} {ad : Addr} {xs : List (List Int)} (h : Kd.S (Kd.slice e' (Kd.int .i64)) e W base ok (.slice (some ad) n cap) xs) (i : Int) (h0 : 0 ≤ i) (h1 : i < n) :
    ∃ Aw cw, W.cell? (ad.add i.toNat) = some (.slice Aw (xs.getD i.toNat []).length cw) ∧ ∀ j : Int, 0 ≤ j → j < (xs.getD i.toNat []).length → ∃ aw, Aw = some aw ∧ W.cell? (aw.add j.toNat) = some (.int .i64 (rd (xs.getD i.toNat []) j)) ∧ W.frozen? (aw.add j.toNat) = false ∧ base ≤ (aw.add j.toNat).block ∧
      ∀ v : Int, Kd.S (Kd.slice e' (Kd.int .i64)) e (W.setCell (aw.add j.toNat) (.int .i64 v)) base ok (.slice (some ad) n cap) (xs.set i.toNat ((xs.getD i.toNat []).set j.toNat v)) := by
  obtain ⟨oki, c, hcl, hM, hcc, hok, hbk⟩ := Kd.S_borrow h [] i h0 h1
  obtain ⟨v0, rfl, hR⟩ := hM
  obtain ⟨Aw, cw, rfl⟩ := Kd.R_slice hR
  have hx := hcc 0 _ rfl
  rw [show (Kd.slice e' (Kd.int .i64)).sz = 1 from rfl, Nat.mul_one, Nat.add_zero] at hx
  refine ⟨Aw, cw, hx, fun j j0 j1 => ?_⟩
  obtain ⟨g, cap', ev, hbg, hgl, _⟩ := Kd.R_form hR (by omega)
  injection ev with e1 _ _
  subst e1
  obtain ⟨q1, q2⟩ := Kd.R_celln (0 : Int) hR j j0 (by omega)
  refine ⟨⟨g, 0, none⟩, rfl, ?_, ?_, by rw [Addr.add_lit]; exact hbg, fun v => ?_⟩
  · rw [Addr.add_lit, Nat.zero_add]; exact q1
  · rw [Addr.add_lit, Nat.zero_add]; exact q2
  · rw [Addr.add_lit, Nat.zero_add]
    obtain ⟨r1, r2⟩ := Kd.R_putg hR j v
    exact hbk r2 (fun k hk => hR.1 k (by rw [← hk]; rfl)) ⟨_, rfl, r1⟩
/-- What was written and then put back. -/
theorem Kp.back {W : World} {g : Nat} {o : Obj} (h : Kp w W (fun k => S k ∨ k = g)) (h1 : w.heap[g]? = some o) (h2 : W.heap[g]? = some o) : Kp w W S :=
  ⟨⟨h.sz, fun i hi hn => by
    by_cases hg : i = g
    · subst hg; rw [h1, h2]
    · exact h.at i hi (fun hs => hs.elim hn hg)⟩, h.2⟩
/-- A function value with a state of its own: what it holds in memory is told by Inv over the blocks of S. -/
structure FnS {σ α ρ : Type} (d : Kd α) (enc : ρ → Value) (P : Program) (g : Nat) (lb : Array Value) (p : σ → α → Option (σ × ρ)) (Inv : σ → World → (Nat → Prop) → Prop) : Prop where
  eg : ∀ args w, (callFunc g args).run P w = .ok (.enter g args) w
  bd : ∀ s W S, Inv s W S → ∀ k, S k → k < W.heap.size
  st : ∀ s W S W', Inv s W S → Below 0 W W' → (∀ k, S k → W'.heap[k]? = W.heap[k]?) → Inv s W' S
  cl : ∀ s W S, Inv s W S → ∀ x v, d.K W x [v] → ∀ s' r, p s x = some (s', r) → Calls P g (#[v] ++ lb) W fun e W' => e = .returned (enc r) ∧ ∃ S', Inv s' W' S' ∧ Kp W W' S ∧ ∀ k, S' k → S k ∨ W.heap.size ≤ k
end
def rowOk (sums row : List Int) : Bool := decide (sums.length = row.length) && sums.all (fun s => decide (0 ≤ s) && decide (s ≤ 1)) && row.all (fun s => decide (-1 ≤ s) && decide (s ≤ 1))
theorem rowOk_len {sums row : List Int} (h : rowOk sums row = true) : sums.length = row.length ∧ (List.zipWith (· + ·) sums row).length = row.length := by
  simp only [rowOk, Bool.and_eq_true, decide_eq_true_eq] at h
  exact ⟨h.1.1, by rw [List.length_zipWith, h.1.1, Nat.min_self]⟩
theorem rowOk_at {sums row : List Int} (h : rowOk sums row = true) (j : Nat) (hj : j < row.length) : 0 ≤ sums.getD j 0 ∧ sums.getD j 0 ≤ 1 ∧ -1 ≤ row.getD j 0 ∧ row.getD j 0 ≤ 1 ∧ (List.zipWith (· + ·) sums row).getD j 0 = sums.getD j 0 + row.getD j 0 := by
  have hl := (rowOk_len h).1
  simp only [rowOk, Bool.and_eq_true, List.all_eq_true, decide_eq_true_eq] at h
  have h1 := h.1.2 (sums.getD j 0) (by rw [List.getD_eq_getElem?_getD, List.getElem?_eq_getElem (by omega)]; exact List.getElem_mem _)
  have h2 := h.2 (row.getD j 0) (by rw [List.getD_eq_getElem?_getD, List.getElem?_eq_getElem hj]; exact List.getElem_mem _)
  refine ⟨h1.1, h1.2, h2.1, h2.2, ?_⟩
  simp [List.getD_eq_getElem?_getD, List.getElem?_zipWith, List.getElem?_eq_getElem hj, List.getElem?_eq_getElem (show j < sums.length by omega)]
/-- The first j numbers of one row, the others of the other one. -/
def rowMid (a b : List Int) (j : Nat) : List Int := a.take j ++ b.drop j
theorem rowMid_len {a b : List Int} (h : a.length = b.length) (j : Nat) : (rowMid a b j).length = b.length := by
  simp [rowMid]; omega
theorem rowMid_at {a b : List Int} (h : a.length = b.length) (j : Nat) (hj : j < b.length) : (rowMid a b j).getD j 0 = b.getD j 0 := by
  simp only [rowMid, List.getD_eq_getElem?_getD]
  rw [List.getElem?_append_right (by simp; omega)]
  simp only [List.length_take, List.getElem?_drop]
  rw [show j + (j - min j a.length) = j by omega]
theorem rowMid_set {a b : List Int} (h : a.length = b.length) (j : Nat) (hj : j < b.length) : (rowMid a b j).set j (a.getD j 0) = rowMid a b (j + 1) := by
  refine List.ext_getElem (by rw [List.length_set, rowMid_len h, rowMid_len h]) fun i h1 h2 => ?_
  rw [List.length_set, rowMid_len h] at h1
  simp only [rowMid, List.getElem_set, List.getElem_append, List.length_take, List.getElem_take, List.getElem_drop]
  by_cases e : j = i
  · subst e
    rw [if_pos rfl, dif_pos (by omega), List.getD_eq_getElem?_getD, List.getElem?_eq_getElem (by omega)]; rfl
  · rw [if_neg e]
    by_cases e2 : i < j
    · rw [dif_pos (by omega), dif_pos (by omega)]
    · rw [dif_neg (by omega), dif_neg (by omega)]
      congr 1
      omega
theorem rowMid_zero {a b : List Int} : rowMid a b 0 = b := by simp [rowMid]
theorem rowMid_all {a b : List Int} {j : Nat} (h : a.length = b.length) (hj : j = b.length) : rowMid a b j = a := by
  subst hj
  simp only [rowMid]
  rw [← h]
  simp
  omega

/-! ### spec_l1In: function 98 -/
def spec_l1In.f (a0 : Int) (a1 : Int) (a2 : Int) : Option (Bool) := if a0 ≥ a1 then (some (decide (a0 ≤ a2))) else (some false)
set_option maxHeartbeats 8000000 in
set_option maxRecDepth 100000 in
theorem spec_l1In.calls (a0 : Int) (a1 : Int) (a2 : Int) (r : Bool) (w : World) (h : spec_l1In.f a0 a1 a2 = some r) :
    Calls Try.prog 98 #[.int .i64 a0, .int .i64 a1, .int .i64 a2] w fun e w' => e = .returned (.bool r) ∧ Drawn0 w w' := by
  have H : (if a0 ≥ a1 then (some (decide (a0 ≤ a2))) else (some false)) = some r := h
  clear h
  by_cases c4 : a0 ≥ a1
  · rw [if_pos c4] at H
    have c4b0 : decide (a1 ≤ a0) = true := decide_eq_true c4
    clear c4
    obtain rfl := Option.some.inj H
    go_enter Try.func98, Try.ntmps98
    go_wp2
    go_ret
    exact ⟨by first | rfl | (simp; done) | (simp [*]; done), by repeat (first | exact Drawn0.refl _ | apply Drawn0.step)⟩
  · rw [if_neg c4] at H
    have c4b0 : decide (a1 ≤ a0) = false := decide_eq_false c4
    clear c4
    obtain rfl := Option.some.inj H
    go_enter Try.func98, Try.ntmps98
    go_wp2
    go_ret
    exact ⟨by first | rfl | (simp; done) | (simp [*]; done), by repeat (first | exact Drawn0.refl _ | apply Drawn0.step)⟩

/-! ### spec_syPairs: function 109 -/
def spec_syPairs.f (a0 : Int) : Option (Bool) := (spec_l1In.f a0 1 4).bind fun t101 => (some t101)
set_option maxHeartbeats 8000000 in
set_option maxRecDepth 100000 in
theorem spec_syPairs.calls (a0 : Int) (r : Bool) (w : World) (h : spec_syPairs.f a0 = some r) :
    Calls Try.prog 109 #[.int .i64 a0] w fun e w' => e = .returned (.bool r) ∧ Drawn0 w w' := by
  have H : ((spec_l1In.f a0 1 4).bind fun t101 => (some t101)) = some r := h
  clear h
  replace H := Option.bind_eq_some_iff.mp H
  obtain ⟨t101, A20, H⟩ := H
  replace H : (some t101) = some r := H
  have A2 := Aside0.mk A20
  clear A20
  obtain rfl := Option.some.inj H
  go_enter Try.func109, Try.ntmps109
  go_wp2_with (first | ((with_reducible refine gate_callee (f := 98) rfl ?_); refine goesL_ (some 4) rfl rfl Try.func98 (by kernel_rfl) rfl #[.int .i64 a0, .int .i64 1, .int .i64 4] rfl (by (try simp only [List.map_toArray, List.map_cons, List.map_nil]); first | done | rfl | (simp only [List.length_drop, List.length_take]; rfl)) ?_; (with_reducible refine (spec_l1In.calls a0 1 4 t101 _ A2.out).mono ?_); rintro e w' ⟨rfl, ⟨nd, rfl⟩⟩; refine ⟨_, rfl, ?_⟩))
  go_ret
  exact ⟨by first | rfl | (simp; done) | (simp [*]; done), by repeat (first | exact Drawn0.refl _ | apply Drawn0.step)⟩

/-! ### spec_l1Same: function 145 -/
def spec_l1Same.l0 : Nat → List Int → List Int → Int → Int → Option (Bool)
  | 0, _, _, _, _ => none
  | k + 1, x0, x1, x12, x13 => if x13 < x12 then (if 0 ≤ x13 then (if x13 < (x0.length : Int) then (if x13 < (x1.length : Int) then (if (rd x0 x13) = (rd x1 x13) then (spec_l1Same.l0 k x0 x1 x12 (wrap64 (x13 + 1))) else (some false)) else (none)) else (none)) else (none)) else (some true)
def spec_l1Same.f (k : Nat) (l0 : List Int) (l1 : List Int) : Option (Bool) := if (l0.length : Int) = (l1.length : Int) then (spec_l1Same.l0 k l0 l1 (l0.length : Int) 0) else (some false)
theorem spec_l1Same.mono_l : ∀ k, (∀ y0 y1 y2 y3, LeO (spec_l1Same.l0 k y0 y1 y2 y3) (spec_l1Same.l0 (k + 1) y0 y1 y2 y3))
  | 0 => fun _ _ _ _ r h => by simp [spec_l1Same.l0] at h
  | k + 1 => by
    have ih0 := spec_l1Same.mono_l k
    · intro y0 y1 y2 y3
      unfold spec_l1Same.l0
      repeat' first
      | (with_reducible exact ih0 _ _ _ _)
      | (with_reducible exact LeO.refl _)
      | (with_reducible exact LeO.none _)
      | (with_reducible refine LeO.ite ?_ ?_)
      | (with_reducible refine LeO.bind ?_ (fun _ => ?_))
      | exact ih0 _ _ _ _
      | exact LeO.none _
      | refine LeO.ite ?_ ?_
      | refine LeO.bind ?_ (fun _ => ?_)
theorem spec_l1Same.mono : ∀ a0 a1  k, LeO (spec_l1Same.f k a0 a1) (spec_l1Same.f (k + 1) a0 a1) := by
  intro a0 a1 k
  have ih0 := spec_l1Same.mono_l k
  unfold spec_l1Same.f
  repeat' first
      | (with_reducible exact ih0 _ _ _ _)
      | (with_reducible exact LeO.refl _)
      | (with_reducible exact LeO.none _)
      | (with_reducible refine LeO.ite ?_ ?_)
      | (with_reducible refine LeO.bind ?_ (fun _ => ?_))
      | exact ih0 _ _ _ _
      | exact LeO.none _
      | refine LeO.ite ?_ ?_
      | refine LeO.bind ?_ (fun _ => ?_)
set_option maxHeartbeats 8000000 in
set_option maxRecDepth 100000 in
theorem spec_l1Same.calls (k : Nat) (A0 : Option Addr) (c0 : Nat) (l0 : List Int) (A1 : Option Addr) (c1 : Nat) (l1 : List Int) (r : Bool) (w : World) (hr0 : Kd.C (Kd.int .i64) w A0 l0.length l0) (hc0 : l0.length ≤ c0) (hr1 : Kd.C (Kd.int .i64) w A1 l1.length l1) (hc1 : l1.length ≤ c1) (h : spec_l1Same.f k l0 l1 = some r) :
    Calls Try.prog 145 #[.slice A0 l0.length c0, .slice A1 l1.length c1] w fun e w' => e = .returned (.bool r) ∧ Drawn0 w w' := by
  have HR0 := Aside0.mk hr0
  have HC0 := Aside0.mk hc0
  clear hr0 hc0
  have HR1 := Aside0.mk hr1
  have HC1 := Aside0.mk hc1
  clear hr1 hc1
  have H : (if (l0.length : Int) = (l1.length : Int) then (spec_l1Same.l0 k l0 l1 (l0.length : Int) 0) else (some false)) = some r := h
  clear h
  by_cases c3 : (l0.length : Int) = (l1.length : Int)
  · rw [if_pos c3] at H
    have c3b0 : ((l0.length : Int) == (l1.length : Int)) = true := beq_iff_eq.mpr c3
    have c3b1 : ((l0.length : Int) != (l1.length : Int)) = false := bne_eq_false_iff_eq.mpr c3
    have c3b2 : (l0.length == l1.length) = true := by first | simpa using c3 | (simp at c3 ⊢; omega)
    clear c3
    have H' := Aside0.mk H
    clear H
    go_enter Try.func145, Try.ntmps145
    go_wp2
    repeat (go_quiet (fail); try go_wp2)
    go_loopg [13] k (fun kq v13 w' => ∃ (x13_1 : Int), v13 = .int .i64 x13_1 ∧ Aside0 (spec_l1Same.l0 kq l0 l1 (l0.length : Int) x13_1 = some r) ∧ Aside0 (kq ≤ k) ∧ Drawn0 w w')
    case atStart => exact ⟨(0), (by first | rfl | (simp; done) | (simp [*]; done)), H', ⟨Nat.le_refl _⟩, by repeat (first | exact Drawn0.refl _ | apply Drawn0.step)⟩
    case round =>
      clear H'
      try clear c1
      try clear p2
      try clear c3
      try clear c3b0
      try clear c3b1
      try clear c3b2
      obtain ⟨x13_1, rfl, HA, HK1, ⟨m1, rfl⟩⟩ := hrel
      cases gk with
      | zero => exact absurd HA.out (by simp [spec_l1Same.l0])
      | succ k1 =>
        have H := HA.out
        clear HA
        simp only [spec_l1Same.l0] at H
        by_cases c4 : x13_1 < (l0.length : Int)
        · rw [if_pos c4] at H
          have c4b0 : decide (x13_1 < (l0.length : Int)) = true := decide_eq_true c4
          clear c4
          by_cases c5 : 0 ≤ x13_1
          · rw [if_pos c5] at H
            have c5b0 : decide (0 ≤ x13_1) = true := decide_eq_true c5
            clear c5
            by_cases c6 : x13_1 < (l0.length : Int)
            · rw [if_pos c6] at H
              have c6b0 : decide (x13_1 < (l0.length : Int)) = true := decide_eq_true c6
              clear c6
              by_cases c7 : x13_1 < (l1.length : Int)
              · rw [if_pos c7] at H
                have c7b0 : decide (x13_1 < (l1.length : Int)) = true := decide_eq_true c7
                clear c7
                by_cases c8 : (rd l0 x13_1) = (rd l1 x13_1)
                · rw [if_pos c8] at H
                  have c8b0 : ((rd l0 x13_1) == (rd l1 x13_1)) = true := beq_iff_eq.mpr c8
                  have c8b1 : ((rd l0 x13_1) != (rd l1 x13_1)) = false := bne_eq_false_iff_eq.mpr c8
                  clear c8
                  have H' := Aside0.mk H
                  clear H
                  have p101 : 0 ≤ (x13_1 : Int) := of_decide_eq_true (by first | (with_reducible assumption) | assumption)
                  have q101 : x13_1 < (l0.length : Int) := of_decide_eq_true (by first | (with_reducible assumption) | assumption)
                  obtain ⟨ad101, e101, hx101_0⟩ := Kd.at_int HR0.out x13_1 p101 q101
                  cases e101
                  replace p101 := eq_true p101
                  replace q101 := eq_true q101
                  have p102 : 0 ≤ (x13_1 : Int) := of_decide_eq_true (by first | (with_reducible assumption) | assumption)
                  have q102 : x13_1 < (l1.length : Int) := of_decide_eq_true (by first | (with_reducible assumption) | assumption)
                  obtain ⟨ad102, e102, hx102_0⟩ := Kd.at_int HR1.out x13_1 p102 q102
                  cases e102
                  replace p102 := eq_true p102
                  replace q102 := eq_true q102
                  go_wp2
                  repeat (go_quiet (fail); try go_wp2)
                  go_roundg k1
                  case measure => have := HK1.out; omega
                  case rel => exact ⟨(wrap64 (x13_1 + 1)), (by first | rfl | (simp; done) | (simp [*]; done)), H', ⟨by have := HK1.out; omega⟩, by repeat (first | exact Drawn0.refl _ | apply Drawn0.step)⟩
                · rw [if_neg c8] at H
                  have c8b0 : ((rd l0 x13_1) == (rd l1 x13_1)) = false := beq_eq_false_iff_ne.mpr c8
                  have c8b1 : ((rd l0 x13_1) != (rd l1 x13_1)) = true := bne_iff_ne.mpr c8
                  obtain rfl := Option.some.inj H
                  have p101 : 0 ≤ (x13_1 : Int) := of_decide_eq_true (by first | (with_reducible assumption) | assumption)
                  have q101 : x13_1 < (l0.length : Int) := of_decide_eq_true (by first | (with_reducible assumption) | assumption)
                  obtain ⟨ad101, e101, hx101_0⟩ := Kd.at_int HR0.out x13_1 p101 q101
                  cases e101
                  replace p101 := eq_true p101
                  replace q101 := eq_true q101
                  have p102 : 0 ≤ (x13_1 : Int) := of_decide_eq_true (by first | (with_reducible assumption) | assumption)
                  have q102 : x13_1 < (l1.length : Int) := of_decide_eq_true (by first | (with_reducible assumption) | assumption)
                  obtain ⟨ad102, e102, hx102_0⟩ := Kd.at_int HR1.out x13_1 p102 q102
                  cases e102
                  replace p102 := eq_true p102
                  replace q102 := eq_true q102
                  go_wp2
                  repeat (go_quiet (fail); try go_wp2)
                  go_ret
                  exact ⟨by first | rfl | (simp; done) | (simp [*]; done), by repeat (first | exact Drawn0.refl _ | apply Drawn0.step)⟩
              · rw [if_neg c7] at H
                exact absurd H (by simp)
            · rw [if_neg c6] at H
              exact absurd H (by simp)
          · rw [if_neg c5] at H
            exact absurd H (by simp)
        · rw [if_neg c4] at H
          have c4b0 : decide (x13_1 < (l0.length : Int)) = false := decide_eq_false c4
          clear c4
          obtain rfl := Option.some.inj H
          go_wp2
          repeat (go_quiet (fail); try go_wp2)
          go_ret
          exact ⟨by first | rfl | (simp; done) | (simp [*]; done), by repeat (first | exact Drawn0.refl _ | apply Drawn0.step)⟩
  · rw [if_neg c3] at H
    have c3b0 : ((l0.length : Int) == (l1.length : Int)) = false := beq_eq_false_iff_ne.mpr c3
    have c3b1 : ((l0.length : Int) != (l1.length : Int)) = true := bne_iff_ne.mpr c3
    have c3b2 : (l0.length == l1.length) = false := by first | simpa using c3 | (simp at c3 ⊢; omega)
    obtain rfl := Option.some.inj H
    go_enter Try.func145, Try.ntmps145
    go_wp2
    repeat (go_quiet (fail); try go_wp2)
    go_ret
    exact ⟨by first | rfl | (simp; done) | (simp [*]; done), by repeat (first | exact Drawn0.refl _ | apply Drawn0.step)⟩

/-! ### spec_syRank: function 91 -/
def spec_syRank.l0 : Nat → List (List Int) → List Int → Int → Option (Int)
  | 0, _, _, _ => none
  | k + 1, x0, x1, x5 => if 0 ≤ x5 then (if x5 < (x0.length : Int) then ((spec_l1Same.f k (rd_L1 x0 x5) x1).bind fun t102 => (if t102 = true then (some x5) else (spec_syRank.l0 k x0 x1 (wrap64 (x5 + 1))))) else (none)) else (none)
def spec_syRank.f (k : Nat) (l0 : List (List Int)) (l1 : List Int) : Option (Int) := spec_syRank.l0 k l0 l1 0
theorem spec_syRank.mono_l : ∀ k, (∀ y0 y1 y2, LeO (spec_syRank.l0 k y0 y1 y2) (spec_syRank.l0 (k + 1) y0 y1 y2))
  | 0 => fun _ _ _ r h => by simp [spec_syRank.l0] at h
  | k + 1 => by
    have ih0 := spec_syRank.mono_l k
    · intro y0 y1 y2
      unfold spec_syRank.l0
      repeat' first
      | (with_reducible exact ih0 _ _ _)
      | (with_reducible exact spec_l1Same.mono _ _ _)
      | (with_reducible exact LeO.refl _)
      | (with_reducible exact LeO.none _)
      | (with_reducible refine LeO.ite ?_ ?_)
      | (with_reducible refine LeO.bind ?_ (fun _ => ?_))
      | exact ih0 _ _ _
      | exact spec_l1Same.mono _ _ _
      | exact LeO.none _
      | refine LeO.ite ?_ ?_
      | refine LeO.bind ?_ (fun _ => ?_)
theorem spec_syRank.mono : ∀ a0 a1  k, LeO (spec_syRank.f k a0 a1) (spec_syRank.f (k + 1) a0 a1) := by
  intro a0 a1 k
  have ih0 := spec_syRank.mono_l k
  unfold spec_syRank.f
  repeat' first
      | (with_reducible exact ih0 _ _ _)
      | (with_reducible exact spec_l1Same.mono _ _ _)
      | (with_reducible exact LeO.refl _)
      | (with_reducible exact LeO.none _)
      | (with_reducible refine LeO.ite ?_ ?_)
      | (with_reducible refine LeO.bind ?_ (fun _ => ?_))
      | exact ih0 _ _ _
      | exact spec_l1Same.mono _ _ _
      | exact LeO.none _
      | refine LeO.ite ?_ ?_
      | refine LeO.bind ?_ (fun _ => ?_)
set_option maxHeartbeats 8000000 in
set_option maxRecDepth 100000 in
theorem spec_syRank.calls (k : Nat) (A0 : Option Addr) (c0 : Nat) (l0 : List (List Int)) (A1 : Option Addr) (c1 : Nat) (l1 : List Int) (r : Int) (w : World) (hr0 : Kd.C (Kd.slice 3 (Kd.int .i64)) w A0 l0.length l0) (hc0 : l0.length ≤ c0) (hr1 : Kd.C (Kd.int .i64) w A1 l1.length l1) (hc1 : l1.length ≤ c1) (h : spec_syRank.f k l0 l1 = some r) :
    Calls Try.prog 91 #[.slice A0 l0.length c0, .slice A1 l1.length c1] w fun e w' => e = .returned (.int .i64 r) ∧ Drawn0 w w' := by
  have HR0 := Aside0.mk hr0
  have HC0 := Aside0.mk hc0
  clear hr0 hc0
  have HR1 := Aside0.mk hr1
  have HC1 := Aside0.mk hc1
  clear hr1 hc1
  have H : (spec_syRank.l0 k l0 l1 0) = some r := h
  clear h
  have H' := Aside0.mk H
  clear H
  go_enter Try.func91, Try.ntmps91
  go_wp2
  go_loopg [5] k (fun kq v5 w' => ∃ (x5_1 : Int), v5 = .int .i64 x5_1 ∧ Aside0 (spec_syRank.l0 kq l0 l1 x5_1 = some r) ∧ Aside0 (kq ≤ k) ∧ Drawn0 w w')
  case atStart => exact ⟨(0), (by first | rfl | (simp; done) | (simp [*]; done)), H', ⟨Nat.le_refl _⟩, by repeat (first | exact Drawn0.refl _ | apply Drawn0.step)⟩
  case round =>
    clear H'
    try clear c1
    try clear p2
    obtain ⟨x5_1, rfl, HA, HK1, ⟨m1, rfl⟩⟩ := hrel
    cases gk with
    | zero => exact absurd HA.out (by simp [spec_syRank.l0])
    | succ k1 =>
      have H := HA.out
      clear HA
      simp only [spec_syRank.l0] at H
      by_cases c3 : 0 ≤ x5_1
      · rw [if_pos c3] at H
        have c3b0 : decide (0 ≤ x5_1) = true := decide_eq_true c3
        clear c3
        by_cases c4 : x5_1 < (l0.length : Int)
        · rw [if_pos c4] at H
          have c4b0 : decide (x5_1 < (l0.length : Int)) = true := decide_eq_true c4
          clear c4
          replace H := Option.bind_eq_some_iff.mp H
          obtain ⟨t102, A50, H⟩ := H
          replace H : (if t102 = true then (some x5_1) else (spec_syRank.l0 k1 l0 l1 (wrap64 (x5_1 + 1)))) = some r := H
          have A5 := Aside0.mk A50
          clear A50
          by_cases c6 : t102 = true
          · subst c6
            have H1 : (some x5_1) = some r := by rw [if_pos rfl] at H; exact H
            clear H
            have H := H1
            clear H1
            obtain rfl := Option.some.inj H
            have p101 : 0 ≤ (x5_1 : Int) := of_decide_eq_true (by first | (with_reducible assumption) | assumption)
            have q101 : x5_1 < (l0.length : Int) := of_decide_eq_true (by first | (with_reducible assumption) | assumption)
            obtain ⟨ad101, A101_0, c101_0, e101, hx101_0, hl101_0, hi101_0⟩ := at_L1 HR0.out x5_1 p101 q101
            cases e101
            have HR101_0 := Aside0.mk hi101_0
            have HC101_0 := Aside0.mk hl101_0
            clear hi101_0 hl101_0
            replace p101 := eq_true p101
            replace q101 := eq_true q101
            go_wp2_with (first | ((with_reducible refine gate_callee (f := 145) rfl ?_); refine goesL_ (some 11) rfl rfl Try.func145 (by kernel_rfl) rfl #[.slice A101_0 (rd_L1 l0 x5_1).length c101_0, .slice A1 l1.length c1] rfl (by (try simp only [List.map_toArray, List.map_cons, List.map_nil]); first | done | rfl | (simp only [List.length_drop, List.length_take]; rfl)) ?_; (with_reducible refine (spec_l1Same.calls k1 _ _ (rd_L1 l0 x5_1) _ _ l1 true _ ?side1 ?side2 ?side3 ?side4 A5.out).mono ?_); (case side1 => repeat (first | exact HR101_0.out | (with_reducible refine Kd.C_alloc ?_ _) | (with_reducible refine Kd.C_drewN ?_ _) | (with_reducible refine Kd.C_drew ?_))); (case side2 => exact HC101_0.out); (case side3 => repeat (first | exact HR1.out | (with_reducible refine Kd.C_alloc ?_ _) | (with_reducible refine Kd.C_drewN ?_ _) | (with_reducible refine Kd.C_drew ?_))); (case side4 => exact HC1.out); rintro e w' ⟨rfl, ⟨nd, rfl⟩⟩; refine ⟨_, rfl, ?_⟩))
            go_ret
            exact ⟨by first | rfl | (simp; done) | (simp [*]; done), by repeat (first | exact Drawn0.refl _ | apply Drawn0.step)⟩
          · replace c6 := Bool.eq_false_iff.mpr c6
            subst c6
            have H1 : (spec_syRank.l0 k1 l0 l1 (wrap64 (x5_1 + 1))) = some r := by rw [if_neg (show ¬ (false = true) by decide)] at H; exact H
            clear H
            have H := H1
            clear H1
            have H' := Aside0.mk H
            clear H
            have p101 : 0 ≤ (x5_1 : Int) := of_decide_eq_true (by first | (with_reducible assumption) | assumption)
            have q101 : x5_1 < (l0.length : Int) := of_decide_eq_true (by first | (with_reducible assumption) | assumption)
            obtain ⟨ad101, A101_0, c101_0, e101, hx101_0, hl101_0, hi101_0⟩ := at_L1 HR0.out x5_1 p101 q101
            cases e101
            have HR101_0 := Aside0.mk hi101_0
            have HC101_0 := Aside0.mk hl101_0
            clear hi101_0 hl101_0
            replace p101 := eq_true p101
            replace q101 := eq_true q101
            go_wp2_with (first | ((with_reducible refine gate_callee (f := 145) rfl ?_); refine goesL_ (some 11) rfl rfl Try.func145 (by kernel_rfl) rfl #[.slice A101_0 (rd_L1 l0 x5_1).length c101_0, .slice A1 l1.length c1] rfl (by (try simp only [List.map_toArray, List.map_cons, List.map_nil]); first | done | rfl | (simp only [List.length_drop, List.length_take]; rfl)) ?_; (with_reducible refine (spec_l1Same.calls k1 _ _ (rd_L1 l0 x5_1) _ _ l1 false _ ?side1 ?side2 ?side3 ?side4 A5.out).mono ?_); (case side1 => repeat (first | exact HR101_0.out | (with_reducible refine Kd.C_alloc ?_ _) | (with_reducible refine Kd.C_drewN ?_ _) | (with_reducible refine Kd.C_drew ?_))); (case side2 => exact HC101_0.out); (case side3 => repeat (first | exact HR1.out | (with_reducible refine Kd.C_alloc ?_ _) | (with_reducible refine Kd.C_drewN ?_ _) | (with_reducible refine Kd.C_drew ?_))); (case side4 => exact HC1.out); rintro e w' ⟨rfl, ⟨nd, rfl⟩⟩; refine ⟨_, rfl, ?_⟩))
            go_roundg k1
            case measure => have := HK1.out; omega
            case rel => exact ⟨(wrap64 (x5_1 + 1)), (by first | rfl | (simp; done) | (simp [*]; done)), H', ⟨by have := HK1.out; omega⟩, by repeat (first | exact Drawn0.refl _ | apply Drawn0.step)⟩
        · rw [if_neg c4] at H
          exact absurd H (by simp)
      · rw [if_neg c3] at H
        exact absurd H (by simp)

/-! ### spec_loAll: function 92 -/
mutual
def spec_loAll.l0 : Nat → Int → Int → List (List Int) → Int → Option ((List (List Int)))
  | 0, _, _, _, _ => none
  | k + 1, x0, x1, x5, x6 => if x6 < x0 then ((spec_loAll.f k x6 (wrap64 (x1 + 1))).bind fun t104 => (spec_loAll.l1 k x0 x1 x5 x6 t104 (t104.length : Int) 0)) else (some x5)
def spec_loAll.l1 : Nat → Int → Int → List (List Int) → Int → List (List Int) → Int → Int → Option ((List (List Int)))
  | 0, _, _, _, _, _, _, _ => none
  | k + 1, x0, x1, x5, x6, x23, x24, x25 => if x25 < x24 then (if 0 ≤ x25 then (if x25 < (x23.length : Int) then ((spec_loAll.f k (wrap64 ((wrap64 (x0 - 1)) - x6)) (wrap64 ((wrap64 (x1 + (wrap64 (2 * x6)))) + 2))).bind fun t108 => (spec_loAll.l2 k x0 x1 x5 x6 (rd_L1 x23 x25) x23 x24 x25 t108 (t108.length : Int) 0)) else (none)) else (none)) else (spec_loAll.l0 k x0 x1 x5 (wrap64 (x6 + 1)))
def spec_loAll.l2 : Nat → Int → Int → List (List Int) → Int → List Int → List (List Int) → Int → Int → List (List Int) → Int → Int → Option ((List (List Int)))
  | 0, _, _, _, _, _, _, _, _, _, _, _ => none
  | k + 1, x0, x1, x5, x6, x8, x23, x24, x25, x38, x39, x40 => if x40 < x39 then (if 0 ≤ x40 then (if x40 < (x38.length : Int) then ((some (([wrap64 ((wrap64 (x1 + (wrap64 (2 * x6)))) + 1)] : List Int) : List Int)).bind fun y112 => (if y112.length + x8.length < 17592186044416 then ((some (y112 ++ x8 : List Int)).bind fun y115 => (if y115.length < 17592186044416 then ((some (y115 ++ [x1] : List Int)).bind fun y118 => (if y118.length + (rd_L1 x38 x40).length < 17592186044416 then (if x5.length < 5864062014805 then (spec_loAll.l2 k x0 x1 (x5 ++ [(y118 ++ (rd_L1 x38 x40))]) x6 x8 x23 x24 x25 x38 x39 (wrap64 (x40 + 1))) else (none)) else (none))) else (none))) else (none))) else (none)) else (none)) else (spec_loAll.l1 k x0 x1 x5 x6 x23 x24 (wrap64 (x25 + 1)))
def spec_loAll.f : Nat → Int → Int → Option ((List (List Int)))
  | 0, _, _ => none
  | k + 1, a0, a1 => if a0 = 0 then (some (([[]] : List (List Int)))) else (spec_loAll.l0 k a0 a1 ([] : List (List Int)) 0)
end
theorem spec_loAll.mono_l : ∀ k, (∀ y0 y1, LeO (spec_loAll.f k y0 y1) (spec_loAll.f (k + 1) y0 y1)) ∧ (∀ y0 y1 y2 y3, LeO (spec_loAll.l0 k y0 y1 y2 y3) (spec_loAll.l0 (k + 1) y0 y1 y2 y3)) ∧ (∀ y0 y1 y2 y3 y4 y5 y6, LeO (spec_loAll.l1 k y0 y1 y2 y3 y4 y5 y6) (spec_loAll.l1 (k + 1) y0 y1 y2 y3 y4 y5 y6)) ∧ (∀ y0 y1 y2 y3 y4 y5 y6 y7 y8 y9 y10, LeO (spec_loAll.l2 k y0 y1 y2 y3 y4 y5 y6 y7 y8 y9 y10) (spec_loAll.l2 (k + 1) y0 y1 y2 y3 y4 y5 y6 y7 y8 y9 y10))
  | 0 => ⟨fun _ _ r h => by simp [spec_loAll.f] at h, fun _ _ _ _ r h => by simp [spec_loAll.l0] at h, fun _ _ _ _ _ _ _ r h => by simp [spec_loAll.l1] at h, fun _ _ _ _ _ _ _ _ _ _ _ r h => by simp [spec_loAll.l2] at h⟩
  | k + 1 => by
    obtain ⟨ih0, ih1, ih2, ih3⟩ := spec_loAll.mono_l k
    refine ⟨?_, ?_, ?_, ?_⟩
    · intro y0 y1
      unfold spec_loAll.f
      repeat' first
      | (with_reducible exact ih0 _ _)
      | (with_reducible exact ih1 _ _ _ _)
      | (with_reducible exact ih2 _ _ _ _ _ _ _)
      | (with_reducible exact ih3 _ _ _ _ _ _ _ _ _ _ _)
      | (with_reducible exact LeO.refl _)
      | (with_reducible exact LeO.none _)
      | (with_reducible refine LeO.ite ?_ ?_)
      | (with_reducible refine LeO.bind ?_ (fun _ => ?_))
      | exact ih0 _ _
      | exact ih1 _ _ _ _
      | exact ih2 _ _ _ _ _ _ _
      | exact ih3 _ _ _ _ _ _ _ _ _ _ _
      | exact LeO.none _
      | refine LeO.ite ?_ ?_
      | refine LeO.bind ?_ (fun _ => ?_)
    · intro y0 y1 y2 y3
      unfold spec_loAll.l0
      repeat' first
      | (with_reducible exact ih0 _ _)
      | (with_reducible exact ih1 _ _ _ _)
      | (with_reducible exact ih2 _ _ _ _ _ _ _)
      | (with_reducible exact ih3 _ _ _ _ _ _ _ _ _ _ _)
      | (with_reducible exact LeO.refl _)
      | (with_reducible exact LeO.none _)
      | (with_reducible refine LeO.ite ?_ ?_)
      | (with_reducible refine LeO.bind ?_ (fun _ => ?_))
      | exact ih0 _ _
      | exact ih1 _ _ _ _
      | exact ih2 _ _ _ _ _ _ _
      | exact ih3 _ _ _ _ _ _ _ _ _ _ _
      | exact LeO.none _
      | refine LeO.ite ?_ ?_
      | refine LeO.bind ?_ (fun _ => ?_)
    · intro y0 y1 y2 y3 y4 y5 y6
      unfold spec_loAll.l1
      repeat' first
      | (with_reducible exact ih0 _ _)
      | (with_reducible exact ih1 _ _ _ _)
      | (with_reducible exact ih2 _ _ _ _ _ _ _)
      | (with_reducible exact ih3 _ _ _ _ _ _ _ _ _ _ _)
      | (with_reducible exact LeO.refl _)
      | (with_reducible exact LeO.none _)
      | (with_reducible refine LeO.ite ?_ ?_)
      | (with_reducible refine LeO.bind ?_ (fun _ => ?_))
      | exact ih0 _ _
      | exact ih1 _ _ _ _
      | exact ih2 _ _ _ _ _ _ _
      | exact ih3 _ _ _ _ _ _ _ _ _ _ _
      | exact LeO.none _
      | refine LeO.ite ?_ ?_
      | refine LeO.bind ?_ (fun _ => ?_)
    · intro y0 y1 y2 y3 y4 y5 y6 y7 y8 y9 y10
      unfold spec_loAll.l2
      repeat' first
      | (with_reducible exact ih0 _ _)
      | (with_reducible exact ih1 _ _ _ _)
      | (with_reducible exact ih2 _ _ _ _ _ _ _)
      | (with_reducible exact ih3 _ _ _ _ _ _ _ _ _ _ _)
      | (with_reducible exact LeO.refl _)
      | (with_reducible exact LeO.none _)
      | (with_reducible refine LeO.ite ?_ ?_)
      | (with_reducible refine LeO.bind ?_ (fun _ => ?_))
      | exact ih0 _ _
      | exact ih1 _ _ _ _
      | exact ih2 _ _ _ _ _ _ _
      | exact ih3 _ _ _ _ _ _ _ _ _ _ _
      | exact LeO.none _
      | refine LeO.ite ?_ ?_
      | refine LeO.bind ?_ (fun _ => ?_)
theorem spec_loAll.mono : ∀ a0 a1  k, LeO (spec_loAll.f k a0 a1) (spec_loAll.f (k + 1) a0 a1) := by
  intro a0 a1 k
  obtain ⟨ih0, ih1, ih2, ih3⟩ := spec_loAll.mono_l k
  exact ih0 a0 a1
set_option maxHeartbeats 8000000 in
set_option maxRecDepth 100000 in
theorem spec_loAll.calls (k : Nat) : ∀ (a0 : Int) (a1 : Int) (r : List (List Int)) (w : World) (h : spec_loAll.f k a0 a1 = some r),
    Calls Try.prog 92 #[.int .i64 a0, .int .i64 a1] w fun e w' => ∃ v0_ : Value, e = .returned (v0_) ∧ Kd.S (Kd.slice 3 (Kd.int .i64)) 22 w' w.heap.size (fun _ => True) v0_ r ∧ Below w.heap.size w w' := by
  induction k using Nat.strongRecOn with
  | _ k ih =>
  intro a0 a1 r w h
  cases k with
  | zero => exact absurd h (by simp [spec_loAll.f])
  | succ k =>
  simp only [spec_loAll.f] at h
  have HB := Aside0.mk (Below.refl w.heap.size w)
  have H : (if a0 = 0 then (some (([[]] : List (List Int)))) else (spec_loAll.l0 k a0 a1 ([] : List (List Int)) 0)) = some r := h
  clear h
  by_cases c3 : a0 = 0
  · rw [if_pos c3] at H
    have c3b0 : (a0 == 0) = true := beq_iff_eq.mpr c3
    have c3b1 : (a0 != 0) = false := bne_eq_false_iff_eq.mpr c3
    clear c3
    obtain ⟨y101, hy101⟩ : ∃ y_ : List (List Int), y_ = (([[]] : List (List Int))) := ⟨_, rfl⟩
    replace H : (some y101) = some r := by first | (rw [hy101]; with_reducible exact H) | (have H2_ := (Option.bind_some _ _).symm.trans H; rw [hy101]; with_reducible exact H2_) | (have H2_ := (Option.bind_some _ _).symm.trans H; with_reducible exact H2_) | with_reducible exact H | (rw [hy101]; exact H) | exact H
    have Ny101 := Aside0.mk hy101
    clear hy101
    obtain rfl := Option.some.inj H
    go_enter Try.func92, Try.ntmps92
    go_wp2_with (first | ((with_reducible refine gate_dst (N := 14) rfl ?_); refine Kd.S_lit (Kd.slice 3 (Kd.int .i64)) _ 22 ?hg (N := 14) ?hd (xs := ([[]] : List (List Int))) (inner := [.slice none 0 0]) (ok := fun _ => True) (okp := fun _ => True) ?hr ?hp (fun _ hk => hk) trivial (Below.refl _ _) (Nat.le_refl _) (by simp) ?_; (case hd => rfl); (case hg => rfl); (case hr => first | (go_simp; done) | (go_simp; rfl)); (case hp => exact (Reps.one (show Kd.M (Kd.slice 3 (Kd.int .i64)) _ _ _ [] [.slice none 0 0] from ⟨_, rfl, Kd.R_nil _ _ _ _ _⟩) (Reps.none _ _))); intro v102 w4 ho5 hb hg_ hnew_; clear hg_ hnew_; (first | rw [← Ny101.out] at ho5 | (simp only [Int.reduceToNat] at ho5; rw [← Ny101.out] at ho5)); have n0_ := Aside0.mk (Kd.S_lower ho5 (below_size (by repeat (first | (with_reducible first | exact HB.out | apply below_alloc | apply pw_below_drewN | apply below_drew1) | exact HB.out)))); have n1_ := Aside0.mk (below_step (by repeat (first | (with_reducible first | exact HB.out | apply below_alloc | apply pw_below_drewN | apply below_drew1) | exact HB.out)) hb); clear HB; have HO103 := n0_; have HB := n1_; clear n0_ n1_; clear hb ho5))
    go_ret
    exact ⟨_, by first | rfl | (simp [errW_none, errW_some] <;> rfl) | (simp [*, errW_none, errW_some] <;> rfl), by (with_reducible repeat (first | apply Kd.S_alloc | apply Kd.S_drewN | apply Kd.S_drew)); exact HO103.out, by repeat (first | (with_reducible first | exact HB.out | apply below_alloc | apply pw_below_drewN | apply below_drew1) | exact HB.out)⟩
  · rw [if_neg c3] at H
    have c3b0 : (a0 == 0) = false := beq_eq_false_iff_ne.mpr c3
    have c3b1 : (a0 != 0) = true := bne_iff_ne.mpr c3
    have H' := Aside0.mk H
    clear H
    go_enter Try.func92, Try.ntmps92
    go_wp2
    go_loopg [5, 6] k (fun kq v5 v6 w' => ∃ (x5_1 : List (List Int)) (x6_1 : Int), v6 = .int .i64 x6_1 ∧ Aside0 (spec_loAll.l0 kq a0 a1 x5_1 x6_1 = some r) ∧ Aside0 (kq ≤ k) ∧ Aside0 (Kd.S (Kd.slice 3 (Kd.int .i64)) 22 w' w.heap.size (fun _ => True) v5 x5_1) ∧ Aside0 (Below w.heap.size w w'))
    case atStart => exact ⟨(([] : List (List Int))), (0), (by first | rfl | (simp; done) | (simp [*]; done)), H', ⟨Nat.le_refl _⟩, ⟨by first | exact Kd.S_nil _ _ _ _ _ | exact Kd.N_nil _ _ _ _ _ | exact Kd.V_nil _ _ _ _ _ | exact Kd.Q_nil _ _ _ _ _ | exact Kd.R_nil _ _ _ _ _⟩, ⟨by repeat (first | (with_reducible first | exact HB.out | apply below_alloc | apply pw_below_drewN | apply below_drew1) | exact HB.out)⟩⟩
    case round =>
      clear H'
      try clear p2
      try clear c3
      try clear c3b0
      try clear c3b1
      obtain ⟨x5_1, x6_1, rfl, HA, HK1, HO_5, HB⟩ := hrel
      cases gk with
      | zero => exact absurd HA.out (by simp [spec_loAll.l0])
      | succ k1 =>
        have H := HA.out
        clear HA
        simp only [spec_loAll.l0] at H
        by_cases c6 : x6_1 < a0
        · rw [if_pos c6] at H
          have c6b0 : decide (x6_1 < a0) = true := decide_eq_true c6
          clear c6
          replace H := Option.bind_eq_some_iff.mp H
          obtain ⟨t104, A70, H⟩ := H
          replace H : (spec_loAll.l1 k1 a0 a1 x5_1 x6_1 t104 (t104.length : Int) 0) = some r := H
          have A7 := Aside0.mk A70
          clear A70
          have H' := Aside0.mk H
          clear H
          go_wp2_with (first | ((with_reducible refine gate_callee (f := 92) rfl ?_); refine goesL_ (some 23) rfl rfl Try.func92 (by kernel_rfl) rfl #[.int .i64 x6_1, .int .i64 (wrap64 (a1 + 1))] rfl (by (try simp only [List.map_toArray, List.map_cons, List.map_nil]); first | done | rfl | (simp only [List.length_drop, List.length_take]; rfl)) ?_; (with_reducible refine (ih k1 (by have := HK1.out; omega) x6_1 (wrap64 (a1 + 1)) t104 _ A7.out).mono ?_); rintro e w8 ⟨v105, rfl, ho0, hb⟩; refine ⟨_, rfl, ?_⟩; have n0_ := Aside0.mk (Kd.S_elder' (by (with_reducible repeat (first | apply Kd.S_alloc | apply Kd.S_drewN | apply Kd.S_drew)); exact HO_5.out) (Kd.S_base ho0) hb); have n1_ := Aside0.mk (Kd.S_lower (Kd.S_new' ho0 (Kd.S_lt (by (with_reducible repeat (first | apply Kd.S_alloc | apply Kd.S_drewN | apply Kd.S_drew)); exact HO_5.out))) (below_size (by repeat (first | (with_reducible first | exact HB.out | apply below_alloc | apply pw_below_drewN | apply below_drew1) | exact HB.out)))); have n2_ := Aside0.mk (below_step (by repeat (first | (with_reducible first | exact HB.out | apply below_alloc | apply pw_below_drewN | apply below_drew1) | exact HB.out)) hb); clear HO_5; clear HB; have HO_5 := n0_; have HO106 := n1_; have HB := n2_; clear n0_ n1_ n2_; (try clear hb); (try clear hb2); (try clear hk); (try clear hi); (try clear ho0); obtain ⟨Ao9, co9, eo9⟩ := Kd.S_slice HO106.out; subst eo9))
          go_loopg [5, 25] k1 (fun kq v5 v25 w' => ∃ (x5_2 : List (List Int)) (x25_2 : Int), v25 = .int .i64 x25_2 ∧ Aside0 (spec_loAll.l1 kq a0 a1 x5_2 x6_1 t104 (t104.length : Int) x25_2 = some r) ∧ Aside0 (kq ≤ k1) ∧ Aside0 (Kd.S (Kd.slice 3 (Kd.int .i64)) 22 w' w.heap.size (fun k_ => some k_ ≠ ((.slice Ao9 t104.length co9) : Value).ownBlock) v5 x5_2) ∧ Aside0 (Kd.S (Kd.slice 3 (Kd.int .i64)) 22 w' w.heap.size (fun k_ => some k_ ≠ (v5 : Value).ownBlock) (.slice Ao9 t104.length co9) t104) ∧ Aside0 (Below w.heap.size w w'))
          case atStart => exact ⟨(x5_1), (0), (by first | rfl | (simp; done) | (simp [*]; done)), H', ⟨Nat.le_refl _⟩, ⟨by (with_reducible repeat (first | apply Kd.S_alloc | apply Kd.S_drewN | apply Kd.S_drew)); exact Kd.S_mono HO_5.out (fun _ hk => hk.2)⟩, ⟨by (with_reducible repeat (first | apply Kd.S_alloc | apply Kd.S_drewN | apply Kd.S_drew)); exact Kd.S_mono HO106.out (fun _ hk => hk.2)⟩, ⟨by repeat (first | (with_reducible first | exact HB.out | apply below_alloc | apply pw_below_drewN | apply below_drew1) | exact HB.out)⟩⟩
          case round =>
            clear H'
            try clear p2
            try clear c3
            try clear c3b0
            try clear c3b1
            try clear c6
            try clear c6b0
            try clear p6
            try clear c9
            try clear p2
            obtain ⟨x5_2, x25_2, rfl, HA, HK2, HO_5, HO_23, HB⟩ := hrel
            cases gk with
            | zero => exact absurd HA.out (by simp [spec_loAll.l1])
            | succ k2 =>
              have H := HA.out
              clear HA
              simp only [spec_loAll.l1] at H
              by_cases c10 : x25_2 < (t104.length : Int)
              · rw [if_pos c10] at H
                have c10b0 : decide (x25_2 < (t104.length : Int)) = true := decide_eq_true c10
                clear c10
                by_cases c11 : 0 ≤ x25_2
                · rw [if_pos c11] at H
                  have c11b0 : decide (0 ≤ x25_2) = true := decide_eq_true c11
                  clear c11
                  by_cases c12 : x25_2 < (t104.length : Int)
                  · rw [if_pos c12] at H
                    have c12b0 : decide (x25_2 < (t104.length : Int)) = true := decide_eq_true c12
                    clear c12
                    replace H := Option.bind_eq_some_iff.mp H
                    obtain ⟨t108, A130, H⟩ := H
                    replace H : (spec_loAll.l2 k2 a0 a1 x5_2 x6_1 (rd_L1 t104 x25_2) t104 (t104.length : Int) x25_2 t108 (t108.length : Int) 0) = some r := H
                    have A13 := Aside0.mk A130
                    clear A130
                    have H' := Aside0.mk H
                    clear H
                    have p107 : 0 ≤ (x25_2 : Int) := of_decide_eq_true (by first | (with_reducible assumption) | assumption)
                    have q107 : x25_2 < (t104.length : Int) := of_decide_eq_true (by first | (with_reducible assumption) | assumption)
                    obtain ⟨ad107, A107_0, c107_0, e107, hx107_0, hl107_0, hi107_0⟩ := at_L1 (Kd.S_reads' HO_23.out).2.2 x25_2 p107 q107
                    cases e107
                    obtain ⟨ce107, hce107, hMe107, hcc107⟩ := Kd.S_get HO_23.out [] x25_2 p107 (by first | exact q107 | exact of_decide_eq_true (by first | (with_reducible assumption) | assumption) | (have e_ := (Kd.S_reads' HO_23.out).1; omega))
                    obtain ⟨ve107_0, rfl, ge107_0⟩ := hMe107
                    have hv107_0 := hcc107 0 _ rfl
                    rw [Nat.add_zero, show ((Kd.slice 3 (Kd.int .i64))).sz = 1 from rfl, Nat.mul_one] at hv107_0
                    replace hv107_0 := Option.some.inj (hv107_0.symm.trans hx107_0)
                    rw [hv107_0] at ge107_0
                    have HL107_0 := Aside0.mk (show Kd.R (Kd.int .i64) 3 _ _ _ _ (rd_L1 t104 x25_2) from ge107_0)
                    clear hv107_0 ge107_0
                    clear hcc107 hce107
                    have HR107_0 := Aside0.mk hi107_0
                    have HC107_0 := Aside0.mk hl107_0
                    clear hi107_0 hl107_0
                    replace p107 := eq_true p107
                    replace q107 := eq_true q107
                    go_wp2_with (first | ((with_reducible refine gate_callee (f := 92) rfl ?_); refine goesL_ (some 38) rfl rfl Try.func92 (by kernel_rfl) rfl #[.int .i64 (wrap64 ((wrap64 (a0 - 1)) - x6_1)), .int .i64 (wrap64 ((wrap64 (a1 + (wrap64 (2 * x6_1)))) + 2))] rfl (by (try simp only [List.map_toArray, List.map_cons, List.map_nil]); first | done | rfl | (simp only [List.length_drop, List.length_take]; rfl)) ?_; (with_reducible refine (ih k2 (by have := HK1.out; have := HK2.out; omega) (wrap64 ((wrap64 (a0 - 1)) - x6_1)) (wrap64 ((wrap64 (a1 + (wrap64 (2 * x6_1)))) + 2)) t108 _ A13.out).mono ?_); rintro e w14 ⟨v109, rfl, ho0, hb⟩; refine ⟨_, rfl, ?_⟩; have n0_ := Aside0.mk (Kd.S_elder' (by (with_reducible repeat (first | apply Kd.S_alloc | apply Kd.S_drewN | apply Kd.S_drew)); exact HO_5.out) (Kd.S_base ho0) hb); have n1_ := Aside0.mk (Kd.S_elder' (by (with_reducible repeat (first | apply Kd.S_alloc | apply Kd.S_drewN | apply Kd.S_drew)); exact HO_23.out) (Kd.S_base ho0) hb); have n2_ := Aside0.mk (Kd.R_elder' (by (with_reducible repeat (first | apply Kd.R_alloc | apply Kd.R_drewN | apply Kd.R_drew)); exact HL107_0.out) (Kd.S_base ho0) hb); have n3_ := Aside0.mk (Kd.S_lower (Kd.S_new' (Kd.S_new' (Kd.S_new' ho0 (Kd.S_lt (by (with_reducible repeat (first | apply Kd.S_alloc | apply Kd.S_drewN | apply Kd.S_drew)); exact HO_5.out))) (Kd.S_lt (by (with_reducible repeat (first | apply Kd.S_alloc | apply Kd.S_drewN | apply Kd.S_drew)); exact HO_23.out))) (Kd.R_lt (by (with_reducible repeat (first | apply Kd.R_alloc | apply Kd.R_drewN | apply Kd.R_drew)); exact HL107_0.out))) (below_size (by repeat (first | (with_reducible first | exact HB.out | apply below_alloc | apply pw_below_drewN | apply below_drew1) | exact HB.out)))); have n4_ := Aside0.mk (Kd.C_below (by repeat (first | (with_reducible exact HR107_0.out) | (with_reducible refine Kd.C_alloc ?_ _) | (with_reducible refine Kd.C_drewN ?_ _) | (with_reducible refine Kd.C_drew ?_) | exact HR107_0.out)) hb); have n5_ := Aside0.mk (below_step (by repeat (first | (with_reducible first | exact HB.out | apply below_alloc | apply pw_below_drewN | apply below_drew1) | exact HB.out)) hb); clear HO_5; clear HO_23; clear HL107_0; clear HR107_0; clear HB; have HO_5 := n0_; have HO_23 := n1_; have HL107_0 := n2_; have HO110 := n3_; have HR107_0 := n4_; have HB := n5_; clear n0_ n1_ n2_ n3_ n4_ n5_; (try clear hb); (try clear hb2); (try clear hk); (try clear hi); (try clear ho0); obtain ⟨Ao15, co15, eo15⟩ := Kd.S_slice HO110.out; subst eo15))
                    go_loopg [5, 40] k2 (fun kq v5 v40 w' => ∃ (x5_3 : List (List Int)) (x40_3 : Int), v40 = .int .i64 x40_3 ∧ Aside0 (spec_loAll.l2 kq a0 a1 x5_3 x6_1 (rd_L1 t104 x25_2) t104 (t104.length : Int) x25_2 t108 (t108.length : Int) x40_3 = some r) ∧ Aside0 (kq ≤ k2) ∧ Aside0 (Kd.S (Kd.slice 3 (Kd.int .i64)) 22 w' w.heap.size (fun k_ => some k_ ≠ ((.slice (some ad107) t104.length co9) : Value).ownBlock ∧ some k_ ≠ ((.slice Ao15 t108.length co15) : Value).ownBlock) v5 x5_3) ∧ Aside0 (Kd.S (Kd.slice 3 (Kd.int .i64)) 22 w' w.heap.size (fun k_ => some k_ ≠ (v5 : Value).ownBlock ∧ some k_ ≠ ((.slice Ao15 t108.length co15) : Value).ownBlock) (.slice (some ad107) t104.length co9) t104) ∧ Aside0 (Kd.R (Kd.int .i64) 3 w' w.heap.size (fun k_ => some k_ ≠ (v5 : Value).ownBlock ∧ some k_ ≠ ((.slice Ao15 t108.length co15) : Value).ownBlock) (.slice A107_0 (rd_L1 t104 x25_2).length c107_0) (rd_L1 t104 x25_2)) ∧ Aside0 (Kd.S (Kd.slice 3 (Kd.int .i64)) 22 w' w.heap.size (fun k_ => some k_ ≠ (v5 : Value).ownBlock ∧ some k_ ≠ ((.slice (some ad107) t104.length co9) : Value).ownBlock) (.slice Ao15 t108.length co15) t108) ∧ Aside0 (Below w.heap.size w w'))
                    case atStart => exact ⟨(x5_2), (0), (by first | rfl | (simp; done) | (simp [*]; done)), H', ⟨Nat.le_refl _⟩, ⟨by (with_reducible repeat (first | apply Kd.S_alloc | apply Kd.S_drewN | apply Kd.S_drew)); exact HO_5.out⟩, ⟨by (with_reducible repeat (first | apply Kd.S_alloc | apply Kd.S_drewN | apply Kd.S_drew)); exact HO_23.out⟩, ⟨by (with_reducible repeat (first | apply Kd.R_alloc | apply Kd.R_drewN | apply Kd.R_drew)); exact Kd.R_mono HL107_0.out (fun _ hk => ⟨hk.1.1, hk.2⟩)⟩, ⟨by (with_reducible repeat (first | apply Kd.S_alloc | apply Kd.S_drewN | apply Kd.S_drew)); exact Kd.S_mono HO110.out (fun _ hk => ⟨hk.1.1.2, hk.1.2⟩)⟩, ⟨by repeat (first | (with_reducible first | exact HB.out | apply below_alloc | apply pw_below_drewN | apply below_drew1) | exact HB.out)⟩⟩
                    case round =>
                      clear H'
                      try clear c1
                      try clear p1
                      try clear q1
                      try clear hx1
                      try clear p2
                      try clear c3
                      try clear c3b0
                      try clear c3b1
                      try clear c6
                      try clear c6b0
                      try clear p6
                      try clear c9
                      try clear c10
                      try clear c10b0
                      try clear p10
                      try clear q10
                      try clear hx10
                      try clear c11
                      try clear c11b0
                      try clear c12
                      try clear c12b0
                      try clear hx107_0
                      try clear p107
                      try clear p2
                      try clear p6
                      try clear q107
                      obtain ⟨x5_3, x40_3, rfl, HA, HK3, HO_5, HO_23, HS_, HO_38, HB⟩ := hrel
                      cases gk with
                      | zero => exact absurd HA.out (by simp [spec_loAll.l2])
                      | succ k3 =>
                        have H := HA.out
                        clear HA
                        simp only [spec_loAll.l2] at H
                        by_cases c16 : x40_3 < (t108.length : Int)
                        · rw [if_pos c16] at H
                          have c16b0 : decide (x40_3 < (t108.length : Int)) = true := decide_eq_true c16
                          clear c16
                          by_cases c17 : 0 ≤ x40_3
                          · rw [if_pos c17] at H
                            have c17b0 : decide (0 ≤ x40_3) = true := decide_eq_true c17
                            clear c17
                            by_cases c18 : x40_3 < (t108.length : Int)
                            · rw [if_pos c18] at H
                              have c18b0 : decide (x40_3 < (t108.length : Int)) = true := decide_eq_true c18
                              clear c18
                              obtain ⟨y112, hy112⟩ : ∃ y_ : List Int, y_ = (([wrap64 ((wrap64 (a1 + (wrap64 (2 * x6_1)))) + 1)] : List Int)) := ⟨_, rfl⟩
                              replace H : (if y112.length + (rd_L1 t104 x25_2).length < 17592186044416 then ((some (y112 ++ (rd_L1 t104 x25_2) : List Int)).bind fun y115 => (if y115.length < 17592186044416 then ((some (y115 ++ [a1] : List Int)).bind fun y118 => (if y118.length + (rd_L1 t108 x40_3).length < 17592186044416 then (if x5_3.length < 5864062014805 then (spec_loAll.l2 k3 a0 a1 (x5_3 ++ [(y118 ++ (rd_L1 t108 x40_3))]) x6_1 (rd_L1 t104 x25_2) t104 (t104.length : Int) x25_2 t108 (t108.length : Int) (wrap64 (x40_3 + 1))) else (none)) else (none))) else (none))) else (none)) = some r := by first | (rw [hy112]; with_reducible exact H) | (have H2_ := (Option.bind_some _ _).symm.trans H; rw [hy112]; with_reducible exact H2_) | (have H2_ := (Option.bind_some _ _).symm.trans H; with_reducible exact H2_) | with_reducible exact H | (rw [hy112]; exact H) | exact H
                              have Ny112 := Aside0.mk hy112
                              clear hy112
                              by_cases c19 : y112.length + (rd_L1 t104 x25_2).length < 17592186044416
                              · rw [if_pos c19] at H
                                have LMc19 := Aside0.mk c19
                                clear c19
                                obtain ⟨y115, hy115⟩ : ∃ y_ : List Int, y_ = (y112 ++ (rd_L1 t104 x25_2)) := ⟨_, rfl⟩
                                replace H : (if y115.length < 17592186044416 then ((some (y115 ++ [a1] : List Int)).bind fun y118 => (if y118.length + (rd_L1 t108 x40_3).length < 17592186044416 then (if x5_3.length < 5864062014805 then (spec_loAll.l2 k3 a0 a1 (x5_3 ++ [(y118 ++ (rd_L1 t108 x40_3))]) x6_1 (rd_L1 t104 x25_2) t104 (t104.length : Int) x25_2 t108 (t108.length : Int) (wrap64 (x40_3 + 1))) else (none)) else (none))) else (none)) = some r := by first | (rw [hy115]; with_reducible exact H) | (have H2_ := (Option.bind_some _ _).symm.trans H; rw [hy115]; with_reducible exact H2_) | (have H2_ := (Option.bind_some _ _).symm.trans H; with_reducible exact H2_) | with_reducible exact H | (rw [hy115]; exact H) | exact H
                                have Ny115 := Aside0.mk hy115
                                clear hy115
                                by_cases c20 : y115.length < 17592186044416
                                · rw [if_pos c20] at H
                                  have LMc20 := Aside0.mk c20
                                  clear c20
                                  obtain ⟨y118, hy118⟩ : ∃ y_ : List Int, y_ = (y115 ++ [a1]) := ⟨_, rfl⟩
                                  replace H : (if y118.length + (rd_L1 t108 x40_3).length < 17592186044416 then (if x5_3.length < 5864062014805 then (spec_loAll.l2 k3 a0 a1 (x5_3 ++ [(y118 ++ (rd_L1 t108 x40_3))]) x6_1 (rd_L1 t104 x25_2) t104 (t104.length : Int) x25_2 t108 (t108.length : Int) (wrap64 (x40_3 + 1))) else (none)) else (none)) = some r := by first | (rw [hy118]; with_reducible exact H) | (have H2_ := (Option.bind_some _ _).symm.trans H; rw [hy118]; with_reducible exact H2_) | (have H2_ := (Option.bind_some _ _).symm.trans H; with_reducible exact H2_) | with_reducible exact H | (rw [hy118]; exact H) | exact H
                                  have Ny118 := Aside0.mk hy118
                                  clear hy118
                                  by_cases c21 : y118.length + (rd_L1 t108 x40_3).length < 17592186044416
                                  · rw [if_pos c21] at H
                                    have LMc21 := Aside0.mk c21
                                    clear c21
                                    obtain ⟨y121, hy121⟩ : ∃ y_ : List Int, y_ = (y118 ++ (rd_L1 t108 x40_3)) := ⟨_, rfl⟩
                                    replace H : (if x5_3.length < 5864062014805 then (spec_loAll.l2 k3 a0 a1 (x5_3 ++ [y121]) x6_1 (rd_L1 t104 x25_2) t104 (t104.length : Int) x25_2 t108 (t108.length : Int) (wrap64 (x40_3 + 1))) else (none)) = some r := by first | (rw [hy121]; with_reducible exact H) | (have H2_ := (Option.bind_some _ _).symm.trans H; rw [hy121]; with_reducible exact H2_) | (have H2_ := (Option.bind_some _ _).symm.trans H; with_reducible exact H2_) | with_reducible exact H | (rw [hy121]; exact H) | exact H
                                    have Ny121 := Aside0.mk hy121
                                    clear hy121
                                    by_cases c22 : x5_3.length < 5864062014805
                                    · rw [if_pos c22] at H
                                      have LMc22 := Aside0.mk c22
                                      clear c22
                                      obtain ⟨y124, hy124⟩ : ∃ y_ : List (List Int), y_ = (x5_3 ++ [y121]) := ⟨_, rfl⟩
                                      replace H : (spec_loAll.l2 k3 a0 a1 y124 x6_1 (rd_L1 t104 x25_2) t104 (t104.length : Int) x25_2 t108 (t108.length : Int) (wrap64 (x40_3 + 1))) = some r := by first | (rw [hy124]; with_reducible exact H) | (have H2_ := (Option.bind_some _ _).symm.trans H; rw [hy124]; with_reducible exact H2_) | (have H2_ := (Option.bind_some _ _).symm.trans H; with_reducible exact H2_) | with_reducible exact H | (rw [hy124]; exact H) | exact H
                                      have Ny124 := Aside0.mk hy124
                                      clear hy124
                                      have H' := Aside0.mk H
                                      clear H
                                      have p111 : 0 ≤ (x40_3 : Int) := of_decide_eq_true (by first | (with_reducible assumption) | assumption)
                                      have q111 : x40_3 < (t108.length : Int) := of_decide_eq_true (by first | (with_reducible assumption) | assumption)
                                      obtain ⟨ad111, A111_0, c111_0, e111, hx111_0, hl111_0, hi111_0⟩ := at_L1 (Kd.S_reads' HO_38.out).2.2 x40_3 p111 q111
                                      cases e111
                                      obtain ⟨ce111, hce111, hMe111, hcc111⟩ := Kd.S_get HO_38.out [] x40_3 p111 (by first | exact q111 | exact of_decide_eq_true (by first | (with_reducible assumption) | assumption) | (have e_ := (Kd.S_reads' HO_38.out).1; omega))
                                      obtain ⟨ve111_0, rfl, ge111_0⟩ := hMe111
                                      have hv111_0 := hcc111 0 _ rfl
                                      rw [Nat.add_zero, show ((Kd.slice 3 (Kd.int .i64))).sz = 1 from rfl, Nat.mul_one] at hv111_0
                                      replace hv111_0 := Option.some.inj (hv111_0.symm.trans hx111_0)
                                      rw [hv111_0] at ge111_0
                                      have HL111_0 := Aside0.mk (show Kd.R (Kd.int .i64) 3 _ _ _ _ (rd_L1 t108 x40_3) from ge111_0)
                                      clear hv111_0 ge111_0
                                      clear hcc111 hce111
                                      have HR111_0 := Aside0.mk hi111_0
                                      have HC111_0 := Aside0.mk hl111_0
                                      clear hi111_0 hl111_0
                                      replace p111 := eq_true p111
                                      replace q111 := eq_true q111
                                      go_wp2_with (first | ((with_reducible refine gate_dst (N := 49) rfl ?_); refine Kd.R_lit (Kd.int .i64) _ 3 ?hg (N := 49) ?hd (xs := ([wrap64 ((wrap64 (a1 + (wrap64 (2 * x6_1)))) + 1)] : List Int)) (inner := [.int .i64 (wrap64 ((wrap64 (a1 + (wrap64 (2 * x6_1)))) + 1))]) (ok := fun _ => True) (okp := fun _ => True) ?hr ?hp (fun _ hk => hk) trivial (Below.refl _ _) (Nat.le_refl _) (by simp) ?_; (case hd => rfl); (case hg => rfl); (case hr => first | (go_simp; done) | (go_simp; rfl)); (case hp => exact (Reps.one (show Kd.M (Kd.int .i64) _ _ _ (wrap64 ((wrap64 (a1 + (wrap64 (2 * x6_1)))) + 1)) [.int .i64 (wrap64 ((wrap64 (a1 + (wrap64 (2 * x6_1)))) + 1))] from rfl) (Reps.none _ _))); intro v113 w23 ho24 hb hg_ hnew_; clear hg_ hnew_; (first | rw [← Ny112.out] at ho24 | (simp only [Int.reduceToNat] at ho24; rw [← Ny112.out] at ho24)); have n0_ := Aside0.mk (Kd.S_elder' (by (with_reducible repeat (first | apply Kd.S_alloc | apply Kd.S_drewN | apply Kd.S_drew)); exact HO_5.out) (Kd.R_base ho24) hb); have n1_ := Aside0.mk (Kd.S_elder' (by (with_reducible repeat (first | apply Kd.S_alloc | apply Kd.S_drewN | apply Kd.S_drew)); exact HO_23.out) (Kd.R_base ho24) hb); have ms_ := Aside0.mk (Kd.R_elder' (by (with_reducible repeat (first | apply Kd.R_alloc | apply Kd.R_drewN | apply Kd.R_drew)); exact HS_.out) (Kd.R_base ho24) hb); have n2_ := Aside0.mk (Kd.S_elder' (by (with_reducible repeat (first | apply Kd.S_alloc | apply Kd.S_drewN | apply Kd.S_drew)); exact HO_38.out) (Kd.R_base ho24) hb); have n3_ := Aside0.mk (Kd.R_elder' (by (with_reducible repeat (first | apply Kd.R_alloc | apply Kd.R_drewN | apply Kd.R_drew)); exact HL111_0.out) (Kd.R_base ho24) hb); have n4_ := Aside0.mk (Kd.R_lower (Kd.R_new' ho24 (Kd.R_lt (by (with_reducible repeat (first | apply Kd.R_alloc | apply Kd.R_drewN | apply Kd.R_drew)); exact HL111_0.out))) (below_size (by repeat (first | (with_reducible first | exact HB.out | apply below_alloc | apply pw_below_drewN | apply below_drew1) | exact HB.out)))); have n5_ := Aside0.mk (Kd.C_below (by repeat (first | (with_reducible exact HR111_0.out) | (with_reducible refine Kd.C_alloc ?_ _) | (with_reducible refine Kd.C_drewN ?_ _) | (with_reducible refine Kd.C_drew ?_) | exact HR111_0.out)) hb); have n6_ := Aside0.mk (below_step (by repeat (first | (with_reducible first | exact HB.out | apply below_alloc | apply pw_below_drewN | apply below_drew1) | exact HB.out)) hb); clear HO_5; clear HO_23; clear HS_; clear HO_38; clear HL111_0; clear HR111_0; clear HB; have HO_5 := n0_; have HO_23 := n1_; have HS_ := ms_; clear ms_; have HO_38 := n2_; have HL111_0 := n3_; have HO114 := n4_; have HR111_0 := n5_; have HB := n6_; clear n0_ n1_ n2_ n3_ n4_ n5_ n6_; clear hb ho24) | ((with_reducible refine gate_builtin (b := .append) (xs := #[.tmp 49, .tmp 50]) rfl ?_); at_builtin; refine Kd.R_append_rows (Kd.int .i64) (w0 := w) w.heap.size rfl (.tmp 49) (.tmp 50) 22 3 (.int .i64 0) 8 rfl Try.underlying22 info3 rfl (by decide) (by omega) v113 y112 (rd_L1 t104 x25_2) _ _ _ (fun k_ => some k_ ≠ (.slice A111_0 (rd_L1 t108 x40_3).length c111_0 : Value).ownBlock) (fun _ => False) rfl rfl ?aO ?aR (fun _ _ h => h) (fun _ h => h.elim) ?aF ?aB ?aS ?aL ?_; (case aR => repeat (first | exact (Kd.R_reads' HS_.out).2.2 | (with_reducible refine Kd.C_alloc ?_ _) | (with_reducible refine Kd.C_drewN ?_ _) | (with_reducible refine Kd.C_drew ?_))); (case aB => exact (by repeat (first | (with_reducible first | exact HB.out | apply below_alloc | apply pw_below_drewN | apply below_drew1) | exact HB.out))); (case aF => exact (fun k_ hk => Kd.fresh' (Kd.R_lt (by (with_reducible repeat (first | apply Kd.R_alloc | apply Kd.R_drewN | apply Kd.R_drew)); exact HL111_0.out)) k_ hk)); (case aO => exact (by (with_reducible repeat (first | apply Kd.R_alloc | apply Kd.R_drewN | apply Kd.R_drew)); exact Kd.R_mono HO114.out (fun _ hk => hk.2))); (case aS => exact (below_size (by repeat (first | (with_reducible first | exact HB.out | apply below_alloc | apply pw_below_drewN | apply below_drew1) | exact HB.out)))); (case aL => have := LMc19.out; omega); intro v116 w25 ho hb hg hat; rw [← Ny115.out] at ho; have n0_ := Aside0.mk (Kd.S_after (ok := (fun k_ => some k_ ≠ (.slice (some ad107) t104.length co9 : Value).ownBlock ∧ some k_ ≠ (.slice (some ad111) t108.length co15 : Value).ownBlock)) (by (with_reducible repeat (first | apply Kd.S_alloc | apply Kd.S_drewN | apply Kd.S_drew)); exact HO_5.out) hg hat); have n1_ := Aside0.mk (Kd.S_after (ok := (fun k_ => some k_ ≠ (u5 : Value).ownBlock ∧ some k_ ≠ (.slice (some ad111) t108.length co15 : Value).ownBlock)) (by (with_reducible repeat (first | apply Kd.S_alloc | apply Kd.S_drewN | apply Kd.S_drew)); exact HO_23.out) hg hat); have ms_ := Aside0.mk (Kd.R_after (ok := (fun k_ => some k_ ≠ (u5 : Value).ownBlock ∧ some k_ ≠ (.slice (some ad111) t108.length co15 : Value).ownBlock)) (by (with_reducible repeat (first | apply Kd.R_alloc | apply Kd.R_drewN | apply Kd.R_drew)); exact HS_.out) hg hat); have n2_ := Aside0.mk (Kd.S_after (ok := (fun k_ => some k_ ≠ (u5 : Value).ownBlock ∧ some k_ ≠ (.slice (some ad107) t104.length co9 : Value).ownBlock)) (by (with_reducible repeat (first | apply Kd.S_alloc | apply Kd.S_drewN | apply Kd.S_drew)); exact HO_38.out) hg hat); have n3_ := Aside0.mk (Kd.R_after (ok := (fun k_ => some k_ ≠ (u5 : Value).ownBlock ∧ some k_ ≠ (.slice (some ad107) t104.length co9 : Value).ownBlock ∧ some k_ ≠ (.slice (some ad111) t108.length co15 : Value).ownBlock)) (by (with_reducible repeat (first | apply Kd.R_alloc | apply Kd.R_drewN | apply Kd.R_drew)); exact Kd.R_mono HL111_0.out (fun _ hk => ⟨⟨hk.1.1.1, ⟨hk.1.1.2, hk.1.2⟩⟩, hk.2⟩)) hg hat); have n4_ := Aside0.mk (hb); have n5_ := Aside0.mk (ho); clear HO_5; clear HO_23; clear HS_; clear HO_38; clear HL111_0; clear HB; clear HO114; have HO_5 := n0_; have HO_23 := n1_; have HS_ := ms_; clear ms_; have HO_38 := n2_; have HL111_0 := n3_; have HB := n4_; have HO117 := n5_; clear n0_ n1_ n2_ n3_ n4_ n5_; clear ho hb hg hat) | ((with_reducible refine gate_builtin (b := .append) (xs := #[.tmp 52, .tmp 54]) rfl ?_); at_builtin; refine Kd.R_append (Kd.int .i64) (w0 := w) w.heap.size rfl (.tmp 52) (.tmp 54) 22 3 (.int .i64 0) 8 rfl Try.underlying22 info3 rfl (by decide) (by omega) v116 y115 a1 [.int .i64 a1] (fun k_ => some k_ ≠ (.slice A111_0 (rd_L1 t108 x40_3).length c111_0 : Value).ownBlock) (fun _ => False) rfl rfl ?aP (fun _ hk => hk.elim) ?aF ?aO ?aB ?aS ?aL ?_; (case aP => exact rfl); (case aB => exact (by repeat (first | (with_reducible first | exact HB.out | apply below_alloc | apply pw_below_drewN | apply below_drew1) | exact HB.out))); (case aF => exact (fun k_ hk => Kd.fresh' (Kd.R_lt (by (with_reducible repeat (first | apply Kd.R_alloc | apply Kd.R_drewN | apply Kd.R_drew)); exact HL111_0.out)) k_ hk)); (case aO => exact (by (with_reducible repeat (first | apply Kd.R_alloc | apply Kd.R_drewN | apply Kd.R_drew)); exact HO117.out)); (case aS => exact (below_size (by repeat (first | (with_reducible first | exact HB.out | apply below_alloc | apply pw_below_drewN | apply below_drew1) | exact HB.out)))); (case aL => have := LMc20.out; omega); intro v119 w26 ho hb hg hat; rw [← Ny118.out] at ho; have n0_ := Aside0.mk (Kd.S_after (ok := (fun k_ => some k_ ≠ (.slice (some ad107) t104.length co9 : Value).ownBlock ∧ some k_ ≠ (.slice (some ad111) t108.length co15 : Value).ownBlock)) (by (with_reducible repeat (first | apply Kd.S_alloc | apply Kd.S_drewN | apply Kd.S_drew)); exact HO_5.out) hg hat); have n1_ := Aside0.mk (Kd.S_after (ok := (fun k_ => some k_ ≠ (u5 : Value).ownBlock ∧ some k_ ≠ (.slice (some ad111) t108.length co15 : Value).ownBlock)) (by (with_reducible repeat (first | apply Kd.S_alloc | apply Kd.S_drewN | apply Kd.S_drew)); exact HO_23.out) hg hat); have ms_ := Aside0.mk (Kd.R_after (ok := (fun k_ => some k_ ≠ (u5 : Value).ownBlock ∧ some k_ ≠ (.slice (some ad111) t108.length co15 : Value).ownBlock)) (by (with_reducible repeat (first | apply Kd.R_alloc | apply Kd.R_drewN | apply Kd.R_drew)); exact HS_.out) hg hat); have n2_ := Aside0.mk (Kd.S_after (ok := (fun k_ => some k_ ≠ (u5 : Value).ownBlock ∧ some k_ ≠ (.slice (some ad107) t104.length co9 : Value).ownBlock)) (by (with_reducible repeat (first | apply Kd.S_alloc | apply Kd.S_drewN | apply Kd.S_drew)); exact HO_38.out) hg hat); have n3_ := Aside0.mk (Kd.R_after (ok := (fun k_ => some k_ ≠ (u5 : Value).ownBlock ∧ some k_ ≠ (.slice (some ad107) t104.length co9 : Value).ownBlock ∧ some k_ ≠ (.slice (some ad111) t108.length co15 : Value).ownBlock)) (by (with_reducible repeat (first | apply Kd.R_alloc | apply Kd.R_drewN | apply Kd.R_drew)); exact HL111_0.out) hg hat); have n4_ := Aside0.mk (hb); have n5_ := Aside0.mk (ho); clear HO_5; clear HO_23; clear HS_; clear HO_38; clear HL111_0; clear HB; clear HO117; have HO_5 := n0_; have HO_23 := n1_; have HS_ := ms_; clear ms_; have HO_38 := n2_; have HL111_0 := n3_; have HB := n4_; have HO120 := n5_; clear n0_ n1_ n2_ n3_ n4_ n5_; clear ho hb hg hat) | ((with_reducible refine gate_builtin (b := .append) (xs := #[.tmp 57, .tmp 58]) rfl ?_); at_builtin; refine Kd.R_append_rows (Kd.int .i64) (w0 := w) w.heap.size rfl (.tmp 57) (.tmp 58) 22 3 (.int .i64 0) 8 rfl Try.underlying22 info3 rfl (by decide) (by omega) v119 y118 (rd_L1 t108 x40_3) _ _ _ (fun k_ => some k_ ≠ (.slice A111_0 (rd_L1 t108 x40_3).length c111_0 : Value).ownBlock) (fun _ => False) rfl rfl ?aO ?aR (fun _ _ h => h) (fun _ h => h.elim) ?aF ?aB ?aS ?aL ?_; (case aR => repeat (first | exact ((Kd.R_reads' (by (with_reducible repeat (first | apply Kd.R_alloc | apply Kd.R_drewN | apply Kd.R_drew)); exact HL111_0.out)).2.2) | (with_reducible refine Kd.C_alloc ?_ _) | (with_reducible refine Kd.C_drewN ?_ _) | (with_reducible refine Kd.C_drew ?_))); (case aB => exact (by repeat (first | (with_reducible first | exact HB.out | apply below_alloc | apply pw_below_drewN | apply below_drew1) | exact HB.out))); (case aF => exact (fun k_ hk => Kd.fresh' (Kd.R_lt (by (with_reducible repeat (first | apply Kd.R_alloc | apply Kd.R_drewN | apply Kd.R_drew)); exact HL111_0.out)) k_ hk)); (case aO => exact (by (with_reducible repeat (first | apply Kd.R_alloc | apply Kd.R_drewN | apply Kd.R_drew)); exact HO120.out)); (case aS => exact (below_size (by repeat (first | (with_reducible first | exact HB.out | apply below_alloc | apply pw_below_drewN | apply below_drew1) | exact HB.out)))); (case aL => have := LMc21.out; omega); intro v122 w27 ho hb hg hat; rw [← Ny121.out] at ho; have n0_ := Aside0.mk (Kd.S_after (ok := (fun k_ => some k_ ≠ (.slice (some ad107) t104.length co9 : Value).ownBlock ∧ some k_ ≠ (.slice (some ad111) t108.length co15 : Value).ownBlock)) (by (with_reducible repeat (first | apply Kd.S_alloc | apply Kd.S_drewN | apply Kd.S_drew)); exact HO_5.out) hg hat); have n1_ := Aside0.mk (Kd.S_after (ok := (fun k_ => some k_ ≠ (u5 : Value).ownBlock ∧ some k_ ≠ (.slice (some ad111) t108.length co15 : Value).ownBlock)) (by (with_reducible repeat (first | apply Kd.S_alloc | apply Kd.S_drewN | apply Kd.S_drew)); exact HO_23.out) hg hat); have ms_ := Aside0.mk (Kd.R_after (ok := (fun k_ => some k_ ≠ (u5 : Value).ownBlock ∧ some k_ ≠ (.slice (some ad111) t108.length co15 : Value).ownBlock)) (by (with_reducible repeat (first | apply Kd.R_alloc | apply Kd.R_drewN | apply Kd.R_drew)); exact HS_.out) hg hat); have n2_ := Aside0.mk (Kd.S_after (ok := (fun k_ => some k_ ≠ (u5 : Value).ownBlock ∧ some k_ ≠ (.slice (some ad107) t104.length co9 : Value).ownBlock)) (by (with_reducible repeat (first | apply Kd.S_alloc | apply Kd.S_drewN | apply Kd.S_drew)); exact HO_38.out) hg hat); have n3_ := Aside0.mk (Kd.R_after (ok := (fun k_ => some k_ ≠ (u5 : Value).ownBlock ∧ some k_ ≠ (.slice (some ad107) t104.length co9 : Value).ownBlock ∧ some k_ ≠ (.slice (some ad111) t108.length co15 : Value).ownBlock)) (by (with_reducible repeat (first | apply Kd.R_alloc | apply Kd.R_drewN | apply Kd.R_drew)); exact HL111_0.out) hg hat); have n4_ := Aside0.mk (hb); have n5_ := Aside0.mk (ho); clear HO_5; clear HO_23; clear HS_; clear HO_38; clear HL111_0; clear HB; clear HO120; have HO_5 := n0_; have HO_23 := n1_; have HS_ := ms_; clear ms_; have HO_38 := n2_; have HL111_0 := n3_; have HB := n4_; have HO123 := n5_; clear n0_ n1_ n2_ n3_ n4_ n5_; clear ho hb hg hat; obtain ⟨Ao29, co29, eo29⟩ := Kd.R_slice HO123.out; subst eo29) | ((with_reducible refine gate_builtin (b := .append) (xs := #[.tmp 56, .tmp 60]) rfl ?_); at_builtin; refine Kd.S_append (Kd.slice 3 (Kd.int .i64)) (w0 := w) w.heap.size rfl (.tmp 56) (.tmp 60) 39 22 (.slice none 0 0) 24 rfl Try.underlying39 info22 rfl (by decide) (by omega) u5 x5_3 y121 [.slice Ao29 y121.length co29] (fun k_ => some k_ ≠ (.slice (some ad107) t104.length co9 : Value).ownBlock ∧ some k_ ≠ (.slice (some ad111) t108.length co15 : Value).ownBlock) (fun k_ => some k_ = (.slice Ao29 y121.length co29 : Value).ownBlock) rfl rfl ?aP (fun k_ hk_ => ((Kd.R_mono (ok' := fun k_ => ((fun k_ => some k_ ≠ (.slice (some ad107) t104.length co9 : Value).ownBlock ∧ some k_ ≠ (.slice (some ad111) t108.length co15 : Value).ownBlock)) k_ ∧ some k_ ≠ (u5 : Value).ownBlock) (Kd.R_apart' (Kd.R_apart' (Kd.R_apart' (HO123.out) (Kd.S_typed HO_23.out) (by decide)) (Kd.S_typed HO_38.out) (by decide)) (Kd.S_typed HO_5.out) (by decide)) (fun k_ hk => ⟨⟨hk.1.1.2, hk.1.2⟩, hk.2⟩))).1 k_ hk_.symm) ?aF ?aO ?aB ?aS ?aL ?_; (case aP => exact Kd.M_row (Kd.R_mono (Kd.R_tight rfl (Kd.R_mono (ok' := fun k_ => ((fun k_ => some k_ ≠ (.slice (some ad107) t104.length co9 : Value).ownBlock ∧ some k_ ≠ (.slice (some ad111) t108.length co15 : Value).ownBlock)) k_ ∧ some k_ ≠ (u5 : Value).ownBlock) (Kd.R_apart' (Kd.R_apart' (Kd.R_apart' (HO123.out) (Kd.S_typed HO_23.out) (by decide)) (Kd.S_typed HO_38.out) (by decide)) (Kd.S_typed HO_5.out) (by decide)) (fun k_ hk => ⟨⟨hk.1.1.2, hk.1.2⟩, hk.2⟩))) (fun _ h_ => h_))); (case aB => exact (by repeat (first | (with_reducible first | exact HB.out | apply below_alloc | apply pw_below_drewN | apply below_drew1) | exact HB.out))); (case aF => exact (fun k_ hk => ⟨Kd.fresh' (Kd.S_lt (by (with_reducible repeat (first | apply Kd.S_alloc | apply Kd.S_drewN | apply Kd.S_drew)); exact HO_23.out)) k_ hk, Kd.fresh' (Kd.S_lt (by (with_reducible repeat (first | apply Kd.S_alloc | apply Kd.S_drewN | apply Kd.S_drew)); exact HO_38.out)) k_ hk⟩)); (case aO => exact (by (with_reducible repeat (first | apply Kd.S_alloc | apply Kd.S_drewN | apply Kd.S_drew)); exact Kd.S_mono HO_5.out (fun k_ hk => ⟨⟨hk.1.1, hk.1.2⟩, fun e_ => hk.2 e_⟩))); (case aS => exact (below_size (by repeat (first | (with_reducible first | exact HB.out | apply below_alloc | apply pw_below_drewN | apply below_drew1) | exact HB.out)))); (case aL => have := LMc22.out; omega); intro v125 w28 ho hb hg hat; rw [← Ny124.out] at ho; have n0_ := Aside0.mk (Kd.S_after (ok := (fun k_ => some k_ ≠ (.slice (some ad111) t108.length co15 : Value).ownBlock ∧ some k_ ≠ (.slice Ao29 y121.length co29 : Value).ownBlock)) (by (with_reducible repeat (first | apply Kd.S_alloc | apply Kd.S_drewN | apply Kd.S_drew)); exact Kd.S_mono HO_23.out (fun _ hk => ⟨⟨hk.1.2, hk.2⟩, hk.1.1⟩)) hg hat); have ms_ := Aside0.mk (Kd.R_after (ok := (fun k_ => some k_ ≠ (.slice (some ad111) t108.length co15 : Value).ownBlock ∧ some k_ ≠ (.slice Ao29 y121.length co29 : Value).ownBlock)) (by (with_reducible repeat (first | apply Kd.R_alloc | apply Kd.R_drewN | apply Kd.R_drew)); exact Kd.R_mono HS_.out (fun _ hk => ⟨⟨hk.1.2, hk.2⟩, hk.1.1⟩)) hg hat); have n1_ := Aside0.mk (Kd.S_after (ok := (fun k_ => some k_ ≠ (.slice (some ad107) t104.length co9 : Value).ownBlock ∧ some k_ ≠ (.slice Ao29 y121.length co29 : Value).ownBlock)) (by (with_reducible repeat (first | apply Kd.S_alloc | apply Kd.S_drewN | apply Kd.S_drew)); exact Kd.S_mono HO_38.out (fun _ hk => ⟨⟨hk.1.2, hk.2⟩, hk.1.1⟩)) hg hat); have n2_ := Aside0.mk (Kd.R_after (ok := (fun k_ => some k_ ≠ (.slice (some ad107) t104.length co9 : Value).ownBlock ∧ some k_ ≠ (.slice (some ad111) t108.length co15 : Value).ownBlock ∧ some k_ ≠ (.slice Ao29 y121.length co29 : Value).ownBlock)) (by (with_reducible repeat (first | apply Kd.R_alloc | apply Kd.R_drewN | apply Kd.R_drew)); exact Kd.R_mono HL111_0.out (fun _ hk => ⟨⟨hk.1.2.1, ⟨hk.1.2.2, hk.2⟩⟩, hk.1.1⟩)) hg hat); have n3_ := Aside0.mk (hb); have n4_ := Aside0.mk (ho); clear HO_23; clear HS_; clear HO_38; clear HL111_0; clear HB; clear HO_5; clear HO123; have HO_23 := n0_; have HS_ := ms_; clear ms_; have HO_38 := n1_; have HL111_0 := n2_; have HB := n3_; have HO126 := n4_; clear n0_ n1_ n2_ n3_ n4_; clear ho hb hg hat))
                                      go_roundg k3
                                      case measure => have := HK1.out; have := HK2.out; have := HK3.out; omega
                                      case rel => exact ⟨(y124), (wrap64 (x40_3 + 1)), (by first | rfl | (simp; done) | (simp [*]; done)), H', ⟨by have := HK1.out; have := HK2.out; have := HK3.out; omega⟩, ⟨by (with_reducible repeat (first | apply Kd.S_alloc | apply Kd.S_drewN | apply Kd.S_drew)); exact HO126.out⟩, ⟨by (with_reducible repeat (first | apply Kd.S_alloc | apply Kd.S_drewN | apply Kd.S_drew)); exact Kd.S_mono HO_23.out (fun _ hk => ⟨hk.2, hk.1.1⟩)⟩, ⟨by (with_reducible repeat (first | apply Kd.R_alloc | apply Kd.R_drewN | apply Kd.R_drew)); exact Kd.R_mono HS_.out (fun _ hk => ⟨hk.2, hk.1.1⟩)⟩, ⟨by (with_reducible repeat (first | apply Kd.S_alloc | apply Kd.S_drewN | apply Kd.S_drew)); exact Kd.S_mono HO_38.out (fun _ hk => ⟨hk.2, hk.1.1⟩)⟩, ⟨by repeat (first | (with_reducible first | exact HB.out | apply below_alloc | apply pw_below_drewN | apply below_drew1) | exact HB.out)⟩⟩
                                    · rw [if_neg c22] at H
                                      exact absurd H (by simp)
                                  · rw [if_neg c21] at H
                                    exact absurd H (by simp)
                                · rw [if_neg c20] at H
                                  exact absurd H (by simp)
                              · rw [if_neg c19] at H
                                exact absurd H (by simp)
                            · rw [if_neg c18] at H
                              exact absurd H (by simp)
                          · rw [if_neg c17] at H
                            exact absurd H (by simp)
                        · rw [if_neg c16] at H
                          have c16b0 : decide (x40_3 < (t108.length : Int)) = false := decide_eq_false c16
                          clear c16
                          have H' := Aside0.mk H
                          clear H
                          go_wp2
                          go_roundg k3
                          case measure => have := HK1.out; have := HK2.out; have := HK3.out; omega
                          case rel => exact ⟨(x5_3), (wrap64 (x25_2 + 1)), (by first | rfl | (simp; done) | (simp [*]; done)), H', ⟨by have := HK1.out; have := HK2.out; have := HK3.out; omega⟩, ⟨by (with_reducible repeat (first | apply Kd.S_alloc | apply Kd.S_drewN | apply Kd.S_drew)); exact Kd.S_mono HO_5.out (fun _ hk => hk.1)⟩, ⟨by (with_reducible repeat (first | apply Kd.S_alloc | apply Kd.S_drewN | apply Kd.S_drew)); exact Kd.S_mono HO_23.out (fun _ hk => hk.1)⟩, ⟨by repeat (first | (with_reducible first | exact HB.out | apply below_alloc | apply pw_below_drewN | apply below_drew1) | exact HB.out)⟩⟩
                  · rw [if_neg c12] at H
                    exact absurd H (by simp)
                · rw [if_neg c11] at H
                  exact absurd H (by simp)
              · rw [if_neg c10] at H
                have c10b0 : decide (x25_2 < (t104.length : Int)) = false := decide_eq_false c10
                clear c10
                have H' := Aside0.mk H
                clear H
                go_wp2
                go_roundg k2
                case measure => have := HK1.out; have := HK2.out; omega
                case rel => exact ⟨(x5_2), (wrap64 (x6_1 + 1)), (by first | rfl | (simp; done) | (simp [*]; done)), H', ⟨by have := HK1.out; have := HK2.out; omega⟩, ⟨by (with_reducible repeat (first | apply Kd.S_alloc | apply Kd.S_drewN | apply Kd.S_drew)); exact Kd.S_mono HO_5.out (fun _ hk => trivial)⟩, ⟨by repeat (first | (with_reducible first | exact HB.out | apply below_alloc | apply pw_below_drewN | apply below_drew1) | exact HB.out)⟩⟩
        · rw [if_neg c6] at H
          have c6b0 : decide (x6_1 < a0) = false := decide_eq_false c6
          clear c6
          obtain rfl := Option.some.inj H
          go_wp2
          go_ret
          exact ⟨_, by first | rfl | (simp [errW_none, errW_some] <;> rfl) | (simp [*, errW_none, errW_some] <;> rfl), by (with_reducible repeat (first | apply Kd.S_alloc | apply Kd.S_drewN | apply Kd.S_drew)); exact HO_5.out, by repeat (first | (with_reducible first | exact HB.out | apply below_alloc | apply pw_below_drewN | apply below_drew1) | exact HB.out)⟩

/-! ### spec_l1Own: function 105 -/
def spec_l1Own.f (l0 : List Int) : Option (List Int) := (some (([] : List Int) : List Int)).bind fun y101 => (if y101.length + l0.length < 17592186044416 then (some (y101 ++ l0)) else (none))
set_option maxHeartbeats 8000000 in
set_option maxRecDepth 100000 in
theorem spec_l1Own.calls (A0 : Option Addr) (c0 : Nat) (l0 : List Int) (r : List Int) (w : World) (hr0 : Kd.C (Kd.int .i64) w A0 l0.length l0) (hc0 : l0.length ≤ c0) (h : spec_l1Own.f l0 = some r) :
    Calls Try.prog 105 #[.slice A0 l0.length c0] w fun e w' => ∃ v0_ : Value, e = .returned (v0_) ∧ Kd.R (Kd.int .i64) 3 w' w.heap.size (fun _ => True) v0_ r ∧ Below w.heap.size w w' := by
  have HR0 := Aside0.mk hr0
  have HC0 := Aside0.mk hc0
  clear hr0 hc0
  have HB := Aside0.mk (Below.refl w.heap.size w)
  have H : ((some (([] : List Int) : List Int)).bind fun y101 => (if y101.length + l0.length < 17592186044416 then (some (y101 ++ l0)) else (none))) = some r := h
  clear h
  obtain ⟨y101, hy101⟩ : ∃ y_ : List Int, y_ = (([] : List Int)) := ⟨_, rfl⟩
  replace H : (if y101.length + l0.length < 17592186044416 then (some (y101 ++ l0)) else (none)) = some r := by first | (rw [hy101]; with_reducible exact H) | (have H2_ := (Option.bind_some _ _).symm.trans H; rw [hy101]; with_reducible exact H2_) | (have H2_ := (Option.bind_some _ _).symm.trans H; with_reducible exact H2_) | with_reducible exact H | (rw [hy101]; exact H) | exact H
  have Ny101 := Aside0.mk hy101
  clear hy101
  by_cases c2 : y101.length + l0.length < 17592186044416
  · rw [if_pos c2] at H
    have LMc2 := Aside0.mk c2
    clear c2
    obtain ⟨y104, hy104⟩ : ∃ y_ : List Int, y_ = (y101 ++ l0) := ⟨_, rfl⟩
    replace H : (some y104) = some r := by first | (rw [hy104]; with_reducible exact H) | (have H2_ := (Option.bind_some _ _).symm.trans H; rw [hy104]; with_reducible exact H2_) | (have H2_ := (Option.bind_some _ _).symm.trans H; with_reducible exact H2_) | with_reducible exact H | (rw [hy104]; exact H) | exact H
    have Ny104 := Aside0.mk hy104
    clear hy104
    obtain rfl := Option.some.inj H
    go_enter Try.func105, Try.ntmps105
    go_wp2_with (first | ((with_reducible refine gate_dst (N := 3) rfl ?_); refine Kd.R_lit (Kd.int .i64) _ 3 ?hg (N := 3) ?hd (xs := ([] : List Int)) (inner := []) (ok := fun _ => True) (okp := fun _ => True) ?hr ?hp (fun _ hk => hk) trivial (Below.refl _ _) (Nat.le_refl _) (by simp) ?_; (case hd => rfl); (case hg => rfl); (case hr => first | (go_simp; done) | (go_simp; rfl)); (case hp => exact (Reps.none _ _)); intro v102 w3 ho4 hb hg_ hnew_; clear hg_ hnew_; (first | rw [← Ny101.out] at ho4 | (simp only [Int.reduceToNat] at ho4; rw [← Ny101.out] at ho4)); have n0_ := Aside0.mk (Kd.R_lower ho4 (below_size (by repeat (first | (with_reducible first | exact HB.out | apply below_alloc | apply pw_below_drewN | apply below_drew1) | exact HB.out)))); have n1_ := Aside0.mk (below_step (by repeat (first | (with_reducible first | exact HB.out | apply below_alloc | apply pw_below_drewN | apply below_drew1) | exact HB.out)) hb); clear HB; have HO103 := n0_; have HB := n1_; clear n0_ n1_; clear hb ho4) | ((with_reducible refine gate_builtin (b := .append) (xs := #[.tmp 3, .tmp 4]) rfl ?_); at_builtin; refine Kd.R_append_rows (Kd.int .i64) (w0 := w) w.heap.size rfl (.tmp 3) (.tmp 4) 22 3 (.int .i64 0) 8 rfl Try.underlying22 info3 rfl (by decide) (by omega) v102 y101 l0 _ _ _ (fun _ => True) (fun _ => False) rfl rfl ?aO ?aR (fun _ _ h => h) (fun _ h => h.elim) ?aF ?aB ?aS ?aL ?_; (case aR => repeat (first | exact (Kd.C_below HR0.out HB.out) | (with_reducible refine Kd.C_alloc ?_ _) | (with_reducible refine Kd.C_drewN ?_ _) | (with_reducible refine Kd.C_drew ?_))); (case aB => exact (by repeat (first | (with_reducible first | exact HB.out | apply below_alloc | apply pw_below_drewN | apply below_drew1) | exact HB.out))); (case aF => exact (fun _ _ => trivial)); (case aO => exact (by (with_reducible repeat (first | apply Kd.R_alloc | apply Kd.R_drewN | apply Kd.R_drew)); exact HO103.out)); (case aS => exact (below_size (by repeat (first | (with_reducible first | exact HB.out | apply below_alloc | apply pw_below_drewN | apply below_drew1) | exact HB.out)))); (case aL => have := LMc2.out; omega); intro v105 w5 ho hb hg hat; rw [← Ny104.out] at ho; have n0_ := Aside0.mk (hb); have n1_ := Aside0.mk (ho); clear HB; clear HO103; have HB := n0_; have HO106 := n1_; clear n0_ n1_; clear ho hb hg hat))
    go_ret
    exact ⟨_, by first | rfl | (simp [errW_none, errW_some] <;> rfl) | (simp [*, errW_none, errW_some] <;> rfl), by (with_reducible repeat (first | apply Kd.R_alloc | apply Kd.R_drewN | apply Kd.R_drew)); exact HO106.out, by repeat (first | (with_reducible first | exact HB.out | apply below_alloc | apply pw_below_drewN | apply below_drew1) | exact HB.out)⟩
  · rw [if_neg c2] at H
    exact absurd H (by simp)

/-! ### spec_syJoin: function 99 -/
def spec_syJoin.f (l0 : List Int) (a1 : Int) : Option (List Int) := if (l0.length : Int) = 0 then (none) else (if 0 ≤ a1 then (if a1 < (l0.length : Int) then (if (rd l0 a1) = (Int.tmod (wrap64 (a1 + 1)) (l0.length : Int)) then ((spec_l1Own.f l0).bind fun t102 => (some t102)) else (if 0 ≤ (Int.tmod (wrap64 (a1 + 1)) (l0.length : Int)) then (if (Int.tmod (wrap64 (a1 + 1)) (l0.length : Int)) < (l0.length : Int) then ((spec_l1Own.f l0).bind fun t107 => (if a1 < (t107.length : Int) then (if (Int.tmod (wrap64 (a1 + 1)) (l0.length : Int)) < (t107.length : Int) then (if 0 ≤ (rd l0 a1) then (if (rd l0 a1) < (t107.length : Int) then (if 0 ≤ (rd l0 (Int.tmod (wrap64 (a1 + 1)) (l0.length : Int))) then (if (rd l0 (Int.tmod (wrap64 (a1 + 1)) (l0.length : Int))) < (t107.length : Int) then (some ((((t107.set (a1 : Int).toNat (Int.tmod (wrap64 (a1 + 1)) (l0.length : Int))).set ((Int.tmod (wrap64 (a1 + 1)) (l0.length : Int)) : Int).toNat a1).set ((rd l0 a1) : Int).toNat (rd l0 (Int.tmod (wrap64 (a1 + 1)) (l0.length : Int)))).set ((rd l0 (Int.tmod (wrap64 (a1 + 1)) (l0.length : Int))) : Int).toNat (rd l0 a1))) else (none)) else (none)) else (none)) else (none)) else (none)) else (none))) else (none)) else (none))) else (none)) else (none))
set_option maxHeartbeats 8000000 in
set_option maxRecDepth 100000 in
theorem spec_syJoin.calls (A0 : Option Addr) (c0 : Nat) (l0 : List Int) (a1 : Int) (r : List Int) (w : World) (hr0 : Kd.C (Kd.int .i64) w A0 l0.length l0) (hc0 : l0.length ≤ c0) (h : spec_syJoin.f l0 a1 = some r) :
    Calls Try.prog 99 #[.slice A0 l0.length c0, .int .i64 a1] w fun e w' => ∃ v0_ : Value, e = .returned (v0_) ∧ Kd.R (Kd.int .i64) 3 w' w.heap.size (fun _ => True) v0_ r ∧ Below w.heap.size w w' := by
  have HR0 := Aside0.mk hr0
  have HC0 := Aside0.mk hc0
  clear hr0 hc0
  have HB := Aside0.mk (Below.refl w.heap.size w)
  have H : (if (l0.length : Int) = 0 then (none) else (if 0 ≤ a1 then (if a1 < (l0.length : Int) then (if (rd l0 a1) = (Int.tmod (wrap64 (a1 + 1)) (l0.length : Int)) then ((spec_l1Own.f l0).bind fun t102 => (some t102)) else (if 0 ≤ (Int.tmod (wrap64 (a1 + 1)) (l0.length : Int)) then (if (Int.tmod (wrap64 (a1 + 1)) (l0.length : Int)) < (l0.length : Int) then ((spec_l1Own.f l0).bind fun t107 => (if a1 < (t107.length : Int) then (if (Int.tmod (wrap64 (a1 + 1)) (l0.length : Int)) < (t107.length : Int) then (if 0 ≤ (rd l0 a1) then (if (rd l0 a1) < (t107.length : Int) then (if 0 ≤ (rd l0 (Int.tmod (wrap64 (a1 + 1)) (l0.length : Int))) then (if (rd l0 (Int.tmod (wrap64 (a1 + 1)) (l0.length : Int))) < (t107.length : Int) then (some ((((t107.set (a1 : Int).toNat (Int.tmod (wrap64 (a1 + 1)) (l0.length : Int))).set ((Int.tmod (wrap64 (a1 + 1)) (l0.length : Int)) : Int).toNat a1).set ((rd l0 a1) : Int).toNat (rd l0 (Int.tmod (wrap64 (a1 + 1)) (l0.length : Int)))).set ((rd l0 (Int.tmod (wrap64 (a1 + 1)) (l0.length : Int))) : Int).toNat (rd l0 a1))) else (none)) else (none)) else (none)) else (none)) else (none)) else (none))) else (none)) else (none))) else (none)) else (none))) = some r := h
  clear h
  by_cases c3 : (l0.length : Int) = 0
  · rw [if_pos c3] at H
    exact absurd H (by simp)
  · rw [if_neg c3] at H
    have c3b0 : ((l0.length : Int) == 0) = false := beq_eq_false_iff_ne.mpr c3
    have c3b1 : ((l0.length : Int) != 0) = true := bne_iff_ne.mpr c3
    have c3b2 : ¬ (l0 = []) := fun h_ => c3 (by rw [h_]; rfl)
    by_cases c4 : 0 ≤ a1
    · rw [if_pos c4] at H
      have c4b0 : decide (0 ≤ a1) = true := decide_eq_true c4
      clear c4
      by_cases c5 : a1 < (l0.length : Int)
      · rw [if_pos c5] at H
        have c5b0 : decide (a1 < (l0.length : Int)) = true := decide_eq_true c5
        clear c5
        by_cases c6 : (rd l0 a1) = (Int.tmod (wrap64 (a1 + 1)) (l0.length : Int))
        · rw [if_pos c6] at H
          have c6b0 : ((rd l0 a1) == (Int.tmod (wrap64 (a1 + 1)) (l0.length : Int))) = true := beq_iff_eq.mpr c6
          have c6b1 : ((rd l0 a1) != (Int.tmod (wrap64 (a1 + 1)) (l0.length : Int))) = false := bne_eq_false_iff_eq.mpr c6
          clear c6
          replace H := Option.bind_eq_some_iff.mp H
          obtain ⟨t102, A70, H⟩ := H
          replace H : (some t102) = some r := H
          have A7 := Aside0.mk A70
          clear A70
          obtain rfl := Option.some.inj H
          have p101 : 0 ≤ (a1 : Int) := of_decide_eq_true (by first | (with_reducible assumption) | assumption)
          have q101 : a1 < (l0.length : Int) := of_decide_eq_true (by first | (with_reducible assumption) | assumption)
          obtain ⟨ad101, e101, hx101_0⟩ := Kd.at_int HR0.out a1 p101 q101
          cases e101
          replace p101 := eq_true p101
          replace q101 := eq_true q101
          go_enter Try.func99, Try.ntmps99
          go_wp2_with (first | (go_at_call 105; (with_reducible refine (spec_l1Own.calls _ _ l0 t102 _ ?side1 ?side2 A7.out).mono ?_); (case side1 => repeat (first | exact HR0.out | (with_reducible refine Kd.C_alloc ?_ _) | (with_reducible refine Kd.C_drewN ?_ _) | (with_reducible refine Kd.C_drew ?_))); (case side2 => exact HC0.out); rintro e w8 ⟨v103, rfl, ho0, hb⟩; have n0_ := Aside0.mk (Kd.R_lower ho0 (below_size (by repeat (first | (with_reducible first | exact HB.out | apply below_alloc | apply pw_below_drewN | apply below_drew1) | exact HB.out)))); have n1_ := Aside0.mk (below_step (by repeat (first | (with_reducible first | exact HB.out | apply below_alloc | apply pw_below_drewN | apply below_drew1) | exact HB.out)) hb); clear HB; have HO104 := n0_; have HB := n1_; clear n0_ n1_; (try clear hb); (try clear hb2); (try clear hk); (try clear hi); (try clear ho0)))
          repeat (go_quiet (first | (go_at_call 105; (with_reducible refine (spec_l1Own.calls _ _ l0 t102 _ ?side1 ?side2 A7.out).mono ?_); (case side1 => repeat (first | exact HR0.out | (with_reducible refine Kd.C_alloc ?_ _) | (with_reducible refine Kd.C_drewN ?_ _) | (with_reducible refine Kd.C_drew ?_))); (case side2 => exact HC0.out); rintro e w8 ⟨v103, rfl, ho0, hb⟩; have n0_ := Aside0.mk (Kd.R_lower ho0 (below_size (by repeat (first | (with_reducible first | exact HB.out | apply below_alloc | apply pw_below_drewN | apply below_drew1) | exact HB.out)))); have n1_ := Aside0.mk (below_step (by repeat (first | (with_reducible first | exact HB.out | apply below_alloc | apply pw_below_drewN | apply below_drew1) | exact HB.out)) hb); clear HB; have HO104 := n0_; have HB := n1_; clear n0_ n1_; (try clear hb); (try clear hb2); (try clear hk); (try clear hi); (try clear ho0))); try go_wp2_with (first | (go_at_call 105; (with_reducible refine (spec_l1Own.calls _ _ l0 t102 _ ?side1 ?side2 A7.out).mono ?_); (case side1 => repeat (first | exact HR0.out | (with_reducible refine Kd.C_alloc ?_ _) | (with_reducible refine Kd.C_drewN ?_ _) | (with_reducible refine Kd.C_drew ?_))); (case side2 => exact HC0.out); rintro e w8 ⟨v103, rfl, ho0, hb⟩; have n0_ := Aside0.mk (Kd.R_lower ho0 (below_size (by repeat (first | (with_reducible first | exact HB.out | apply below_alloc | apply pw_below_drewN | apply below_drew1) | exact HB.out)))); have n1_ := Aside0.mk (below_step (by repeat (first | (with_reducible first | exact HB.out | apply below_alloc | apply pw_below_drewN | apply below_drew1) | exact HB.out)) hb); clear HB; have HO104 := n0_; have HB := n1_; clear n0_ n1_; (try clear hb); (try clear hb2); (try clear hk); (try clear hi); (try clear ho0))))
          go_ret
          exact ⟨_, by first | rfl | (simp [errW_none, errW_some] <;> rfl) | (simp [*, errW_none, errW_some] <;> rfl), by (with_reducible repeat (first | apply Kd.R_alloc | apply Kd.R_drewN | apply Kd.R_drew)); exact HO104.out, by repeat (first | (with_reducible first | exact HB.out | apply below_alloc | apply pw_below_drewN | apply below_drew1) | exact HB.out)⟩
        · rw [if_neg c6] at H
          have c6b0 : ((rd l0 a1) == (Int.tmod (wrap64 (a1 + 1)) (l0.length : Int))) = false := beq_eq_false_iff_ne.mpr c6
          have c6b1 : ((rd l0 a1) != (Int.tmod (wrap64 (a1 + 1)) (l0.length : Int))) = true := bne_iff_ne.mpr c6
          obtain ⟨ji9, hji9⟩ : ∃ j_ : Int, (Int.tmod (wrap64 (a1 + 1)) (l0.length : Int)) = j_ := ⟨_, rfl⟩
          replace H : (if 0 ≤ (ji9) then (if (ji9) < (l0.length : Int) then ((spec_l1Own.f l0).bind fun t107 => (if a1 < (t107.length : Int) then (if (ji9) < (t107.length : Int) then (if 0 ≤ (rd l0 a1) then (if (rd l0 a1) < (t107.length : Int) then (if 0 ≤ (rd l0 (ji9)) then (if (rd l0 (ji9)) < (t107.length : Int) then (some ((((t107.set (a1 : Int).toNat (ji9)).set ((ji9) : Int).toNat a1).set ((rd l0 a1) : Int).toNat (rd l0 (ji9))).set ((rd l0 (ji9)) : Int).toNat (rd l0 a1))) else (none)) else (none)) else (none)) else (none)) else (none)) else (none))) else (none)) else (none)) = some r := by first | (rw [hji9] at H; exact H) | (simp only [hji9] at H ⊢; exact H)
          (try rw [hji9] at c6b0)
          (try rw [hji9] at c6b1)
          by_cases c10 : 0 ≤ (ji9)
          · rw [if_pos c10] at H
            have c10b0 : decide (0 ≤ (ji9)) = true := decide_eq_true c10
            clear c10
            by_cases c11 : (ji9) < (l0.length : Int)
            · rw [if_pos c11] at H
              have c11b0 : decide ((ji9) < (l0.length : Int)) = true := decide_eq_true c11
              clear c11
              replace H := Option.bind_eq_some_iff.mp H
              obtain ⟨t107, A120, H⟩ := H
              replace H : (if a1 < (t107.length : Int) then (if (ji9) < (t107.length : Int) then (if 0 ≤ (rd l0 a1) then (if (rd l0 a1) < (t107.length : Int) then (if 0 ≤ (rd l0 (ji9)) then (if (rd l0 (ji9)) < (t107.length : Int) then (some ((((t107.set (a1 : Int).toNat (ji9)).set ((ji9) : Int).toNat a1).set ((rd l0 a1) : Int).toNat (rd l0 (ji9))).set ((rd l0 (ji9)) : Int).toNat (rd l0 a1))) else (none)) else (none)) else (none)) else (none)) else (none)) else (none)) = some r := H
              have A12 := Aside0.mk A120
              clear A120
              by_cases c13 : a1 < (t107.length : Int)
              · rw [if_pos c13] at H
                have c13b0 : decide (a1 < (t107.length : Int)) = true := decide_eq_true c13
                clear c13
                obtain ⟨y110, hy110⟩ : ∃ y_ : List Int, y_ = (t107.set (a1 : Int).toNat (ji9)) := ⟨_, rfl⟩
                replace H : (if (ji9) < (t107.length : Int) then (if 0 ≤ (rd l0 a1) then (if (rd l0 a1) < (t107.length : Int) then (if 0 ≤ (rd l0 (ji9)) then (if (rd l0 (ji9)) < (t107.length : Int) then (some (((y110.set ((ji9) : Int).toNat a1).set ((rd l0 a1) : Int).toNat (rd l0 (ji9))).set ((rd l0 (ji9)) : Int).toNat (rd l0 a1))) else (none)) else (none)) else (none)) else (none)) else (none)) = some r := by first | (rw [hy110]; with_reducible exact H) | (have H2_ := (Option.bind_some _ _).symm.trans H; rw [hy110]; with_reducible exact H2_) | (have H2_ := (Option.bind_some _ _).symm.trans H; with_reducible exact H2_) | with_reducible exact H | (rw [hy110]; exact H) | exact H
                have Ny110 := Aside0.mk hy110
                clear hy110
                by_cases c15 : (ji9) < (t107.length : Int)
                · rw [if_pos c15] at H
                  have c15b0 : decide ((ji9) < (t107.length : Int)) = true := decide_eq_true c15
                  clear c15
                  obtain ⟨y111, hy111⟩ : ∃ y_ : List Int, y_ = (y110.set ((ji9) : Int).toNat a1) := ⟨_, rfl⟩
                  replace H : (if 0 ≤ (rd l0 a1) then (if (rd l0 a1) < (t107.length : Int) then (if 0 ≤ (rd l0 (ji9)) then (if (rd l0 (ji9)) < (t107.length : Int) then (some ((y111.set ((rd l0 a1) : Int).toNat (rd l0 (ji9))).set ((rd l0 (ji9)) : Int).toNat (rd l0 a1))) else (none)) else (none)) else (none)) else (none)) = some r := by first | (rw [hy111]; with_reducible exact H) | (have H2_ := (Option.bind_some _ _).symm.trans H; rw [hy111]; with_reducible exact H2_) | (have H2_ := (Option.bind_some _ _).symm.trans H; with_reducible exact H2_) | with_reducible exact H | (rw [hy111]; exact H) | exact H
                  have Ny111 := Aside0.mk hy111
                  clear hy111
                  by_cases c17 : 0 ≤ (rd l0 a1)
                  · rw [if_pos c17] at H
                    have c17b0 : decide (0 ≤ (rd l0 a1)) = true := decide_eq_true c17
                    clear c17
                    by_cases c18 : (rd l0 a1) < (t107.length : Int)
                    · rw [if_pos c18] at H
                      have c18b0 : decide ((rd l0 a1) < (t107.length : Int)) = true := decide_eq_true c18
                      clear c18
                      obtain ⟨y112, hy112⟩ : ∃ y_ : List Int, y_ = (y111.set ((rd l0 a1) : Int).toNat (rd l0 (ji9))) := ⟨_, rfl⟩
                      replace H : (if 0 ≤ (rd l0 (ji9)) then (if (rd l0 (ji9)) < (t107.length : Int) then (some (y112.set ((rd l0 (ji9)) : Int).toNat (rd l0 a1))) else (none)) else (none)) = some r := by first | (rw [hy112]; with_reducible exact H) | (have H2_ := (Option.bind_some _ _).symm.trans H; rw [hy112]; with_reducible exact H2_) | (have H2_ := (Option.bind_some _ _).symm.trans H; with_reducible exact H2_) | with_reducible exact H | (rw [hy112]; exact H) | exact H
                      have Ny112 := Aside0.mk hy112
                      clear hy112
                      by_cases c20 : 0 ≤ (rd l0 (ji9))
                      · rw [if_pos c20] at H
                        have c20b0 : decide (0 ≤ (rd l0 (ji9))) = true := decide_eq_true c20
                        clear c20
                        by_cases c21 : (rd l0 (ji9)) < (t107.length : Int)
                        · rw [if_pos c21] at H
                          have c21b0 : decide ((rd l0 (ji9)) < (t107.length : Int)) = true := decide_eq_true c21
                          clear c21
                          obtain ⟨y113, hy113⟩ : ∃ y_ : List Int, y_ = (y112.set ((rd l0 (ji9)) : Int).toNat (rd l0 a1)) := ⟨_, rfl⟩
                          replace H : (some y113) = some r := by first | (rw [hy113]; with_reducible exact H) | (have H2_ := (Option.bind_some _ _).symm.trans H; rw [hy113]; with_reducible exact H2_) | (have H2_ := (Option.bind_some _ _).symm.trans H; with_reducible exact H2_) | with_reducible exact H | (rw [hy113]; exact H) | exact H
                          have Ny113 := Aside0.mk hy113
                          clear hy113
                          obtain rfl := Option.some.inj H
                          have p101 : 0 ≤ (a1 : Int) := of_decide_eq_true (by first | (with_reducible assumption) | assumption)
                          have q101 : a1 < (l0.length : Int) := of_decide_eq_true (by first | (with_reducible assumption) | assumption)
                          obtain ⟨ad101, e101, hx101_0⟩ := Kd.at_int HR0.out a1 p101 q101
                          cases e101
                          replace p101 := eq_true p101
                          replace q101 := eq_true q101
                          have p105 : 0 ≤ (a1 : Int) := of_decide_eq_true (by first | (with_reducible assumption) | assumption)
                          have q105 : a1 < (l0.length : Int) := of_decide_eq_true (by first | (with_reducible assumption) | assumption)
                          obtain ⟨ad105, e105, hx105_0⟩ := Kd.at_int HR0.out a1 p105 q105
                          obtain rfl : ad101 = ad105 := (by injection e105)
                          replace p105 := eq_true p105
                          replace q105 := eq_true q105
                          have p106 : 0 ≤ ((ji9) : Int) := of_decide_eq_true (by first | (with_reducible assumption) | assumption)
                          have q106 : (ji9) < (l0.length : Int) := of_decide_eq_true (by first | (with_reducible assumption) | assumption)
                          obtain ⟨ad106, e106, hx106_0⟩ := Kd.at_int HR0.out (ji9) p106 q106
                          obtain rfl : ad101 = ad106 := (by injection e106)
                          replace p106 := eq_true p106
                          replace q106 := eq_true q106
                          go_enter Try.func99, Try.ntmps99
                          go_wp2_with (first | (go_at_call 105; (with_reducible refine (spec_l1Own.calls _ _ l0 t107 _ ?side1 ?side2 A12.out).mono ?_); (case side1 => repeat (first | exact HR0.out | (with_reducible refine Kd.C_alloc ?_ _) | (with_reducible refine Kd.C_drewN ?_ _) | (with_reducible refine Kd.C_drew ?_))); (case side2 => exact HC0.out); rintro e w23 ⟨v108, rfl, ho0, hb⟩; have n0_ := Aside0.mk (Kd.R_lower ho0 (below_size (by repeat (first | (with_reducible first | exact HB.out | apply below_alloc | apply pw_below_drewN | apply below_drew1) | exact HB.out)))); have n1_ := Aside0.mk (below_step (by repeat (first | (with_reducible first | exact HB.out | apply below_alloc | apply pw_below_drewN | apply below_drew1) | exact HB.out)) hb); clear HB; have HO109 := n0_; have HB := n1_; clear n0_ n1_; (try clear hb); (try clear hb2); (try clear hk); (try clear hi); (try clear ho0); have p14 : 0 ≤ (a1 : Int) := of_decide_eq_true (by first | (with_reducible assumption) | assumption); have q14 : (a1 : Int) < ((t107.length : Int) : Int) := of_decide_eq_true (by first | (with_reducible assumption) | assumption); obtain ⟨go14, co14, eo14, gb14, gl14, cl14, HG14⟩ := Kd.R_form HO109.out (by omega); (first | cases eo14 | (injection eo14 with ea_ en_ ec_; (first | subst ea_ | (injection ea_ with ea_; subst ea_)); subst ec_; clear en_)); have GB14 := Aside0.mk gb14; have GG14 := Aside0.mk HG14; clear gb14 gl14 HG14; obtain ⟨hx14_0, hf14_0⟩ := Kd.R_celln 0 HO109.out (a1 : Int) p14 q14; replace p14 := eq_true p14; replace q14 := eq_true q14; obtain ⟨hy24_, hz24_⟩ := Kd.R_celln 0 HO109.out (a1 : Int) (of_decide_eq_true (by first | (with_reducible assumption) | assumption)) (of_decide_eq_true (by first | (with_reducible assumption) | assumption)); have HP24 := Kd.R_putg HO109.out (a1 : Int) ji9) | ((with_reducible refine gate_store (t := 3) (p := 35) rfl ?_); (try (rw [drewN_self w23]; generalize hq_ : World.drewN w23 _ = w23; have n0_ := Aside0.mk (Kd.R_at hq_ HO109.out); have n1_ := Aside0.mk (below_at hq_ HB.out); clear hq_ HO109 HB; have HO109 := n0_; have HB := n1_; clear n0_ n1_; (try (obtain ⟨hy24_, hz24_⟩ := Kd.R_celln 0 HO109.out (a1 : Int) (of_decide_eq_true (by first | (with_reducible assumption) | assumption)) (of_decide_eq_true (by first | (with_reducible assumption) | assumption)))); (try (have HP24 := Kd.R_putg HO109.out (a1 : Int) ji9)))); refine store_event (t := 3) (p := 35) (v := ?vo_w25) (w1 := (w23.setCell ⟨go14, (a1 : Int).toNat, none⟩ (.int .i64 ji9))) ?hg ?ho ?hn ?hr ?_; (case ho => rfl); (case hg => rfl); (case hn => rfl); (case hr => first | (go_simp; done) | (go_simp; rfl)); intro w25 hw; have hg : w23.grownBy w25 (some go14) := (by rw [hw]; exact HP24.2); have hp_ : Kd.R (Kd.int .i64) 3 w25 w.heap.size (fun _ => True) (.slice (some ⟨go14, 0, none⟩) t107.length co14) y110 := (by rw [hw, Ny110.out]; exact HP24.1); clear HP24; have n0_ := Aside0.mk (hp_); have n1_ := Aside0.mk ((by rw [hw]; exact below_set (HB.out) GB14.out : Below w.heap.size w w25)); clear HO109; clear HB; have HO109 := n0_; have HB := n1_; clear n0_ n1_; clear hg hw hp_; have p16 : 0 ≤ ((ji9) : Int) := of_decide_eq_true (by first | (with_reducible assumption) | assumption); have q16 : ((ji9) : Int) < ((t107.length : Int) : Int) := of_decide_eq_true (by first | (with_reducible assumption) | assumption); obtain ⟨hx16_0, hf16_0⟩ := Kd.R_celln 0 HO109.out ((ji9) : Int) p16 q16; replace p16 := eq_true p16; replace q16 := eq_true q16; obtain ⟨hy26_, hz26_⟩ := Kd.R_celln 0 HO109.out ((ji9) : Int) (of_decide_eq_true (by first | (with_reducible assumption) | assumption)) (of_decide_eq_true (by first | (with_reducible assumption) | assumption)); have HP26 := Kd.R_putg HO109.out ((ji9) : Int) a1) | ((with_reducible refine gate_store (t := 3) (p := 39) rfl ?_); (try (rw [drewN_self w25]; generalize hq_ : World.drewN w25 _ = w25; have n0_ := Aside0.mk (Kd.R_at hq_ HO109.out); have n1_ := Aside0.mk (below_at hq_ HB.out); clear hq_ HO109 HB; have HO109 := n0_; have HB := n1_; clear n0_ n1_; (try (obtain ⟨hy26_, hz26_⟩ := Kd.R_celln 0 HO109.out ((ji9) : Int) (of_decide_eq_true (by first | (with_reducible assumption) | assumption)) (of_decide_eq_true (by first | (with_reducible assumption) | assumption)))); (try (have HP26 := Kd.R_putg HO109.out ((ji9) : Int) a1)))); refine store_event (t := 3) (p := 39) (v := ?vo_w27) (w1 := (w25.setCell ⟨go14, ((ji9) : Int).toNat, none⟩ (.int .i64 a1))) ?hg ?ho ?hn ?hr ?_; (case ho => rfl); (case hg => rfl); (case hn => rfl); (case hr => first | (go_simp; done) | (go_simp; rfl)); intro w27 hw; have hg : w25.grownBy w27 (some go14) := (by rw [hw]; exact HP26.2); have hp_ : Kd.R (Kd.int .i64) 3 w27 w.heap.size (fun _ => True) (.slice (some ⟨go14, 0, none⟩) t107.length co14) y111 := (by rw [hw, Ny111.out]; exact HP26.1); clear HP26; have n0_ := Aside0.mk (hp_); have n1_ := Aside0.mk ((by rw [hw]; exact below_set (HB.out) GB14.out : Below w.heap.size w w27)); clear HO109; clear HB; have HO109 := n0_; have HB := n1_; clear n0_ n1_; clear hg hw hp_; have p19 : 0 ≤ ((rd l0 a1) : Int) := of_decide_eq_true (by first | (with_reducible assumption) | assumption); have q19 : ((rd l0 a1) : Int) < ((t107.length : Int) : Int) := of_decide_eq_true (by first | (with_reducible assumption) | assumption); obtain ⟨hx19_0, hf19_0⟩ := Kd.R_celln 0 HO109.out ((rd l0 a1) : Int) p19 q19; replace p19 := eq_true p19; replace q19 := eq_true q19; obtain ⟨hy28_, hz28_⟩ := Kd.R_celln 0 HO109.out ((rd l0 a1) : Int) (of_decide_eq_true (by first | (with_reducible assumption) | assumption)) (of_decide_eq_true (by first | (with_reducible assumption) | assumption)); have HP28 := Kd.R_putg HO109.out ((rd l0 a1) : Int) (rd l0 (ji9))) | ((with_reducible refine gate_store (t := 3) (p := 43) rfl ?_); (try (rw [drewN_self w27]; generalize hq_ : World.drewN w27 _ = w27; have n0_ := Aside0.mk (Kd.R_at hq_ HO109.out); have n1_ := Aside0.mk (below_at hq_ HB.out); clear hq_ HO109 HB; have HO109 := n0_; have HB := n1_; clear n0_ n1_; (try (obtain ⟨hy28_, hz28_⟩ := Kd.R_celln 0 HO109.out ((rd l0 a1) : Int) (of_decide_eq_true (by first | (with_reducible assumption) | assumption)) (of_decide_eq_true (by first | (with_reducible assumption) | assumption)))); (try (have HP28 := Kd.R_putg HO109.out ((rd l0 a1) : Int) (rd l0 (ji9)))))); refine store_event (t := 3) (p := 43) (v := ?vo_w29) (w1 := (w27.setCell ⟨go14, ((rd l0 a1) : Int).toNat, none⟩ (.int .i64 (rd l0 (ji9))))) ?hg ?ho ?hn ?hr ?_; (case ho => rfl); (case hg => rfl); (case hn => rfl); (case hr => first | (go_simp; done) | (go_simp; rfl)); intro w29 hw; have hg : w27.grownBy w29 (some go14) := (by rw [hw]; exact HP28.2); have hp_ : Kd.R (Kd.int .i64) 3 w29 w.heap.size (fun _ => True) (.slice (some ⟨go14, 0, none⟩) t107.length co14) y112 := (by rw [hw, Ny112.out]; exact HP28.1); clear HP28; have n0_ := Aside0.mk (hp_); have n1_ := Aside0.mk ((by rw [hw]; exact below_set (HB.out) GB14.out : Below w.heap.size w w29)); clear HO109; clear HB; have HO109 := n0_; have HB := n1_; clear n0_ n1_; clear hg hw hp_; have p22 : 0 ≤ ((rd l0 (ji9)) : Int) := of_decide_eq_true (by first | (with_reducible assumption) | assumption); have q22 : ((rd l0 (ji9)) : Int) < ((t107.length : Int) : Int) := of_decide_eq_true (by first | (with_reducible assumption) | assumption); obtain ⟨hx22_0, hf22_0⟩ := Kd.R_celln 0 HO109.out ((rd l0 (ji9)) : Int) p22 q22; replace p22 := eq_true p22; replace q22 := eq_true q22; obtain ⟨hy30_, hz30_⟩ := Kd.R_celln 0 HO109.out ((rd l0 (ji9)) : Int) (of_decide_eq_true (by first | (with_reducible assumption) | assumption)) (of_decide_eq_true (by first | (with_reducible assumption) | assumption)); have HP30 := Kd.R_putg HO109.out ((rd l0 (ji9)) : Int) (rd l0 a1)) | ((with_reducible refine gate_store (t := 3) (p := 47) rfl ?_); (try (rw [drewN_self w29]; generalize hq_ : World.drewN w29 _ = w29; have n0_ := Aside0.mk (Kd.R_at hq_ HO109.out); have n1_ := Aside0.mk (below_at hq_ HB.out); clear hq_ HO109 HB; have HO109 := n0_; have HB := n1_; clear n0_ n1_; (try (obtain ⟨hy30_, hz30_⟩ := Kd.R_celln 0 HO109.out ((rd l0 (ji9)) : Int) (of_decide_eq_true (by first | (with_reducible assumption) | assumption)) (of_decide_eq_true (by first | (with_reducible assumption) | assumption)))); (try (have HP30 := Kd.R_putg HO109.out ((rd l0 (ji9)) : Int) (rd l0 a1))))); refine store_event (t := 3) (p := 47) (v := ?vo_w31) (w1 := (w29.setCell ⟨go14, ((rd l0 (ji9)) : Int).toNat, none⟩ (.int .i64 (rd l0 a1)))) ?hg ?ho ?hn ?hr ?_; (case ho => rfl); (case hg => rfl); (case hn => rfl); (case hr => first | (go_simp; done) | (go_simp; rfl)); intro w31 hw; have hg : w29.grownBy w31 (some go14) := (by rw [hw]; exact HP30.2); have hp_ : Kd.R (Kd.int .i64) 3 w31 w.heap.size (fun _ => True) (.slice (some ⟨go14, 0, none⟩) t107.length co14) y113 := (by rw [hw, Ny113.out]; exact HP30.1); clear HP30; have n0_ := Aside0.mk (hp_); have n1_ := Aside0.mk ((by rw [hw]; exact below_set (HB.out) GB14.out : Below w.heap.size w w31)); clear HO109; clear HB; have HO109 := n0_; have HB := n1_; clear n0_ n1_; clear hg hw hp_))
                          repeat (go_quiet (first | (go_at_call 105; (with_reducible refine (spec_l1Own.calls _ _ l0 t107 _ ?side1 ?side2 A12.out).mono ?_); (case side1 => repeat (first | exact HR0.out | (with_reducible refine Kd.C_alloc ?_ _) | (with_reducible refine Kd.C_drewN ?_ _) | (with_reducible refine Kd.C_drew ?_))); (case side2 => exact HC0.out); rintro e w23 ⟨v108, rfl, ho0, hb⟩; have n0_ := Aside0.mk (Kd.R_lower ho0 (below_size (by repeat (first | (with_reducible first | exact HB.out | apply below_alloc | apply pw_below_drewN | apply below_drew1) | exact HB.out)))); have n1_ := Aside0.mk (below_step (by repeat (first | (with_reducible first | exact HB.out | apply below_alloc | apply pw_below_drewN | apply below_drew1) | exact HB.out)) hb); clear HB; have HO109 := n0_; have HB := n1_; clear n0_ n1_; (try clear hb); (try clear hb2); (try clear hk); (try clear hi); (try clear ho0); have p14 : 0 ≤ (a1 : Int) := of_decide_eq_true (by first | (with_reducible assumption) | assumption); have q14 : (a1 : Int) < ((t107.length : Int) : Int) := of_decide_eq_true (by first | (with_reducible assumption) | assumption); obtain ⟨go14, co14, eo14, gb14, gl14, cl14, HG14⟩ := Kd.R_form HO109.out (by omega); (first | cases eo14 | (injection eo14 with ea_ en_ ec_; (first | subst ea_ | (injection ea_ with ea_; subst ea_)); subst ec_; clear en_)); have GB14 := Aside0.mk gb14; have GG14 := Aside0.mk HG14; clear gb14 gl14 HG14; obtain ⟨hx14_0, hf14_0⟩ := Kd.R_celln 0 HO109.out (a1 : Int) p14 q14; replace p14 := eq_true p14; replace q14 := eq_true q14; obtain ⟨hy24_, hz24_⟩ := Kd.R_celln 0 HO109.out (a1 : Int) (of_decide_eq_true (by first | (with_reducible assumption) | assumption)) (of_decide_eq_true (by first | (with_reducible assumption) | assumption)); have HP24 := Kd.R_putg HO109.out (a1 : Int) ji9) | ((with_reducible refine gate_store (t := 3) (p := 35) rfl ?_); (try (rw [drewN_self w23]; generalize hq_ : World.drewN w23 _ = w23; have n0_ := Aside0.mk (Kd.R_at hq_ HO109.out); have n1_ := Aside0.mk (below_at hq_ HB.out); clear hq_ HO109 HB; have HO109 := n0_; have HB := n1_; clear n0_ n1_; (try (obtain ⟨hy24_, hz24_⟩ := Kd.R_celln 0 HO109.out (a1 : Int) (of_decide_eq_true (by first | (with_reducible assumption) | assumption)) (of_decide_eq_true (by first | (with_reducible assumption) | assumption)))); (try (have HP24 := Kd.R_putg HO109.out (a1 : Int) ji9)))); refine store_event (t := 3) (p := 35) (v := ?vo_w25) (w1 := (w23.setCell ⟨go14, (a1 : Int).toNat, none⟩ (.int .i64 ji9))) ?hg ?ho ?hn ?hr ?_; (case ho => rfl); (case hg => rfl); (case hn => rfl); (case hr => first | (go_simp; done) | (go_simp; rfl)); intro w25 hw; have hg : w23.grownBy w25 (some go14) := (by rw [hw]; exact HP24.2); have hp_ : Kd.R (Kd.int .i64) 3 w25 w.heap.size (fun _ => True) (.slice (some ⟨go14, 0, none⟩) t107.length co14) y110 := (by rw [hw, Ny110.out]; exact HP24.1); clear HP24; have n0_ := Aside0.mk (hp_); have n1_ := Aside0.mk ((by rw [hw]; exact below_set (HB.out) GB14.out : Below w.heap.size w w25)); clear HO109; clear HB; have HO109 := n0_; have HB := n1_; clear n0_ n1_; clear hg hw hp_; have p16 : 0 ≤ ((ji9) : Int) := of_decide_eq_true (by first | (with_reducible assumption) | assumption); have q16 : ((ji9) : Int) < ((t107.length : Int) : Int) := of_decide_eq_true (by first | (with_reducible assumption) | assumption); obtain ⟨hx16_0, hf16_0⟩ := Kd.R_celln 0 HO109.out ((ji9) : Int) p16 q16; replace p16 := eq_true p16; replace q16 := eq_true q16; obtain ⟨hy26_, hz26_⟩ := Kd.R_celln 0 HO109.out ((ji9) : Int) (of_decide_eq_true (by first | (with_reducible assumption) | assumption)) (of_decide_eq_true (by first | (with_reducible assumption) | assumption)); have HP26 := Kd.R_putg HO109.out ((ji9) : Int) a1) | ((with_reducible refine gate_store (t := 3) (p := 39) rfl ?_); (try (rw [drewN_self w25]; generalize hq_ : World.drewN w25 _ = w25; have n0_ := Aside0.mk (Kd.R_at hq_ HO109.out); have n1_ := Aside0.mk (below_at hq_ HB.out); clear hq_ HO109 HB; have HO109 := n0_; have HB := n1_; clear n0_ n1_; (try (obtain ⟨hy26_, hz26_⟩ := Kd.R_celln 0 HO109.out ((ji9) : Int) (of_decide_eq_true (by first | (with_reducible assumption) | assumption)) (of_decide_eq_true (by first | (with_reducible assumption) | assumption)))); (try (have HP26 := Kd.R_putg HO109.out ((ji9) : Int) a1)))); refine store_event (t := 3) (p := 39) (v := ?vo_w27) (w1 := (w25.setCell ⟨go14, ((ji9) : Int).toNat, none⟩ (.int .i64 a1))) ?hg ?ho ?hn ?hr ?_; (case ho => rfl); (case hg => rfl); (case hn => rfl); (case hr => first | (go_simp; done) | (go_simp; rfl)); intro w27 hw; have hg : w25.grownBy w27 (some go14) := (by rw [hw]; exact HP26.2); have hp_ : Kd.R (Kd.int .i64) 3 w27 w.heap.size (fun _ => True) (.slice (some ⟨go14, 0, none⟩) t107.length co14) y111 := (by rw [hw, Ny111.out]; exact HP26.1); clear HP26; have n0_ := Aside0.mk (hp_); have n1_ := Aside0.mk ((by rw [hw]; exact below_set (HB.out) GB14.out : Below w.heap.size w w27)); clear HO109; clear HB; have HO109 := n0_; have HB := n1_; clear n0_ n1_; clear hg hw hp_; have p19 : 0 ≤ ((rd l0 a1) : Int) := of_decide_eq_true (by first | (with_reducible assumption) | assumption); have q19 : ((rd l0 a1) : Int) < ((t107.length : Int) : Int) := of_decide_eq_true (by first | (with_reducible assumption) | assumption); obtain ⟨hx19_0, hf19_0⟩ := Kd.R_celln 0 HO109.out ((rd l0 a1) : Int) p19 q19; replace p19 := eq_true p19; replace q19 := eq_true q19; obtain ⟨hy28_, hz28_⟩ := Kd.R_celln 0 HO109.out ((rd l0 a1) : Int) (of_decide_eq_true (by first | (with_reducible assumption) | assumption)) (of_decide_eq_true (by first | (with_reducible assumption) | assumption)); have HP28 := Kd.R_putg HO109.out ((rd l0 a1) : Int) (rd l0 (ji9))) | ((with_reducible refine gate_store (t := 3) (p := 43) rfl ?_); (try (rw [drewN_self w27]; generalize hq_ : World.drewN w27 _ = w27; have n0_ := Aside0.mk (Kd.R_at hq_ HO109.out); have n1_ := Aside0.mk (below_at hq_ HB.out); clear hq_ HO109 HB; have HO109 := n0_; have HB := n1_; clear n0_ n1_; (try (obtain ⟨hy28_, hz28_⟩ := Kd.R_celln 0 HO109.out ((rd l0 a1) : Int) (of_decide_eq_true (by first | (with_reducible assumption) | assumption)) (of_decide_eq_true (by first | (with_reducible assumption) | assumption)))); (try (have HP28 := Kd.R_putg HO109.out ((rd l0 a1) : Int) (rd l0 (ji9)))))); refine store_event (t := 3) (p := 43) (v := ?vo_w29) (w1 := (w27.setCell ⟨go14, ((rd l0 a1) : Int).toNat, none⟩ (.int .i64 (rd l0 (ji9))))) ?hg ?ho ?hn ?hr ?_; (case ho => rfl); (case hg => rfl); (case hn => rfl); (case hr => first | (go_simp; done) | (go_simp; rfl)); intro w29 hw; have hg : w27.grownBy w29 (some go14) := (by rw [hw]; exact HP28.2); have hp_ : Kd.R (Kd.int .i64) 3 w29 w.heap.size (fun _ => True) (.slice (some ⟨go14, 0, none⟩) t107.length co14) y112 := (by rw [hw, Ny112.out]; exact HP28.1); clear HP28; have n0_ := Aside0.mk (hp_); have n1_ := Aside0.mk ((by rw [hw]; exact below_set (HB.out) GB14.out : Below w.heap.size w w29)); clear HO109; clear HB; have HO109 := n0_; have HB := n1_; clear n0_ n1_; clear hg hw hp_; have p22 : 0 ≤ ((rd l0 (ji9)) : Int) := of_decide_eq_true (by first | (with_reducible assumption) | assumption); have q22 : ((rd l0 (ji9)) : Int) < ((t107.length : Int) : Int) := of_decide_eq_true (by first | (with_reducible assumption) | assumption); obtain ⟨hx22_0, hf22_0⟩ := Kd.R_celln 0 HO109.out ((rd l0 (ji9)) : Int) p22 q22; replace p22 := eq_true p22; replace q22 := eq_true q22; obtain ⟨hy30_, hz30_⟩ := Kd.R_celln 0 HO109.out ((rd l0 (ji9)) : Int) (of_decide_eq_true (by first | (with_reducible assumption) | assumption)) (of_decide_eq_true (by first | (with_reducible assumption) | assumption)); have HP30 := Kd.R_putg HO109.out ((rd l0 (ji9)) : Int) (rd l0 a1)) | ((with_reducible refine gate_store (t := 3) (p := 47) rfl ?_); (try (rw [drewN_self w29]; generalize hq_ : World.drewN w29 _ = w29; have n0_ := Aside0.mk (Kd.R_at hq_ HO109.out); have n1_ := Aside0.mk (below_at hq_ HB.out); clear hq_ HO109 HB; have HO109 := n0_; have HB := n1_; clear n0_ n1_; (try (obtain ⟨hy30_, hz30_⟩ := Kd.R_celln 0 HO109.out ((rd l0 (ji9)) : Int) (of_decide_eq_true (by first | (with_reducible assumption) | assumption)) (of_decide_eq_true (by first | (with_reducible assumption) | assumption)))); (try (have HP30 := Kd.R_putg HO109.out ((rd l0 (ji9)) : Int) (rd l0 a1))))); refine store_event (t := 3) (p := 47) (v := ?vo_w31) (w1 := (w29.setCell ⟨go14, ((rd l0 (ji9)) : Int).toNat, none⟩ (.int .i64 (rd l0 a1)))) ?hg ?ho ?hn ?hr ?_; (case ho => rfl); (case hg => rfl); (case hn => rfl); (case hr => first | (go_simp; done) | (go_simp; rfl)); intro w31 hw; have hg : w29.grownBy w31 (some go14) := (by rw [hw]; exact HP30.2); have hp_ : Kd.R (Kd.int .i64) 3 w31 w.heap.size (fun _ => True) (.slice (some ⟨go14, 0, none⟩) t107.length co14) y113 := (by rw [hw, Ny113.out]; exact HP30.1); clear HP30; have n0_ := Aside0.mk (hp_); have n1_ := Aside0.mk ((by rw [hw]; exact below_set (HB.out) GB14.out : Below w.heap.size w w31)); clear HO109; clear HB; have HO109 := n0_; have HB := n1_; clear n0_ n1_; clear hg hw hp_)); try go_wp2_with (first | (go_at_call 105; (with_reducible refine (spec_l1Own.calls _ _ l0 t107 _ ?side1 ?side2 A12.out).mono ?_); (case side1 => repeat (first | exact HR0.out | (with_reducible refine Kd.C_alloc ?_ _) | (with_reducible refine Kd.C_drewN ?_ _) | (with_reducible refine Kd.C_drew ?_))); (case side2 => exact HC0.out); rintro e w23 ⟨v108, rfl, ho0, hb⟩; have n0_ := Aside0.mk (Kd.R_lower ho0 (below_size (by repeat (first | (with_reducible first | exact HB.out | apply below_alloc | apply pw_below_drewN | apply below_drew1) | exact HB.out)))); have n1_ := Aside0.mk (below_step (by repeat (first | (with_reducible first | exact HB.out | apply below_alloc | apply pw_below_drewN | apply below_drew1) | exact HB.out)) hb); clear HB; have HO109 := n0_; have HB := n1_; clear n0_ n1_; (try clear hb); (try clear hb2); (try clear hk); (try clear hi); (try clear ho0); have p14 : 0 ≤ (a1 : Int) := of_decide_eq_true (by first | (with_reducible assumption) | assumption); have q14 : (a1 : Int) < ((t107.length : Int) : Int) := of_decide_eq_true (by first | (with_reducible assumption) | assumption); obtain ⟨go14, co14, eo14, gb14, gl14, cl14, HG14⟩ := Kd.R_form HO109.out (by omega); (first | cases eo14 | (injection eo14 with ea_ en_ ec_; (first | subst ea_ | (injection ea_ with ea_; subst ea_)); subst ec_; clear en_)); have GB14 := Aside0.mk gb14; have GG14 := Aside0.mk HG14; clear gb14 gl14 HG14; obtain ⟨hx14_0, hf14_0⟩ := Kd.R_celln 0 HO109.out (a1 : Int) p14 q14; replace p14 := eq_true p14; replace q14 := eq_true q14; obtain ⟨hy24_, hz24_⟩ := Kd.R_celln 0 HO109.out (a1 : Int) (of_decide_eq_true (by first | (with_reducible assumption) | assumption)) (of_decide_eq_true (by first | (with_reducible assumption) | assumption)); have HP24 := Kd.R_putg HO109.out (a1 : Int) ji9) | ((with_reducible refine gate_store (t := 3) (p := 35) rfl ?_); (try (rw [drewN_self w23]; generalize hq_ : World.drewN w23 _ = w23; have n0_ := Aside0.mk (Kd.R_at hq_ HO109.out); have n1_ := Aside0.mk (below_at hq_ HB.out); clear hq_ HO109 HB; have HO109 := n0_; have HB := n1_; clear n0_ n1_; (try (obtain ⟨hy24_, hz24_⟩ := Kd.R_celln 0 HO109.out (a1 : Int) (of_decide_eq_true (by first | (with_reducible assumption) | assumption)) (of_decide_eq_true (by first | (with_reducible assumption) | assumption)))); (try (have HP24 := Kd.R_putg HO109.out (a1 : Int) ji9)))); refine store_event (t := 3) (p := 35) (v := ?vo_w25) (w1 := (w23.setCell ⟨go14, (a1 : Int).toNat, none⟩ (.int .i64 ji9))) ?hg ?ho ?hn ?hr ?_; (case ho => rfl); (case hg => rfl); (case hn => rfl); (case hr => first | (go_simp; done) | (go_simp; rfl)); intro w25 hw; have hg : w23.grownBy w25 (some go14) := (by rw [hw]; exact HP24.2); have hp_ : Kd.R (Kd.int .i64) 3 w25 w.heap.size (fun _ => True) (.slice (some ⟨go14, 0, none⟩) t107.length co14) y110 := (by rw [hw, Ny110.out]; exact HP24.1); clear HP24; have n0_ := Aside0.mk (hp_); have n1_ := Aside0.mk ((by rw [hw]; exact below_set (HB.out) GB14.out : Below w.heap.size w w25)); clear HO109; clear HB; have HO109 := n0_; have HB := n1_; clear n0_ n1_; clear hg hw hp_; have p16 : 0 ≤ ((ji9) : Int) := of_decide_eq_true (by first | (with_reducible assumption) | assumption); have q16 : ((ji9) : Int) < ((t107.length : Int) : Int) := of_decide_eq_true (by first | (with_reducible assumption) | assumption); obtain ⟨hx16_0, hf16_0⟩ := Kd.R_celln 0 HO109.out ((ji9) : Int) p16 q16; replace p16 := eq_true p16; replace q16 := eq_true q16; obtain ⟨hy26_, hz26_⟩ := Kd.R_celln 0 HO109.out ((ji9) : Int) (of_decide_eq_true (by first | (with_reducible assumption) | assumption)) (of_decide_eq_true (by first | (with_reducible assumption) | assumption)); have HP26 := Kd.R_putg HO109.out ((ji9) : Int) a1) | ((with_reducible refine gate_store (t := 3) (p := 39) rfl ?_); (try (rw [drewN_self w25]; generalize hq_ : World.drewN w25 _ = w25; have n0_ := Aside0.mk (Kd.R_at hq_ HO109.out); have n1_ := Aside0.mk (below_at hq_ HB.out); clear hq_ HO109 HB; have HO109 := n0_; have HB := n1_; clear n0_ n1_; (try (obtain ⟨hy26_, hz26_⟩ := Kd.R_celln 0 HO109.out ((ji9) : Int) (of_decide_eq_true (by first | (with_reducible assumption) | assumption)) (of_decide_eq_true (by first | (with_reducible assumption) | assumption)))); (try (have HP26 := Kd.R_putg HO109.out ((ji9) : Int) a1)))); refine store_event (t := 3) (p := 39) (v := ?vo_w27) (w1 := (w25.setCell ⟨go14, ((ji9) : Int).toNat, none⟩ (.int .i64 a1))) ?hg ?ho ?hn ?hr ?_; (case ho => rfl); (case hg => rfl); (case hn => rfl); (case hr => first | (go_simp; done) | (go_simp; rfl)); intro w27 hw; have hg : w25.grownBy w27 (some go14) := (by rw [hw]; exact HP26.2); have hp_ : Kd.R (Kd.int .i64) 3 w27 w.heap.size (fun _ => True) (.slice (some ⟨go14, 0, none⟩) t107.length co14) y111 := (by rw [hw, Ny111.out]; exact HP26.1); clear HP26; have n0_ := Aside0.mk (hp_); have n1_ := Aside0.mk ((by rw [hw]; exact below_set (HB.out) GB14.out : Below w.heap.size w w27)); clear HO109; clear HB; have HO109 := n0_; have HB := n1_; clear n0_ n1_; clear hg hw hp_; have p19 : 0 ≤ ((rd l0 a1) : Int) := of_decide_eq_true (by first | (with_reducible assumption) | assumption); have q19 : ((rd l0 a1) : Int) < ((t107.length : Int) : Int) := of_decide_eq_true (by first | (with_reducible assumption) | assumption); obtain ⟨hx19_0, hf19_0⟩ := Kd.R_celln 0 HO109.out ((rd l0 a1) : Int) p19 q19; replace p19 := eq_true p19; replace q19 := eq_true q19; obtain ⟨hy28_, hz28_⟩ := Kd.R_celln 0 HO109.out ((rd l0 a1) : Int) (of_decide_eq_true (by first | (with_reducible assumption) | assumption)) (of_decide_eq_true (by first | (with_reducible assumption) | assumption)); have HP28 := Kd.R_putg HO109.out ((rd l0 a1) : Int) (rd l0 (ji9))) | ((with_reducible refine gate_store (t := 3) (p := 43) rfl ?_); (try (rw [drewN_self w27]; generalize hq_ : World.drewN w27 _ = w27; have n0_ := Aside0.mk (Kd.R_at hq_ HO109.out); have n1_ := Aside0.mk (below_at hq_ HB.out); clear hq_ HO109 HB; have HO109 := n0_; have HB := n1_; clear n0_ n1_; (try (obtain ⟨hy28_, hz28_⟩ := Kd.R_celln 0 HO109.out ((rd l0 a1) : Int) (of_decide_eq_true (by first | (with_reducible assumption) | assumption)) (of_decide_eq_true (by first | (with_reducible assumption) | assumption)))); (try (have HP28 := Kd.R_putg HO109.out ((rd l0 a1) : Int) (rd l0 (ji9)))))); refine store_event (t := 3) (p := 43) (v := ?vo_w29) (w1 := (w27.setCell ⟨go14, ((rd l0 a1) : Int).toNat, none⟩ (.int .i64 (rd l0 (ji9))))) ?hg ?ho ?hn ?hr ?_; (case ho => rfl); (case hg => rfl); (case hn => rfl); (case hr => first | (go_simp; done) | (go_simp; rfl)); intro w29 hw; have hg : w27.grownBy w29 (some go14) := (by rw [hw]; exact HP28.2); have hp_ : Kd.R (Kd.int .i64) 3 w29 w.heap.size (fun _ => True) (.slice (some ⟨go14, 0, none⟩) t107.length co14) y112 := (by rw [hw, Ny112.out]; exact HP28.1); clear HP28; have n0_ := Aside0.mk (hp_); have n1_ := Aside0.mk ((by rw [hw]; exact below_set (HB.out) GB14.out : Below w.heap.size w w29)); clear HO109; clear HB; have HO109 := n0_; have HB := n1_; clear n0_ n1_; clear hg hw hp_; have p22 : 0 ≤ ((rd l0 (ji9)) : Int) := of_decide_eq_true (by first | (with_reducible assumption) | assumption); have q22 : ((rd l0 (ji9)) : Int) < ((t107.length : Int) : Int) := of_decide_eq_true (by first | (with_reducible assumption) | assumption); obtain ⟨hx22_0, hf22_0⟩ := Kd.R_celln 0 HO109.out ((rd l0 (ji9)) : Int) p22 q22; replace p22 := eq_true p22; replace q22 := eq_true q22; obtain ⟨hy30_, hz30_⟩ := Kd.R_celln 0 HO109.out ((rd l0 (ji9)) : Int) (of_decide_eq_true (by first | (with_reducible assumption) | assumption)) (of_decide_eq_true (by first | (with_reducible assumption) | assumption)); have HP30 := Kd.R_putg HO109.out ((rd l0 (ji9)) : Int) (rd l0 a1)) | ((with_reducible refine gate_store (t := 3) (p := 47) rfl ?_); (try (rw [drewN_self w29]; generalize hq_ : World.drewN w29 _ = w29; have n0_ := Aside0.mk (Kd.R_at hq_ HO109.out); have n1_ := Aside0.mk (below_at hq_ HB.out); clear hq_ HO109 HB; have HO109 := n0_; have HB := n1_; clear n0_ n1_; (try (obtain ⟨hy30_, hz30_⟩ := Kd.R_celln 0 HO109.out ((rd l0 (ji9)) : Int) (of_decide_eq_true (by first | (with_reducible assumption) | assumption)) (of_decide_eq_true (by first | (with_reducible assumption) | assumption)))); (try (have HP30 := Kd.R_putg HO109.out ((rd l0 (ji9)) : Int) (rd l0 a1))))); refine store_event (t := 3) (p := 47) (v := ?vo_w31) (w1 := (w29.setCell ⟨go14, ((rd l0 (ji9)) : Int).toNat, none⟩ (.int .i64 (rd l0 a1)))) ?hg ?ho ?hn ?hr ?_; (case ho => rfl); (case hg => rfl); (case hn => rfl); (case hr => first | (go_simp; done) | (go_simp; rfl)); intro w31 hw; have hg : w29.grownBy w31 (some go14) := (by rw [hw]; exact HP30.2); have hp_ : Kd.R (Kd.int .i64) 3 w31 w.heap.size (fun _ => True) (.slice (some ⟨go14, 0, none⟩) t107.length co14) y113 := (by rw [hw, Ny113.out]; exact HP30.1); clear HP30; have n0_ := Aside0.mk (hp_); have n1_ := Aside0.mk ((by rw [hw]; exact below_set (HB.out) GB14.out : Below w.heap.size w w31)); clear HO109; clear HB; have HO109 := n0_; have HB := n1_; clear n0_ n1_; clear hg hw hp_)))
                          go_ret
                          exact ⟨_, by first | rfl | (simp [errW_none, errW_some] <;> rfl) | (simp only [← hji9]; first | rfl | (simp [errW_none, errW_some] <;> rfl)) | (simp [*, errW_none, errW_some] <;> rfl), by (with_reducible repeat (first | apply Kd.R_alloc | apply Kd.R_drewN | apply Kd.R_drew)); exact HO109.out, by repeat (first | (with_reducible first | exact HB.out | apply below_alloc | apply pw_below_drewN | apply below_drew1) | exact HB.out)⟩
                        · rw [if_neg c21] at H
                          exact absurd H (by simp)
                      · rw [if_neg c20] at H
                        exact absurd H (by simp)
                    · rw [if_neg c18] at H
                      exact absurd H (by simp)
                  · rw [if_neg c17] at H
                    exact absurd H (by simp)
                · rw [if_neg c15] at H
                  exact absurd H (by simp)
              · rw [if_neg c13] at H
                exact absurd H (by simp)
            · rw [if_neg c11] at H
              exact absurd H (by simp)
          · rw [if_neg c10] at H
            exact absurd H (by simp)
      · rw [if_neg c5] at H
        exact absurd H (by simp)
    · rw [if_neg c4] at H
      exact absurd H (by simp)

/-! ### spec_syOperator: function 110 (by hand) -/
def spec_syOperator.l0 : Nat → Int → List (List Int) → List (List Int) → Int → Option (List (List Int))
  | 0, _, _, _, _ => none
  | k + 1, i, l, o, b => if b < (l.length : Int) then (if 0 ≤ b then ((spec_syJoin.f (rd_L1 l b) i).bind fun q => (spec_syRank.f k l q).bind fun z => if 0 ≤ z then (if z < (o.length : Int) then (if b < ((rd_L1 o z).length : Int) then spec_syOperator.l0 k i l (o.set z.toNat ((rd_L1 o z).set b.toNat (wrap64 (rd (rd_L1 o z) b + 1)))) (b + 1) else none) else none) else none) else none) else some o
def spec_syOperator.f (k : Nat) (a0 a1 : Int) : Option (List (List Int)) := (spec_loAll.f k a0 0).bind fun l => if l.length < 1000000 then spec_syOperator.l0 k a1 l (List.replicate l.length (List.replicate l.length 0)) 0 else none
theorem spec_syOperator.mono_l : ∀ k, ∀ y0 y1 y2 y3, LeO (spec_syOperator.l0 k y0 y1 y2 y3) (spec_syOperator.l0 (k + 1) y0 y1 y2 y3)
  | 0 => fun _ _ _ _ r h => by simp [spec_syOperator.l0] at h
  | k + 1 => by
    intro y0 y1 y2 y3
    unfold spec_syOperator.l0
    exact LeO.ite (LeO.ite (LeO.bind (LeO.refl _) (fun _ => LeO.bind (spec_syRank.mono _ _ _) (fun _ => LeO.ite (LeO.ite (LeO.ite (spec_syOperator.mono_l k _ _ _ _) (LeO.refl _)) (LeO.refl _)) (LeO.refl _)))) (LeO.refl _)) (LeO.refl _)
theorem spec_syOperator.mono : ∀ a0 a1 k, LeO (spec_syOperator.f k a0 a1) (spec_syOperator.f (k + 1) a0 a1) := fun a0 a1 k => by
  unfold spec_syOperator.f
  exact LeO.bind (spec_loAll.mono _ _ _) (fun _ => LeO.ite (spec_syOperator.mono_l k _ _ _ _) (LeO.refl _))
set_option maxHeartbeats 4000000 in
set_option maxRecDepth 100000 in
theorem spec_syOperator.calls (k : Nat) (a0 a1 : Int) (r : List (List Int)) (w : World) (h : spec_syOperator.f k a0 a1 = some r) :
    Calls Try.prog 110 #[.int .i64 a0, .int .i64 a1] w fun e w' => ∃ v0_ : Value, e = .returned v0_ ∧ Kd.S (Kd.slice 3 (Kd.int .i64)) 22 w' w.heap.size (fun _ => True) v0_ r ∧ Below w.heap.size w w' := by
  obtain ⟨l, hl, h⟩ := Option.bind_eq_some_iff.mp h
  by_cases c0 : l.length < 1000000
  case neg => rw [if_neg c0] at h; cases h
  rw [if_pos c0] at h
  have HP := Aside0.mk hl
  have HL := Aside0.mk h
  have HSZ := Aside0.mk c0
  clear hl h c0
  obtain ⟨n, hn⟩ : ∃ n, l.length = n := ⟨_, rfl⟩
  have HN := Aside0.mk hn
  rw [hn] at HL HSZ
  clear hn
  obtain ⟨ZR, hZR⟩ : ∃ z, List.replicate n (0 : Int) = z := ⟨_, rfl⟩
  have HZR := Aside0.mk hZR
  rw [hZR] at HL
  clear hZR
  go_enter Try.func110, Try.ntmps110
  go_wp2_with (first | (go_at_call 92; (refine (spec_loAll.calls k a0 0 l w HP.out).mono ?_); rintro e w1 ⟨v1, rfl, ho1, hb1⟩; have HO1 := Aside0.mk ho1; have HB1 := Aside0.mk hb1; clear ho1 hb1; obtain ⟨A1, c1_, e1⟩ := Kd.S_slice HO1.out; subst e1; rw [HN.out]))
  clear HP
  go_loopg [6, 13] n (fun kq v6 v13 w' => ∃ (i : Nat) (q : List (List Int)), v13 = .int .i64 (i : Int) ∧ Aside0 (i ≤ n ∧ n - i ≤ kq) ∧ Aside0 (q = List.replicate i ZR) ∧ Aside0 (Kd.S (Kd.slice 3 (Kd.int .i64)) 22 w' w.heap.size (fun k_ => k_ < w1.heap.size) (.slice A1 n c1_) l) ∧ Aside0 (Kd.S (Kd.slice 3 (Kd.int .i64)) 22 w' w1.heap.size (fun _ => True) v6 q) ∧ Aside0 (Below w1.heap.size w1 w') ∧ Aside0 (Below w.heap.size w w'))
  case atStart => exact ⟨0, [], by go_num, ⟨Nat.zero_le _, Nat.le_refl _⟩, ⟨rfl⟩, ⟨Kd.S_mono (Kd.S_bound (by have := HO1.out; rw [HN.out] at this; exact this)) (fun k_ hk => hk.2.2.1)⟩, ⟨Kd.S_nil _ _ _ _ _⟩, ⟨Below.refl _ _⟩, HB1⟩
  case round =>
    clear HO1
    obtain ⟨i, q, rfl, HI, HE, HA, HQ, HB2, HB⟩ := hrel
    by_cases ci : i < n
    · have d1 : decide ((i : Int) < (n : Int)) = true := decide_eq_true (by omega)
      go_wp2_with (first | ((with_reducible refine gate_dst (N := 18) rfl ?_); refine Kd.event_run rfl (make_zeros (x := .tmp 17) rfl (n : Int) rfl Try.underlying22 info3 (by omega) (by have := HSZ.out; omega) _) ?_; rw [Int.toNat_natCast]; have HRZ := Aside0.mk (show Kd.R (Kd.int .i64) 3 (wr.alloc (.cells (nums .i64 (List.replicate n 0)).toArray 3 (0, 0))) w1.heap.size (fun k => k = wr.heap.size) (.slice (some ⟨wr.heap.size, 0, none⟩) n n) ZR by (rw [← HZR.out]; have := R_nums (ok := fun k => k = wr.heap.size) (xs := List.replicate n (0 : Int)) (blk_new wr (.cells (nums .i64 (List.replicate n 0)).toArray 3 (0, 0))) (below_size HB2.out) (by have := HSZ.out; simp; omega) rfl; rw [List.length_replicate] at this; exact this)); have HAm := Aside0.mk (Kd.S_alloc HA.out (.cells (nums .i64 (List.replicate n 0)).toArray 3 (0, 0))); have HQm := Aside0.mk (Kd.S_alloc (Kd.S_mono (ok' := fun k => True ∧ ¬ k = wr.heap.size) (Kd.S_bound HQ.out) (fun k hk => ⟨trivial, by have := hk.2.2.1; omega⟩)) (.cells (nums .i64 (List.replicate n 0)).toArray 3 (0, 0))); have HBm := Aside0.mk (below_alloc HB2.out (.cells (nums .i64 (List.replicate n 0)).toArray 3 (0, 0))); have HGm := Aside0.mk (show ∀ k, u6.ownBlock = some k → w1.heap.size ≤ k ∧ k ≠ wr.heap.size from fun k hk => ⟨Kd.S_base HQ.out k hk, by have := Kd.S_lt HQ.out k hk; omega⟩); generalize hWm : wr.alloc (.cells (nums .i64 (List.replicate n 0)).toArray 3 (0, 0)) = Wm at HRZ HAm HQm HBm ⊢; clear hWm; generalize hgz : wr.heap.size = gz at HRZ HQm HGm ⊢; clear hgz) | ((with_reducible refine gate_builtin (b := .append) (xs := #[.tmp 15, .tmp 19]) rfl ?_); at_builtin; refine Kd.S_append (Kd.slice 3 (Kd.int .i64)) (w0 := w1) w1.heap.size rfl (.tmp 15) (.tmp 19) 39 22 (.slice none 0 0) 24 rfl Try.underlying39 info22 rfl (by decide) (by omega) u6 q ZR [.slice (some ⟨gz, 0, none⟩) n n] (fun _ => True) (fun k => k = gz) rfl rfl ⟨_, rfl, HRZ.out⟩ (fun k hk => ⟨trivial, fun e => (HGm.out k e.symm).2 hk⟩) (fun _ _ => trivial) HQm.out HBm.out (below_size HBm.out) (by rw [HE.out, List.length_replicate]; have := HSZ.out; omega) ?_; intro v5 w5 ho5 hb5 hg5 hat5; have HQ5 := Aside0.mk ho5; have HB5 := Aside0.mk hb5; have HA5 := Aside0.mk (Kd.S_grown HAm.out hg5 (fun k hk e => by have := (HGm.out k e.symm).1; omega)); clear ho5 hb5 hg5 hat5))
      go_roundg (n - (i + 1))
      case measure => have := HI.out; omega
      case rel => exact ⟨i + 1, q ++ [ZR], by rw [show wrap64 ((i : Int) + 1) = ((i + 1 : Nat) : Int) by (have := HSZ.out; unfold wrap64; omega)], ⟨by omega, Nat.le_refl _⟩, ⟨by rw [HE.out, List.replicate_succ']⟩, HA5, HQ5, HB5, ⟨below_step HB1.out HB5.out⟩⟩
    · have d1 : decide ((i : Int) < (n : Int)) = false := decide_eq_false (by omega)
      have hq : q = List.replicate n ZR := by rw [HE.out]; congr 1; have := HI.out; omega
      subst hq
      clear HE
      obtain ⟨A2, c2_, e2_⟩ := Kd.S_slice HQ.out
      subst e2_
      rw [List.length_replicate] at HQ ⊢
      go_wp2
      go_loopg [24] k (fun kq v24 w' => ∃ (b : Int) (q : List (List Int)), v24 = .int .i64 b ∧ Aside0 (spec_syOperator.l0 kq a1 l q b = some r) ∧ Aside0 (kq ≤ k) ∧ Aside0 (Kd.S (Kd.slice 3 (Kd.int .i64)) 22 w' w.heap.size (fun k_ => k_ < w1.heap.size) (.slice A1 n c1_) l) ∧ Aside0 (Kd.S (Kd.slice 3 (Kd.int .i64)) 22 w' w1.heap.size (fun _ => True) (.slice A2 n c2_) q) ∧ Aside0 (Below w.heap.size w w'))
      case atStart => exact ⟨0, _, by go_num, HL, ⟨Nat.le_refl _⟩, HA, HQ, HB⟩
      case round =>
        clear HL HA HQ HB
        obtain ⟨b, q, rfl, HL, HK, HA, HQ, HB⟩ := hrel
        have H := HL.out
        clear HL
        cases gk with
        | zero => exact absurd H (by simp [spec_syOperator.l0])
        | succ k1 =>
        simp only [spec_syOperator.l0] at H
        by_cases c1 : b < (l.length : Int)
        · rw [if_pos c1] at H
          have d1 : decide (b < (n : Int)) = true := decide_eq_true (by rw [HN.out] at c1; exact c1)
          by_cases c2 : 0 ≤ b
          · rw [if_pos c2] at H
            obtain ⟨y, hy, H⟩ := Option.bind_eq_some_iff.mp H
            obtain ⟨z, hz, H⟩ := Option.bind_eq_some_iff.mp H
            by_cases c3 : 0 ≤ z
            case neg => rw [if_neg c3] at H; cases H
            rw [if_pos c3] at H
            by_cases c4 : z < (q.length : Int)
            case neg => rw [if_neg c4] at H; cases H
            rw [if_pos c4] at H
            by_cases c5 : b < ((rd_L1 q z).length : Int)
            case neg => rw [if_neg c5] at H; cases H
            rw [if_pos c5] at H
            have HY := Aside0.mk hy
            have HZ := Aside0.mk hz
            have HF := Aside0.mk H
            clear hy hz H
            have HQM := Aside0.mk (Kd.S_reads' HQ.out).1
            have c4m : z < (n : Int) := by rw [HQM.out]; exact c4
            obtain ⟨gq, cq, eq_, _⟩ := Kd.S_form HQ.out (by have := HQM.out; omega)
            injection eq_ with eA2 e8 e9
            subst eA2
            clear e8 e9
            obtain ⟨adL, AL, cL, eL, hxL, hlL, hiL⟩ := at_L1 (Kd.S_reads' HA.out).2.2 b c2 c1
            subst eL
            have HCL := Aside0.mk hiL
            have HLL := Aside0.mk hlL
            clear hiL hlL
            obtain ⟨nl, hnl⟩ : ∃ nl, (rd_L1 l b).length = nl := ⟨_, rfl⟩
            have HNL := Aside0.mk hnl
            rw [hnl] at hxL
            clear hnl c4 c1
            have p1 := eq_true c2
            have p2 : (b < (n : Int)) = True := eq_true (of_decide_eq_true d1)
            have p3 := eq_true c3
            have p4 := eq_true c4m
            have p5 := eq_true c5
            go_wp2_with (first | (go_at_call 99; (try rw [← HNL.out]); (refine (spec_syJoin.calls AL cL (rd_L1 l b) a1 y wr HCL.out HLL.out HY.out).mono ?_); rintro e w3 ⟨v3, rfl, ho3, hb3⟩; (try rw [HNL.out]); have HO3 := Aside0.mk ho3; have HB3 := Aside0.mk hb3; have HA3 := Aside0.mk (Kd.S_below HA.out hb3); have HQ3 := Aside0.mk (Kd.S_below HQ.out hb3); have HW3 := Aside0.mk (below_step HB.out hb3); clear ho3 hb3; obtain ⟨A3, c3_, e3_⟩ := Kd.R_slice HO3.out; subst e3_) | (go_at_call 91; rw [← HN.out]; (refine (spec_syRank.calls k1 _ c1_ l A3 c3_ y z w3 (Kd.S_reads' HA3.out).2.2 (HN.out ▸ (Kd.S_reads' HA3.out).2.1) (Kd.R_reads' HO3.out).2.2 (Kd.R_reads' HO3.out).2.1 HZ.out).mono ?_); rintro e w4 ⟨rfl, hd4⟩; have hb4 := below_of_drawn hd4; clear hd4; rw [HN.out]; have HA4 := Aside0.mk (Kd.S_below HA3.out hb4); have HQ4 := Aside0.mk (Kd.S_below HQ3.out hb4); have HW4 := Aside0.mk (below_step HW3.out hb4); clear hb4; obtain ⟨Aw, cw, hxw, hw2⟩ := S_cell2 HQ4.out z c3 (of_eq_true p4); obtain ⟨aw, eaw, hxw2, hfw2, hgw, hback⟩ := hw2 b c2 c5; subst eaw; have HBK := Aside0.mk hback; have HGW := Aside0.mk hgw; rw [show q.getD z.toNat [] = rd_L1 q z from rfl] at hxw hxw2; rw [Addr.add_lit, Nat.zero_add] at hxw; clear hback hgw hw2))
            have hbn : b < 1000000 := by have := HN.out; have := HSZ.out; have := of_decide_eq_true d1; omega
            have hblk : w1.heap.size ≤ (aw.add b.toNat).block := HGW.out
            go_roundg k1
            case measure => have := HK.out; omega
            case rel => exact ⟨b + 1, _, by rw [show wrap64 (b + 1) = b + 1 by (unfold wrap64; omega)], HF, ⟨by have := HK.out; omega⟩, ⟨Kd.S_far HA4.out (fun k_ hk he => by omega) _⟩, ⟨HBK.out _⟩, ⟨HW4.out.setCell (show w.heap.size ≤ (aw.add b.toNat).block from Nat.le_trans (below_size HB1.out) hblk) _⟩⟩
          · rw [if_neg c2] at H
            cases H
        · rw [if_neg c1] at H
          have d1 : decide (b < (n : Int)) = false := decide_eq_false (by rw [HN.out] at c1; exact c1)
          obtain rfl := Option.some.inj H
          clear H
          go_wp2
          go_ret
          exact ⟨_, rfl, Kd.S_lower HQ.out (below_size HB1.out), HB.out⟩

/-! ### spec_OperatorOf: function 30 -/
def spec_OperatorOf.f (k : Nat) (a0 : Int) (a1 : Int) : Option ((List (List Int)) × Bool) := (spec_syPairs.f a0).bind fun t101 => (if t101 = true then ((spec_l1In.f a1 0 (wrap64 ((wrap64 (2 * a0)) - 1))).bind fun t102 => (if t102 = true then ((spec_syOperator.f k a0 a1).bind fun t103 => (some (t103, true))) else (some (([] : List (List Int)), false)))) else (some (([] : List (List Int)), false)))
theorem spec_OperatorOf.mono : ∀ a0 a1  k, LeO (spec_OperatorOf.f k a0 a1) (spec_OperatorOf.f (k + 1) a0 a1) := by
  intro a0 a1 k
  unfold spec_OperatorOf.f
  repeat' first
      | (with_reducible exact spec_syOperator.mono _ _ _)
      | (with_reducible exact LeO.refl _)
      | (with_reducible exact LeO.none _)
      | (with_reducible refine LeO.ite ?_ ?_)
      | (with_reducible refine LeO.bind ?_ (fun _ => ?_))
      | exact spec_syOperator.mono _ _ _
      | exact LeO.none _
      | refine LeO.ite ?_ ?_
      | refine LeO.bind ?_ (fun _ => ?_)
set_option maxHeartbeats 8000000 in
set_option maxRecDepth 100000 in
theorem spec_OperatorOf.calls (k : Nat) (a0 : Int) (a1 : Int) (r1 : List (List Int)) (r2 : Bool) (w : World) (h : spec_OperatorOf.f k a0 a1 = some (r1, r2)) :
    Calls Try.prog 30 #[.int .i64 a0, .int .i64 a1] w fun e w' => ∃ v0_ : Value, e = .returned (.tuple #[v0_, .bool r2]) ∧ Kd.S (Kd.slice 3 (Kd.int .i64)) 22 w' w.heap.size (fun _ => True) v0_ r1 ∧ Below w.heap.size w w' := by
  have HB := Aside0.mk (Below.refl w.heap.size w)
  have H : ((spec_syPairs.f a0).bind fun t101 => (if t101 = true then ((spec_l1In.f a1 0 (wrap64 ((wrap64 (2 * a0)) - 1))).bind fun t102 => (if t102 = true then ((spec_syOperator.f k a0 a1).bind fun t103 => (some (t103, true))) else (some (([] : List (List Int)), false)))) else (some (([] : List (List Int)), false)))) = some (r1, r2) := h
  clear h
  replace H := Option.bind_eq_some_iff.mp H
  obtain ⟨t101, A30, H⟩ := H
  replace H : (if t101 = true then ((spec_l1In.f a1 0 (wrap64 ((wrap64 (2 * a0)) - 1))).bind fun t102 => (if t102 = true then ((spec_syOperator.f k a0 a1).bind fun t103 => (some (t103, true))) else (some (([] : List (List Int)), false)))) else (some (([] : List (List Int)), false))) = some (r1, r2) := H
  have A3 := Aside0.mk A30
  clear A30
  by_cases c4 : t101 = true
  · subst c4
    have H1 : ((spec_l1In.f a1 0 (wrap64 ((wrap64 (2 * a0)) - 1))).bind fun t102 => (if t102 = true then ((spec_syOperator.f k a0 a1).bind fun t103 => (some (t103, true))) else (some (([] : List (List Int)), false)))) = some (r1, r2) := by rw [if_pos rfl] at H; exact H
    clear H
    have H := H1
    clear H1
    replace H := Option.bind_eq_some_iff.mp H
    obtain ⟨t102, A50, H⟩ := H
    replace H : (if t102 = true then ((spec_syOperator.f k a0 a1).bind fun t103 => (some (t103, true))) else (some (([] : List (List Int)), false))) = some (r1, r2) := H
    have A5 := Aside0.mk A50
    clear A50
    by_cases c6 : t102 = true
    · subst c6
      have H1 : ((spec_syOperator.f k a0 a1).bind fun t103 => (some (t103, true))) = some (r1, r2) := by rw [if_pos rfl] at H; exact H
      clear H
      have H := H1
      clear H1
      replace H := Option.bind_eq_some_iff.mp H
      obtain ⟨t103, A70, H⟩ := H
      replace H : (some (t103, true)) = some (r1, r2) := H
      have A7 := Aside0.mk A70
      clear A70
      simp only [Option.some.injEq, Prod.mk.injEq] at H
      obtain ⟨rfl, rfl⟩ := H
      go_enter Try.func30, Try.ntmps30
      go_wp2_with (first | ((with_reducible refine gate_callee (f := 109) rfl ?_); refine goesL_ (some 7) rfl rfl Try.func109 (by kernel_rfl) rfl #[.int .i64 a0] rfl (by (try simp only [List.map_toArray, List.map_cons, List.map_nil]); first | done | rfl | (simp only [List.length_drop, List.length_take]; rfl)) ?_; (with_reducible refine (spec_syPairs.calls a0 true _ A3.out).mono ?_); rintro e w' ⟨rfl, ⟨nd, rfl⟩⟩; refine ⟨_, rfl, ?_⟩) | (go_at_call 98; (with_reducible refine (spec_l1In.calls a1 0 (wrap64 ((wrap64 (2 * a0)) - 1)) true _ A5.out).mono ?_); rintro e w' ⟨rfl, ⟨nd, rfl⟩⟩) | ((with_reducible refine gate_callee (f := 110) rfl ?_); refine goesL_ (some 19) rfl rfl Try.func110 (by kernel_rfl) rfl #[.int .i64 a0, .int .i64 a1] rfl (by (try simp only [List.map_toArray, List.map_cons, List.map_nil]); first | done | rfl | (simp only [List.length_drop, List.length_take]; rfl)) ?_; (with_reducible refine (spec_syOperator.calls k a0 a1 t103 _ A7.out).mono ?_); rintro e w8 ⟨v104, rfl, ho0, hb⟩; refine ⟨_, rfl, ?_⟩; have n0_ := Aside0.mk (Kd.S_lower ho0 (below_size (by repeat (first | (with_reducible first | exact HB.out | apply below_alloc | apply pw_below_drewN | apply below_drew1) | exact HB.out)))); have n1_ := Aside0.mk (below_step (by repeat (first | (with_reducible first | exact HB.out | apply below_alloc | apply pw_below_drewN | apply below_drew1) | exact HB.out)) hb); clear HB; have HO105 := n0_; have HB := n1_; clear n0_ n1_; (try clear hb); (try clear hb2); (try clear hk); (try clear hi); (try clear ho0)))
      go_ret2
      exact ⟨_, by first | rfl | (simp [errW_none, errW_some] <;> rfl) | (simp [*, errW_none, errW_some] <;> rfl), by (with_reducible repeat (first | apply Kd.S_alloc | apply Kd.S_drewN | apply Kd.S_drew)); exact HO105.out, by repeat (first | (with_reducible first | exact HB.out | apply below_alloc | apply pw_below_drewN | apply below_drew1) | exact HB.out)⟩
    · replace c6 := Bool.eq_false_iff.mpr c6
      subst c6
      have H1 : (some (([] : List (List Int)), false)) = some (r1, r2) := by rw [if_neg (show ¬ (false = true) by decide)] at H; exact H
      clear H
      have H := H1
      clear H1
      simp only [Option.some.injEq, Prod.mk.injEq] at H
      obtain ⟨rfl, rfl⟩ := H
      go_enter Try.func30, Try.ntmps30
      go_wp2_with (first | ((with_reducible refine gate_callee (f := 109) rfl ?_); refine goesL_ (some 7) rfl rfl Try.func109 (by kernel_rfl) rfl #[.int .i64 a0] rfl (by (try simp only [List.map_toArray, List.map_cons, List.map_nil]); first | done | rfl | (simp only [List.length_drop, List.length_take]; rfl)) ?_; (with_reducible refine (spec_syPairs.calls a0 true _ A3.out).mono ?_); rintro e w' ⟨rfl, ⟨nd, rfl⟩⟩; refine ⟨_, rfl, ?_⟩) | (go_at_call 98; (with_reducible refine (spec_l1In.calls a1 0 (wrap64 ((wrap64 (2 * a0)) - 1)) false _ A5.out).mono ?_); rintro e w' ⟨rfl, ⟨nd, rfl⟩⟩))
      go_ret2
      exact ⟨_, by first | rfl | (simp [errW_none, errW_some] <;> rfl) | (simp [*, errW_none, errW_some] <;> rfl), by first | exact Kd.S_nil _ _ _ _ _ | exact Kd.N_nil _ _ _ _ _ | exact Kd.V_nil _ _ _ _ _ | exact Kd.Q_nil _ _ _ _ _ | exact Kd.R_nil _ _ _ _ _, by repeat (first | (with_reducible first | exact HB.out | apply below_alloc | apply pw_below_drewN | apply below_drew1) | exact HB.out)⟩
  · replace c4 := Bool.eq_false_iff.mpr c4
    subst c4
    have H1 : (some (([] : List (List Int)), false)) = some (r1, r2) := by rw [if_neg (show ¬ (false = true) by decide)] at H; exact H
    clear H
    have H := H1
    clear H1
    simp only [Option.some.injEq, Prod.mk.injEq] at H
    obtain ⟨rfl, rfl⟩ := H
    go_enter Try.func30, Try.ntmps30
    go_wp2_with (first | ((with_reducible refine gate_callee (f := 109) rfl ?_); refine goesL_ (some 7) rfl rfl Try.func109 (by kernel_rfl) rfl #[.int .i64 a0] rfl (by (try simp only [List.map_toArray, List.map_cons, List.map_nil]); first | done | rfl | (simp only [List.length_drop, List.length_take]; rfl)) ?_; (with_reducible refine (spec_syPairs.calls a0 false _ A3.out).mono ?_); rintro e w' ⟨rfl, ⟨nd, rfl⟩⟩; refine ⟨_, rfl, ?_⟩))
    go_ret2
    exact ⟨_, by first | rfl | (simp [errW_none, errW_some] <;> rfl) | (simp [*, errW_none, errW_some] <;> rfl), by first | exact Kd.S_nil _ _ _ _ _ | exact Kd.N_nil _ _ _ _ _ | exact Kd.V_nil _ _ _ _ _ | exact Kd.Q_nil _ _ _ _ _ | exact Kd.R_nil _ _ _ _ _, by repeat (first | (with_reducible first | exact HB.out | apply below_alloc | apply pw_below_drewN | apply below_drew1) | exact HB.out)⟩

/-! ### impl_within: function 107 -/
def impl_within.f (a0 : Int) (a1 : Int) (a2 : Int) : Option (Bool) := if a1 ≤ a0 then (some (decide (a0 ≤ a2))) else (some false)
set_option maxHeartbeats 8000000 in
set_option maxRecDepth 100000 in
theorem impl_within.calls (a0 : Int) (a1 : Int) (a2 : Int) (r : Bool) (w : World) (h : impl_within.f a0 a1 a2 = some r) :
    Calls Try.prog 107 #[.int .i64 a0, .int .i64 a1, .int .i64 a2] w fun e w' => e = .returned (.bool r) ∧ Drawn0 w w' := by
  have H : (if a1 ≤ a0 then (some (decide (a0 ≤ a2))) else (some false)) = some r := h
  clear h
  by_cases c4 : a1 ≤ a0
  · rw [if_pos c4] at H
    have c4b0 : decide (a1 ≤ a0) = true := decide_eq_true c4
    clear c4
    obtain rfl := Option.some.inj H
    go_enter Try.func107, Try.ntmps107
    go_wp2
    go_ret
    exact ⟨by first | rfl | (simp; done) | (simp [*]; done), by repeat (first | exact Drawn0.refl _ | apply Drawn0.step)⟩
  · rw [if_neg c4] at H
    have c4b0 : decide (a1 ≤ a0) = false := decide_eq_false c4
    clear c4
    obtain rfl := Option.some.inj H
    go_enter Try.func107, Try.ntmps107
    go_wp2
    go_ret
    exact ⟨by first | rfl | (simp; done) | (simp [*]; done), by repeat (first | exact Drawn0.refl _ | apply Drawn0.step)⟩

/-! ### impl_arePairs: function 111 -/
def impl_arePairs.f (a0 : Int) : Option (Bool) := (impl_within.f a0 1 4).bind fun t101 => (some t101)
set_option maxHeartbeats 8000000 in
set_option maxRecDepth 100000 in
theorem impl_arePairs.calls (a0 : Int) (r : Bool) (w : World) (h : impl_arePairs.f a0 = some r) :
    Calls Try.prog 111 #[.int .i64 a0] w fun e w' => e = .returned (.bool r) ∧ Drawn0 w w' := by
  have H : ((impl_within.f a0 1 4).bind fun t101 => (some t101)) = some r := h
  clear h
  replace H := Option.bind_eq_some_iff.mp H
  obtain ⟨t101, A20, H⟩ := H
  replace H : (some t101) = some r := H
  have A2 := Aside0.mk A20
  clear A20
  obtain rfl := Option.some.inj H
  go_enter Try.func111, Try.ntmps111
  go_wp2_with (first | ((with_reducible refine gate_callee (f := 107) rfl ?_); refine goesL_ (some 4) rfl rfl Try.func107 (by kernel_rfl) rfl #[.int .i64 a0, .int .i64 1, .int .i64 4] rfl (by (try simp only [List.map_toArray, List.map_cons, List.map_nil]); first | done | rfl | (simp only [List.length_drop, List.length_take]; rfl)) ?_; (with_reducible refine (impl_within.calls a0 1 4 t101 _ A2.out).mono ?_); rintro e w' ⟨rfl, ⟨nd, rfl⟩⟩; refine ⟨_, rfl, ?_⟩))
  go_ret
  exact ⟨by first | rfl | (simp; done) | (simp [*]; done), by repeat (first | exact Drawn0.refl _ | apply Drawn0.step)⟩

/-! ### slices_IndexFunc_int_int_148: function 148 -/
def slices_IndexFunc_int_int_148.l0 : Nat → List (List Int) → ((List Int) → Option Bool) → Int → Int → Option (Int)
  | 0, _, _, _, _ => none
  | k + 1, x0, x1, x7, x8 => if x8 < x7 then (if 0 ≤ x8 then (if x8 < (x0.length : Int) then ((x1 (rd_L1 x0 x8)).bind fun t102 => (if t102 = true then (some x8) else (slices_IndexFunc_int_int_148.l0 k x0 x1 x7 (wrap64 (x8 + 1))))) else (none)) else (none)) else (some (-1))
def slices_IndexFunc_int_int_148.f (k : Nat) (l0 : List (List Int)) (a1 : ((List Int) → Option Bool)) : Option (Int) := slices_IndexFunc_int_int_148.l0 k l0 a1 (l0.length : Int) 0
theorem slices_IndexFunc_int_int_148.mono_l : ∀ k, (∀ y0 y1 y1' y2 y3 (hy1 : ∀ z0, LeO (y1 z0) (y1' z0)), LeO (slices_IndexFunc_int_int_148.l0 k y0 y1 y2 y3) (slices_IndexFunc_int_int_148.l0 (k + 1) y0 y1' y2 y3))
  | 0 => fun _ _ _ _ _ _ r h => by simp [slices_IndexFunc_int_int_148.l0] at h
  | k + 1 => by
    have ih0 := slices_IndexFunc_int_int_148.mono_l k
    · intro y0 y1 y1' y2 y3 hy1
      unfold slices_IndexFunc_int_int_148.l0
      repeat' first
      | (with_reducible exact ih0 _ _ _ _ _ hy1)
      | (with_reducible exact hy1 _)
      | (with_reducible exact LeO.refl _)
      | (with_reducible exact LeO.none _)
      | (with_reducible refine LeO.ite ?_ ?_)
      | (with_reducible refine LeO.bind ?_ (fun _ => ?_))
      | exact ih0 _ _ _ _ _ hy1
      | exact hy1 _
      | exact LeO.none _
      | refine LeO.ite ?_ ?_
      | refine LeO.bind ?_ (fun _ => ?_)
theorem slices_IndexFunc_int_int_148.mono : ∀ a0 a1 a1' (ha1 : ∀ z0, LeO (a1 z0) (a1' z0)) k, LeO (slices_IndexFunc_int_int_148.f k a0 a1) (slices_IndexFunc_int_int_148.f (k + 1) a0 a1') := by
  intro a0 a1 a1' ha1 k
  have ih0 := slices_IndexFunc_int_int_148.mono_l k
  unfold slices_IndexFunc_int_int_148.f
  repeat' first
      | (with_reducible exact ih0 _ _ _ _ _ ha1)
      | (with_reducible exact ha1 _)
      | (with_reducible exact LeO.refl _)
      | (with_reducible exact LeO.none _)
      | (with_reducible refine LeO.ite ?_ ?_)
      | (with_reducible refine LeO.bind ?_ (fun _ => ?_))
      | exact ih0 _ _ _ _ _ ha1
      | exact ha1 _
      | exact LeO.none _
      | refine LeO.ite ?_ ?_
      | refine LeO.bind ?_ (fun _ => ?_)
set_option maxHeartbeats 8000000 in
set_option maxRecDepth 100000 in
theorem slices_IndexFunc_int_int_148.calls (k : Nat) (A0 : Option Addr) (c0 : Nat) (l0 : List (List Int)) (g1 : Nat) (b1 : Array Value) (a1 : ((List Int) → Option Bool)) (r : Int) (w : World) (hr0 : Kd.C (Kd.slice 3 (Kd.int .i64)) w A0 l0.length l0) (hc0 : l0.length ≤ c0) (hf1 : Fn1 (Kd.slice 3 (Kd.int .i64)) Value.bool Try.prog g1 b1 a1 w) (h : slices_IndexFunc_int_int_148.f k l0 a1 = some r) :
    Calls Try.prog 148 #[.slice A0 l0.length c0, .func (.func g1) #[] b1] w fun e w' => e = .returned (.int .i64 r) ∧ Below w.heap.size w w' := by
  have HR0 := Aside0.mk hr0
  have HC0 := Aside0.mk hc0
  clear hr0 hc0
  have HF1 := Aside0.mk hf1.cl
  have eg1 := hf1.eg
  clear hf1
  have HB := Aside0.mk (Below.refl w.heap.size w)
  have H : (slices_IndexFunc_int_int_148.l0 k l0 a1 (l0.length : Int) 0) = some r := h
  clear h
  have H' := Aside0.mk H
  clear H
  go_enter Try.func148, Try.ntmps148
  go_wp2
  go_loopg [8] k (fun kq v8 w' => ∃ (x8_1 : Int), v8 = .int .i64 x8_1 ∧ Aside0 (slices_IndexFunc_int_int_148.l0 kq l0 a1 (l0.length : Int) x8_1 = some r) ∧ Aside0 (kq ≤ k) ∧ Aside0 (Below w.heap.size w w'))
  case atStart => exact ⟨(0), (by first | rfl | (simp; done) | (simp [*]; done)), H', ⟨Nat.le_refl _⟩, ⟨by repeat (first | (with_reducible first | exact HB.out | apply below_alloc | apply pw_below_drewN | apply below_drew1) | exact HB.out)⟩⟩
  case round =>
    clear H'
    try clear c1
    try clear p2
    obtain ⟨x8_1, rfl, HA, HK1, HB⟩ := hrel
    cases gk with
    | zero => exact absurd HA.out (by simp [slices_IndexFunc_int_int_148.l0])
    | succ k1 =>
      have H := HA.out
      clear HA
      simp only [slices_IndexFunc_int_int_148.l0] at H
      by_cases c3 : x8_1 < (l0.length : Int)
      · rw [if_pos c3] at H
        have c3b0 : decide (x8_1 < (l0.length : Int)) = true := decide_eq_true c3
        clear c3
        by_cases c4 : 0 ≤ x8_1
        · rw [if_pos c4] at H
          have c4b0 : decide (0 ≤ x8_1) = true := decide_eq_true c4
          clear c4
          by_cases c5 : x8_1 < (l0.length : Int)
          · rw [if_pos c5] at H
            have c5b0 : decide (x8_1 < (l0.length : Int)) = true := decide_eq_true c5
            clear c5
            replace H := Option.bind_eq_some_iff.mp H
            obtain ⟨t102, A60, H⟩ := H
            replace H : (if t102 = true then (some x8_1) else (slices_IndexFunc_int_int_148.l0 k1 l0 a1 (l0.length : Int) (wrap64 (x8_1 + 1)))) = some r := H
            have A6 := Aside0.mk A60
            clear A60
            by_cases c7 : t102 = true
            · subst c7
              have H1 : (some x8_1) = some r := by rw [if_pos rfl] at H; exact H
              clear H
              have H := H1
              clear H1
              obtain rfl := Option.some.inj H
              have p101 : 0 ≤ (x8_1 : Int) := of_decide_eq_true (by first | (with_reducible assumption) | assumption)
              have q101 : x8_1 < (l0.length : Int) := of_decide_eq_true (by first | (with_reducible assumption) | assumption)
              obtain ⟨ad101, A101_0, c101_0, e101, hx101_0, hl101_0, hi101_0⟩ := at_L1 HR0.out x8_1 p101 q101
              cases e101
              replace hx101_0 := (HB.out.cell (World.block_lt_of_cell? w _ hx101_0)).trans hx101_0
              have HR101_0 := Aside0.mk hi101_0
              have HC101_0 := Aside0.mk hl101_0
              clear hi101_0 hl101_0
              replace p101 := eq_true p101
              replace q101 := eq_true q101
              go_wp2_with (first | (go_at_fn g1; (refine (HF1.out _ ?side1 (rd_L1 l0 x8_1) _ (K_slice ?side2 ?side3) true A6.out).mono ?_); (case side1 => exact (by repeat (first | (with_reducible first | exact HB.out | apply below_alloc | apply pw_below_drewN | apply below_drew1) | exact HB.out))); (case side2 => exact HC101_0.out); (case side3 => repeat (first | exact (Kd.C_below HR101_0.out HB.out) | (with_reducible refine Kd.C_alloc ?_ _) | (with_reducible refine Kd.C_drewN ?_ _) | (with_reducible refine Kd.C_drew ?_))); rintro e w8 ⟨rfl, hb⟩; have n0_ := Aside0.mk (below_step (by repeat (first | (with_reducible first | exact HB.out | apply below_alloc | apply pw_below_drewN | apply below_drew1) | exact HB.out)) hb); clear HB; have HB := n0_; clear n0_; (try clear hb); (try clear hb2); (try clear hk); (try clear hi)))
              go_ret
              exact ⟨by first | rfl | (simp [errW_none, errW_some] <;> rfl) | (simp [*, errW_none, errW_some] <;> rfl), by repeat (first | (with_reducible first | exact HB.out | apply below_alloc | apply pw_below_drewN | apply below_drew1) | exact HB.out)⟩
            · replace c7 := Bool.eq_false_iff.mpr c7
              subst c7
              have H1 : (slices_IndexFunc_int_int_148.l0 k1 l0 a1 (l0.length : Int) (wrap64 (x8_1 + 1))) = some r := by rw [if_neg (show ¬ (false = true) by decide)] at H; exact H
              clear H
              have H := H1
              clear H1
              have H' := Aside0.mk H
              clear H
              have p101 : 0 ≤ (x8_1 : Int) := of_decide_eq_true (by first | (with_reducible assumption) | assumption)
              have q101 : x8_1 < (l0.length : Int) := of_decide_eq_true (by first | (with_reducible assumption) | assumption)
              obtain ⟨ad101, A101_0, c101_0, e101, hx101_0, hl101_0, hi101_0⟩ := at_L1 HR0.out x8_1 p101 q101
              cases e101
              replace hx101_0 := (HB.out.cell (World.block_lt_of_cell? w _ hx101_0)).trans hx101_0
              have HR101_0 := Aside0.mk hi101_0
              have HC101_0 := Aside0.mk hl101_0
              clear hi101_0 hl101_0
              replace p101 := eq_true p101
              replace q101 := eq_true q101
              go_wp2_with (first | (go_at_fn g1; (refine (HF1.out _ ?side1 (rd_L1 l0 x8_1) _ (K_slice ?side2 ?side3) false A6.out).mono ?_); (case side1 => exact (by repeat (first | (with_reducible first | exact HB.out | apply below_alloc | apply pw_below_drewN | apply below_drew1) | exact HB.out))); (case side2 => exact HC101_0.out); (case side3 => repeat (first | exact (Kd.C_below HR101_0.out HB.out) | (with_reducible refine Kd.C_alloc ?_ _) | (with_reducible refine Kd.C_drewN ?_ _) | (with_reducible refine Kd.C_drew ?_))); rintro e w9 ⟨rfl, hb⟩; have n0_ := Aside0.mk (below_step (by repeat (first | (with_reducible first | exact HB.out | apply below_alloc | apply pw_below_drewN | apply below_drew1) | exact HB.out)) hb); clear HB; have HB := n0_; clear n0_; (try clear hb); (try clear hb2); (try clear hk); (try clear hi)))
              go_roundg k1
              case measure => have := HK1.out; omega
              case rel => exact ⟨(wrap64 (x8_1 + 1)), (by first | rfl | (simp; done) | (simp [*]; done)), H', ⟨by have := HK1.out; omega⟩, ⟨by repeat (first | (with_reducible first | exact HB.out | apply below_alloc | apply pw_below_drewN | apply below_drew1) | exact HB.out)⟩⟩
          · rw [if_neg c5] at H
            exact absurd H (by simp)
        · rw [if_neg c4] at H
          exact absurd H (by simp)
      · rw [if_neg c3] at H
        have c3b0 : decide (x8_1 < (l0.length : Int)) = false := decide_eq_false c3
        clear c3
        obtain rfl := Option.some.inj H
        go_wp2
        go_ret
        exact ⟨by first | rfl | (simp [errW_none, errW_some] <;> rfl) | (simp [*, errW_none, errW_some] <;> rfl), by repeat (first | (with_reducible first | exact HB.out | apply below_alloc | apply pw_below_drewN | apply below_drew1) | exact HB.out)⟩

/-! ### slices_Equal_int_int: function 144 -/
def slices_Equal_int_int.l0 : Nat → List Int → List Int → Int → Int → Option (Bool)
  | 0, _, _, _, _ => none
  | k + 1, x0, x1, x12, x13 => if x13 < x12 then (if 0 ≤ x13 then (if x13 < (x0.length : Int) then (if x13 < (x1.length : Int) then (if (rd x0 x13) = (rd x1 x13) then (slices_Equal_int_int.l0 k x0 x1 x12 (wrap64 (x13 + 1))) else (some false)) else (none)) else (none)) else (none)) else (some true)
def slices_Equal_int_int.f (k : Nat) (l0 : List Int) (l1 : List Int) : Option (Bool) := if (l0.length : Int) = (l1.length : Int) then (slices_Equal_int_int.l0 k l0 l1 (l0.length : Int) 0) else (some false)
theorem slices_Equal_int_int.mono_l : ∀ k, (∀ y0 y1 y2 y3, LeO (slices_Equal_int_int.l0 k y0 y1 y2 y3) (slices_Equal_int_int.l0 (k + 1) y0 y1 y2 y3))
  | 0 => fun _ _ _ _ r h => by simp [slices_Equal_int_int.l0] at h
  | k + 1 => by
    have ih0 := slices_Equal_int_int.mono_l k
    · intro y0 y1 y2 y3
      unfold slices_Equal_int_int.l0
      repeat' first
      | (with_reducible exact ih0 _ _ _ _)
      | (with_reducible exact LeO.refl _)
      | (with_reducible exact LeO.none _)
      | (with_reducible refine LeO.ite ?_ ?_)
      | (with_reducible refine LeO.bind ?_ (fun _ => ?_))
      | exact ih0 _ _ _ _
      | exact LeO.none _
      | refine LeO.ite ?_ ?_
      | refine LeO.bind ?_ (fun _ => ?_)
theorem slices_Equal_int_int.mono : ∀ a0 a1  k, LeO (slices_Equal_int_int.f k a0 a1) (slices_Equal_int_int.f (k + 1) a0 a1) := by
  intro a0 a1 k
  have ih0 := slices_Equal_int_int.mono_l k
  unfold slices_Equal_int_int.f
  repeat' first
      | (with_reducible exact ih0 _ _ _ _)
      | (with_reducible exact LeO.refl _)
      | (with_reducible exact LeO.none _)
      | (with_reducible refine LeO.ite ?_ ?_)
      | (with_reducible refine LeO.bind ?_ (fun _ => ?_))
      | exact ih0 _ _ _ _
      | exact LeO.none _
      | refine LeO.ite ?_ ?_
      | refine LeO.bind ?_ (fun _ => ?_)
set_option maxHeartbeats 8000000 in
set_option maxRecDepth 100000 in
theorem slices_Equal_int_int.calls (k : Nat) (A0 : Option Addr) (c0 : Nat) (l0 : List Int) (A1 : Option Addr) (c1 : Nat) (l1 : List Int) (r : Bool) (w : World) (hr0 : Kd.C (Kd.int .i64) w A0 l0.length l0) (hc0 : l0.length ≤ c0) (hr1 : Kd.C (Kd.int .i64) w A1 l1.length l1) (hc1 : l1.length ≤ c1) (h : slices_Equal_int_int.f k l0 l1 = some r) :
    Calls Try.prog 144 #[.slice A0 l0.length c0, .slice A1 l1.length c1] w fun e w' => e = .returned (.bool r) ∧ Drawn0 w w' := by
  have HR0 := Aside0.mk hr0
  have HC0 := Aside0.mk hc0
  clear hr0 hc0
  have HR1 := Aside0.mk hr1
  have HC1 := Aside0.mk hc1
  clear hr1 hc1
  have H : (if (l0.length : Int) = (l1.length : Int) then (slices_Equal_int_int.l0 k l0 l1 (l0.length : Int) 0) else (some false)) = some r := h
  clear h
  by_cases c3 : (l0.length : Int) = (l1.length : Int)
  · rw [if_pos c3] at H
    have c3b0 : ((l0.length : Int) == (l1.length : Int)) = true := beq_iff_eq.mpr c3
    have c3b1 : ((l0.length : Int) != (l1.length : Int)) = false := bne_eq_false_iff_eq.mpr c3
    have c3b2 : (l0.length == l1.length) = true := by first | simpa using c3 | (simp at c3 ⊢; omega)
    clear c3
    have H' := Aside0.mk H
    clear H
    go_enter Try.func144, Try.ntmps144
    go_wp2
    repeat (go_quiet (fail); try go_wp2)
    go_loopg [13] k (fun kq v13 w' => ∃ (x13_1 : Int), v13 = .int .i64 x13_1 ∧ Aside0 (slices_Equal_int_int.l0 kq l0 l1 (l0.length : Int) x13_1 = some r) ∧ Aside0 (kq ≤ k) ∧ Drawn0 w w')
    case atStart => exact ⟨(0), (by first | rfl | (simp; done) | (simp [*]; done)), H', ⟨Nat.le_refl _⟩, by repeat (first | exact Drawn0.refl _ | apply Drawn0.step)⟩
    case round =>
      clear H'
      try clear c1
      try clear p2
      try clear c3
      try clear c3b0
      try clear c3b1
      try clear c3b2
      obtain ⟨x13_1, rfl, HA, HK1, ⟨m1, rfl⟩⟩ := hrel
      cases gk with
      | zero => exact absurd HA.out (by simp [slices_Equal_int_int.l0])
      | succ k1 =>
        have H := HA.out
        clear HA
        simp only [slices_Equal_int_int.l0] at H
        by_cases c4 : x13_1 < (l0.length : Int)
        · rw [if_pos c4] at H
          have c4b0 : decide (x13_1 < (l0.length : Int)) = true := decide_eq_true c4
          clear c4
          by_cases c5 : 0 ≤ x13_1
          · rw [if_pos c5] at H
            have c5b0 : decide (0 ≤ x13_1) = true := decide_eq_true c5
            clear c5
            by_cases c6 : x13_1 < (l0.length : Int)
            · rw [if_pos c6] at H
              have c6b0 : decide (x13_1 < (l0.length : Int)) = true := decide_eq_true c6
              clear c6
              by_cases c7 : x13_1 < (l1.length : Int)
              · rw [if_pos c7] at H
                have c7b0 : decide (x13_1 < (l1.length : Int)) = true := decide_eq_true c7
                clear c7
                by_cases c8 : (rd l0 x13_1) = (rd l1 x13_1)
                · rw [if_pos c8] at H
                  have c8b0 : ((rd l0 x13_1) == (rd l1 x13_1)) = true := beq_iff_eq.mpr c8
                  have c8b1 : ((rd l0 x13_1) != (rd l1 x13_1)) = false := bne_eq_false_iff_eq.mpr c8
                  clear c8
                  have H' := Aside0.mk H
                  clear H
                  have p101 : 0 ≤ (x13_1 : Int) := of_decide_eq_true (by first | (with_reducible assumption) | assumption)
                  have q101 : x13_1 < (l0.length : Int) := of_decide_eq_true (by first | (with_reducible assumption) | assumption)
                  obtain ⟨ad101, e101, hx101_0⟩ := Kd.at_int HR0.out x13_1 p101 q101
                  cases e101
                  replace p101 := eq_true p101
                  replace q101 := eq_true q101
                  have p102 : 0 ≤ (x13_1 : Int) := of_decide_eq_true (by first | (with_reducible assumption) | assumption)
                  have q102 : x13_1 < (l1.length : Int) := of_decide_eq_true (by first | (with_reducible assumption) | assumption)
                  obtain ⟨ad102, e102, hx102_0⟩ := Kd.at_int HR1.out x13_1 p102 q102
                  cases e102
                  replace p102 := eq_true p102
                  replace q102 := eq_true q102
                  go_wp2
                  repeat (go_quiet (fail); try go_wp2)
                  go_roundg k1
                  case measure => have := HK1.out; omega
                  case rel => exact ⟨(wrap64 (x13_1 + 1)), (by first | rfl | (simp; done) | (simp [*]; done)), H', ⟨by have := HK1.out; omega⟩, by repeat (first | exact Drawn0.refl _ | apply Drawn0.step)⟩
                · rw [if_neg c8] at H
                  have c8b0 : ((rd l0 x13_1) == (rd l1 x13_1)) = false := beq_eq_false_iff_ne.mpr c8
                  have c8b1 : ((rd l0 x13_1) != (rd l1 x13_1)) = true := bne_iff_ne.mpr c8
                  obtain rfl := Option.some.inj H
                  have p101 : 0 ≤ (x13_1 : Int) := of_decide_eq_true (by first | (with_reducible assumption) | assumption)
                  have q101 : x13_1 < (l0.length : Int) := of_decide_eq_true (by first | (with_reducible assumption) | assumption)
                  obtain ⟨ad101, e101, hx101_0⟩ := Kd.at_int HR0.out x13_1 p101 q101
                  cases e101
                  replace p101 := eq_true p101
                  replace q101 := eq_true q101
                  have p102 : 0 ≤ (x13_1 : Int) := of_decide_eq_true (by first | (with_reducible assumption) | assumption)
                  have q102 : x13_1 < (l1.length : Int) := of_decide_eq_true (by first | (with_reducible assumption) | assumption)
                  obtain ⟨ad102, e102, hx102_0⟩ := Kd.at_int HR1.out x13_1 p102 q102
                  cases e102
                  replace p102 := eq_true p102
                  replace q102 := eq_true q102
                  go_wp2
                  repeat (go_quiet (fail); try go_wp2)
                  go_ret
                  exact ⟨by first | rfl | (simp; done) | (simp [*]; done), by repeat (first | exact Drawn0.refl _ | apply Drawn0.step)⟩
              · rw [if_neg c7] at H
                exact absurd H (by simp)
            · rw [if_neg c6] at H
              exact absurd H (by simp)
          · rw [if_neg c5] at H
            exact absurd H (by simp)
        · rw [if_neg c4] at H
          have c4b0 : decide (x13_1 < (l0.length : Int)) = false := decide_eq_false c4
          clear c4
          obtain rfl := Option.some.inj H
          go_wp2
          repeat (go_quiet (fail); try go_wp2)
          go_ret
          exact ⟨by first | rfl | (simp; done) | (simp [*]; done), by repeat (first | exact Drawn0.refl _ | apply Drawn0.step)⟩
  · rw [if_neg c3] at H
    have c3b0 : ((l0.length : Int) == (l1.length : Int)) = false := beq_eq_false_iff_ne.mpr c3
    have c3b1 : ((l0.length : Int) != (l1.length : Int)) = true := bne_iff_ne.mpr c3
    have c3b2 : (l0.length == l1.length) = false := by first | simpa using c3 | (simp at c3 ⊢; omega)
    obtain rfl := Option.some.inj H
    go_enter Try.func144, Try.ntmps144
    go_wp2
    repeat (go_quiet (fail); try go_wp2)
    go_ret
    exact ⟨by first | rfl | (simp; done) | (simp [*]; done), by repeat (first | exact Drawn0.refl _ | apply Drawn0.step)⟩

/-! ### impl_rankOf_1: function 149 -/
def impl_rankOf_1.f (k : Nat) (l0 : List Int) (l1_0 : List Int) : Option (Bool) := (slices_Equal_int_int.f k l0 l1_0).bind fun t101 => (some t101)
theorem impl_rankOf_1.mono : ∀ a0 a1  k, LeO (impl_rankOf_1.f k a0 a1) (impl_rankOf_1.f (k + 1) a0 a1) := by
  intro a0 a1 k
  unfold impl_rankOf_1.f
  repeat' first
      | (with_reducible exact slices_Equal_int_int.mono _ _ _)
      | (with_reducible exact LeO.refl _)
      | (with_reducible exact LeO.none _)
      | (with_reducible refine LeO.ite ?_ ?_)
      | (with_reducible refine LeO.bind ?_ (fun _ => ?_))
      | exact slices_Equal_int_int.mono _ _ _
      | exact LeO.none _
      | refine LeO.ite ?_ ?_
      | refine LeO.bind ?_ (fun _ => ?_)
set_option maxHeartbeats 8000000 in
set_option maxRecDepth 100000 in
theorem impl_rankOf_1.calls (k : Nat) (A0 : Option Addr) (c0 : Nat) (l0 : List Int) (B1 : Nat) (A1_0 : Option Addr) (c1_0 : Nat) (l1_0 : List Int) (r : Bool) (w : World) (hr0 : Kd.C (Kd.int .i64) w A0 l0.length l0) (hc0 : l0.length ≤ c0) (hb1 : w.heap[B1]? = some (.cells #[.slice A1_0 l1_0.length c1_0] 22 (0, 0))) (hr1_0 : Kd.C (Kd.int .i64) w A1_0 l1_0.length l1_0) (hc1_0 : l1_0.length ≤ c1_0) (h : impl_rankOf_1.f k l0 l1_0 = some r) :
    Calls Try.prog 149 #[.slice A0 l0.length c0, .pointer (some ⟨B1, 0, none⟩)] w fun e w' => e = .returned (.bool r) ∧ Drawn0 w w' := by
  have HR0 := Aside0.mk hr0
  have HC0 := Aside0.mk hc0
  clear hr0 hc0
  have HR1_0 := Aside0.mk hr1_0
  have HC1_0 := Aside0.mk hc1_0
  clear hr1_0 hc1_0
  have BK61 := Aside0.mk hb1
  clear hb1
  have H : ((slices_Equal_int_int.f k l0 l1_0).bind fun t101 => (some t101)) = some r := h
  clear h
  replace H := Option.bind_eq_some_iff.mp H
  obtain ⟨t101, A30, H⟩ := H
  replace H : (some t101) = some r := H
  have A3 := Aside0.mk A30
  clear A30
  obtain rfl := Option.some.inj H
  have hcz4_0 : w.cell? ⟨B1, 0, none⟩ = some (.slice A1_0 l1_0.length c1_0) := (blk_cell BK61.out 0).trans rfl
  have hfz4_0 := blk_frozen BK61.out 0
  go_enter Try.func149, Try.ntmps149
  go_wp2_with (first | ((with_reducible refine gate_callee (f := 144) rfl ?_); refine goesL_ (some 6) rfl rfl Try.func144 (by kernel_rfl) rfl #[.slice A0 l0.length c0, .slice A1_0 l1_0.length c1_0] rfl (by (try simp only [List.map_toArray, List.map_cons, List.map_nil]); first | done | rfl | (simp only [List.length_drop, List.length_take]; rfl)) ?_; (with_reducible refine (slices_Equal_int_int.calls k _ _ l0 _ _ l1_0 t101 _ ?side1 ?side2 ?side3 ?side4 A3.out).mono ?_); (case side1 => repeat (first | exact HR0.out | (with_reducible refine Kd.C_alloc ?_ _) | (with_reducible refine Kd.C_drewN ?_ _) | (with_reducible refine Kd.C_drew ?_))); (case side2 => exact HC0.out); (case side3 => repeat (first | exact HR1_0.out | (with_reducible refine Kd.C_alloc ?_ _) | (with_reducible refine Kd.C_drewN ?_ _) | (with_reducible refine Kd.C_drew ?_))); (case side4 => exact HC1_0.out); rintro e w' ⟨rfl, ⟨nd, rfl⟩⟩; refine ⟨_, rfl, ?_⟩))
  go_ret
  exact ⟨by first | rfl | (simp; done) | (simp [*]; done), by repeat (first | exact Drawn0.refl _ | apply Drawn0.step)⟩

/-! ### impl_rankOf: function 94 -/
def impl_rankOf.f (k : Nat) (l0 : List (List Int)) (l1 : List Int) : Option (Int) := (slices_IndexFunc_int_int_148.f k l0 (fun x0_ => impl_rankOf_1.f k x0_ l1)).bind fun t102 => (some t102)
theorem impl_rankOf.mono : ∀ a0 a1  k, LeO (impl_rankOf.f k a0 a1) (impl_rankOf.f (k + 1) a0 a1) := by
  intro a0 a1 k
  unfold impl_rankOf.f
  repeat' first
      | (with_reducible exact impl_rankOf_1.mono _ _ _)
      | (with_reducible refine slices_IndexFunc_int_int_148.mono _ _ _ (fun _ => ?_) _)
      | (with_reducible exact LeO.refl _)
      | (with_reducible exact LeO.none _)
      | (with_reducible refine LeO.ite ?_ ?_)
      | (with_reducible refine LeO.bind ?_ (fun _ => ?_))
      | exact impl_rankOf_1.mono _ _ _
      | exact LeO.none _
      | refine LeO.ite ?_ ?_
      | refine LeO.bind ?_ (fun _ => ?_)
set_option maxHeartbeats 8000000 in
set_option maxRecDepth 100000 in
theorem impl_rankOf.calls (k : Nat) (A0 : Option Addr) (c0 : Nat) (l0 : List (List Int)) (A1 : Option Addr) (c1 : Nat) (l1 : List Int) (r : Int) (w : World) (hr0 : Kd.C (Kd.slice 3 (Kd.int .i64)) w A0 l0.length l0) (hc0 : l0.length ≤ c0) (hr1 : Kd.C (Kd.int .i64) w A1 l1.length l1) (hc1 : l1.length ≤ c1) (h : impl_rankOf.f k l0 l1 = some r) :
    Calls Try.prog 94 #[.slice A0 l0.length c0, .slice A1 l1.length c1] w fun e w' => e = .returned (.int .i64 r) ∧ Below w.heap.size w w' := by
  have HR0 := Aside0.mk hr0
  have HC0 := Aside0.mk hc0
  clear hr0 hc0
  have HR1 := Aside0.mk hr1
  have HC1 := Aside0.mk hc1
  clear hr1 hc1
  have HB := Aside0.mk (Below.refl w.heap.size w)
  have H : ((slices_IndexFunc_int_int_148.f k l0 (fun x0_ => impl_rankOf_1.f k x0_ l1)).bind fun t102 => (some t102)) = some r := h
  clear h
  replace H := Option.bind_eq_some_iff.mp H
  obtain ⟨t102, A30, H⟩ := H
  replace H : (some t102) = some r := H
  have A3 := Aside0.mk A30
  clear A30
  obtain rfl := Option.some.inj H
  go_enter Try.func94, Try.ntmps94
  go_wp2_with (first | ((with_reducible refine gate_dst (N := 3) rfl ?_); refine box_event ?hg (N := 3) ?hd (cs := #[.slice A1 l1.length c1]) (t := 22) ?hr ?_; (case hd => rfl); (case hg => rfl); (case hr => first | (go_simp; done) | (go_simp; rfl)); intro gb101 hg w4 hbox hb; have n0_ := Aside0.mk (below_step (by repeat (first | (with_reducible first | exact HB.out | apply below_alloc | apply pw_below_drewN | apply below_drew1) | exact HB.out)) hb); have n1_ := Aside0.mk (hbox); have n2_ := Aside0.mk ((by rw [hg]; exact (below_size (by repeat (first | (with_reducible first | exact HB.out | apply below_alloc | apply pw_below_drewN | apply below_drew1) | exact HB.out))) : w.heap.size ≤ gb101)); have n3_ := Aside0.mk ((by rw [hg]; exact (below_size (by repeat (first | (with_reducible first | exact HB.out | apply below_alloc | apply pw_below_drewN | apply below_drew1) | exact HB.out))) : w.heap.size ≤ gb101)); clear HB; have HB := n0_; have BK101 := n1_; have GW101 := n2_; have GE101 := n3_; clear n0_ n1_ n2_ n3_; clear hb hbox hg) | ((with_reducible refine gate_callee (f := 148) rfl ?_); refine goesL_ (some 7) rfl rfl Try.func148 (by kernel_rfl) rfl #[.slice A0 l0.length c0, .func (.func 149) #[] #[.pointer (some ⟨gb101, 0, none⟩)]] rfl (by (try simp only [List.map_toArray, List.map_cons, List.map_nil]); first | done | rfl | (simp only [List.length_drop, List.length_take]; rfl)) ?_; (with_reducible refine (slices_IndexFunc_int_int_148.calls k _ _ l0 _ _ (fun x0_ => impl_rankOf_1.f k x0_ l1) t102 _ ?side1 ?side2 ?side3 A3.out).mono ?_); (case side1 => repeat (first | exact (Kd.C_below HR0.out HB.out) | (with_reducible refine Kd.C_alloc ?_ _) | (with_reducible refine Kd.C_drewN ?_ _) | (with_reducible refine Kd.C_drew ?_))); (case side2 => exact HC0.out); (case side3 => refine ⟨enters_of Try.func149 (by kernel_rfl) rfl, fun W_ hW_ x0_ v0_ hK0_ r_ hr_ => ?_⟩; obtain ⟨A0_, c0_, e0_, hl0_, hC0_⟩ := hK0_; cases e0_; refine (impl_rankOf_1.calls k A0_ c0_ x0_ _ A1 c1 l1 r_ W_ hC0_ hl0_ ?cb1 ?cb2 ?cb3 hr_).mono ?_; (case cb1 => exact blk_below (by (with_reducible repeat (first | refine blk_drewN ?_ _ | refine blk_drew ?_ | refine blk_alloc ?_ _)); exact BK101.out) hW_); (case cb2 => refine Kd.C_below ?_ hW_; repeat (first | exact (Kd.C_below HR1.out HB.out) | (with_reducible refine Kd.C_alloc ?_ _) | (with_reducible refine Kd.C_drewN ?_ _) | (with_reducible refine Kd.C_drew ?_))); (case cb3 => exact HC1.out); exact fun _ _ h_ => ⟨h_.1, h_.2.below⟩); rintro e w5 ⟨rfl, hb⟩; refine ⟨_, rfl, ?_⟩; have n0_ := Aside0.mk (blk_below (g := gb101) (o := .cells #[.slice A1 l1.length c1] 22 (0, 0)) (by (with_reducible repeat (first | refine blk_drewN ?_ _ | refine blk_drew ?_ | refine blk_alloc ?_ _)); exact BK101.out) hb); have n1_ := Aside0.mk (below_step (by repeat (first | (with_reducible first | exact HB.out | apply below_alloc | apply pw_below_drewN | apply below_drew1 | refine below_set ?_ GE101.out) | exact HB.out)) hb); clear BK101; clear HB; have BK101 := n0_; have HB := n1_; clear n0_ n1_; (try clear hb); (try clear hb2); (try clear hk); (try clear hi)))
  go_ret
  exact ⟨by first | rfl | (simp [errW_none, errW_some] <;> rfl) | (simp [*, errW_none, errW_some] <;> rfl), by repeat (first | (with_reducible first | exact HB.out | apply below_alloc | apply pw_below_drewN | apply below_drew1 | refine below_set ?_ GE101.out) | exact HB.out)⟩

/-! ### slices_Index_int_int: function 151 -/
def slices_Index_int_int.l0 : Nat → List Int → Int → Int → Int → Option (Int)
  | 0, _, _, _, _ => none
  | k + 1, x0, x1, x7, x8 => if x8 < x7 then (if 0 ≤ x8 then (if x8 < (x0.length : Int) then (if x1 = (rd x0 x8) then (some x8) else (slices_Index_int_int.l0 k x0 x1 x7 (wrap64 (x8 + 1)))) else (none)) else (none)) else (some (-1))
def slices_Index_int_int.f (k : Nat) (l0 : List Int) (a1 : Int) : Option (Int) := slices_Index_int_int.l0 k l0 a1 (l0.length : Int) 0
theorem slices_Index_int_int.mono_l : ∀ k, (∀ y0 y1 y2 y3, LeO (slices_Index_int_int.l0 k y0 y1 y2 y3) (slices_Index_int_int.l0 (k + 1) y0 y1 y2 y3))
  | 0 => fun _ _ _ _ r h => by simp [slices_Index_int_int.l0] at h
  | k + 1 => by
    have ih0 := slices_Index_int_int.mono_l k
    · intro y0 y1 y2 y3
      unfold slices_Index_int_int.l0
      repeat' first
      | (with_reducible exact ih0 _ _ _ _)
      | (with_reducible exact LeO.refl _)
      | (with_reducible exact LeO.none _)
      | (with_reducible refine LeO.ite ?_ ?_)
      | (with_reducible refine LeO.bind ?_ (fun _ => ?_))
      | exact ih0 _ _ _ _
      | exact LeO.none _
      | refine LeO.ite ?_ ?_
      | refine LeO.bind ?_ (fun _ => ?_)
theorem slices_Index_int_int.mono : ∀ a0 a1  k, LeO (slices_Index_int_int.f k a0 a1) (slices_Index_int_int.f (k + 1) a0 a1) := by
  intro a0 a1 k
  have ih0 := slices_Index_int_int.mono_l k
  unfold slices_Index_int_int.f
  repeat' first
      | (with_reducible exact ih0 _ _ _ _)
      | (with_reducible exact LeO.refl _)
      | (with_reducible exact LeO.none _)
      | (with_reducible refine LeO.ite ?_ ?_)
      | (with_reducible refine LeO.bind ?_ (fun _ => ?_))
      | exact ih0 _ _ _ _
      | exact LeO.none _
      | refine LeO.ite ?_ ?_
      | refine LeO.bind ?_ (fun _ => ?_)
set_option maxHeartbeats 8000000 in
set_option maxRecDepth 100000 in
theorem slices_Index_int_int.calls (k : Nat) (A0 : Option Addr) (c0 : Nat) (l0 : List Int) (a1 : Int) (r : Int) (w : World) (hr0 : Kd.C (Kd.int .i64) w A0 l0.length l0) (hc0 : l0.length ≤ c0) (h : slices_Index_int_int.f k l0 a1 = some r) :
    Calls Try.prog 151 #[.slice A0 l0.length c0, .int .i64 a1] w fun e w' => e = .returned (.int .i64 r) ∧ Drawn0 w w' := by
  have HR0 := Aside0.mk hr0
  have HC0 := Aside0.mk hc0
  clear hr0 hc0
  have H : (slices_Index_int_int.l0 k l0 a1 (l0.length : Int) 0) = some r := h
  clear h
  have H' := Aside0.mk H
  clear H
  go_enter Try.func151, Try.ntmps151
  go_wp2
  go_loopg [8] k (fun kq v8 w' => ∃ (x8_1 : Int), v8 = .int .i64 x8_1 ∧ Aside0 (slices_Index_int_int.l0 kq l0 a1 (l0.length : Int) x8_1 = some r) ∧ Aside0 (kq ≤ k) ∧ Drawn0 w w')
  case atStart => exact ⟨(0), (by first | rfl | (simp; done) | (simp [*]; done)), H', ⟨Nat.le_refl _⟩, by repeat (first | exact Drawn0.refl _ | apply Drawn0.step)⟩
  case round =>
    clear H'
    try clear c1
    try clear p2
    obtain ⟨x8_1, rfl, HA, HK1, ⟨m1, rfl⟩⟩ := hrel
    cases gk with
    | zero => exact absurd HA.out (by simp [slices_Index_int_int.l0])
    | succ k1 =>
      have H := HA.out
      clear HA
      simp only [slices_Index_int_int.l0] at H
      by_cases c3 : x8_1 < (l0.length : Int)
      · rw [if_pos c3] at H
        have c3b0 : decide (x8_1 < (l0.length : Int)) = true := decide_eq_true c3
        clear c3
        by_cases c4 : 0 ≤ x8_1
        · rw [if_pos c4] at H
          have c4b0 : decide (0 ≤ x8_1) = true := decide_eq_true c4
          clear c4
          by_cases c5 : x8_1 < (l0.length : Int)
          · rw [if_pos c5] at H
            have c5b0 : decide (x8_1 < (l0.length : Int)) = true := decide_eq_true c5
            clear c5
            by_cases c6 : a1 = (rd l0 x8_1)
            · rw [if_pos c6] at H
              have c6b0 : (a1 == (rd l0 x8_1)) = true := beq_iff_eq.mpr c6
              have c6b1 : (a1 != (rd l0 x8_1)) = false := bne_eq_false_iff_eq.mpr c6
              clear c6
              obtain rfl := Option.some.inj H
              have p101 : 0 ≤ (x8_1 : Int) := of_decide_eq_true (by first | (with_reducible assumption) | assumption)
              have q101 : x8_1 < (l0.length : Int) := of_decide_eq_true (by first | (with_reducible assumption) | assumption)
              obtain ⟨ad101, e101, hx101_0⟩ := Kd.at_int HR0.out x8_1 p101 q101
              cases e101
              replace p101 := eq_true p101
              replace q101 := eq_true q101
              go_wp2
              go_ret
              exact ⟨by first | rfl | (simp; done) | (simp [*]; done), by repeat (first | exact Drawn0.refl _ | apply Drawn0.step)⟩
            · rw [if_neg c6] at H
              have c6b0 : (a1 == (rd l0 x8_1)) = false := beq_eq_false_iff_ne.mpr c6
              have c6b1 : (a1 != (rd l0 x8_1)) = true := bne_iff_ne.mpr c6
              have H' := Aside0.mk H
              clear H
              have p101 : 0 ≤ (x8_1 : Int) := of_decide_eq_true (by first | (with_reducible assumption) | assumption)
              have q101 : x8_1 < (l0.length : Int) := of_decide_eq_true (by first | (with_reducible assumption) | assumption)
              obtain ⟨ad101, e101, hx101_0⟩ := Kd.at_int HR0.out x8_1 p101 q101
              cases e101
              replace p101 := eq_true p101
              replace q101 := eq_true q101
              go_wp2
              go_roundg k1
              case measure => have := HK1.out; omega
              case rel => exact ⟨(wrap64 (x8_1 + 1)), (by first | rfl | (simp; done) | (simp [*]; done)), H', ⟨by have := HK1.out; omega⟩, by repeat (first | exact Drawn0.refl _ | apply Drawn0.step)⟩
          · rw [if_neg c5] at H
            exact absurd H (by simp)
        · rw [if_neg c4] at H
          exact absurd H (by simp)
      · rw [if_neg c3] at H
        have c3b0 : decide (x8_1 < (l0.length : Int)) = false := decide_eq_false c3
        clear c3
        obtain rfl := Option.some.inj H
        go_wp2
        go_ret
        exact ⟨by first | rfl | (simp; done) | (simp [*]; done), by repeat (first | exact Drawn0.refl _ | apply Drawn0.step)⟩

/-! ### slices_Clone_int_int: function 102 (by hand) -/
def slices_Clone_int_int.f (l0 : List Int) : Option (List Int) := if l0.length < 17592186044416 then some l0 else none
set_option maxHeartbeats 1000000 in
set_option maxRecDepth 100000 in
theorem slices_Clone_int_int.calls (A0 : Option Addr) (c0 : Nat) (l0 : List Int) (r : List Int) (w : World) (hr0 : Kd.C (Kd.int .i64) w A0 l0.length l0) (hc0 : l0.length ≤ c0) (h : slices_Clone_int_int.f l0 = some r) :
    Calls Try.prog 102 #[.slice A0 l0.length c0] w fun e w' => ∃ v0_ : Value, e = .returned (v0_) ∧ Kd.R (Kd.int .i64) 3 w' w.heap.size (fun _ => True) v0_ r ∧ Below w.heap.size w w' := by
  have hlt : l0.length < 17592186044416 := by
    unfold slices_Clone_int_int.f at h
    split at h
    · assumption
    · cases h
  unfold slices_Clone_int_int.f at h
  rw [if_pos hlt] at h
  obtain rfl := Option.some.inj h
  have LMc2 := Aside0.mk (show ([] : List Int).length + l0.length < 17592186044416 by simpa using hlt)
  clear h hlt
  have HR0 := Aside0.mk hr0
  have HC0 := Aside0.mk hc0
  clear hr0 hc0
  have HB := Aside0.mk (Below.refl w.heap.size w)
  cases A0 with
  | none =>
    have hl : l0 = [] := by
      have h1 := HR0.out.2.2
      cases l0 with
      | nil => rfl
      | cons x xs =>
        obtain ⟨ad, e, _⟩ := h1 (by simp)
        cases e
    subst hl
    have hq := fun W : World => Lib.run_eql_slice_nil (P := Try.prog) W 22 3 none ([] : List Int).length c0 0 0 Try.underlying22
    simp only [Option.isNone_none, List.length_nil] at hq
    go_enter Try.func102, Try.ntmps102
    go_wp2
    go_ret
    exact ⟨_, rfl, Kd.R_nil _ _ _ _ _, Below.refl _ _⟩
  | some ad =>
    have hq := fun W : World => Lib.run_eql_slice_nil (P := Try.prog) W 22 3 (some ad) l0.length c0 0 0 Try.underlying22
    simp only [Option.isNone_some] at hq
    obtain ⟨y101, hy101⟩ : ∃ y_ : List Int, y_ = (([] : List Int)) := ⟨_, rfl⟩
    rw [← hy101] at LMc2
    have Ny101 := Aside0.mk hy101
    clear hy101
    obtain ⟨y104, hy104⟩ : ∃ y_ : List Int, y_ = (y101 ++ l0) := ⟨_, rfl⟩
    have Ny104 := Aside0.mk hy104
    clear hy104
    go_enter Try.func102, Try.ntmps102
    go_wp2_with (first | ((with_reducible refine gate_dst (N := 5) rfl ?_); refine Kd.R_lit (Kd.int .i64) _ 3 ?hg (N := 5) ?hd (xs := ([] : List Int)) (inner := []) (ok := fun _ => True) (okp := fun _ => True) ?hr ?hp (fun _ hk => hk) trivial (Below.refl _ _) (Nat.le_refl _) (by simp) ?_; (case hd => rfl); (case hg => rfl); (case hr => first | (go_simp; done) | (go_simp; rfl)); (case hp => exact (Reps.none _ _)); intro v102 w3 ho4 hb hg_ hnew_; clear hg_ hnew_; (first | rw [← Ny101.out] at ho4 | (simp only [Int.reduceToNat] at ho4; rw [← Ny101.out] at ho4)); have n0_ := Aside0.mk (Kd.R_lower ho4 (below_size (by repeat (first | (with_reducible first | exact HB.out | apply below_alloc | apply pw_below_drewN | apply below_drew1) | exact HB.out)))); have n1_ := Aside0.mk (below_step (by repeat (first | (with_reducible first | exact HB.out | apply below_alloc | apply pw_below_drewN | apply below_drew1) | exact HB.out)) hb); clear HB; have HO103 := n0_; have HB := n1_; clear n0_ n1_; clear hb ho4) | ((with_reducible refine gate_builtin (b := .append) (xs := #[.tmp 5, .tmp 6]) rfl ?_); at_builtin; refine Kd.R_append_rows (Kd.int .i64) (w0 := w) w.heap.size rfl (.tmp 5) (.tmp 6) 22 3 (.int .i64 0) 8 rfl Try.underlying22 info3 rfl (by decide) (by omega) v102 y101 l0 _ _ _ (fun _ => True) (fun _ => False) rfl rfl ?aO ?aR (fun _ _ h => h) (fun _ h => h.elim) ?aF ?aB ?aS ?aL ?_; (case aR => repeat (first | exact (Kd.C_below HR0.out HB.out) | (with_reducible refine Kd.C_alloc ?_ _) | (with_reducible refine Kd.C_drewN ?_ _) | (with_reducible refine Kd.C_drew ?_))); (case aB => exact (by repeat (first | (with_reducible first | exact HB.out | apply below_alloc | apply pw_below_drewN | apply below_drew1) | exact HB.out))); (case aF => exact (fun _ _ => trivial)); (case aO => exact (by (with_reducible repeat (first | apply Kd.R_alloc | apply Kd.R_drewN | apply Kd.R_drew)); exact HO103.out)); (case aS => exact (below_size (by repeat (first | (with_reducible first | exact HB.out | apply below_alloc | apply pw_below_drewN | apply below_drew1) | exact HB.out)))); (case aL => have := LMc2.out; omega); intro v105 w5 ho hb hg hat; rw [← Ny104.out] at ho; have n0_ := Aside0.mk (hb); have n1_ := Aside0.mk (ho); clear HB; clear HO103; have HB := n0_; have HO106 := n1_; clear n0_ n1_; clear ho hb hg hat))
    go_ret
    have he : y104 = l0 := by rw [Ny104.out, Ny101.out]; rfl
    exact ⟨_, rfl, he ▸ HO106.out, by repeat (first | (with_reducible first | exact HB.out | apply below_alloc | apply pw_below_drewN | apply below_drew1) | exact HB.out)⟩

/-! ### impl_joined: function 152 -/
def impl_joined.f (l0 : List Int) (a1 : Int) (a2 : Int) : Option (List Int) := (slices_Clone_int_int.f l0).bind fun t101 => (if 0 ≤ a1 then (if a1 < (t101.length : Int) then (if 0 ≤ a2 then (if a2 < (t101.length : Int) then (some ((t101.set (a1 : Int).toNat a2).set (a2 : Int).toNat a1)) else (none)) else (none)) else (none)) else (none))
set_option maxHeartbeats 8000000 in
set_option maxRecDepth 100000 in
theorem impl_joined.calls (A0 : Option Addr) (c0 : Nat) (l0 : List Int) (a1 : Int) (a2 : Int) (r : List Int) (w : World) (hr0 : Kd.C (Kd.int .i64) w A0 l0.length l0) (hc0 : l0.length ≤ c0) (h : impl_joined.f l0 a1 a2 = some r) :
    Calls Try.prog 152 #[.slice A0 l0.length c0, .int .i64 a1, .int .i64 a2] w fun e w' => ∃ v0_ : Value, e = .returned (v0_) ∧ Kd.R (Kd.int .i64) 3 w' w.heap.size (fun _ => True) v0_ r ∧ Below w.heap.size w w' := by
  have HR0 := Aside0.mk hr0
  have HC0 := Aside0.mk hc0
  clear hr0 hc0
  have HB := Aside0.mk (Below.refl w.heap.size w)
  have H : ((slices_Clone_int_int.f l0).bind fun t101 => (if 0 ≤ a1 then (if a1 < (t101.length : Int) then (if 0 ≤ a2 then (if a2 < (t101.length : Int) then (some ((t101.set (a1 : Int).toNat a2).set (a2 : Int).toNat a1)) else (none)) else (none)) else (none)) else (none))) = some r := h
  clear h
  replace H := Option.bind_eq_some_iff.mp H
  obtain ⟨t101, A40, H⟩ := H
  replace H : (if 0 ≤ a1 then (if a1 < (t101.length : Int) then (if 0 ≤ a2 then (if a2 < (t101.length : Int) then (some ((t101.set (a1 : Int).toNat a2).set (a2 : Int).toNat a1)) else (none)) else (none)) else (none)) else (none)) = some r := H
  have A4 := Aside0.mk A40
  clear A40
  by_cases c5 : 0 ≤ a1
  · rw [if_pos c5] at H
    have c5b0 : decide (0 ≤ a1) = true := decide_eq_true c5
    clear c5
    by_cases c6 : a1 < (t101.length : Int)
    · rw [if_pos c6] at H
      have c6b0 : decide (a1 < (t101.length : Int)) = true := decide_eq_true c6
      clear c6
      obtain ⟨y104, hy104⟩ : ∃ y_ : List Int, y_ = (t101.set (a1 : Int).toNat a2) := ⟨_, rfl⟩
      replace H : (if 0 ≤ a2 then (if a2 < (t101.length : Int) then (some (y104.set (a2 : Int).toNat a1)) else (none)) else (none)) = some r := by first | (rw [hy104]; with_reducible exact H) | (have H2_ := (Option.bind_some _ _).symm.trans H; rw [hy104]; with_reducible exact H2_) | (have H2_ := (Option.bind_some _ _).symm.trans H; with_reducible exact H2_) | with_reducible exact H | (rw [hy104]; exact H) | exact H
      have Ny104 := Aside0.mk hy104
      clear hy104
      by_cases c8 : 0 ≤ a2
      · rw [if_pos c8] at H
        have c8b0 : decide (0 ≤ a2) = true := decide_eq_true c8
        clear c8
        by_cases c9 : a2 < (t101.length : Int)
        · rw [if_pos c9] at H
          have c9b0 : decide (a2 < (t101.length : Int)) = true := decide_eq_true c9
          clear c9
          obtain ⟨y105, hy105⟩ : ∃ y_ : List Int, y_ = (y104.set (a2 : Int).toNat a1) := ⟨_, rfl⟩
          replace H : (some y105) = some r := by first | (rw [hy105]; with_reducible exact H) | (have H2_ := (Option.bind_some _ _).symm.trans H; rw [hy105]; with_reducible exact H2_) | (have H2_ := (Option.bind_some _ _).symm.trans H; with_reducible exact H2_) | with_reducible exact H | (rw [hy105]; exact H) | exact H
          have Ny105 := Aside0.mk hy105
          clear hy105
          obtain rfl := Option.some.inj H
          go_enter Try.func152, Try.ntmps152
          go_wp2_with (first | ((with_reducible refine gate_callee (f := 102) rfl ?_); refine goesL_ (some 9) rfl rfl Try.func102 (by kernel_rfl) rfl #[.slice A0 l0.length c0] rfl (by (try simp only [List.map_toArray, List.map_cons, List.map_nil]); first | done | rfl | (simp only [List.length_drop, List.length_take]; rfl)) ?_; (with_reducible refine (slices_Clone_int_int.calls _ _ l0 t101 _ ?side1 ?side2 A4.out).mono ?_); (case side1 => repeat (first | exact HR0.out | (with_reducible refine Kd.C_alloc ?_ _) | (with_reducible refine Kd.C_drewN ?_ _) | (with_reducible refine Kd.C_drew ?_))); (case side2 => exact HC0.out); rintro e w11 ⟨v102, rfl, ho0, hb⟩; refine ⟨_, rfl, ?_⟩; have n0_ := Aside0.mk (Kd.R_lower ho0 (below_size (by repeat (first | (with_reducible first | exact HB.out | apply below_alloc | apply pw_below_drewN | apply below_drew1) | exact HB.out)))); have n1_ := Aside0.mk (below_step (by repeat (first | (with_reducible first | exact HB.out | apply below_alloc | apply pw_below_drewN | apply below_drew1) | exact HB.out)) hb); clear HB; have HO103 := n0_; have HB := n1_; clear n0_ n1_; (try clear hb); (try clear hb2); (try clear hk); (try clear hi); (try clear ho0); have p7 : 0 ≤ (a1 : Int) := of_decide_eq_true (by first | (with_reducible assumption) | assumption); have q7 : (a1 : Int) < ((t101.length : Int) : Int) := of_decide_eq_true (by first | (with_reducible assumption) | assumption); obtain ⟨go7, co7, eo7, gb7, gl7, cl7, HG7⟩ := Kd.R_form HO103.out (by omega); (first | cases eo7 | (injection eo7 with ea_ en_ ec_; (first | subst ea_ | (injection ea_ with ea_; subst ea_)); subst ec_; clear en_)); have GB7 := Aside0.mk gb7; have GG7 := Aside0.mk HG7; clear gb7 gl7 HG7; obtain ⟨hx7_0, hf7_0⟩ := Kd.R_celln 0 HO103.out (a1 : Int) p7 q7; replace p7 := eq_true p7; replace q7 := eq_true q7; obtain ⟨hy12_, hz12_⟩ := Kd.R_celln 0 HO103.out (a1 : Int) (of_decide_eq_true (by first | (with_reducible assumption) | assumption)) (of_decide_eq_true (by first | (with_reducible assumption) | assumption)); have HP12 := Kd.R_putg HO103.out (a1 : Int) a2) | ((with_reducible refine gate_store (t := 3) (p := 16) rfl ?_); refine store_event (t := 3) (p := 16) (v := ?vo_w13) (w1 := (w11.setCell ⟨go7, (a1 : Int).toNat, none⟩ (.int .i64 a2))) ?hg ?ho ?hn ?hr ?_; (case ho => rfl); (case hg => rfl); (case hn => rfl); (case hr => first | (go_simp; done) | (go_simp; rfl)); intro w13 hw; have hg : w11.grownBy w13 (some go7) := (by rw [hw]; exact HP12.2); have hp_ : Kd.R (Kd.int .i64) 3 w13 w.heap.size (fun _ => True) (.slice (some ⟨go7, 0, none⟩) t101.length co7) y104 := (by rw [hw, Ny104.out]; exact HP12.1); clear HP12; have n0_ := Aside0.mk (hp_); have n1_ := Aside0.mk ((by rw [hw]; exact below_set (HB.out) GB7.out : Below w.heap.size w w13)); clear HO103; clear HB; have HO103 := n0_; have HB := n1_; clear n0_ n1_; clear hg hw hp_; have p10 : 0 ≤ (a2 : Int) := of_decide_eq_true (by first | (with_reducible assumption) | assumption); have q10 : (a2 : Int) < ((t101.length : Int) : Int) := of_decide_eq_true (by first | (with_reducible assumption) | assumption); obtain ⟨hx10_0, hf10_0⟩ := Kd.R_celln 0 HO103.out (a2 : Int) p10 q10; replace p10 := eq_true p10; replace q10 := eq_true q10; obtain ⟨hy14_, hz14_⟩ := Kd.R_celln 0 HO103.out (a2 : Int) (of_decide_eq_true (by first | (with_reducible assumption) | assumption)) (of_decide_eq_true (by first | (with_reducible assumption) | assumption)); have HP14 := Kd.R_putg HO103.out (a2 : Int) a1) | ((with_reducible refine gate_store (t := 3) (p := 17) rfl ?_); refine store_event (t := 3) (p := 17) (v := ?vo_w15) (w1 := (w13.setCell ⟨go7, (a2 : Int).toNat, none⟩ (.int .i64 a1))) ?hg ?ho ?hn ?hr ?_; (case ho => rfl); (case hg => rfl); (case hn => rfl); (case hr => first | (go_simp; done) | (go_simp; rfl)); intro w15 hw; have hg : w13.grownBy w15 (some go7) := (by rw [hw]; exact HP14.2); have hp_ : Kd.R (Kd.int .i64) 3 w15 w.heap.size (fun _ => True) (.slice (some ⟨go7, 0, none⟩) t101.length co7) y105 := (by rw [hw, Ny105.out]; exact HP14.1); clear HP14; have n0_ := Aside0.mk (hp_); have n1_ := Aside0.mk ((by rw [hw]; exact below_set (HB.out) GB7.out : Below w.heap.size w w15)); clear HO103; clear HB; have HO103 := n0_; have HB := n1_; clear n0_ n1_; clear hg hw hp_))
          go_ret
          exact ⟨_, by first | rfl | (simp [errW_none, errW_some] <;> rfl) | (simp [*, errW_none, errW_some] <;> rfl), by (with_reducible repeat (first | apply Kd.R_alloc | apply Kd.R_drewN | apply Kd.R_drew)); exact HO103.out, by repeat (first | (with_reducible first | exact HB.out | apply below_alloc | apply pw_below_drewN | apply below_drew1) | exact HB.out)⟩
        · rw [if_neg c9] at H
          exact absurd H (by simp)
      · rw [if_neg c8] at H
        exact absurd H (by simp)
    · rw [if_neg c6] at H
      exact absurd H (by simp)
  · rw [if_neg c5] at H
    exact absurd H (by simp)

/-! ### impl_patterns_1: function 150 (by hand) -/
structure impl_patterns_1.St (w0 : World) (B1 B2 T2 : Nat) (w : World) (u : Value) (out : List (List Int)) : Prop where
  b1 : w.heap[B1]? = some (.cells #[u] 39 (0, 0))
  b2 : w.heap[B2]? = some (.cells #[.func (.func 150) #[] #[.pointer (some ⟨B1, 0, none⟩), .pointer (some ⟨B2, 0, none⟩)]] T2 (0, 0))
  ho : Kd.S (Kd.slice 3 (Kd.int .i64)) 22 w w0.heap.size (fun _ => True) u out
  hb : Below w0.heap.size w0 w
  ge : w0.heap.size ≤ B1
theorem impl_patterns_1.St.below {w0 : World} {B1 B2 T2 : Nat} {w w1 : World} {u : Value} {out : List (List Int)} (h : impl_patterns_1.St w0 B1 B2 T2 w u out) (hb : Below w.heap.size w w1) : impl_patterns_1.St w0 B1 B2 T2 w1 u out :=
  ⟨blk_below h.b1 hb, blk_below h.b2 hb, Kd.S_below h.ho hb, below_step h.hb hb, h.ge⟩
theorem impl_patterns_1.St.push {w0 : World} {B1 B2 T2 : Nat} (hT2 : T2 ≠ 39 ∧ T2 ≠ 22) {w w5 : World} {u v : Value} {out : List (List Int)} {x : List Int} (h : impl_patterns_1.St w0 B1 B2 T2 w u out)
    (ho : Kd.S (Kd.slice 3 (Kd.int .i64)) 22 w5 w0.heap.size (fun _ => True) v (out ++ [x])) (hb : Below w0.heap.size w0 w5) (hg : w.grownBy w5 u.ownBlock) :
    impl_patterns_1.St w0 B1 B2 T2 (w5.setCell ⟨B1, 0, none⟩ v) v (out ++ [x]) ∧ Kept w (w5.setCell ⟨B1, 0, none⟩ v) (fun k => k = B1 ∨ some k = u.ownBlock) := by
  have n12 := blk_ne h.b1 h.b2 (Ne.symm hT2.1)
  have b1 := blk_grown h.b1 hg (Kd.S_ne h.ho h.b1 (by decide))
  exact ⟨⟨blk_set b1 0 v, blk_far (blk_grown h.b2 hg (Kd.S_ne h.ho h.b2 (Ne.symm hT2.2))) (Ne.symm n12) v, Kd.S_set ho b1 (by decide) 0 v, below_set hb h.ge, h.ge⟩,
    Kept.setCell (Kept.of_grown hg (Kept.refl _ _) (fun k hk => .inl (.inr hk.symm))) (.inl (.inl rfl)) v⟩
mutual
def impl_patterns_1.l0 : Nat → List Int → Int → Int → Option (List (List Int))
  | 0, _, _, _ => none
  | k + 1, l, i, x => if x < (l.length : Int) then (if 0 ≤ i then (if i < x then (if rd l x < 0 then (if (x - i) % 2 = 1 then ((impl_joined.f l i x).bind fun q => (impl_patterns_1.f k q).bind fun a => (impl_patterns_1.l0 k l i (x + 1)).bind fun b => some (a ++ b)) else impl_patterns_1.l0 k l i (x + 1)) else some []) else none) else none) else some []
def impl_patterns_1.f : Nat → List Int → Option (List (List Int))
  | 0, _ => none
  | k + 1, l => (slices_Index_int_int.f k l (-1)).bind fun i => if i < 0 then some [l] else (if i < 1000000 then impl_patterns_1.l0 k l i (i + 1) else none)
end
theorem impl_patterns_1.mono_l : ∀ k, (∀ y0, LeO (impl_patterns_1.f k y0) (impl_patterns_1.f (k + 1) y0)) ∧ (∀ y0 y1 y2, LeO (impl_patterns_1.l0 k y0 y1 y2) (impl_patterns_1.l0 (k + 1) y0 y1 y2))
  | 0 => ⟨fun _ r h => by simp [impl_patterns_1.f] at h, fun _ _ _ r h => by simp [impl_patterns_1.l0] at h⟩
  | k + 1 => by
    obtain ⟨ih0, ih1⟩ := impl_patterns_1.mono_l k
    refine ⟨?_, ?_⟩
    · intro y0
      unfold impl_patterns_1.f
      repeat' first
      | (with_reducible exact ih1 _ _ _)
      | (with_reducible exact slices_Index_int_int.mono _ _ _)
      | (with_reducible exact LeO.refl _)
      | (with_reducible refine LeO.ite ?_ ?_)
      | (with_reducible refine LeO.bind ?_ (fun _ => ?_))
    · intro y0 y1 y2
      unfold impl_patterns_1.l0
      repeat' first
      | (with_reducible exact ih0 _)
      | (with_reducible exact ih1 _ _ _)
      | (with_reducible exact LeO.refl _)
      | (with_reducible refine LeO.ite ?_ ?_)
      | (with_reducible refine LeO.bind ?_ (fun _ => ?_))
theorem impl_patterns_1.mono : ∀ a0 k, LeO (impl_patterns_1.f k a0) (impl_patterns_1.f (k + 1) a0) := fun a0 k => (impl_patterns_1.mono_l k).1 a0
set_option maxHeartbeats 4000000 in
set_option maxRecDepth 100000 in
theorem impl_patterns_1.calls (k : Nat) : ∀ (A0 : Option Addr) (c0 : Nat) (l0 : List Int) (B1 B2 T2 : Nat) (hT2 : T2 ≠ 39 ∧ T2 ≠ 22) (u : Value) (out r : List (List Int)) (w0 w : World)
    (hs : impl_patterns_1.St w0 B1 B2 T2 w u out) (okp : Nat → Prop) (hl : Kd.R (Kd.int .i64) 3 w w0.heap.size okp (.slice A0 l0.length c0) l0) (hap : Kd.S (Kd.slice 3 (Kd.int .i64)) 22 w w0.heap.size (fun k => ¬ okp k) u out) (hn : out.length + r.length < 5864062014805) (h : impl_patterns_1.f k l0 = some r),
    Calls Try.prog 150 (#[.slice A0 l0.length c0] ++ #[.pointer (some ⟨B1, 0, none⟩), .pointer (some ⟨B2, 0, none⟩)]) w fun e w' => e = .returned (.tuple #[]) ∧ ∃ u', impl_patterns_1.St w0 B1 B2 T2 w' u' (out ++ r) ∧ Kept w w' (fun k => k = B1 ∨ some k = u.ownBlock) ∧ (u'.ownBlock = u.ownBlock ∨ ∃ b, u'.ownBlock = some b ∧ w.heap.size ≤ b) := by
  induction k using Nat.strongRecOn with
  | _ k ih =>
  intro A0 c0 l0 B1 B2 T2 hT2 u out r w0 w hs okp hl hap hn h
  cases k with
  | zero => exact absurd h (by simp [impl_patterns_1.f])
  | succ k =>
  simp only [impl_patterns_1.f] at h
  obtain ⟨i, hi, h⟩ := Option.bind_eq_some_iff.mp h
  have HI := Aside0.mk hi
  have HS := Aside0.mk hs
  have HL := Aside0.mk hl
  have HAP := Aside0.mk hap
  have HN := Aside0.mk hn
  have HC := Aside0.mk (Kd.R_reads' hl).2.1
  have HR0 := Aside0.mk (Kd.R_reads' hl).2.2
  have n12 := blk_ne hs.b1 hs.b2 (Ne.symm hT2.1)
  have hz0 : l0.length ≤ 9223372036854775807 := (Kd.R_reads' hl).2.2.2.1
  clear hs hl hap hn hi
  by_cases c1 : i < 0
  · rw [if_pos c1] at h
    have c1b : decide (i < 0) = true := decide_eq_true c1
    clear c1
    obtain rfl := Option.some.inj h
    clear h
    go_enter Try.func150, Try.ntmps150
    go_wp2_with (first | (go_at_call 151; (refine (slices_Index_int_int.calls k A0 c0 l0 (-1) i w HR0.out HC.out HI.out).mono ?_); rintro e w1 ⟨rfl, hd⟩; have HB1 := Aside0.mk (below_of_drawn hd); have HS1 := Aside0.mk (HS.out.below HB1.out); have HL1 := Aside0.mk (Kd.R_below HL.out HB1.out); have HAP1 := Aside0.mk (Kd.S_below HAP.out HB1.out); clear hd; have hc3 : w1.cell? ⟨B1, 0, none⟩ = some u := (blk_cell HS1.out.b1 0).trans rfl) | ((with_reducible refine gate_builtin (b := .append) (xs := #[.tmp 10, .tmp 12]) rfl ?_); at_builtin; refine Kd.S_append (Kd.slice 3 (Kd.int .i64)) (w0 := w0) w0.heap.size rfl (.tmp 10) (.tmp 12) 39 22 (.slice none 0 0) 24 rfl Try.underlying39 info22 rfl (by decide) (by omega) u out l0 [.slice A0 l0.length c0] (fun _ => True) (fun k => okp k ∧ some k ≠ u.ownBlock) rfl rfl ⟨_, rfl, Kd.R_apart' HL1.out (Kd.S_typed HS1.out.ho) (by decide)⟩ (fun _ hk => ⟨trivial, hk.2⟩) (fun _ _ => trivial) (Kd.S_mono HAP1.out (fun k hk => ⟨trivial, fun h => hk h.1⟩)) HS1.out.hb (below_size HS1.out.hb) (by have := HN.out; simp at this; omega) ?_; intro v5 w5 ho5 hb5 hg5 hat5; have HO5 := Aside0.mk ho5; have HB5 := Aside0.mk hb5; have HG5 := Aside0.mk hg5; have HA5 := Aside0.mk hat5; clear ho5 hb5 hg5 hat5; obtain ⟨A5, k5, e5⟩ := Kd.S_slice HO5.out; subst e5; have hc35 : w5.cell? ⟨B1, 0, none⟩ = some u := (blk_cell (blk_grown HS1.out.b1 HG5.out (Kd.S_ne HS1.out.ho HS1.out.b1 (by decide))) 0).trans rfl; have hf35 := blk_frozen (blk_grown HS1.out.b1 HG5.out (Kd.S_ne HS1.out.ho HS1.out.b1 (by decide))) 0))
    obtain ⟨q1, q2⟩ := impl_patterns_1.St.push hT2 HS1.out HO5.out HB5.out HG5.out
    rw [show (out ++ [l0]).length = out.length + 1 by simp] at q1 q2
    first | go_end0 | ((try simp only [Exit.inBlock, Exit.then]); refine bodyPost_ret (results_none rfl _ _ _) rfl ?_)
    exact ⟨rfl, _, q1, (Kept.of_below HB1.out _).then_ q2 (fun k h => .inl h), by have := HA5.out; rw [show (out ++ [l0]).length = out.length + 1 by simp] at this; exact this.imp_right (fun ⟨b, h1, h2⟩ => ⟨b, h1, Nat.le_trans (below_size HB1.out) h2⟩)⟩
  · rw [if_neg c1] at h
    have c1b : decide (i < 0) = false := decide_eq_false c1
    by_cases c2 : i < 1000000
    · rw [if_pos c2] at h
      have HF := Aside0.mk h
      clear h
      go_enter Try.func150, Try.ntmps150
      go_wp2_with (go_at_call 151; (refine (slices_Index_int_int.calls k A0 c0 l0 (-1) i w HR0.out HC.out HI.out).mono ?_); rintro e w' ⟨rfl, ⟨nd, rfl⟩⟩)
      go_loopg [5] k (fun kq v5 w' => ∃ (x5 : Int) (u' : Value) (acc rest : List (List Int)), v5 = .int .i64 x5 ∧ Aside0 (r = acc ++ rest) ∧ Aside0 (impl_patterns_1.l0 kq l0 i x5 = some rest) ∧ Aside0 (kq ≤ k) ∧ Aside0 (impl_patterns_1.St w0 B1 B2 T2 w' u' (out ++ acc)) ∧ Aside0 (Kd.R (Kd.int .i64) 3 w' w0.heap.size okp (.slice A0 l0.length c0) l0) ∧ Aside0 (Kept w w' (fun k => k = B1 ∨ some k = u.ownBlock)) ∧ Aside0 (u'.ownBlock = u.ownBlock ∨ ∃ b, u'.ownBlock = some b ∧ w.heap.size ≤ b))
      case atStart => exact ⟨i + 1, u, [], r, by go_num, ⟨rfl⟩, HF, ⟨Nat.le_refl _⟩, ⟨by simpa using HS.out.below (pw_below_drewN (Below.refl _ _) nd)⟩, ⟨Kd.R_drewN HL.out nd⟩, ⟨Kept.drewN (Kept.refl _ _) nd⟩, ⟨.inl rfl⟩⟩
      case round =>
        clear HF
        obtain ⟨x5, u2, acc, rest, rfl, HE, HF, HK, HS2, HL2, HKp, HA⟩ := hrel
        cases gk with
        | zero => exact absurd HF.out (by simp [impl_patterns_1.l0])
        | succ k1 =>
          have H := HF.out
          clear HF
          simp only [impl_patterns_1.l0] at H
          by_cases c5 : x5 < (l0.length : Int)
          · rw [if_pos c5] at H
            have d5 : decide (x5 < (l0.length : Int)) = true := decide_eq_true c5
            by_cases c6 : 0 ≤ i
            · rw [if_pos c6] at H
              by_cases c7 : i < x5
              · rw [if_pos c7] at H
                have p5 : 0 ≤ x5 := by omega
                obtain ⟨ad, eA, hcx⟩ := Kd.at_int (Kd.R_reads' HL2.out).2.2 x5 p5 c5
                cases eA
                by_cases c8 : rd l0 x5 < 0
                · rw [if_pos c8] at H
                  have d8 : decide (rd l0 x5 < 0) = true := decide_eq_true c8
                  by_cases c9 : (x5 - i) % 2 = 1
                  · rw [if_pos c9] at H
                    have d9 : ((x5 - i) % 2 == 1) = true := beq_iff_eq.mpr c9
                    obtain ⟨q, hq, H⟩ := Option.bind_eq_some_iff.mp H
                    obtain ⟨ra, ha, H⟩ := Option.bind_eq_some_iff.mp H
                    obtain ⟨rb, hb, H⟩ := Option.bind_eq_some_iff.mp H
                    have HQ := Aside0.mk hq
                    have HR2 := Aside0.mk (Option.some.inj H).symm
                    have HFa := Aside0.mk ha
                    have HFb := Aside0.mk hb
                    clear H ha hb hq c9
                    go_wp2_with fail
                    have HS3 := Aside0.mk (HS2.out.below (below_drew (Below.refl _ _)))
                    have HL3 := Aside0.mk (Kd.R_drew HL2.out)
                    have HR := Aside0.mk (Kd.R_reads' HL3.out).2.2
                    have HKp3 := Aside0.mk (HKp.out.drew)
                    have HC4 := Aside0.mk ((blk_cell HS3.out.b2 0).trans rfl : wr.drew.cell? ⟨B2, 0, none⟩ = some (.func (.func 150) #[] #[.pointer (some ⟨B1, 0, none⟩), .pointer (some ⟨B2, 0, none⟩)]))
                    clear HS2 HL2 HKp hcx
                    refine start_ (n := 6) (S := fun w' => w'.cell? ⟨B2, 0, none⟩ = some (.func (.func 150) #[] #[.pointer (some ⟨B1, 0, none⟩), .pointer (some ⟨B2, 0, none⟩)])) (ds := []) #[false, false, false, false, false, false] (by kernel_rfl) rfl rfl (HC4.out) (fun hHeld => ?_)
                    generalize hW_ : wr.drew = W at HS3 HL3 HR HKp3 HC4 hHeld ⊢
                    clear hW_
                    refine pure_ (i := 1) (N := some 35) (v := ?_) (a' := ?_) #[false, true, false, false, false, false] rfl rfl (by kernel_rfl) (fun _ _ _ h => h) (Or.inl ⟨by rfl, ?_⟩) ?_ ?_
                    rotate_left
                    · intro w'
                      go_simp
                      with_reducible rfl
                    rotate_left
                    · simp only [Act.put, List.setIfInBounds_toArray, List.set_cons_zero, List.set_cons_succ, i64_w, i32_w]
                      rfl
                    refine pure_ (i := 2) (N := some 36) (v := ?_) (a' := ?_) #[false, true, true, false, false, false] rfl rfl (by kernel_rfl) (fun _ _ _ h => h) (Or.inl ⟨by rfl, ?_⟩) ?_ ?_
                    rotate_left
                    · intro w'
                      go_simp
                      with_reducible rfl
                    rotate_left
                    · simp only [Act.put, List.setIfInBounds_toArray, List.set_cons_zero, List.set_cons_succ, i64_w, i32_w]
                      rfl
                    refine pure_ (i := 3) (N := some 37) (v := ?_) (a' := ?_) #[false, true, true, true, false, false] rfl rfl (by kernel_rfl) (fun _ _ _ h => h) (Or.inl ⟨by rfl, ?_⟩) ?_ ?_
                    rotate_left
                    · intro w'
                      go_simp
                      with_reducible rfl
                    rotate_left
                    · simp only [Act.put, List.setIfInBounds_toArray, List.set_cons_zero, List.set_cons_succ, i64_w, i32_w]
                      rfl
                    refine take_ (i := 0) (N := some 34) (v := ?_) (a' := ?_) #[true, true, true, true, false, false] rfl rfl (by kernel_rfl) (fun _ _ _ h => h) (Or.inl ⟨by rfl, ?_⟩) hHeld ?_ ?_
                    rotate_left
                    · intro w' s0
                      go_simp
                      with_reducible rfl
                    rotate_left
                    · simp only [Act.put, List.setIfInBounds_toArray, List.set_cons_zero, List.set_cons_succ, i64_w, i32_w]
                      rfl
                    refine one_ (i := 4) (N := some 38) #[true, true, true, true, true, false] rfl rfl (by kernel_rfl) (by decide) (fun K hK => ?_)
                    refine goes_ Try.func152 (by kernel_rfl) rfl #[.slice (some ad) l0.length c0, .int .i64 i, .int .i64 x5] (by rfl) rfl rfl (by (try simp only [List.map_toArray, List.map_cons, List.map_nil]); first | done | rfl) ?_
                    refine (impl_joined.calls (some ad) c0 l0 i x5 q W HR.out HC.out HQ.out).mono ?_
                    rintro e w2 ⟨v38, rfl, ho, hb⟩
                    refine ⟨_, rfl, ?_⟩
                    have HB5 := Aside0.mk hb
                    have HO5 := Aside0.mk ho
                    clear ho hb
                    obtain ⟨A38, c38, e38⟩ := Kd.R_slice HO5.out
                    subst e38
                    refine hK.out _ _ (cell_of_below HB5.out HC4.out) (fun hHeld => ?_)
                    clear hK K
                    refine norm_ (a' := ?_) ?_ ?_
                    rotate_left
                    · show Act.put _ (some 38) _ = _
                      simp only [Act.put, List.setIfInBounds_toArray, List.set_cons_zero, List.set_cons_succ, i64_w, i32_w]
                      rfl
                    refine one_ (i := 5) (N := some 39) #[true, true, true, true, true, true] rfl rfl (by kernel_rfl) (by decide) (fun K hK => ?_)
                    refine goesF_ (enters_of Try.func150 (by kernel_rfl) rfl) #[.slice A38 q.length c38] (by rfl) rfl rfl (by first | rfl | (simp [Act.eval]; done)) (by (try simp only [List.map_toArray, List.map_cons, List.map_nil]); first | done | rfl) ?_
                    refine (ih k1 (by have := HK.out; omega) A38 c38 q B1 B2 T2 hT2 u2 (out ++ acc) ra w0 w2 (HS3.out.below HB5.out) (fun k => W.heap.size ≤ k) (Kd.R_lower (Kd.R_mono (Kd.R_bound HO5.out) (fun k hk => hk.2.1)) (below_size HS3.out.hb)) (Kd.S_below (Kd.S_mono (Kd.S_bound HS3.out.ho) (fun k hk => by have := hk.2.2.1; omega)) HB5.out) (by have := HN.out; rw [HE.out, HR2.out] at this; simp only [List.length_append] at this ⊢; omega) HFa.out).mono ?_
                    rintro e w6 ⟨rfl, u3, hs6, hk6, hat6⟩
                    refine ⟨_, rfl, ?_⟩
                    have HS6 := Aside0.mk hs6
                    have HK6 := Aside0.mk hk6
                    have HT6 := Aside0.mk hat6
                    clear hs6 hk6 hat6
                    refine hK.out _ _ ((blk_cell HS6.out.b2 0).trans rfl) (fun hHeld => ?_)
                    clear hK K
                    refine norm_ (a' := ?_) ?_ ?_
                    rotate_left
                    · show Act.put _ (some 39) _ = _
                      simp only [Act.put, List.setIfInBounds_toArray, List.set_cons_zero, List.set_cons_succ, i64_w, i32_w]
                      rfl
                    refine done_ (by kernel_rfl) ?_
                    have HL6 := Aside0.mk (Kd.R_mono (Kd.R_kept (Kd.R_apart' (Kd.R_types (Kd.R_below HL3.out HB5.out) (HS3.out.below HB5.out).b1 (by decide)) (Kd.S_typed (HS3.out.below HB5.out).ho) (by decide)) HK6.out (fun k_ hk hS => hS.elim hk.1.2 hk.2)) (fun _ hk => hk.1.1))
                    have HKp6 := Aside0.mk ((HKp3.out.below HB5.out).then_ HK6.out (fun k_ hS => hS.elim (fun e => .inl (.inl e)) (fun e => HA.out.elim (fun ha => .inl (.inr (e.trans ha))) (fun ⟨b, hb, hle⟩ => .inr (by rw [hb] at e; injection e with e; omega)))))
                    have HA6 : Aside0 (u3.ownBlock = u.ownBlock ∨ ∃ b, u3.ownBlock = some b ∧ w.heap.size ≤ b) := ⟨HT6.out.elim (fun h1 => HA.out.elim (fun h2 => .inl (h1.trans h2)) (fun ⟨b, h2, h3⟩ => .inr ⟨b, h1.trans h2, h3⟩)) (fun ⟨b, h2, h3⟩ => .inr ⟨b, h2, Nat.le_trans HKp3.out.1 (Nat.le_trans (below_size HB5.out) h3)⟩)⟩
                    go_wp2
                    go_roundg k1
                    case measure => have := HK.out; omega
                    case rel => exact ⟨x5 + 1, u3, acc ++ ra, rb, by go_num, ⟨by rw [HE.out, HR2.out, List.append_assoc]⟩, HFb, ⟨by have := HK.out; omega⟩, ⟨by rw [← List.append_assoc]; exact HS6.out⟩, HL6, HKp6, HA6⟩
                  · rw [if_neg c9] at H
                    have d9 : ((x5 - i) % 2 == 1) = false := beq_eq_false_iff_ne.mpr c9
                    have HF := Aside0.mk H
                    clear H c9
                    go_wp2
                    go_roundg k1
                    case measure => have := HK.out; omega
                    case rel => exact ⟨x5 + 1, u2, acc, rest, by go_num, HE, HF, ⟨by have := HK.out; omega⟩, HS2, HL2, HKp, HA⟩
                · rw [if_neg c8] at H
                  have d8 : decide (rd l0 x5 < 0) = false := decide_eq_false c8
                  obtain rfl := Option.some.inj H
                  clear H
                  go_wp2
                  first | go_end0 | ((try simp only [Exit.inBlock, Exit.then]); refine bodyPost_ret (results_none rfl _ _ _) rfl ?_)
                  exact ⟨rfl, u2, by have := HS2.out; rw [HE.out, List.append_nil]; exact this, HKp.out, HA.out⟩
              · rw [if_neg c7] at H
                exact absurd H (by simp)
            · rw [if_neg c6] at H
              exact absurd H (by simp)
          · rw [if_neg c5] at H
            have d5 : decide (x5 < (l0.length : Int)) = false := decide_eq_false c5
            obtain rfl := Option.some.inj H
            clear H
            go_wp2
            first | go_end0 | ((try simp only [Exit.inBlock, Exit.then]); refine bodyPost_ret (results_none rfl _ _ _) rfl ?_)
            exact ⟨rfl, u2, by have := HS2.out; rw [HE.out, List.append_nil]; exact this, HKp.out, HA.out⟩
    · rw [if_neg c2] at h
      exact absurd h (by simp)

/-! ### bits_Mul32: function 204 -/
def bits_Mul32.f (a0 : Int) (a1 : Int) : Option (Int × Int) := some (((IntKind.u64.wrap ((IntKind.u64.wrap (a0)) * (IntKind.u64.wrap (a1)))) / 4294967296) % 4294967296, (IntKind.u64.wrap ((IntKind.u64.wrap (a0)) * (IntKind.u64.wrap (a1)))) % 4294967296)
set_option maxHeartbeats 8000000 in
set_option maxRecDepth 100000 in
theorem bits_Mul32.calls (a0 : Int) (a1 : Int) (r1 : Int) (r2 : Int) (w : World) (h : bits_Mul32.f a0 a1 = some (r1, r2)) :
    Calls Try.prog 204 #[.int .u32 a0, .int .u32 a1] w fun e w' => e = .returned (.tuple #[.int .u32 r1, .int .u32 r2]) ∧ Drawn0 w w' := by
  have H : (some (((IntKind.u64.wrap ((IntKind.u64.wrap (a0)) * (IntKind.u64.wrap (a1)))) / 4294967296) % 4294967296, (IntKind.u64.wrap ((IntKind.u64.wrap (a0)) * (IntKind.u64.wrap (a1)))) % 4294967296)) = some (r1, r2) := h
  clear h
  simp only [Option.some.injEq, Prod.mk.injEq] at H
  obtain ⟨rfl, rfl⟩ := H
  go_enter Try.func204, Try.ntmps204
  go_wp2
  go_ret2
  exact ⟨by first | rfl | (simp; done) | (simp [*]; done), by repeat (first | exact Drawn0.refl _ | apply Drawn0.step)⟩

/-! ### bits_Mul64: function 205 -/
def bits_Mul64.f (a0 : Int) (a1 : Int) : Option (Int × Int) := some (IntKind.u64.wrap ((IntKind.u64.wrap ((IntKind.u64.wrap ((a0 / 4294967296) * (a1 / 4294967296))) + ((IntKind.u64.wrap ((IntKind.u64.wrap ((a0 / 4294967296) * (Go.bits .and .u64 a1 4294967295))) + ((IntKind.u64.wrap ((Go.bits .and .u64 a0 4294967295) * (Go.bits .and .u64 a1 4294967295))) / 4294967296))) / 4294967296))) + ((IntKind.u64.wrap ((Go.bits .and .u64 (IntKind.u64.wrap ((IntKind.u64.wrap ((a0 / 4294967296) * (Go.bits .and .u64 a1 4294967295))) + ((IntKind.u64.wrap ((Go.bits .and .u64 a0 4294967295) * (Go.bits .and .u64 a1 4294967295))) / 4294967296))) 4294967295) + (IntKind.u64.wrap ((Go.bits .and .u64 a0 4294967295) * (a1 / 4294967296))))) / 4294967296)), IntKind.u64.wrap (a0 * a1))
set_option maxHeartbeats 8000000 in
set_option maxRecDepth 100000 in
theorem bits_Mul64.calls (a0 : Int) (a1 : Int) (r1 : Int) (r2 : Int) (w : World) (h : bits_Mul64.f a0 a1 = some (r1, r2)) :
    Calls Try.prog 205 #[.int .u64 a0, .int .u64 a1] w fun e w' => e = .returned (.tuple #[.int .u64 r1, .int .u64 r2]) ∧ Drawn0 w w' := by
  have H : (some (IntKind.u64.wrap ((IntKind.u64.wrap ((IntKind.u64.wrap ((a0 / 4294967296) * (a1 / 4294967296))) + ((IntKind.u64.wrap ((IntKind.u64.wrap ((a0 / 4294967296) * (Go.bits .and .u64 a1 4294967295))) + ((IntKind.u64.wrap ((Go.bits .and .u64 a0 4294967295) * (Go.bits .and .u64 a1 4294967295))) / 4294967296))) / 4294967296))) + ((IntKind.u64.wrap ((Go.bits .and .u64 (IntKind.u64.wrap ((IntKind.u64.wrap ((a0 / 4294967296) * (Go.bits .and .u64 a1 4294967295))) + ((IntKind.u64.wrap ((Go.bits .and .u64 a0 4294967295) * (Go.bits .and .u64 a1 4294967295))) / 4294967296))) 4294967295) + (IntKind.u64.wrap ((Go.bits .and .u64 a0 4294967295) * (a1 / 4294967296))))) / 4294967296)), IntKind.u64.wrap (a0 * a1))) = some (r1, r2) := h
  clear h
  simp only [Option.some.injEq, Prod.mk.injEq] at H
  obtain ⟨rfl, rfl⟩ := H
  go_enter Try.func205, Try.ntmps205
  go_wp2
  go_ret2
  exact ⟨by first | rfl | (simp; done) | (simp [*]; done), by repeat (first | exact Drawn0.refl _ | apply Drawn0.step)⟩

/-! ### bits_Mul: function 180 -/
def bits_Mul.f (a0 : Int) (a1 : Int) : Option (Int × Int) := (bits_Mul64.f a0 a1).bind fun bt101 => (some (bt101.1, bt101.2))
set_option maxHeartbeats 8000000 in
set_option maxRecDepth 100000 in
theorem bits_Mul.calls (a0 : Int) (a1 : Int) (r1 : Int) (r2 : Int) (w : World) (h : bits_Mul.f a0 a1 = some (r1, r2)) :
    Calls Try.prog 180 #[.int .u64 a0, .int .u64 a1] w fun e w' => e = .returned (.tuple #[.int .u64 r1, .int .u64 r2]) ∧ Drawn0 w w' := by
  have H : ((bits_Mul64.f a0 a1).bind fun bt101 => (some (bt101.1, bt101.2))) = some (r1, r2) := h
  clear h
  replace H := Option.bind_eq_some_iff.mp H
  obtain ⟨⟨t101, t102⟩, A30, H⟩ := H
  replace H : (some (t101, t102)) = some (r1, r2) := H
  have A3 := Aside0.mk A30
  clear A30
  simp only [Option.some.injEq, Prod.mk.injEq] at H
  obtain ⟨rfl, rfl⟩ := H
  go_enter Try.func180, Try.ntmps180
  go_wp2_with (first | ((with_reducible refine gate_callee (f := 205) rfl ?_); refine goesL_ (some 25) rfl rfl Try.func205 (by kernel_rfl) rfl #[.int .u64 a0, .int .u64 a1] rfl (by (try simp only [List.map_toArray, List.map_cons, List.map_nil]); first | done | rfl | (simp only [List.length_drop, List.length_take]; rfl)) ?_; (with_reducible refine (bits_Mul64.calls a0 a1 t101 t102 _ A3.out).mono ?_); rintro e w' ⟨rfl, ⟨nd, rfl⟩⟩; refine ⟨_, rfl, ?_⟩))
  go_ret2
  exact ⟨by first | rfl | (simp; done) | (simp [*]; done), by repeat (first | exact Drawn0.refl _ | apply Drawn0.step)⟩

/-! ### slices_Repeat_int_int: function 153 (by hand) -/
def slices_Repeat_int_int.f (l0 : List Int) (a1 : Int) : Option (List Int) := if l0.length = 1 then (if 1 ≤ a1 then (if a1 ≤ 1000 then ((bits_Mul.f 1 a1).bind fun q => if q.1 = 0 then (if q.2 = a1 then some (List.replicate a1.toNat (rd l0 0)) else none) else none) else none) else none) else none
theorem slices_Repeat_int_int.open_ {l0 : List Int} {a1 : Int} {r : List Int} (h : slices_Repeat_int_int.f l0 a1 = some r) : ∃ (v : Int) (n : Nat), l0 = [v] ∧ a1 = (n : Int) ∧ 1 ≤ n ∧ n ≤ 1000 ∧ bits_Mul.f 1 (n : Int) = some (0, (n : Int)) ∧ r = List.replicate n v := by
  unfold slices_Repeat_int_int.f at h
  by_cases c1 : l0.length = 1
  · rw [if_pos c1] at h
    by_cases c2 : 1 ≤ a1
    · rw [if_pos c2] at h
      by_cases c3 : a1 ≤ 1000
      · rw [if_pos c3] at h
        obtain ⟨⟨q1, q2⟩, hq, h⟩ := Option.bind_eq_some_iff.mp h
        by_cases c4 : q1 = 0
        · by_cases c5 : q2 = a1
          · subst c4
            subst c5
            rw [if_pos rfl, if_pos rfl] at h
            obtain ⟨v, rfl⟩ := List.length_eq_one_iff.mp c1
            obtain ⟨n, rfl⟩ := Int.eq_ofNat_of_zero_le (show (0 : Int) ≤ q2 by omega)
            exact ⟨v, n, rfl, rfl, by omega, by omega, hq, (Option.some.inj h).symm⟩
          · rw [if_pos c4, if_neg c5] at h
            cases h
        · rw [if_neg c4] at h
          cases h
      · rw [if_neg c3] at h
        cases h
    · rw [if_neg c2] at h
      cases h
  · rw [if_neg c1] at h
    cases h
/-- The block after j cells have been laid. -/
def slices_Repeat_int_int.mid (v : Int) (n j : Nat) : List Int := List.replicate j v ++ List.replicate (n - j) 0
theorem slices_Repeat_int_int.mid_len (v : Int) {n j : Nat} (h : j ≤ n) : (slices_Repeat_int_int.mid v n j).length = n := by
  simp [slices_Repeat_int_int.mid]; omega
theorem slices_Repeat_int_int.mid_start (v : Int) {n : Nat} (h : 1 ≤ n) : splice (nums .i64 (List.replicate n 0)) 0 (nums .i64 [v]) = nums .i64 (slices_Repeat_int_int.mid v n 1) := by
  obtain ⟨m, rfl⟩ : ∃ m, n = m + 1 := ⟨n - 1, by omega⟩
  simp [splice, nums, slices_Repeat_int_int.mid, List.replicate_succ]
theorem slices_Repeat_int_int.mid_step (v : Int) {n j : Nat} (h : j ≤ n) : splice (nums .i64 (slices_Repeat_int_int.mid v n j)) j (nums .i64 (List.replicate (Nat.min j (n - j)) v)) = nums .i64 (slices_Repeat_int_int.mid v n (j + Nat.min j (n - j))) := by
  have hm : Nat.min j (n - j) ≤ n - j := Nat.min_le_right _ _
  generalize Nat.min j (n - j) = m at hm ⊢
  simp only [splice, nums, slices_Repeat_int_int.mid, List.map_append, List.map_replicate]
  rw [List.take_append_of_le_length (by simp), List.take_of_length_le (by simp), List.drop_append, List.drop_eq_nil_of_le (by simp), List.nil_append, List.drop_replicate, List.length_replicate, List.length_replicate, ← List.append_assoc, List.replicate_append_replicate]
  congr 2
  omega
theorem slices_Repeat_int_int.mid_at (v : Int) {n j i : Nat} (hi : i < j) : (slices_Repeat_int_int.mid v n j)[i]? = some v := by
  simp [slices_Repeat_int_int.mid, List.getElem?_append, hi]
theorem slices_Repeat_int_int.mid_all (v : Int) (n : Nat) : slices_Repeat_int_int.mid v n n = List.replicate n v := by
  simp [slices_Repeat_int_int.mid]
theorem slices_Repeat_int_int.src (v : Int) {n j m G t : Nat} {w : World} (h : j ≤ n) (h1 : j + m ≤ n) (h2 : m ≤ j) (hG : w.heap[G]? = some (.cells (nums .i64 (slices_Repeat_int_int.mid v n j)).toArray t (0, 0))) (i : Nat) (u : Value) (hu : (nums .i64 (List.replicate m v))[i]? = some u) : w.cell? ((⟨G, 0, none⟩ : Addr).add i) = some u := by
  have hi : i < m := by have := (List.getElem?_eq_some_iff.mp hu).1; simpa [nums] using this
  obtain rfl : Value.int .i64 v = u := by simpa [nums, hi] using hu
  rw [Addr.add_lit, Nat.zero_add, blk_cell hG i]
  simp [nums, slices_Repeat_int_int.mid_at v (show i < j by omega)]
set_option maxHeartbeats 4000000 in
set_option maxRecDepth 100000 in
theorem slices_Repeat_int_int.calls (A0 : Option Addr) (c0 : Nat) (l0 : List Int) (a1 : Int) (r : List Int) (w : World) (hr0 : Kd.C (Kd.int .i64) w A0 l0.length l0) (hc0 : l0.length ≤ c0) (h : slices_Repeat_int_int.f l0 a1 = some r) :
    Calls Try.prog 153 #[.slice A0 l0.length c0, .int .i64 a1] w fun e w' => ∃ v0_ : Value, e = .returned v0_ ∧ Kd.R (Kd.int .i64) 3 w' w.heap.size (fun _ => True) v0_ r ∧ Below w.heap.size w w' := by
  obtain ⟨v, n, rfl, rfl, h1, h2, hq, rfl⟩ := slices_Repeat_int_int.open_ h
  have HR0 := Aside0.mk hr0
  have HC0 := Aside0.mk hc0
  have HQ := Aside0.mk hq
  have H1 := Aside0.mk h1
  have H2 := Aside0.mk h2
  obtain ⟨ad, eA, hcv⟩ := Kd.at_int hr0 0 (by decide) (show (0 : Int) < 1 by decide)
  subst eA
  rw [show rd [v] 0 = v from rfl] at hcv
  have HV := Aside0.mk hcv
  have d1 : decide ((n : Int) < 0) = false := decide_eq_false (by omega)
  clear hr0 hc0 hq h h1 h2 hcv
  go_enter Try.func153, Try.ntmps153
  have hu : IntKind.u64.wrap (n : Int) = (n : Int) := by rw [IntKind.wrap_u64]; have := H2.out; omega
  have hi64 : IntKind.i64.wrap (n : Int) = (n : Int) := by rw [i64_w]; exact IntWalk.wrap64_in _ ⟨by omega, by have := H2.out; omega⟩
  have d2 : decide ((9223372036854775807 : Int) < (n : Int)) = false := decide_eq_false (by have := H2.out; omega)
  have HCV : ∀ (j : Nat) (u : Value), (nums .i64 [v])[j]? = some u → w.cell? (ad.add j) = some u := by
    intro j u hu
    cases j with
    | succ j => simp [nums] at hu
    | zero =>
      obtain rfl : Value.int .i64 v = u := by simpa [nums] using hu
      exact HV.out
  go_wp2_with (first | (go_at_call 180; (try rw [hu]); (refine (bits_Mul.calls 1 (n : Int) 0 (n : Int) w HQ.out).mono ?_); rintro e w' ⟨rfl, ⟨nd, rfl⟩⟩) | ((with_reducible refine gate_dst (N := 30) rfl ?_); (try rw [hi64]); refine Kd.event_run rfl (make_zeros (x := .tmp 29) rfl (n : Int) rfl Try.underlying22 info3 (by omega) (by have := H2.out; omega) _) ?_) | ((with_reducible refine gate_builtin (b := .copy) (xs := #[.tmp 31, .tmp 32]) rfl ?_); refine wpList_copy_splice rfl (.tmp 31) (.tmp 32) 22 22 rfl 3 Try.underlying22 (by kernel_rfl) _ _ n n 1 c0 rfl rfl w.heap.size 0 (nums .i64 (List.replicate n 0)) 3 (blk_new' (by simp)) (nums .i64 [v]) (by have := H1.out; simp [nums, Nat.min_def]; omega) (fun _ => ⟨rfl, ad, rfl, fun j u hu => ?hcv⟩) (by have := H1.out; simp [nums]; omega) (by intro u hu; simp [nums] at hu; subst hu; rfl) w.heap.size w (below_alloc (pw_below_drewN (Below.refl _ _) nd) _) (Nat.le_refl _) ?_; (case hcv => exact cell_of_below (below_alloc (pw_below_drewN (Below.refl _ _) nd) _) (HCV j u hu)); intro w3 hg3 hb3; have HG3 := Aside0.mk (by have := hg3.out; rw [slices_Repeat_int_int.mid_start v H1.out] at this; exact this); have HB3 := Aside0.mk hb3; clear hg3 hb3))
  obtain ⟨G, hG⟩ : ∃ G, w.heap.size = G := ⟨_, rfl⟩
  rw [hG] at HG3 HB3 ⊢
  clear HCV HV HR0 HQ
  go_loopg [8] n (fun kq v8 w' => ∃ j : Nat, v8 = .int .i64 (j : Int) ∧ Aside0 (1 ≤ j ∧ j ≤ n ∧ n - j ≤ kq) ∧ Aside0 (w'.heap[G]? = some (.cells (nums .i64 (slices_Repeat_int_int.mid v n j)).toArray 3 (0, 0))) ∧ Aside0 (Below G w w'))
  case atStart => exact ⟨1, by go_num, ⟨Nat.le_refl _, H1.out, by omega⟩, HG3, HB3⟩
  case round =>
    clear HG3 HB3
    obtain ⟨j, rfl, HJ, HG, HB⟩ := hrel
    by_cases cj : j < n
    · have dj : decide ((j : Int) < (n : Int)) = true := decide_eq_true (by omega)
      obtain ⟨m, hm⟩ : ∃ m, Nat.min j (n - j) = m := ⟨_, rfl⟩
      have hm1 : 1 ≤ m := by have := HJ.out; simp only [Nat.min_def] at hm; split at hm <;> omega
      have hm2 : j + m ≤ n := by simp only [Nat.min_def] at hm; split at hm <;> omega
      have dj4 : j ≤ n := by omega
      have hm3 : m ≤ j := by rw [← hm]; exact Nat.min_le_left _ _
      have dj2 : decide (j ≤ n) = true := decide_eq_true (by omega)
      have dj3 : decide (0 ≤ (j : Int)) = true := decide_eq_true (by omega)
      go_wp2_with fail
      have HG2 := Aside0.mk (blk_drew HG.out)
      have HB2 := Aside0.mk (below_drew1 HB.out)
      refine start_ (n := 10) (S := fun w' => True) (ds := []) #[false, false, false, false, false, false, false, false, false, false] (by kernel_rfl) rfl rfl trivial (fun hHeld => ?_)
      refine pure_ (i := 0) (N := some 38) (v := ?_) (a' := ?_) #[true, false, false, false, false, false, false, false, false, false] rfl rfl (by kernel_rfl) (fun _ _ _ h => h) (Or.inl ⟨by rfl, ?_⟩) ?_ ?_
      rotate_left
      · intro w'
        go_simp
        with_reducible rfl
      rotate_left
      · simp only [Act.put, List.setIfInBounds_toArray, List.set_cons_zero, List.set_cons_succ, i64_w, i32_w]
        rfl
      refine pure_ (i := 1) (N := some 39) (v := ?_) (a' := ?_) #[true, true, false, false, false, false, false, false, false, false] rfl rfl (by kernel_rfl) (fun _ _ _ h => h) (Or.inl ⟨by rfl, ?_⟩) ?_ ?_
      rotate_left
      · intro w'
        go_simp
        with_reducible rfl
      rotate_left
      · simp only [Act.put, List.setIfInBounds_toArray, List.set_cons_zero, List.set_cons_succ, i64_w, i32_w]
        rfl
      refine pure_ (i := 2) (N := some 40) (v := ?_) (a' := ?_) #[true, true, true, false, false, false, false, false, false, false] rfl rfl (by kernel_rfl) (fun _ _ _ h => h) (Or.inl ⟨by rfl, ?_⟩) ?_ ?_
      rotate_left
      · intro w'
        go_simp
        with_reducible rfl
      rotate_left
      · simp only [Act.put, List.setIfInBounds_toArray, List.set_cons_zero, List.set_cons_succ, i64_w, i32_w]
        rfl
      refine pure_ (i := 3) (N := some 41) (v := ?_) (a' := ?_) #[true, true, true, true, false, false, false, false, false, false] rfl rfl (by kernel_rfl) (fun _ _ _ h => h) (Or.inl ⟨by rfl, ?_⟩) ?_ ?_
      rotate_left
      · intro w'
        go_simp
        with_reducible rfl
      rotate_left
      · simp only [Act.put, List.setIfInBounds_toArray, List.set_cons_zero, List.set_cons_succ, i64_w, i32_w]
        rfl
      refine pure_ (i := 4) (N := some 42) (v := ?_) (a' := ?_) #[true, true, true, true, true, false, false, false, false, false] rfl rfl (by kernel_rfl) (fun _ _ _ h => h) (Or.inl ⟨by rfl, ?_⟩) ?_ ?_
      rotate_left
      · intro w'
        go_simp
        with_reducible rfl
      rotate_left
      · simp only [Act.put, List.setIfInBounds_toArray, List.set_cons_zero, List.set_cons_succ, i64_w, i32_w]
        rfl
      refine pure_ (i := 5) (N := some 43) (v := ?_) (a' := ?_) #[true, true, true, true, true, true, false, false, false, false] rfl rfl (by kernel_rfl) (fun _ _ _ h => h) (Or.inl ⟨by rfl, ?_⟩) ?_ ?_
      rotate_left
      · intro w'
        go_simp
        with_reducible rfl
      rotate_left
      · simp only [Act.put, List.setIfInBounds_toArray, List.set_cons_zero, List.set_cons_succ, i64_w, i32_w]
        rfl
      refine pure_ (i := 6) (N := some 44) (v := ?_) (a' := ?_) #[true, true, true, true, true, true, true, false, false, false] rfl rfl (by kernel_rfl) (fun _ _ _ h => h) (Or.inl ⟨by rfl, ?_⟩) ?_ ?_
      rotate_left
      · intro w'
        go_simp
        with_reducible rfl
      rotate_left
      · simp only [Act.put, List.setIfInBounds_toArray, List.set_cons_zero, List.set_cons_succ, i64_w, i32_w]
        rfl
      refine one_ (i := 7) (N := some 45) #[true, true, true, true, true, true, true, true, false, false] rfl rfl (by kernel_rfl) (by decide) (fun K hK => ?_)
      refine step_copy_splice rfl (.tmp 41) (.tmp 44) 22 22 rfl 3 Try.underlying22 (by kernel_rfl) (some ⟨G, j, none⟩) (some ⟨G, 0, none⟩) (n - j) (n - j) j n (by show Value.slice (if n = j then _ else _) _ _ = _; rw [if_neg (by omega)]) rfl G j (nums .i64 (slices_Repeat_int_int.mid v n j)) 3 HG2.out (nums .i64 (List.replicate m v)) (by rw [← hm]; simp [nums]) (fun _ => ⟨rfl, _, rfl, fun i u hu => ?hsrc⟩) (by simp [nums, slices_Repeat_int_int.mid_len v dj4]; omega) (by intro u hu; simp [nums] at hu; obtain ⟨_, rfl⟩ := hu; rfl) G w HB2.out (by omega) ?_
      case hsrc => exact slices_Repeat_int_int.src v dj4 hm2 hm3 HG2.out i u hu
      intro w3 hg3 hb3
      have HG4 := Aside0.mk (show w3.heap[G]? = some (.cells (nums .i64 (slices_Repeat_int_int.mid v n (j + m))).toArray 3 (0, 0)) by have := hg3.out; rw [← hm, slices_Repeat_int_int.mid_step v dj4, hm] at this; exact this)
      have HB4 := Aside0.mk hb3
      clear hg3 hb3
      refine hK.out _ _ trivial (fun hHeld => ?_)
      clear hK K
      refine norm_ (a' := ?_) ?_ ?_
      rotate_left
      · show Act.put _ (some 45) _ = _
        simp only [Act.put, List.setIfInBounds_toArray, List.set_cons_zero, List.set_cons_succ, i64_w, i32_w]
        rfl
      refine pure_ (i := 8) (N := some 46) (v := ?_) (a' := ?_) #[true, true, true, true, true, true, true, true, true, false] rfl rfl (by kernel_rfl) (fun _ _ _ h => h) (Or.inl ⟨by rfl, ?_⟩) ?_ ?_
      rotate_left
      · intro w'
        go_simp
        with_reducible rfl
      rotate_left
      · simp only [Act.put, List.setIfInBounds_toArray, List.set_cons_zero, List.set_cons_succ, i64_w, i32_w]
        rfl
      refine pure_ (i := 9) (N := some 8) (v := ?_) (a' := ?_) #[true, true, true, true, true, true, true, true, true, true] rfl rfl (by kernel_rfl) (fun _ _ _ h => h) (Or.inl ⟨by rfl, ?_⟩) ?_ ?_
      rotate_left
      · intro w'
        go_simp
        with_reducible rfl
      rotate_left
      · simp only [Act.put, List.setIfInBounds_toArray, List.set_cons_zero, List.set_cons_succ, i64_w, i32_w]
        rfl
      refine done_ (by kernel_rfl) ?_
      go_wp2
      go_roundg (n - (j + m))
      case measure => have := HJ.out; omega
      case rel => exact ⟨j + m, by rw [show (nums .i64 (List.replicate m v)).length = m by simp [nums], show wrap64 ((j : Int) + (m : Int)) = ((j + m : Nat) : Int) by (have := H2.out; unfold wrap64; omega)], ⟨by omega, hm2, Nat.le_refl _⟩, HG4, HB4⟩
    · have dj : decide ((j : Int) < (n : Int)) = false := decide_eq_false (by omega)
      obtain rfl : j = n := by have := HJ.out; omega
      rw [slices_Repeat_int_int.mid_all] at HG
      go_wp2
      go_ret
      subst hG
      exact ⟨_, rfl, by have := R_nums HG.out (base := w.heap.size) (Nat.le_refl _) (by simp; have := H2.out; omega) (ok := fun _ => True); rw [List.length_replicate] at this; exact this, HB.out⟩

/-! ### slices_DeleteFunc_int_int: function 154 (by hand) -/
def slices_DeleteFunc_int_int.f (k : Nat) (l0 : List (List Int)) (a1 : List Int → Option Bool) : Option (List (List Int)) := (slices_IndexFunc_int_int_148.f k l0 a1).bind fun i => if i = -1 then some l0 else none
theorem slices_DeleteFunc_int_int.mono : ∀ a0 a1 a1' (ha1 : ∀ z0, LeO (a1 z0) (a1' z0)) k, LeO (slices_DeleteFunc_int_int.f k a0 a1) (slices_DeleteFunc_int_int.f (k + 1) a0 a1') := fun a0 a1 a1' h k => by
  unfold slices_DeleteFunc_int_int.f
  exact LeO.bind (slices_IndexFunc_int_int_148.mono _ _ _ h _) (fun _ => LeO.refl _)
set_option maxHeartbeats 4000000 in
set_option maxRecDepth 100000 in
theorem slices_DeleteFunc_int_int.calls (k : Nat) (A0 : Option Addr) (c0 : Nat) (l0 : List (List Int)) (g1 : Nat) (b1 : Array Value) (a1 : List Int → Option Bool) (r : List (List Int)) (w : World) (hr0 : Kd.C (Kd.slice 3 (Kd.int .i64)) w A0 l0.length l0) (hc0 : l0.length ≤ c0) (hf1 : Fn1 (Kd.slice 3 (Kd.int .i64)) Value.bool Try.prog g1 b1 a1 w) (h : slices_DeleteFunc_int_int.f k l0 a1 = some r) :
    Calls Try.prog 154 #[.slice A0 l0.length c0, .func (.func g1) #[] b1] w fun e w' => e = .returned (.slice A0 l0.length c0) ∧ r = l0 ∧ Below w.heap.size w w' := by
  obtain ⟨i, hi, h2⟩ := Option.bind_eq_some_iff.mp h
  by_cases ci : i = -1
  · rw [if_pos ci] at h2
    subst ci
    obtain rfl := Option.some.inj h2
    have HI := Aside0.mk hi
    have HR := Aside0.mk hr0
    have HC := Aside0.mk hc0
    have HF := Aside0.mk hf1
    clear hi hr0 hc0 hf1 h h2
    obtain ⟨n, hn⟩ : ∃ n, l0.length = n := ⟨_, rfl⟩
    have HN := Aside0.mk hn
    rw [hn]
    go_enter Try.func154, Try.ntmps154
    go_wp2_with (first | (go_at_call 148; rw [← HN.out]; (refine (slices_IndexFunc_int_int_148.calls k A0 c0 l0 g1 b1 a1 (-1) w HR.out HC.out HF.out HI.out).mono ?_); rintro e w1 ⟨rfl, hb⟩; have HB := Aside0.mk hb; clear hb; rw [HN.out]))
    go_ret
    exact ⟨rfl, by first | trivial | rfl, HB.out⟩
  · rw [if_neg ci] at h2
    cases h2

/-! ### slices_IndexFunc_int_int_181: function 181 -/
def slices_IndexFunc_int_int_181.l0 : Nat → List Int → (Int → Option Bool) → Int → Int → Option (Int)
  | 0, _, _, _, _ => none
  | k + 1, x0, x1, x7, x8 => if x8 < x7 then (if 0 ≤ x8 then (if x8 < (x0.length : Int) then ((x1 (rd x0 x8)).bind fun t102 => (if t102 = true then (some x8) else (slices_IndexFunc_int_int_181.l0 k x0 x1 x7 (wrap64 (x8 + 1))))) else (none)) else (none)) else (some (-1))
def slices_IndexFunc_int_int_181.f (k : Nat) (l0 : List Int) (a1 : (Int → Option Bool)) : Option (Int) := slices_IndexFunc_int_int_181.l0 k l0 a1 (l0.length : Int) 0
theorem slices_IndexFunc_int_int_181.mono_l : ∀ k, (∀ y0 y1 y1' y2 y3 (hy1 : ∀ z0, LeO (y1 z0) (y1' z0)), LeO (slices_IndexFunc_int_int_181.l0 k y0 y1 y2 y3) (slices_IndexFunc_int_int_181.l0 (k + 1) y0 y1' y2 y3))
  | 0 => fun _ _ _ _ _ _ r h => by simp [slices_IndexFunc_int_int_181.l0] at h
  | k + 1 => by
    have ih0 := slices_IndexFunc_int_int_181.mono_l k
    · intro y0 y1 y1' y2 y3 hy1
      unfold slices_IndexFunc_int_int_181.l0
      repeat' first
      | (with_reducible exact ih0 _ _ _ _ _ hy1)
      | (with_reducible exact hy1 _)
      | (with_reducible exact LeO.refl _)
      | (with_reducible exact LeO.none _)
      | (with_reducible refine LeO.ite ?_ ?_)
      | (with_reducible refine LeO.bind ?_ (fun _ => ?_))
      | exact ih0 _ _ _ _ _ hy1
      | exact hy1 _
      | exact LeO.none _
      | refine LeO.ite ?_ ?_
      | refine LeO.bind ?_ (fun _ => ?_)
theorem slices_IndexFunc_int_int_181.mono : ∀ a0 a1 a1' (ha1 : ∀ z0, LeO (a1 z0) (a1' z0)) k, LeO (slices_IndexFunc_int_int_181.f k a0 a1) (slices_IndexFunc_int_int_181.f (k + 1) a0 a1') := by
  intro a0 a1 a1' ha1 k
  have ih0 := slices_IndexFunc_int_int_181.mono_l k
  unfold slices_IndexFunc_int_int_181.f
  repeat' first
      | (with_reducible exact ih0 _ _ _ _ _ ha1)
      | (with_reducible exact ha1 _)
      | (with_reducible exact LeO.refl _)
      | (with_reducible exact LeO.none _)
      | (with_reducible refine LeO.ite ?_ ?_)
      | (with_reducible refine LeO.bind ?_ (fun _ => ?_))
      | exact ih0 _ _ _ _ _ ha1
      | exact ha1 _
      | exact LeO.none _
      | refine LeO.ite ?_ ?_
      | refine LeO.bind ?_ (fun _ => ?_)
set_option maxHeartbeats 8000000 in
set_option maxRecDepth 100000 in
theorem slices_IndexFunc_int_int_181.calls (k : Nat) (A0 : Option Addr) (c0 : Nat) (l0 : List Int) (g1 : Nat) (b1 : Array Value) (a1 : (Int → Option Bool)) (r : Int) (w : World) (hr0 : Kd.C (Kd.int .i64) w A0 l0.length l0) (hc0 : l0.length ≤ c0) (hf1 : Fn1 (Kd.int .i64) Value.bool Try.prog g1 b1 a1 w) (h : slices_IndexFunc_int_int_181.f k l0 a1 = some r) :
    Calls Try.prog 181 #[.slice A0 l0.length c0, .func (.func g1) #[] b1] w fun e w' => e = .returned (.int .i64 r) ∧ Below w.heap.size w w' := by
  have HR0 := Aside0.mk hr0
  have HC0 := Aside0.mk hc0
  clear hr0 hc0
  have HF1 := Aside0.mk hf1.cl
  have eg1 := hf1.eg
  clear hf1
  have HB := Aside0.mk (Below.refl w.heap.size w)
  have H : (slices_IndexFunc_int_int_181.l0 k l0 a1 (l0.length : Int) 0) = some r := h
  clear h
  have H' := Aside0.mk H
  clear H
  go_enter Try.func181, Try.ntmps181
  go_wp2
  go_loopg [8] k (fun kq v8 w' => ∃ (x8_1 : Int), v8 = .int .i64 x8_1 ∧ Aside0 (slices_IndexFunc_int_int_181.l0 kq l0 a1 (l0.length : Int) x8_1 = some r) ∧ Aside0 (kq ≤ k) ∧ Aside0 (Below w.heap.size w w'))
  case atStart => exact ⟨(0), (by first | rfl | (simp; done) | (simp [*]; done)), H', ⟨Nat.le_refl _⟩, ⟨by repeat (first | (with_reducible first | exact HB.out | apply below_alloc | apply pw_below_drewN | apply below_drew1) | exact HB.out)⟩⟩
  case round =>
    clear H'
    try clear c1
    try clear p2
    obtain ⟨x8_1, rfl, HA, HK1, HB⟩ := hrel
    cases gk with
    | zero => exact absurd HA.out (by simp [slices_IndexFunc_int_int_181.l0])
    | succ k1 =>
      have H := HA.out
      clear HA
      simp only [slices_IndexFunc_int_int_181.l0] at H
      by_cases c3 : x8_1 < (l0.length : Int)
      · rw [if_pos c3] at H
        have c3b0 : decide (x8_1 < (l0.length : Int)) = true := decide_eq_true c3
        clear c3
        by_cases c4 : 0 ≤ x8_1
        · rw [if_pos c4] at H
          have c4b0 : decide (0 ≤ x8_1) = true := decide_eq_true c4
          clear c4
          by_cases c5 : x8_1 < (l0.length : Int)
          · rw [if_pos c5] at H
            have c5b0 : decide (x8_1 < (l0.length : Int)) = true := decide_eq_true c5
            clear c5
            replace H := Option.bind_eq_some_iff.mp H
            obtain ⟨t102, A60, H⟩ := H
            replace H : (if t102 = true then (some x8_1) else (slices_IndexFunc_int_int_181.l0 k1 l0 a1 (l0.length : Int) (wrap64 (x8_1 + 1)))) = some r := H
            have A6 := Aside0.mk A60
            clear A60
            by_cases c7 : t102 = true
            · subst c7
              have H1 : (some x8_1) = some r := by rw [if_pos rfl] at H; exact H
              clear H
              have H := H1
              clear H1
              obtain rfl := Option.some.inj H
              have p101 : 0 ≤ (x8_1 : Int) := of_decide_eq_true (by first | (with_reducible assumption) | assumption)
              have q101 : x8_1 < (l0.length : Int) := of_decide_eq_true (by first | (with_reducible assumption) | assumption)
              obtain ⟨ad101, e101, hx101_0⟩ := Kd.at_int HR0.out x8_1 p101 q101
              cases e101
              replace hx101_0 := (HB.out.cell (World.block_lt_of_cell? w _ hx101_0)).trans hx101_0
              replace p101 := eq_true p101
              replace q101 := eq_true q101
              go_wp2_with (first | (go_at_fn g1; (refine (HF1.out _ ?side1 (rd l0 x8_1) _ K_int true A6.out).mono ?_); (case side1 => exact (by repeat (first | (with_reducible first | exact HB.out | apply below_alloc | apply pw_below_drewN | apply below_drew1) | exact HB.out))); rintro e w8 ⟨rfl, hb⟩; have n0_ := Aside0.mk (below_step (by repeat (first | (with_reducible first | exact HB.out | apply below_alloc | apply pw_below_drewN | apply below_drew1) | exact HB.out)) hb); clear HB; have HB := n0_; clear n0_; (try clear hb); (try clear hb2); (try clear hk); (try clear hi)))
              go_ret
              exact ⟨by first | rfl | (simp [errW_none, errW_some] <;> rfl) | (simp [*, errW_none, errW_some] <;> rfl), by repeat (first | (with_reducible first | exact HB.out | apply below_alloc | apply pw_below_drewN | apply below_drew1) | exact HB.out)⟩
            · replace c7 := Bool.eq_false_iff.mpr c7
              subst c7
              have H1 : (slices_IndexFunc_int_int_181.l0 k1 l0 a1 (l0.length : Int) (wrap64 (x8_1 + 1))) = some r := by rw [if_neg (show ¬ (false = true) by decide)] at H; exact H
              clear H
              have H := H1
              clear H1
              have H' := Aside0.mk H
              clear H
              have p101 : 0 ≤ (x8_1 : Int) := of_decide_eq_true (by first | (with_reducible assumption) | assumption)
              have q101 : x8_1 < (l0.length : Int) := of_decide_eq_true (by first | (with_reducible assumption) | assumption)
              obtain ⟨ad101, e101, hx101_0⟩ := Kd.at_int HR0.out x8_1 p101 q101
              cases e101
              replace hx101_0 := (HB.out.cell (World.block_lt_of_cell? w _ hx101_0)).trans hx101_0
              replace p101 := eq_true p101
              replace q101 := eq_true q101
              go_wp2_with (first | (go_at_fn g1; (refine (HF1.out _ ?side1 (rd l0 x8_1) _ K_int false A6.out).mono ?_); (case side1 => exact (by repeat (first | (with_reducible first | exact HB.out | apply below_alloc | apply pw_below_drewN | apply below_drew1) | exact HB.out))); rintro e w9 ⟨rfl, hb⟩; have n0_ := Aside0.mk (below_step (by repeat (first | (with_reducible first | exact HB.out | apply below_alloc | apply pw_below_drewN | apply below_drew1) | exact HB.out)) hb); clear HB; have HB := n0_; clear n0_; (try clear hb); (try clear hb2); (try clear hk); (try clear hi)))
              go_roundg k1
              case measure => have := HK1.out; omega
              case rel => exact ⟨(wrap64 (x8_1 + 1)), (by first | rfl | (simp; done) | (simp [*]; done)), H', ⟨by have := HK1.out; omega⟩, ⟨by repeat (first | (with_reducible first | exact HB.out | apply below_alloc | apply pw_below_drewN | apply below_drew1) | exact HB.out)⟩⟩
          · rw [if_neg c5] at H
            exact absurd H (by simp)
        · rw [if_neg c4] at H
          exact absurd H (by simp)
      · rw [if_neg c3] at H
        have c3b0 : decide (x8_1 < (l0.length : Int)) = false := decide_eq_false c3
        clear c3
        obtain rfl := Option.some.inj H
        go_wp2
        go_ret
        exact ⟨by first | rfl | (simp [errW_none, errW_some] <;> rfl) | (simp [*, errW_none, errW_some] <;> rfl), by repeat (first | (with_reducible first | exact HB.out | apply below_alloc | apply pw_below_drewN | apply below_drew1) | exact HB.out)⟩

/-! ### slices_ContainsFunc_int_int: function 157 -/
def slices_ContainsFunc_int_int.f (k : Nat) (l0 : List Int) (a1 : (Int → Option Bool)) : Option (Bool) := (slices_IndexFunc_int_int_181.f k l0 a1).bind fun t101 => (some (decide (t101 ≥ 0)))
theorem slices_ContainsFunc_int_int.mono : ∀ a0 a1 a1' (ha1 : ∀ z0, LeO (a1 z0) (a1' z0)) k, LeO (slices_ContainsFunc_int_int.f k a0 a1) (slices_ContainsFunc_int_int.f (k + 1) a0 a1') := by
  intro a0 a1 a1' ha1 k
  unfold slices_ContainsFunc_int_int.f
  repeat' first
      | (with_reducible exact ha1 _)
      | (with_reducible refine slices_IndexFunc_int_int_181.mono _ _ _ (fun _ => ?_) _)
      | (with_reducible exact LeO.refl _)
      | (with_reducible exact LeO.none _)
      | (with_reducible refine LeO.ite ?_ ?_)
      | (with_reducible refine LeO.bind ?_ (fun _ => ?_))
      | exact ha1 _
      | exact LeO.none _
      | refine LeO.ite ?_ ?_
      | refine LeO.bind ?_ (fun _ => ?_)
set_option maxHeartbeats 8000000 in
set_option maxRecDepth 100000 in
theorem slices_ContainsFunc_int_int.calls (k : Nat) (A0 : Option Addr) (c0 : Nat) (l0 : List Int) (g1 : Nat) (b1 : Array Value) (a1 : (Int → Option Bool)) (r : Bool) (w : World) (hr0 : Kd.C (Kd.int .i64) w A0 l0.length l0) (hc0 : l0.length ≤ c0) (hf1 : Fn1 (Kd.int .i64) Value.bool Try.prog g1 b1 a1 w) (h : slices_ContainsFunc_int_int.f k l0 a1 = some r) :
    Calls Try.prog 157 #[.slice A0 l0.length c0, .func (.func g1) #[] b1] w fun e w' => e = .returned (.bool r) ∧ Below w.heap.size w w' := by
  have HR0 := Aside0.mk hr0
  have HC0 := Aside0.mk hc0
  clear hr0 hc0
  have HF1 := Aside0.mk hf1.cl
  have eg1 := hf1.eg
  clear hf1
  have HB := Aside0.mk (Below.refl w.heap.size w)
  have H : ((slices_IndexFunc_int_int_181.f k l0 a1).bind fun t101 => (some (decide (t101 ≥ 0)))) = some r := h
  clear h
  replace H := Option.bind_eq_some_iff.mp H
  obtain ⟨t101, A30, H⟩ := H
  replace H : (some (decide (t101 ≥ 0))) = some r := H
  have A3 := Aside0.mk A30
  clear A30
  obtain rfl := Option.some.inj H
  go_enter Try.func157, Try.ntmps157
  go_wp2_with (first | ((with_reducible refine gate_callee (f := 181) rfl ?_); refine goesL_ (some 7) rfl rfl Try.func181 (by kernel_rfl) rfl #[.slice A0 l0.length c0, .func (.func g1) #[] b1] rfl (by (try simp only [List.map_toArray, List.map_cons, List.map_nil]); first | done | rfl | (simp only [List.length_drop, List.length_take]; rfl)) ?_; (with_reducible refine (slices_IndexFunc_int_int_181.calls k _ _ l0 _ _ a1 t101 _ ?side1 ?side2 ?side3 A3.out).mono ?_); (case side1 => repeat (first | exact HR0.out | (with_reducible refine Kd.C_alloc ?_ _) | (with_reducible refine Kd.C_drewN ?_ _) | (with_reducible refine Kd.C_drew ?_))); (case side2 => exact HC0.out); (case side3 => exact Fn1.later ⟨eg1, HF1.out⟩ (by repeat (first | (with_reducible first | exact HB.out | apply below_alloc | apply pw_below_drewN | apply below_drew1) | exact HB.out))); rintro e w4 ⟨rfl, hb⟩; refine ⟨_, rfl, ?_⟩; have n0_ := Aside0.mk (below_step (by repeat (first | (with_reducible first | exact HB.out | apply below_alloc | apply pw_below_drewN | apply below_drew1) | exact HB.out)) hb); clear HB; have HB := n0_; clear n0_; (try clear hb); (try clear hb2); (try clear hk); (try clear hi)))
  go_ret
  exact ⟨by first | rfl | (simp [errW_none, errW_some] <;> rfl) | (simp [*, errW_none, errW_some] <;> rfl), by repeat (first | (with_reducible first | exact HB.out | apply below_alloc | apply pw_below_drewN | apply below_drew1) | exact HB.out)⟩

/-! ### impl_areWithin_1: function 158 -/
def impl_areWithin_1.f (a0 : Int) (a1_0 : Int) (a2_0 : Int) : Option (Bool) := (impl_within.f a0 a1_0 a2_0).bind fun t101 => (some (!t101))
set_option maxHeartbeats 8000000 in
set_option maxRecDepth 100000 in
theorem impl_areWithin_1.calls (a0 : Int) (B1 : Nat) (a1_0 : Int) (B2 : Nat) (a2_0 : Int) (r : Bool) (w : World) (hb1 : w.heap[B1]? = some (.cells #[.int .i64 a1_0] 3 (0, 0))) (hb2 : w.heap[B2]? = some (.cells #[.int .i64 a2_0] 3 (0, 0))) (h : impl_areWithin_1.f a0 a1_0 a2_0 = some r) :
    Calls Try.prog 158 #[.int .i64 a0, .pointer (some ⟨B1, 0, none⟩), .pointer (some ⟨B2, 0, none⟩)] w fun e w' => e = .returned (.bool r) ∧ Drawn0 w w' := by
  have BK61 := Aside0.mk hb1
  clear hb1
  have BK62 := Aside0.mk hb2
  clear hb2
  have H : ((impl_within.f a0 a1_0 a2_0).bind fun t101 => (some (!t101))) = some r := h
  clear h
  replace H := Option.bind_eq_some_iff.mp H
  obtain ⟨t101, A40, H⟩ := H
  replace H : (some (!t101)) = some r := H
  have A4 := Aside0.mk A40
  clear A40
  obtain rfl := Option.some.inj H
  have hcz5_0 : w.cell? ⟨B1, 0, none⟩ = some (.int .i64 a1_0) := (blk_cell BK61.out 0).trans rfl
  have hfz5_0 := blk_frozen BK61.out 0
  have hcz6_0 : w.cell? ⟨B2, 0, none⟩ = some (.int .i64 a2_0) := (blk_cell BK62.out 0).trans rfl
  have hfz6_0 := blk_frozen BK62.out 0
  go_enter Try.func158, Try.ntmps158
  go_wp2_with (first | ((with_reducible refine gate_callee (f := 107) rfl ?_); refine goesL_ (some 8) rfl rfl Try.func107 (by kernel_rfl) rfl #[.int .i64 a0, .int .i64 a1_0, .int .i64 a2_0] rfl (by (try simp only [List.map_toArray, List.map_cons, List.map_nil]); first | done | rfl | (simp only [List.length_drop, List.length_take]; rfl)) ?_; (with_reducible refine (impl_within.calls a0 a1_0 a2_0 t101 _ A4.out).mono ?_); rintro e w' ⟨rfl, ⟨nd, rfl⟩⟩; refine ⟨_, rfl, ?_⟩))
  go_ret
  exact ⟨by first | rfl | (simp; done) | (simp [*]; done), by repeat (first | exact Drawn0.refl _ | apply Drawn0.step)⟩

/-! ### impl_areWithin: function 101 -/
def impl_areWithin.f (k : Nat) (l0 : List Int) (a1 : Int) (a2 : Int) : Option (Bool) := (slices_ContainsFunc_int_int.f k l0 (fun x0_ => impl_areWithin_1.f x0_ a1 a2)).bind fun t103 => (some (!t103))
theorem impl_areWithin.mono : ∀ a0 a1 a2  k, LeO (impl_areWithin.f k a0 a1 a2) (impl_areWithin.f (k + 1) a0 a1 a2) := by
  intro a0 a1 a2 k
  unfold impl_areWithin.f
  repeat' first
      | (with_reducible refine slices_ContainsFunc_int_int.mono _ _ _ (fun _ => ?_) _)
      | (with_reducible exact LeO.refl _)
      | (with_reducible exact LeO.none _)
      | (with_reducible refine LeO.ite ?_ ?_)
      | (with_reducible refine LeO.bind ?_ (fun _ => ?_))
      | exact LeO.none _
      | refine LeO.ite ?_ ?_
      | refine LeO.bind ?_ (fun _ => ?_)
set_option maxHeartbeats 8000000 in
set_option maxRecDepth 100000 in
theorem impl_areWithin.calls (k : Nat) (A0 : Option Addr) (c0 : Nat) (l0 : List Int) (a1 : Int) (a2 : Int) (r : Bool) (w : World) (hr0 : Kd.C (Kd.int .i64) w A0 l0.length l0) (hc0 : l0.length ≤ c0) (h : impl_areWithin.f k l0 a1 a2 = some r) :
    Calls Try.prog 101 #[.slice A0 l0.length c0, .int .i64 a1, .int .i64 a2] w fun e w' => e = .returned (.bool r) ∧ Below w.heap.size w w' := by
  have HR0 := Aside0.mk hr0
  have HC0 := Aside0.mk hc0
  clear hr0 hc0
  have HB := Aside0.mk (Below.refl w.heap.size w)
  have H : ((slices_ContainsFunc_int_int.f k l0 (fun x0_ => impl_areWithin_1.f x0_ a1 a2)).bind fun t103 => (some (!t103))) = some r := h
  clear h
  replace H := Option.bind_eq_some_iff.mp H
  obtain ⟨t103, A40, H⟩ := H
  replace H : (some (!t103)) = some r := H
  have A4 := Aside0.mk A40
  clear A40
  obtain rfl := Option.some.inj H
  go_enter Try.func101, Try.ntmps101
  go_wp2_with (first | ((with_reducible refine gate_dst (N := 4) rfl ?_); refine box_event ?hg (N := 4) ?hd (cs := #[.int .i64 a1]) (t := 3) ?hr ?_; (case hd => rfl); (case hg => rfl); (case hr => first | (go_simp; done) | (go_simp; rfl)); intro gb101 hg w5 hbox hb; have n0_ := Aside0.mk (below_step (by repeat (first | (with_reducible first | exact HB.out | apply below_alloc | apply pw_below_drewN | apply below_drew1) | exact HB.out)) hb); have n1_ := Aside0.mk (hbox); have n2_ := Aside0.mk ((by rw [hg]; exact (below_size (by repeat (first | (with_reducible first | exact HB.out | apply below_alloc | apply pw_below_drewN | apply below_drew1) | exact HB.out))) : w.heap.size ≤ gb101)); have n3_ := Aside0.mk ((by rw [hg]; exact (below_size (by repeat (first | (with_reducible first | exact HB.out | apply below_alloc | apply pw_below_drewN | apply below_drew1) | exact HB.out))) : w.heap.size ≤ gb101)); clear HB; have HB := n0_; have BK101 := n1_; have GW101 := n2_; have GE101 := n3_; clear n0_ n1_ n2_ n3_; clear hb hbox hg) | ((with_reducible refine gate_dst (N := 5) rfl ?_); refine box_event ?hg (N := 5) ?hd (cs := #[.int .i64 a2]) (t := 3) ?hr ?_; (case hd => rfl); (case hg => rfl); (case hr => first | (go_simp; done) | (go_simp; rfl)); intro gb102 hg w6 hbox hb; have n0_ := Aside0.mk (blk_below (g := gb101) (o := .cells #[.int .i64 a1] 3 (0, 0)) (by (with_reducible repeat (first | refine blk_drewN ?_ _ | refine blk_drew ?_ | refine blk_alloc ?_ _)); exact BK101.out) hb); have n1_ := Aside0.mk (below_step (by repeat (first | (with_reducible first | exact HB.out | apply below_alloc | apply pw_below_drewN | apply below_drew1 | refine below_set ?_ GE101.out) | exact HB.out)) hb); have n2_ := Aside0.mk (hbox); have n3_ := Aside0.mk ((by rw [hg]; exact (below_size (by repeat (first | (with_reducible first | exact HB.out | apply below_alloc | apply pw_below_drewN | apply below_drew1 | refine below_set ?_ GE101.out) | exact HB.out))) : w.heap.size ≤ gb102)); have n4_ := Aside0.mk ((by rw [hg]; exact (below_size (by repeat (first | (with_reducible first | exact HB.out | apply below_alloc | apply pw_below_drewN | apply below_drew1 | refine below_set ?_ GE101.out) | exact HB.out))) : w.heap.size ≤ gb102)); have n5_ := Aside0.mk ((by rw [hg]; exact Nat.ne_of_lt (blk_lt (g := gb101) (o := .cells #[.int .i64 a1] 3 (0, 0)) (by (with_reducible repeat (first | refine blk_drewN ?_ _ | refine blk_drew ?_ | refine blk_alloc ?_ _)); exact BK101.out)) : gb101 ≠ gb102)); have n6_ := Aside0.mk ((by rw [hg]; exact Nat.ne_of_gt (blk_lt (g := gb101) (o := .cells #[.int .i64 a1] 3 (0, 0)) (by (with_reducible repeat (first | refine blk_drewN ?_ _ | refine blk_drew ?_ | refine blk_alloc ?_ _)); exact BK101.out)) : gb102 ≠ gb101)); clear BK101; clear HB; have BK101 := n0_; have HB := n1_; have BK102 := n2_; have GW102 := n3_; have GE102 := n4_; have NB101_102 := n5_; have NB102_101 := n6_; clear n0_ n1_ n2_ n3_ n4_ n5_ n6_; clear hb hbox hg) | ((with_reducible refine gate_callee (f := 157) rfl ?_); refine goesL_ (some 9) rfl rfl Try.func157 (by kernel_rfl) rfl #[.slice A0 l0.length c0, .func (.func 158) #[] #[.pointer (some ⟨gb101, 0, none⟩), .pointer (some ⟨gb102, 0, none⟩)]] rfl (by (try simp only [List.map_toArray, List.map_cons, List.map_nil]); first | done | rfl | (simp only [List.length_drop, List.length_take]; rfl)) ?_; (with_reducible refine (slices_ContainsFunc_int_int.calls k _ _ l0 _ _ (fun x0_ => impl_areWithin_1.f x0_ a1 a2) t103 _ ?side1 ?side2 ?side3 A4.out).mono ?_); (case side1 => repeat (first | exact (Kd.C_below HR0.out HB.out) | (with_reducible refine Kd.C_alloc ?_ _) | (with_reducible refine Kd.C_drewN ?_ _) | (with_reducible refine Kd.C_drew ?_))); (case side2 => exact HC0.out); (case side3 => refine ⟨enters_of Try.func158 (by kernel_rfl) rfl, fun W_ hW_ x0_ v0_ hK0_ r_ hr_ => ?_⟩; cases (show v0_ = .int .i64 x0_ from by simpa [Kd.int, Kd.bool, Kd.string, Kd.scalar] using hK0_); refine (impl_areWithin_1.calls x0_ _ a1 _ a2 r_ W_ ?cb1 ?cb2 hr_).mono ?_; (case cb1 => exact blk_below (by (with_reducible repeat (first | refine blk_drewN ?_ _ | refine blk_drew ?_ | refine blk_alloc ?_ _)); exact BK101.out) hW_); (case cb2 => exact blk_below (by (with_reducible repeat (first | refine blk_drewN ?_ _ | refine blk_drew ?_ | refine blk_alloc ?_ _)); exact BK102.out) hW_); exact fun _ _ h_ => ⟨h_.1, h_.2.below⟩); rintro e w7 ⟨rfl, hb⟩; refine ⟨_, rfl, ?_⟩; have n0_ := Aside0.mk (blk_below (g := gb101) (o := .cells #[.int .i64 a1] 3 (0, 0)) (by (with_reducible repeat (first | refine blk_drewN ?_ _ | refine blk_drew ?_ | refine blk_alloc ?_ _)); exact BK101.out) hb); have n1_ := Aside0.mk (blk_below (g := gb102) (o := .cells #[.int .i64 a2] 3 (0, 0)) (by (with_reducible repeat (first | refine blk_drewN ?_ _ | refine blk_drew ?_ | refine blk_alloc ?_ _)); exact BK102.out) hb); have n2_ := Aside0.mk (below_step (by repeat (first | (with_reducible first | exact HB.out | apply below_alloc | apply pw_below_drewN | apply below_drew1 | refine below_set ?_ GE101.out | refine below_set ?_ GE102.out) | exact HB.out)) hb); clear BK101; clear BK102; clear HB; have BK101 := n0_; have BK102 := n1_; have HB := n2_; clear n0_ n1_ n2_; (try clear hb); (try clear hb2); (try clear hk); (try clear hi)))
  go_ret
  exact ⟨by first | rfl | (simp [errW_none, errW_some] <;> rfl) | (simp [*, errW_none, errW_some] <;> rfl), by repeat (first | (with_reducible first | exact HB.out | apply below_alloc | apply pw_below_drewN | apply below_drew1 | refine below_set ?_ GE101.out | refine below_set ?_ GE102.out) | exact HB.out)⟩

/-! ### impl_isSide: function 106 -/
def impl_isSide.f (a0 : Int) : Option (Bool) := (impl_within.f a0 1 6).bind fun t101 => (some t101)
set_option maxHeartbeats 8000000 in
set_option maxRecDepth 100000 in
theorem impl_isSide.calls (a0 : Int) (r : Bool) (w : World) (h : impl_isSide.f a0 = some r) :
    Calls Try.prog 106 #[.int .i64 a0] w fun e w' => e = .returned (.bool r) ∧ Drawn0 w w' := by
  have H : ((impl_within.f a0 1 6).bind fun t101 => (some t101)) = some r := h
  clear h
  replace H := Option.bind_eq_some_iff.mp H
  obtain ⟨t101, A20, H⟩ := H
  replace H : (some t101) = some r := H
  have A2 := Aside0.mk A20
  clear A20
  obtain rfl := Option.some.inj H
  go_enter Try.func106, Try.ntmps106
  go_wp2_with (first | ((with_reducible refine gate_callee (f := 107) rfl ?_); refine goesL_ (some 4) rfl rfl Try.func107 (by kernel_rfl) rfl #[.int .i64 a0, .int .i64 1, .int .i64 6] rfl (by (try simp only [List.map_toArray, List.map_cons, List.map_nil]); first | done | rfl | (simp only [List.length_drop, List.length_take]; rfl)) ?_; (with_reducible refine (impl_within.calls a0 1 6 t101 _ A2.out).mono ?_); rintro e w' ⟨rfl, ⟨nd, rfl⟩⟩; refine ⟨_, rfl, ?_⟩))
  go_ret
  exact ⟨by first | rfl | (simp; done) | (simp [*]; done), by repeat (first | exact Drawn0.refl _ | apply Drawn0.step)⟩

end Go.Proofs.Ytchnfacedjjakaa.X
