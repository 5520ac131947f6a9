-- Written by a program of this session (wip/xprint.py) that drives the kit's print; the contracts of what it does not take are this session's own.
import Derived.Test.YtjibpmlmohjfcaaCFnFreeSumsx0
namespace Go.Proofs.Ytjibpmlmohjfcaa.X
open Go.RowKit Go.Proofs.YtjibpmlmohjfcaaW.PrintWords Go.Proofs.YtjibpmlmohjfcaaW.PrintLast Go.Proofs.YtjibpmlmohjfcaaW.PrintMore
attribute [local go_sem] max2_int min2_int max_two min_two max_three min_three max_four min_four   -- for this text's walks alone
set_option linter.unusedVariables false
set_option linter.unusedSimpArgs false

/-! ### at_1: function 0 -/
/-! ### What is asked of function values, and plain words -/
def findO {α : Type} (p : α → Option Bool) : List α → Int → Option Int
 | [], _ => some (-1)
 | x :: xs, i => (p x).bind fun b => if b = true then some i else findO p xs (i + 1)
def anyO {α : Type} (p : α → Option Bool) : List α → Option Bool
 | [] => some false
 | x :: xs => (p x).bind fun b => if b = true then some true else anyO p xs
theorem findO_drop {α : Type} (p : α → Option Bool) (l : List α) (k : Nat) (d : α) (h : k < l.length) : findO p (l.drop k) k = (p (l.getD k d)).bind fun b => if b = true then some (k : Int) else findO p (l.drop (k + 1)) ((k + 1 : Nat) : Int) := by
 rw [List.drop_eq_getElem_cons h]
 simp [findO, List.getD_eq_getElem?_getD, List.getElem?_eq_getElem h]
theorem findO_any {α : Type} (p : α → Option Bool) : ∀ (l : List α) (i : Int) (r : Bool), 0 ≤ i → anyO p l = some r → ∃ j, findO p l i = some j ∧ decide (j ≥ 0) = r
 | [], i, r, _, h => by simp [anyO] at h; subst h; exact ⟨-1, rfl, rfl⟩
 | x :: xs, i, r, hi, h => by
  simp only [anyO] at h
  cases hx : p x with
  | none => simp [hx] at h
  | some b =>
   cases b with
   | true => simp [hx] at h; subst h; exact ⟨i, by simp [findO, hx], by simp; omega⟩
   | false =>
    simp [hx] at h
    obtain ⟨j, h1, h2⟩ := findO_any p xs (i + 1) r (by omega) h
    exact ⟨j, by simp [findO, hx, h1], h2⟩
theorem findO_mono {α : Type} {p q : α → Option Bool} (h : ∀ x, LeO (p x) (q x)) : ∀ l i, LeO (findO p l i) (findO q l i)
 | [], i => LeO.refl _
 | x :: xs, i => by
  unfold findO
  exact LeO.bind (h x) (fun b => LeO.ite (LeO.refl _) (findO_mono h xs (i + 1)))
theorem anyO_mono {α : Type} {p q : α → Option Bool} (h : ∀ x, LeO (p x) (q x)) : ∀ l, LeO (anyO p l) (anyO q l)
 | [] => LeO.refl _
 | x :: xs => by
  unfold anyO
  exact LeO.bind (h x) (fun b => LeO.ite (LeO.refl _) (anyO_mono h xs))
/-- An element of a row of one-cell elements, at a world at which memory has only grown. -/
theorem C_at {α : Type} {d : Kd α} (hs : d.sz = 1) {w W : World} {A : Option Addr} {n : Nat} {xs : List α} (h : d.C w A n xs) (hb : Below w.heap.size w W) (z : α) (k : Nat) (h1 : k < n) :
  ∃ ad v, A = some ad ∧ W.cell? (ad.add k) = some v ∧ d.K W (xs.getD k z) [v] ∧ xs.getD k z ∈ xs := by
 obtain ⟨ad, c, e, hl, hK, hc⟩ := Kd.C_get h z (k : Int) (by omega) (by omega)
 rw [hs] at hl
 obtain ⟨v, rfl⟩ := List.length_eq_one_iff.1 hl
 have hx := hc 0 v rfl
 rw [hs, Nat.mul_one, Nat.add_zero, Int.toNat_natCast] at hx
 refine ⟨ad, v, e, (hb.cell (World.block_lt_of_cell? w _ hx)).trans hx, d.K_below hb hK, ?_⟩
 have hn : xs.length = n := h.1
 simp [List.getD_eq_getElem?_getD, List.getElem?_eq_getElem (show k < xs.length by omega)]
/-- A function value of one parameter that answers as p says, wherever memory has only grown. -/
structure Fn1 {α ρ : Type} (d : Kd α) (enc : ρ → Value) (P : Program) (g : Nat) (lb : Array Value) (p : α → Option ρ) (w : World) : Prop where
 eg : ∀ args w, (callFunc g args).run P w = .ok (.enter g args) w
 cl : ∀ W, Below w.heap.size w W → ∀ x v, d.K W x [v] → ∀ r, p x = some r → Calls P g (#[v] ++ lb) W fun e W' => e = .returned (enc r) ∧ Below W.heap.size W W'
/-- .. of two. -/
structure Fn2 {α β ρ : Type} (d : Kd α) (d2 : Kd β) (enc : ρ → Value) (P : Program) (g : Nat) (lb : Array Value) (p : α → β → Option ρ) (w : World) : Prop where
 eg : ∀ args w, (callFunc g args).run P w = .ok (.enter g args) w
 cl : ∀ W, Below w.heap.size w W → ∀ x v, d.K W x [v] → ∀ y u, d2.K W y [u] → ∀ r, p x y = some r → Calls P g (#[v, u] ++ lb) W fun e W' => e = .returned (enc r) ∧ Below W.heap.size W W'
theorem quiet_drawn {P : Program} {f : FuncId} {args : Array Value} {w : World} {n : Nat} {v : Value}
  (h : Calls P f args (w.drewN n) fun e w' => e = .returned v ∧ Drawn0 (w.drewN n) w') : Calls P f args (w.drewN n) fun e w'' => e = .returned v ∧ ∃ m, w'' = w.drewN m :=
 h.mono fun _ _ ⟨he, hm⟩ => by
  obtain ⟨m, rfl⟩ := hm
  exact ⟨he, n + m, World.drewN_drewN ..⟩
theorem drawn_keep {w w' : World} (h : Drawn0 w w') (g : Nat) (row : Option Nat) : KeepBut w w' g row := by
 obtain ⟨n, rfl⟩ := h
 exact ⟨Nat.le_refl _, fun _ _ _ _ => rfl⟩
theorem region_tail {P : Program} {id : Nat} {Q : Exit → Act → World → Prop} {a : Act} {w : World} {l : List Oper} (n : Nat) (hm : P.follows .mixedOrders = true) (hB : Region.lexTailB .any l.toArray n = true)
  (h : ∀ w', w' = w.drew → wpStill P l.toArray w' (fun a' => wpList P l.toArray Q (l.drop n) a' w') (l.take n) a) : (Code.region id l.toArray true).wp P Q a w :=
 wp_region_still_tail n hm hB (h _ rfl)
theorem Fn1.later {α ρ : Type} {d : Kd α} {enc : ρ → Value} {P : Program} {g : Nat} {lb : Array Value} {p : α → Option ρ} {w W : World} (h : Fn1 d enc P g lb p w) (hb : Below w.heap.size w W) : Fn1 d enc P g lb p W :=
 ⟨h.eg, fun W' hb' => h.cl W' (hb.trans (hb'.mono hb.size))⟩
theorem Fn2.later {α β ρ : Type} {d : Kd α} {d2 : Kd β} {enc : ρ → Value} {P : Program} {g : Nat} {lb : Array Value} {p : α → β → Option ρ} {w W : World} (h : Fn2 d d2 enc P g lb p w) (hb : Below w.heap.size w W) : Fn2 d d2 enc P g lb p W :=
 ⟨h.eg, fun W' hb' => h.cl W' (hb.trans (hb'.mono hb.size))⟩
theorem K_int {k : IntKind} {w : World} {x : Int} : (Kd.int k).K w x [.int k x] := rfl
theorem K_bool {w : World} {x : Bool} : Kd.bool.K w x [.bool x] := rfl
theorem K_string {w : World} {x : ByteArray} : Kd.string.K w x [.string x] := rfl
theorem K_slice {α : Type} {e : Nat} {d : Kd α} {w : World} {xs : List α} {A : Option Addr} {c : Nat} (h1 : xs.length ≤ c) (h2 : d.C w A xs.length xs) : (Kd.slice e d).K w xs [.slice A xs.length c] := ⟨A, c, rfl, h1, h2⟩
/-- A call of a function value that lies in a slot, as one step of a region that draws. -/
theorem goesF_ {P : Program} {ops : Array Oper} {Q : Exit → Act → World → Prop} {oi : Oper} {N : Option Tmp} {a : Act} {w : World} {K : Act → World → Prop} {g : Nat} {lb : Array Value} {fo : Operand} {aa : Array Operand} {ts : Array TypeId} (eg : ∀ args w, (callFunc g args).run P w = .ok (.enter g args) w) (args : Array Value)
  (hw : Region.wanted oi (yielded ops a.tmps) = true) (hN : oi.dst = N) (hop : oi.op = .call { callee := .value fo, args := aa, argTypes := ts }) (hf : a.eval fo = .func (.func g) #[] lb) (hargs : aa.map a.eval = args)
  (h : Calls P g (args ++ lb) w fun e w' => ∃ v, e = .returned v ∧ K (a.put N v) w') : if Region.wanted oi (yielded ops a.tmps) = true then Oper.wp P oi a w K Q else K (a.put N undef) w := by
 refine call_ g (args ++ lb) hw hN ?_ h
 have he := eg (args ++ lb) w
 unfold execOp
 simp [hop, resolve, Deferred.ofValue, invoke, hargs, he, hf]

/-! ### at_2: function 0 -/
section
variable {α : Type} {d : Kd α} {e : Nat} {w0 w w1 : World} {lo hi lo' hi' : Nat} {v : Value} {x : List α} {S : Nat → Prop}
/-- A row of this call's own whose blocks lie between two sizes of the heap. -/
def ObS (d : Kd α) (e : Nat) (w0 w : World) (lo hi : Nat) (v : Value) (x : List α) : Prop := hi ≤ w.heap.size ∧ Kd.S d e w w0.heap.size (fun k => lo ≤ k ∧ k < hi) v x
def ObR (d : Kd α) (e : Nat) (w0 w : World) (lo hi : Nat) (v : Value) (x : List α) : Prop := hi ≤ w.heap.size ∧ d.R e w w0.heap.size (fun k => lo ≤ k ∧ k < hi) v x
theorem ObS.new_ (h : Kd.S d e w1 w.heap.size (fun _ => True) v x) (hb : Below w0.heap.size w0 w) : ObS d e w0 w1 w.heap.size w1.heap.size v x :=
  ⟨Nat.le_refl _, Kd.S_lower (Kd.S_mono (Kd.S_bound h) (fun _ hk => ⟨hk.2.1, hk.2.2.1⟩)) hb.size⟩
theorem ObR.new_ (h : d.R e w1 w.heap.size (fun _ => True) v x) (hb : Below w0.heap.size w0 w) : ObR d e w0 w1 w.heap.size w1.heap.size v x :=
  ⟨Nat.le_refl _, Kd.R_lower (Kd.R_mono (Kd.R_bound h) (fun _ hk => ⟨hk.2.1, hk.2.2.1⟩)) hb.size⟩
theorem ObS.later (h : ObS d e w0 w lo hi v x) (hb : Below w.heap.size w w1) : ObS d e w0 w1 lo hi v x := ⟨Nat.le_trans h.1 hb.size, Kd.S_below h.2 hb⟩
theorem ObR.later (h : ObR d e w0 w lo hi v x) (hb : Below w.heap.size w w1) : ObR d e w0 w1 lo hi v x := ⟨Nat.le_trans h.1 hb.size, Kd.R_below h.2 hb⟩
theorem ObS.kept_ (h : ObS d e w0 w lo hi v x) (hk : Kept w w1 (fun k => lo' ≤ k ∧ k < hi')) (hd : hi ≤ lo' ∨ hi' ≤ lo) : ObS d e w0 w1 lo hi v x :=
  ⟨Nat.le_trans h.1 hk.1, Kd.S_kept h.2 hk (fun k a b => by omega)⟩
theorem ObR.kept_ (h : ObR d e w0 w lo hi v x) (hk : Kept w w1 (fun k => lo' ≤ k ∧ k < hi')) (hd : hi ≤ lo' ∨ hi' ≤ lo) : ObR d e w0 w1 lo hi v x :=
  ⟨Nat.le_trans h.1 hk.1, Kd.R_kept h.2 hk (fun k a b => by omega)⟩
end
/-- Rows of whole numbers, as the statement's row opens them, are read. -/
theorem rows_C {k : IntKind} {e : Nat} {w : World} {a : Addr} {len cap : Nat} {A : Nat → Option Addr} {L C : Nat → Nat} {Z : Nat → List Int} (hl : len ≤ cap) (hm : cap ≤ maxLen)
    (h : ∀ r, r < cap → w.cell? (a.add r) = some (.slice (A r) (L r) (C r)) ∧ L r ≤ C r ∧ C r ≤ maxLen ∧ (Z r).length = C r ∧ (∀ n ∈ Z r, (Lit.int k n).wf = true) ∧ (A r = none → C r = 0) ∧
        ∀ a', A r = some a' → 0 ≤ a'.block ∧ ∀ c, c < C r → w.cell? (a'.add c) = some (.int k ((Z r).getD c 0))) :
    ∃ l : List (List Int), len = l.length ∧ Kd.C (Kd.slice e (Kd.int k)) w (some a) l.length l ∧ l.length ≤ maxLen ∧ ∀ x ∈ l, x.length ≤ maxLen ∧ ∀ n ∈ x, (Lit.int k n).wf = true := by
  have e0 : ((List.range len).map fun r => (Z r).take (L r)).length = len := by simp
  refine ⟨(List.range len).map fun r => (Z r).take (L r), e0.symm, ⟨rfl, by rw [e0]; unfold maxLen at hm; omega, fun _ => ⟨a, rfl, fun j p hj => ?_⟩⟩, by rw [e0]; omega, ?_⟩
  · have hj' : j < len := by
      have := (List.getElem?_eq_some_iff.1 hj).1
      rwa [e0] at this
    obtain ⟨hc, h1, h2, h3, h4, h5, h6⟩ := h j (by omega)
    have hp : p = (Z j).take (L j) := by
      have := hj
      rw [List.getElem?_map, List.getElem?_range hj'] at this
      simpa using this.symm
    subst hp
    have hlen : ((Z j).take (L j)).length = L j := by rw [List.length_take]; omega
    refine ⟨[.slice (A j) (L j) (C j)], rfl, ⟨A j, C j, by rw [hlen], by rw [hlen]; exact h1, ?_⟩, fun i u hu => ?_⟩
    · rw [hlen]
      refine Kd.C_of_reads (d := (0 : Int)) (h1 := fun _ => rfl) ⟨hlen, by unfold maxLen at h2; omega, fun hn => ?_⟩
      cases hA : A j with
      | none => exact absurd (h5 hA) (by omega)
      | some a' =>
        refine ⟨a', rfl, fun c hc => ?_⟩
        rw [(h6 a' hA).2 c (by omega)]
        simp [List.getD_eq_getElem?_getD, hc]
    · cases i with
      | zero =>
        obtain rfl : Value.slice (A j) (L j) (C j) = u := by simpa using hu
        simpa [show (Kd.slice e (Kd.int k)).sz = 1 from rfl] using hc
      | succ i => simp at hu
  · intro x hx
    obtain ⟨r, hr, rfl⟩ := List.mem_map.1 hx
    have hr' : r < len := List.mem_range.1 hr
    obtain ⟨hc, h1, h2, h3, h4, h5, h6⟩ := h r (by omega)
    refine ⟨by rw [List.length_take]; omega, fun n hn => h4 n (List.mem_of_mem_take hn)⟩

/-! ### at_3: function 0 -/
section
variable {α : Type} {d : Kd α} {e : Nat} {w0 w w1 : World} {A : Option Addr} {n c : Nat} {l : List α} {x : α} {S : Nat → Prop}
/-- A block of one cell, just made, as a row that is read. -/
theorem C_box (hs : d.sz = 1) {v : Value} (hK : d.K w x [v]) (t : TypeId) : d.C (w.alloc (.cells #[v] t)) (some ⟨w.heap.size, 0, none⟩) 1 [x] := by
  refine ⟨rfl, by omega, fun _ => ⟨_, rfl, fun j p hj => ?_⟩⟩
  cases j with
  | succ j => simp at hj
  | zero =>
    obtain rfl : x = p := by simpa using hj
    refine ⟨[v], hs.symm, d.K_below (below_alloc (Below.refl _ _) _) hK, fun i u hu => ?_⟩
    cases i with
    | succ i => simp at hu
    | zero =>
      obtain rfl : v = u := by simpa using hu
      rw [Nat.zero_mul, Nat.add_zero, Addr.add_lit]
      exact (blk_cell (blk_new w (.cells #[v] t)) 0).trans rfl
/-- An empty row, just made. -/
theorem R_empty {g base : Nat} {ok : Nat → Prop} (hg : w.heap[g]? = some (.cells #[] e (0, 0))) (hb : base ≤ g) (hok : ok g := by trivial) : d.R e w base ok (.slice (some ⟨g, 0, none⟩) 0 0) [] :=
  ⟨fun k hk => by (have e : g = k := by simpa [Value.ownBlock] using hk); exact e ▸ hok, [], ⟨by simp, .inr ⟨g, 0, #[], rfl, hb, hg, Nat.le_refl _, by unfold maxLen; omega, by simp, by simp⟩⟩, Reps.none _ _⟩
theorem blk_new' {o : Obj} {n : Nat} (h : w.heap.size = n) : (w.alloc o).heap[n]? = some o := h ▸ blk_new w o
theorem below_of_drawn (h : Drawn0 w w1) : Below w.heap.size w w1 := by
  obtain ⟨n, rfl⟩ := h
  exact pw_below_drewN (Below.refl _ _) n
theorem cell_of_below {a : Addr} {v : Value} (hb : Below w.heap.size w w1) (h : w.cell? a = some v) : w1.cell? a = some v := (hb.cell (World.block_lt_of_cell? _ _ h)).trans h
/-- A row whose cells have just been copied into a new block. -/
theorem N_grown {W : World} {ok : Nat → Prop} {v1 : Value} {xs : List α} {inner : List Value} (h : Reps (fun x c => Kd.FK d W ok x c) d.sz xs inner) (hown : w1.ownsRow W.heap.size e d.sz v1 xs.length inner) (hg : W.grownBy w1 none) :
    Kd.N d e w1 W.heap.size (fun k => ok k ∨ W.heap.size ≤ k) v1 xs := by
  refine ⟨fun k hk => .inr (own_base hown k hk), Kd.chunks d.sz xs.length inner, Kd.chunks_length _ _ _, ⟨fun k hk => hk.symm, inner, by rw [Kd.chunks_length]; exact hown, Kd.reps_raw h (fun x c hp => ⟨d.K_len (Kd.FK_now hp), d.K_one (Kd.FK_now hp)⟩)⟩, fun j x c hx hc => ?_⟩
  rw [Kd.chunks_get hc]
  refine Kd.FK_mono (Kd.FK_step (Kd.FK_bound (h.2 j x hx)) (fun k hk hlt => hg.block k hlt (by simp))) (fun k hk => ⟨.inl hk.1, fun he => ?_⟩)
  have := own_base hown k he.symm
  have := hk.2
  omega
/-- append onto a row that has no room left: a new row, the old one is only read. -/
theorem V_push_step {P : Program} {ops : Array Oper} {o : Oper} {a : Act} {W : World} {K : Act → World → Prop} {Q : Exit → Act → World → Prop} {E : Prop} {ok : Nat → Prop}
    (hg : o.guard = none) (s x : Operand) (t : TypeId) (hop : o.op = Op.call { callee := Callee.builtin Builtin.append, args := #[s, x], argTypes := #[t, t] }) (z : Value) (bytes : Nat)
    (h1 : P.underlying t = some (.slice e)) (h2 : (P.info? e).map (fun i => (i.zero, i.size, i.bytes)) = some (some z, 1, bytes)) (h6 : z.cells.size = 1) (hs1 : d.sz = 1)
    {A : Option Addr} {xs : List α} {y : α} {u : Value} {ad : Addr} (hs : a.eval s = .slice A xs.length xs.length) (hF : Kd.F d W ok A xs.length xs) (hx : a.eval x = .slice (some ad) 1 1) (hK : Kd.FK d W ok y [u]) (hc : W.cell? ad = some u)
    (b2 : (xs.length + 1) * bytes ≤ 140737488355328) (b3 : xs.length + 1 ≤ 140737488355328)
    (h : ∀ v1 w1, Kd.N d e w1 W.heap.size (fun k => ok k ∨ W.heap.size ≤ k) v1 (xs ++ [y]) → Below W.heap.size W w1 → K (a.put o.dst v1) w1) :
    if Region.wanted o (yielded ops a.tmps) = true then Oper.wp P o a W K Q else E := by
  obtain ⟨i0, hi, hzz⟩ := Option.map_eq_some_iff.1 h2
  simp only [Prod.mk.injEq] at hzz
  obtain ⟨hz0, hz1, hz2⟩ := hzz
  have hone : ∀ w ∈ [u], w.oneCell' = true := d.K_one (Kd.FK_now hK)
  have hol : ∃ olds, Reps (fun x c => Kd.FK d W ok x c) d.sz xs olds ∧ ∀ b, A = some b → ∀ j u, olds[j]? = some u → W.cell? (b.add j) = some u := by
    cases A with
    | some b =>
      obtain ⟨olds, h3, h4⟩ := ReadsRow.inner_ (Kd.F_rows hF)
      exact ⟨olds, h3, fun b' hb => by injection hb with hb; subst hb; exact h4⟩
    | none =>
      have h0 : xs = [] := by
        have h1 := (Kd.F_now hF).2.2
        cases xs with
        | nil => rfl
        | cons x xs =>
          obtain ⟨ad, e, _⟩ := h1 (by simp)
          cases e
      subst h0
      exact ⟨[], Reps.none _ _, fun b hb => by cases hb⟩
  obtain ⟨olds, hr, hcells⟩ := hol
  have hnone : A = none → xs.length = 0 ∧ xs.length = 0 := by
    rintro rfl
    have h1 := (Kd.F_now hF).2.2
    rcases Nat.eq_zero_or_pos xs.length with h0 | h0
    · exact ⟨h0, h0⟩
    · obtain ⟨ad, e, _⟩ := h1 h0
      cases e
  refine step_append_grows hg s x t hop e i0 z 1 bytes h1 hi hz0 hz1 hz2 h6 (by omega) A xs.length xs.length olds hs hnone (by rw [hr.1, hs1]) hcells ad 1 1 [u] hx rfl ?_ hone (by omega) (by simp only [maxLen]; omega) b2 ?_
  · intro j v hv
    cases j with
    | zero =>
      obtain rfl : u = v := by simpa using hv
      simpa [Addr.add] using hc
    | succ j => simp at hv
  · intro v1 w1 hown hgr
    have hr2 := hr.snoc hK (by rw [hs1]; rfl)
    have hown2 : w1.ownsRow W.heap.size e d.sz v1 (xs ++ [y]).length (olds ++ [u]) := by
      rw [hs1, List.length_append]
      exact hown
    exact h v1 w1 (N_grown hr2 hown2 hgr) ((Below.refl _ _).grown hgr (Nat.le_refl _) (fun _ h => by cases h))
/-- Kept, and the streams are as they were. -/
def Kp (w W : World) (S : Nat → Prop) : Prop := Kept w W S ∧ Below 0 w W
theorem Kp.refl (w : World) (S : Nat → Prop) : Kp w w S := ⟨Kept.refl _ _, Below.refl _ _⟩
theorem Kp.sz {W : World} (h : Kp w W S) : w.heap.size ≤ W.heap.size := h.1.1
theorem Kp.at {W : World} (h : Kp w W S) (k : Nat) (hk : k < w.heap.size) (hn : ¬ S k) : W.heap[k]? = w.heap[k]? := h.1.2 k hk hn
theorem Kp.mono {W : World} {S' : Nat → Prop} (h : Kp w W S) (hs : ∀ k, S k → S' k) : Kp w W S' := ⟨h.1.mono hs, h.2⟩
theorem Kp.then_ {W W2 : World} {S2 : Nat → Prop} (h : Kp w W S) (k : Kp W W2 S2) (hs : ∀ k, S2 k → S k ∨ w.heap.size ≤ k) : Kp w W2 S := ⟨h.1.then_ k.1 hs, h.2.trans k.2⟩
theorem Kp.below {W W2 : World} (h : Kp w W S) (hb : Below W.heap.size W W2) : Kp w W2 S := ⟨h.1.below hb, h.2.trans (hb.mono (Nat.zero_le _))⟩
theorem Kp.of_below {W : World} (h : Below w.heap.size w W) (S : Nat → Prop) : Kp w W S := ⟨Kept.of_below h S, h.mono (Nat.zero_le _)⟩
theorem Kp.drew {W : World} (h : Kp w W S) : Kp w W.drew S := ⟨h.1, h.2.drew⟩
theorem Kp.drewN {W : World} (h : Kp w W S) (m : Nat) : Kp w (W.drewN m) S := h.below (pw_below_drewN (Below.refl _ _) m)
theorem Kp.setCell {W : World} (h : Kp w W S) {p : Addr} (hp : S p.block ∨ w.heap.size ≤ p.block) (u : Value) : Kp w (W.setCell p u) S := ⟨h.1.setCell hp u, h.2.setCell (Nat.zero_le _) u⟩
/-- What lies below all of S is as it was. -/
theorem Kp.to_below {W : World} {B : Nat} (h : Kp w W S) (hB : B ≤ w.heap.size) (hs : ∀ k, S k → B ≤ k) : Below B w W :=
  ⟨h.2.os, h.2.tape, h.2.output, h.2.size, fun k hk => h.1.2 k (by omega) (fun h1 => by have := hs k h1; omega)⟩
/-- An element of a row of rows. -/
theorem V_row {W : World} {ok : Nat → Prop} {e' b b' cc : Nat} {xs : List (List α)} (h : Kd.V (Kd.slice e d) e' W b ok (.slice A xs.length cc) xs) (i : Int) (h0 : 0 ≤ i) (h1 : i < xs.length) :
    ∃ ad Aw cw, A = some ad ∧ W.cell? (ad.add i.toNat) = some (.slice Aw (xs.getD i.toNat []).length cw) ∧ Kd.V d e W b' ok (.slice Aw (xs.getD i.toNat []).length cw) (xs.getD i.toNat []) := by
  obtain ⟨ad, cs, he, _, hK, hcc, _⟩ := Kd.F_get (Kd.V_F h) [] i h0 (by simpa using h1)
  obtain ⟨Aw, cw, rfl, hl, hf⟩ := Kd.FK_slice_open hK
  have hx := hcc 0 _ rfl
  rw [show (Kd.slice e d).sz = 1 from rfl, Nat.mul_one, Nat.add_zero] at hx
  exact ⟨ad, Aw, cw, he, hx, Kd.V_mk hl hf⟩
theorem V_kept_to {W : World} {S' : Nat → Prop} {v : Value} {xs : List α} {b g : Nat} (h : Kd.V d e W b (fun k => ¬ S k ∧ k ≠ g) v xs) (hk : Kp W w1 S) (hs : ∀ k, S' k → S k ∨ W.heap.size ≤ k) : Kd.V d e w1 b (fun k => ¬ S' k ∧ k ≠ g) v xs :=
  Kd.V_mono (Kd.V_kept (Kd.V_bound h) hk.1 (fun k hk => hk.1.1)) (fun k hk => ⟨fun h' => (hs k h').elim hk.1.1 (fun h2 => by have := hk.2; omega), hk.1.2⟩)
/-- A block of numbers, whole, as a row that is read. -/
theorem C_nums {k : IntKind} {g t : Nat} {xs : List Int} (h : w.heap[g]? = some (.cells (nums k xs).toArray t (0, 0))) (hl : xs.length ≤ 9223372036854775807) : (Kd.int k).C w (some ⟨g, 0, none⟩) xs.length xs := by
  refine ⟨rfl, hl, fun _ => ⟨_, rfl, fun j p hj => ⟨[.int k p], rfl, rfl, fun i u hu => ?_⟩⟩⟩
  cases i with
  | succ i => simp at hu
  | zero =>
    obtain rfl : Value.int k p = u := by simpa using hu
    have hx := blk_cell h j
    rw [show j * (Kd.int k).sz + 0 = j from by show j * 1 + 0 = j; omega, Addr.add_lit, Nat.zero_add, hx]
    simp [nums, hj]
/-- A block of numbers, whole, as a row of one's own. -/
theorem R_nums {k : IntKind} {g e base : Nat} {w : World} {xs : List Int} {ok : Nat → Prop} (h : w.heap[g]? = some (.cells (nums k xs).toArray e (0, 0))) (hb : base ≤ g) (hl : xs.length ≤ 9223372036854775807) (hok : ok g := by trivial) :
    (Kd.int k).R e w base ok (.slice (some ⟨g, 0, none⟩) xs.length xs.length) xs :=
  ⟨fun i hi => by (have e : g = i := by simpa [Value.ownBlock] using hi); exact e ▸ hok,
    nums k xs, ⟨by show _ = xs.length * 1; simp [nums], .inr ⟨g, xs.length, (nums k xs).toArray, rfl, hb, h, Nat.le_refl _, hl, by show _ = xs.length * 1; simp [nums], by show List.take (xs.length * 1) _ = _; rw [List.toList_toArray]; exact List.take_of_length_le (by simp [nums])⟩⟩, Kd.reps_scalar xs⟩
theorem nums_set {k : IntKind} {xs : List Int} (i : Nat) (v : Int) : (nums k xs).toArray.setIfInBounds i (.int k v) = (nums k (xs.set i v)).toArray := by
  simp [nums, List.map_set]
/-- make([]int, n): a block of zeros. -/
theorem make_zeros {P : Program} {o : Oper} {a : Act} {x : Operand} {ty e0 : TypeId} (ho : o.op = .makeSlice ty x x) (n : Int) (hx : a.eval x = .int .i64 n) (ht : P.underlying ty = some (.slice e0))
    (hinfo : (P.info? e0).map (fun i => (i.zero, i.size, i.bytes)) = some (some (.int .i64 0), 1, 8)) (h0 : 0 ≤ n) (h1 : n ≤ 1000000) (W : World) :
    (execOp a.eval o).run P W = .ok (.value (.slice (some ⟨W.heap.size, 0, none⟩) n.toNat n.toNat)) (W.alloc (.cells (nums .i64 (List.replicate n.toNat 0)).toArray e0)) := by
  obtain ⟨i0, hi, hzz⟩ := Option.map_eq_some_iff.1 hinfo
  simp only [Prod.mk.injEq] at hzz
  obtain ⟨hz0, hz1, hz2⟩ := hzz
  have hr := run_make (P := P) W ty e0 i0 _ ht hi hz0 .i64 .i64 n n h0 (Int.le_refl _) (by rw [hz2]; omega) (by omega)
  have hm : madeCells (Value.int .i64 0).cells (n.toNat * i0.size) = (nums .i64 (List.replicate n.toNat 0)).toArray := by
    rw [hz1, Nat.mul_one]
    refine Array.ext (by simp [madeCells, nums]) fun i h1 h2 => ?_
    simp [madeCells, nums, Value.cells, Nat.mod_one]
  rw [hm] at hr
  simp [execOp, ho, hx, hr]
/-- A number of a row of rows of one's own: it is read, it may be written, and then the rows are told anew. -/
theorem S_cell2k {W : World} {base e e' n cap : Nat} {ok : Nat → Prop} {ad : Addr} {xs : List (List Int)} (h : Kd.S (Kd.slice e' (Kd.int .i64)) e W base ok (.slice (some ad) n cap) xs) (i : Int) (h0 : 0 ≤ i) (h1 : i < n) :
    ∃ Aw cw, W.cell? (ad.add i.toNat) = some (.slice Aw (xs.getD i.toNat []).length cw) ∧ ∀ j : Int, 0 ≤ j → j < (xs.getD i.toNat []).length → ∃ aw, Aw = some aw ∧ W.cell? (aw.add j.toNat) = some (.int .i64 (rd (xs.getD i.toNat []) j)) ∧ W.frozen? (aw.add j.toNat) = false ∧ base ≤ (aw.add j.toNat).block ∧ ok (aw.add j.toNat).block ∧
      ∀ v : Int, Kd.S (Kd.slice e' (Kd.int .i64)) e (W.setCell (aw.add j.toNat) (.int .i64 v)) base ok (.slice (some ad) n cap) (xs.set i.toNat ((xs.getD i.toNat []).set j.toNat v)) := by
  obtain ⟨oki, c, hcl, hM, hcc, hok, hbk⟩ := Kd.S_borrow h [] i h0 h1
  obtain ⟨v0, rfl, hR⟩ := hM
  obtain ⟨Aw, cw, rfl⟩ := Kd.R_slice hR
  have hx := hcc 0 _ rfl
  rw [show (Kd.slice e' (Kd.int .i64)).sz = 1 from rfl, Nat.mul_one, Nat.add_zero] at hx
  refine ⟨Aw, cw, hx, fun j j0 j1 => ?_⟩
  obtain ⟨g, cap', ev, hbg, hgl, _⟩ := Kd.R_form hR (by omega)
  injection ev with e1 _ _
  subst e1
  obtain ⟨q1, q2⟩ := Kd.R_celln (0 : Int) hR j j0 (by omega)
  refine ⟨⟨g, 0, none⟩, rfl, ?_, ?_, by rw [Addr.add_lit]; exact hbg, by rw [Addr.add_lit]; exact (hok g (hR.1 g rfl)).1, fun v => ?_⟩
  · rw [Addr.add_lit, Nat.zero_add]; exact q1
  · rw [Addr.add_lit, Nat.zero_add]; exact q2
  · rw [Addr.add_lit, Nat.zero_add]
    obtain ⟨r1, r2⟩ := Kd.R_putg hR j v
    exact hbk r2 (fun k hk => hR.1 k (by rw [← hk]; rfl)) ⟨_, rfl, r1⟩
/-- A number of a row of rows of one's own: it is read, it may be written, and then the rows are told anew. -/
theorem S_cell2 {W : World} {base e e' n cap : Nat} {ok : Nat → Prop} {ad : Addr} {xs : List (List Int)} (h : Kd.S (Kd.slice e' (Kd.int .i64)) e W base ok (.slice (some ad) n cap) xs) (i : Int) (h0 : 0 ≤ i) (h1 : i < n) :
    ∃ Aw cw, W.cell? (ad.add i.toNat) = some (.slice Aw (xs.getD i.toNat []).length cw) ∧ ∀ j : Int, 0 ≤ j → j < (xs.getD i.toNat []).length → ∃ aw, Aw = some aw ∧ W.cell? (aw.add j.toNat) = some (.int .i64 (rd (xs.getD i.toNat []) j)) ∧ W.frozen? (aw.add j.toNat) = false ∧ base ≤ (aw.add j.toNat).block ∧
      ∀ v : Int, Kd.S (Kd.slice e' (Kd.int .i64)) e (W.setCell (aw.add j.toNat) (.int .i64 v)) base ok (.slice (some ad) n cap) (xs.set i.toNat ((xs.getD i.toNat []).set j.toNat v)) := by
  obtain ⟨Aw, cw, h2, h3⟩ := S_cell2k h i h0 h1
  refine ⟨Aw, cw, h2, fun j j0 j1 => ?_⟩
  obtain ⟨aw, q1, q2, q3, q4, _, q6⟩ := h3 j j0 j1
  exact ⟨aw, q1, q2, q3, q4, q6⟩
/-- What was written and then put back. -/
theorem Kp.back {W : World} {g : Nat} {o : Obj} (h : Kp w W (fun k => S k ∨ k = g)) (h1 : w.heap[g]? = some o) (h2 : W.heap[g]? = some o) : Kp w W S :=
  ⟨⟨h.sz, fun i hi hn => by
    by_cases hg : i = g
    · subst hg; rw [h1, h2]
    · exact h.at i hi (fun hs => hs.elim hn hg)⟩, h.2⟩
/-- A function value with a state of its own: what it holds in memory is told by Inv over the blocks of S. -/
structure FnS {σ α ρ : Type} (d : Kd α) (enc : ρ → Value) (P : Program) (g : Nat) (lb : Array Value) (p : σ → α → Option (σ × ρ)) (Inv : σ → World → (Nat → Prop) → Prop) : Prop where
  eg : ∀ args w, (callFunc g args).run P w = .ok (.enter g args) w
  bd : ∀ s W S, Inv s W S → ∀ k, S k → k < W.heap.size
  st : ∀ s W S W', Inv s W S → Below 0 W W' → (∀ k, S k → W'.heap[k]? = W.heap[k]?) → Inv s W' S
  cl : ∀ s W S, Inv s W S → ∀ x v, d.K W x [v] → ∀ s' r, p s x = some (s', r) → Calls P g (#[v] ++ lb) W fun e W' => e = .returned (enc r) ∧ ∃ S', Inv s' W' S' ∧ Kp W W' S ∧ ∀ k, S' k → S k ∨ W.heap.size ≤ k
end
def rowOk (sums row : List Int) : Bool := decide (sums.length = row.length) && sums.all (fun s => decide (0 ≤ s) && decide (s ≤ 1)) && row.all (fun s => decide (-1 ≤ s) && decide (s ≤ 1))
theorem rowOk_len {sums row : List Int} (h : rowOk sums row = true) : sums.length = row.length ∧ (List.zipWith (· + ·) sums row).length = row.length := by
  simp only [rowOk, Bool.and_eq_true, decide_eq_true_eq] at h
  exact ⟨h.1.1, by rw [List.length_zipWith, h.1.1, Nat.min_self]⟩
theorem rowOk_at {sums row : List Int} (h : rowOk sums row = true) (j : Nat) (hj : j < row.length) : 0 ≤ sums.getD j 0 ∧ sums.getD j 0 ≤ 1 ∧ -1 ≤ row.getD j 0 ∧ row.getD j 0 ≤ 1 ∧ (List.zipWith (· + ·) sums row).getD j 0 = sums.getD j 0 + row.getD j 0 := by
  have hl := (rowOk_len h).1
  simp only [rowOk, Bool.and_eq_true, List.all_eq_true, decide_eq_true_eq] at h
  have h1 := h.1.2 (sums.getD j 0) (by rw [List.getD_eq_getElem?_getD, List.getElem?_eq_getElem (by omega)]; exact List.getElem_mem _)
  have h2 := h.2 (row.getD j 0) (by rw [List.getD_eq_getElem?_getD, List.getElem?_eq_getElem hj]; exact List.getElem_mem _)
  refine ⟨h1.1, h1.2, h2.1, h2.2, ?_⟩
  simp [List.getD_eq_getElem?_getD, List.getElem?_zipWith, List.getElem?_eq_getElem hj, List.getElem?_eq_getElem (show j < sums.length by omega)]
/-- The first j numbers of one row, the others of the other one. -/
def rowMid (a b : List Int) (j : Nat) : List Int := a.take j ++ b.drop j
theorem rowMid_len {a b : List Int} (h : a.length = b.length) (j : Nat) : (rowMid a b j).length = b.length := by
  simp [rowMid]; omega
theorem rowMid_at {a b : List Int} (h : a.length = b.length) (j : Nat) (hj : j < b.length) : (rowMid a b j).getD j 0 = b.getD j 0 := by
  simp only [rowMid, List.getD_eq_getElem?_getD]
  rw [List.getElem?_append_right (by simp; omega)]
  simp only [List.length_take, List.getElem?_drop]
  rw [show j + (j - min j a.length) = j by omega]
theorem rowMid_set {a b : List Int} (h : a.length = b.length) (j : Nat) (hj : j < b.length) : (rowMid a b j).set j (a.getD j 0) = rowMid a b (j + 1) := by
  refine List.ext_getElem (by rw [List.length_set, rowMid_len h, rowMid_len h]) fun i h1 h2 => ?_
  rw [List.length_set, rowMid_len h] at h1
  simp only [rowMid, List.getElem_set, List.getElem_append, List.length_take, List.getElem_take, List.getElem_drop]
  by_cases e : j = i
  · subst e
    rw [if_pos rfl, dif_pos (by omega), List.getD_eq_getElem?_getD, List.getElem?_eq_getElem (by omega)]; rfl
  · rw [if_neg e]
    by_cases e2 : i < j
    · rw [dif_pos (by omega), dif_pos (by omega)]
    · rw [dif_neg (by omega), dif_neg (by omega)]
      congr 1
      omega
theorem rowMid_zero {a b : List Int} : rowMid a b 0 = b := by simp [rowMid]
theorem rowMid_all {a b : List Int} {j : Nat} (h : a.length = b.length) (hj : j = b.length) : rowMid a b j = a := by
  subst hj
  simp only [rowMid]
  rw [← h]
  simp
  omega

/-! ### at_4: function 0 -/
/-- Rows whose own rows lie apart: as Kd.slice, what is owned told by S. -/
def sliceS {α : Type} (e : Nat) (d : Kd α) : Kd (List α) where
  sz := 1
  E := e :: d.E
  K := (Kd.slice e d).K
  M := fun w base ok xs cs => ∃ v, cs = [v] ∧ Kd.S d e w base ok v xs
  K_len := fun h => (Kd.slice e d).K_len h
  K_one := fun h => (Kd.slice e d).K_one h
  K_below := fun hb h => (Kd.slice e d).K_below hb h
  K_of_M := by
    rintro w base ok x cs ⟨v, rfl, h⟩
    obtain ⟨A, c, rfl, hl, hr⟩ := Kd.S_reads h
    exact ⟨A, c, rfl, hl, hr⟩
  M_mono := by
    rintro w base ok ok' x cs hok ⟨v, rfl, h⟩
    exact ⟨v, rfl, Kd.S_mono h hok⟩
  M_bound := by
    rintro w base ok x cs ⟨v, rfl, h⟩
    exact ⟨v, rfl, Kd.S_bound h⟩
  M_move := by
    rintro w w1 base ok x cs hm ⟨v, rfl, h⟩
    exact ⟨v, rfl, Kd.S_move h hm⟩
  M_lower := by
    rintro w base base' ok x cs hb ⟨v, rfl, h⟩
    exact ⟨v, rfl, Kd.S_lower h hb⟩
theorem sliceS_C {α : Type} {e : Nat} {d : Kd α} {w : World} {A : Option Addr} {n : Nat} {xs : List (List α)} (h : (sliceS e d).C w A n xs) : (Kd.slice e d).C w A n xs := h
section
variable {α : Type} {d : Kd α} {e lo hi lo' hi' : Nat} {w0 w w1 : World} {v : Value} {x : List α}
/-- A new row whose rows may be one another's, that is only read: its blocks lie between lo and hi. -/
def ObN (d : Kd α) (e : Nat) (w0 w : World) (lo hi : Nat) (v : Value) (x : List α) : Prop := hi ≤ w.heap.size ∧ Kd.N d e w w0.heap.size (fun k => lo ≤ k ∧ k < hi) v x
theorem ObN.new_ (h : Kd.N d e w1 w.heap.size (fun k_ => w.heap.size ≤ k_) v x) (hb : Below w0.heap.size w0 w) : ObN d e w0 w1 w.heap.size w1.heap.size v x :=
  ⟨Nat.le_refl _, Kd.N_lower (Kd.N_mono (Kd.N_bound h) (fun _ hk => ⟨hk.1, hk.2⟩)) (below_size hb)⟩
theorem ObN.later (h : ObN d e w0 w lo hi v x) (hb : Below w.heap.size w w1) : ObN d e w0 w1 lo hi v x := ⟨Nat.le_trans h.1 hb.size, Kd.N_below h.2 hb⟩
theorem ObN.kept_ (h : ObN d e w0 w lo hi v x) (hk : Kept w w1 (fun k => lo' ≤ k ∧ k < hi')) (hd : hi ≤ lo' ∨ hi' ≤ lo) : ObN d e w0 w1 lo hi v x :=
  ⟨Nat.le_trans h.1 hk.1, Kd.N_kept h.2 hk (fun k h1 h2 => by omega)⟩
end

/-! ### laws_big: function 6 -/
def laws_big.f (l0 : List Int) (l1 : List Int) : Option (Bool) := if (l0.length : Int) > 1048576 then (some true) else (some (decide ((l1.length : Int) > (wrap64 (1048576 - (l0.length : Int))))))
set_option maxHeartbeats 8000000 in
set_option maxRecDepth 100000 in
theorem laws_big.calls (A0 : Option Addr) (c0 : Nat) (l0 : List Int) (A1 : Option Addr) (c1 : Nat) (l1 : List Int) (r : Bool) (w : World) (hr0 : Kd.C (Kd.int .u8) w A0 l0.length l0) (hc0 : l0.length ≤ c0) (hr1 : Kd.C (Kd.int .u8) w A1 l1.length l1) (hc1 : l1.length ≤ c1) (h : laws_big.f l0 l1 = some r) :
  Calls Try.prog 6 #[.slice A0 l0.length c0, .slice A1 l1.length c1] w fun e w' => e = .returned (.bool r) ∧ Drawn0 w w' := by
 have HR0 := Aside0.mk hr0
 have HC0 := Aside0.mk hc0
 clear hr0 hc0
 have HR1 := Aside0.mk hr1
 have HC1 := Aside0.mk hc1
 clear hr1 hc1
 have H : (if (l0.length : Int) > 1048576 then (some true) else (some (decide ((l1.length : Int) > (wrap64 (1048576 - (l0.length : Int))))))) = some r := h
 clear h
 by_cases c3 : (l0.length : Int) > 1048576
 ·rw [if_pos c3] at H
  have c3b0 : decide (1048576 < (l0.length : Int)) = true := decide_eq_true c3
  have c3b1 : decide (1048576 < l0.length) = true := decide_eq_true (by omega)
  clear c3
  obtain rfl := Option.some.inj H
  go_enter Try.func6, Try.ntmps6
  go_wp2
  go_ret
  exact ⟨by first | rfl | (simp; done) | (simp [*]; done), by repeat (first | exact Drawn0.refl _ | apply Drawn0.step)⟩
 ·rw [if_neg c3] at H
  have c3b0 : decide (1048576 < (l0.length : Int)) = false := decide_eq_false c3
  have c3b1 : decide (1048576 < l0.length) = false := decide_eq_false (by omega)
  clear c3
  obtain rfl := Option.some.inj H
  go_enter Try.func6, Try.ntmps6
  go_wp2
  go_ret
  exact ⟨by first | rfl | (simp; done) | (simp [*]; done), by repeat (first | exact Drawn0.refl _ | apply Drawn0.step)⟩

/-- A state of type 49 at block g of W; what its slices lead to came in by w0. -/
def IsS49 (w0 W : World) (g : Nat) (f0 : List Int) (f1 : Int) (f2 : Int) : Prop := ∃ A0 c0, W.heap[g]? = some (.cells #[.slice A0 f0.length c0, .int .i64 f1, .int .u64 f2] 49 (0, 0)) ∧ w0.heap.size ≤ g ∧ Kd.C (Kd.int .u8) w0 A0 f0.length f0
theorem IsS49.grown {w0 W : World} {g : Nat} {f0 : List Int} {f1 : Int} {f2 : Int} {W1 : World} {row : Option Nat} (h : IsS49 w0 W g f0 f1 f2) (hw : W.grownBy W1 row) (hne : some g ≠ row) : IsS49 w0 W1 g f0 f1 f2 := by
 obtain ⟨A0, c0, hb, hg, hr0⟩ := h
 exact ⟨A0, c0, blk_grown hb hw hne, hg, hr0⟩
theorem IsS49.own_neN {w0 W : World} {g : Nat} {f0 : List Int} {f1 : Int} {f2 : Int} {α : Type} {d : Kd α} {e : Nat} {base : Nat} {ok : Nat → Prop} {v : Value} {xs : List α} (h : IsS49 w0 W g f0 f1 f2) (ho : Kd.N d e W base ok v xs) (ht : e ≠ 49) : some g ≠ v.ownBlock := by
 obtain ⟨A0, c0, hb, hg, hr0⟩ := h
 exact Kd.N_ne ho hb ht
theorem IsS49.fresh {w0 W : World} {g : Nat} {f0 : List Int} {f1 : Int} {f2 : Int} (h : IsS49 w0 W g f0 f1 f2) : ∀ k, W.heap.size ≤ k → k ≠ g := by
 obtain ⟨A0, c0, hb, hg, hr0⟩ := h
 exact Kd.freshB hb
theorem IsS49.kept {w0 W : World} {g : Nat} {f0 : List Int} {f1 : Int} {f2 : Int} {W1 : World} {S : Nat → Prop} (h : IsS49 w0 W g f0 f1 f2) (hk : Kept W W1 S) (hne : ¬ S g) : IsS49 w0 W1 g f0 f1 f2 := by
 obtain ⟨A0, c0, hb, hg, hr0⟩ := h
 exact ⟨A0, c0, blk_kept hb hk hne, hg, hr0⟩
theorem IsS49.below {w0 W : World} {g : Nat} {f0 : List Int} {f1 : Int} {f2 : Int} {W1 : World} (h : IsS49 w0 W g f0 f1 f2) (hw : Below W.heap.size W W1) : IsS49 w0 W1 g f0 f1 f2 := h.grown (grown_of_below hw none) (by simp)
theorem IsS49.alloc {w0 W : World} {g : Nat} {f0 : List Int} {f1 : Int} {f2 : Int} (h : IsS49 w0 W g f0 f1 f2) (o : Obj) : IsS49 w0 (W.alloc o) g f0 f1 f2 := h.below (below_alloc (Below.refl _ _) o)
theorem IsS49.drewN {w0 W : World} {g : Nat} {f0 : List Int} {f1 : Int} {f2 : Int} (h : IsS49 w0 W g f0 f1 f2) (m : Nat) : IsS49 w0 (W.drewN m) g f0 f1 f2 := h
theorem IsS49.drew {w0 W : World} {g : Nat} {f0 : List Int} {f1 : Int} {f2 : Int} (h : IsS49 w0 W g f0 f1 f2) : IsS49 w0 W.drew g f0 f1 f2 := h
theorem IsS49.at_ {w0 W : World} {g : Nat} {f0 : List Int} {f1 : Int} {f2 : Int} {w' : World} {m : Nat} (hq : W.drewN m = w') (h : IsS49 w0 W g f0 f1 f2) : IsS49 w0 w' g f0 f1 f2 := by subst hq; exact IsS49.drewN h m
theorem IsS49.apart {w0 W : World} {g : Nat} {f0 : List Int} {f1 : Int} {f2 : Int} {α : Type} {d : Kd α} {e : Nat} {base : Nat} {ok : Nat → Prop} {v : Value} {xs : List α} (h : IsS49 w0 W g f0 f1 f2) (ho : d.R e W base ok v xs) (ht : ∀ q, q ∈ e :: d.E → q ≠ 49) : d.R e W base (fun k => ok k ∧ k ≠ g) v xs := by
 obtain ⟨A0, c0, hb, hg, hr0⟩ := h
 exact Kd.R_types ho hb ht
theorem IsS49.own_ne {w0 W : World} {g : Nat} {f0 : List Int} {f1 : Int} {f2 : Int} {α : Type} {d : Kd α} {e : Nat} {base : Nat} {ok : Nat → Prop} {v : Value} {xs : List α} (h : IsS49 w0 W g f0 f1 f2) (ho : d.R e W base ok v xs) (ht : e ≠ 49) : some g ≠ v.ownBlock := by
 obtain ⟨A0, c0, hb, hg, hr0⟩ := h
 exact Kd.R_ne ho hb ht
theorem IsS49.apartQ {w0 W : World} {g : Nat} {f0 : List Int} {f1 : Int} {f2 : Int} {α : Type} {d : Kd α} {e : Nat} {base : Nat} {ok : Nat → Prop} {v : Value} {xs : List α} (h : IsS49 w0 W g f0 f1 f2) (ho : d.Q e W base ok v xs) (ht : ∀ q, q ∈ e :: d.E → q ≠ 49) : d.Q e W base (fun k => ok k ∧ k ≠ g) v xs := by
 obtain ⟨A0, c0, hb, hg, hr0⟩ := h
 exact Kd.Q_types ho hb ht
theorem IsS49.own_neQ {w0 W : World} {g : Nat} {f0 : List Int} {f1 : Int} {f2 : Int} {α : Type} {d : Kd α} {e : Nat} {base : Nat} {ok : Nat → Prop} {v : Value} {xs : List α} (h : IsS49 w0 W g f0 f1 f2) (ho : d.Q e W base ok v xs) (ht : e ≠ 49) : some g ≠ v.ownBlock := by
 obtain ⟨A0, c0, hb, hg, hr0⟩ := h
 exact Kd.Q_ne ho hb ht
theorem IsS49.apartS {w0 W : World} {g : Nat} {f0 : List Int} {f1 : Int} {f2 : Int} {α : Type} {d : Kd α} {e : Nat} {base : Nat} {ok : Nat → Prop} {v : Value} {xs : List α} (h : IsS49 w0 W g f0 f1 f2) (ho : d.S e W base ok v xs) (ht : ∀ q, q ∈ e :: d.E → q ≠ 49) : d.S e W base (fun k => ok k ∧ k ≠ g) v xs := by
 obtain ⟨A0, c0, hb, hg, hr0⟩ := h
 exact Kd.S_types ho hb ht
theorem IsS49.own_neS {w0 W : World} {g : Nat} {f0 : List Int} {f1 : Int} {f2 : Int} {α : Type} {d : Kd α} {e : Nat} {base : Nat} {ok : Nat → Prop} {v : Value} {xs : List α} (h : IsS49 w0 W g f0 f1 f2) (ho : d.S e W base ok v xs) (ht : e ≠ 49) : some g ≠ v.ownBlock := by
 obtain ⟨A0, c0, hb, hg, hr0⟩ := h
 exact Kd.S_ne ho hb ht
theorem IsS49.lt {w0 W : World} {g : Nat} {f0 : List Int} {f1 : Int} {f2 : Int} (h : IsS49 w0 W g f0 f1 f2) : g < W.heap.size := by
 obtain ⟨A0, c0, hb, hg, hr0⟩ := h
 exact blk_lt hb
theorem IsS49.ge {w0 W : World} {g : Nat} {f0 : List Int} {f1 : Int} {f2 : Int} (h : IsS49 w0 W g f0 f1 f2) : w0.heap.size ≤ g := by
 obtain ⟨A0, c0, hb, hg, hr0⟩ := h
 exact hg
theorem IsS49.ne_blk {w0 W : World} {g : Nat} {f0 : List Int} {f1 : Int} {f2 : Int} {a : Nat} {cs : Array Value} {t : TypeId} {fr : Nat × Nat} (h : IsS49 w0 W g f0 f1 f2) (hb2 : W.heap[a]? = some (.cells cs t fr)) (ht : t ≠ 49) : g ≠ a := by
 obtain ⟨A0, c0, hb, hg, hr0⟩ := h
 rintro rfl
 rw [hb] at hb2
 injection hb2 with hb2
 injection hb2 with _ ht2
 exact ht ht2.symm
theorem IsS49.far {w0 W : World} {g : Nat} {f0 : List Int} {f1 : Int} {f2 : Int} {p : Addr} (h : IsS49 w0 W g f0 f1 f2) (hne : g ≠ p.block) (u : Value) : IsS49 w0 (W.setCell p u) g f0 f1 f2 := by
 obtain ⟨A0, c0, hb, hg, hr0⟩ := h
 exact ⟨A0, c0, blk_far hb hne u, hg, hr0⟩
theorem cellS49_0 {W : World} {g : Nat} {A0 : Option Addr} {c0 : Nat} {f0 : List Int} {f1 : Int} {f2 : Int} (h : W.heap[g]? = some (.cells #[.slice A0 f0.length c0, .int .i64 f1, .int .u64 f2] 49 (0, 0))) : W.cell? ⟨g, 0, none⟩ = some (.slice A0 f0.length c0) := (blk_cell h 0).trans rfl
theorem cellS49_1 {W : World} {g : Nat} {A0 : Option Addr} {c0 : Nat} {f0 : List Int} {f1 : Int} {f2 : Int} (h : W.heap[g]? = some (.cells #[.slice A0 f0.length c0, .int .i64 f1, .int .u64 f2] 49 (0, 0))) : W.cell? ⟨g, 1, none⟩ = some (.int .i64 f1) := (blk_cell h 1).trans rfl
theorem IsS49.set_1 {w0 W : World} {g : Nat} {f0 : List Int} {f1 : Int} {f2 : Int} (h : IsS49 w0 W g f0 f1 f2) (x : Int) : IsS49 w0 (W.setCell ⟨g, 1, none⟩ (.int .i64 x)) g f0 x f2 := by
 obtain ⟨A0, c0, hb, hg, hr0⟩ := h
 exact ⟨A0, c0, by simpa using blk_set hb 1 (.int .i64 x), hg, hr0⟩
theorem cellS49_2 {W : World} {g : Nat} {A0 : Option Addr} {c0 : Nat} {f0 : List Int} {f1 : Int} {f2 : Int} (h : W.heap[g]? = some (.cells #[.slice A0 f0.length c0, .int .i64 f1, .int .u64 f2] 49 (0, 0))) : W.cell? ⟨g, 2, none⟩ = some (.int .u64 f2) := (blk_cell h 2).trans rfl
theorem IsS49.set_2 {w0 W : World} {g : Nat} {f0 : List Int} {f1 : Int} {f2 : Int} (h : IsS49 w0 W g f0 f1 f2) (x : Int) : IsS49 w0 (W.setCell ⟨g, 2, none⟩ (.int .u64 x)) g f0 f1 x := by
 obtain ⟨A0, c0, hb, hg, hr0⟩ := h
 exact ⟨A0, c0, by simpa using blk_set hb 2 (.int .u64 x), hg, hr0⟩
theorem IsS49.new (w0 W : World) (A0 : Option Addr) (c0 : Nat) (f0 : List Int) (f1 : Int) (f2 : Int) (hB : Below w0.heap.size w0 W) (hr0 : Kd.C (Kd.int .u8) w0 A0 f0.length f0) : IsS49 w0 (W.alloc (.cells #[.slice A0 f0.length c0, .int .i64 f1, .int .u64 f2] 49)) W.heap.size f0 f1 f2 := ⟨A0, c0, by simpa using heap_alloc_new W _, hB.size, hr0⟩

/-! ### spec_l1Cur_next: function 126 -/
def spec_l1Cur_next.f (s0_0 : List Int) (s0_1 : Int) (s0_2 : Int) : Option (Int × Int × Int) := if s0_1 < (s0_0.length : Int) then (if 0 ≤ s0_1 then (if (wrap64 (s0_1 + 1)) ≤ (s0_0.length : Int) then (some (wrap64 (rd s0_0 s0_1), wrap64 (s0_1 + 1), IntKind.u64.wrap ((IntKind.u64.wrap ((IntKind.u64.wrap (s0_2 * 6364136223846793005)) + (IntKind.u64.wrap (wrap64 (rd s0_0 s0_1))))) + 1442695040888963407))) else (some (wrap64 (Go.bits .and .u64 ((IntKind.u64.wrap ((IntKind.u64.wrap ((IntKind.u64.wrap (s0_2 * 6364136223846793005)) + (IntKind.u64.wrap (wrap64 (rd s0_0 s0_1))))) + 1442695040888963407)) / 1099511627776) 255), wrap64 (s0_1 + 1), IntKind.u64.wrap ((IntKind.u64.wrap ((IntKind.u64.wrap (s0_2 * 6364136223846793005)) + (IntKind.u64.wrap (wrap64 (rd s0_0 s0_1))))) + 1442695040888963407)))) else (none)) else (if (wrap64 (s0_1 + 1)) ≤ (s0_0.length : Int) then (some (0, wrap64 (s0_1 + 1), IntKind.u64.wrap ((IntKind.u64.wrap ((IntKind.u64.wrap (s0_2 * 6364136223846793005)) + 0)) + 1442695040888963407))) else (some (wrap64 (Go.bits .and .u64 ((IntKind.u64.wrap ((IntKind.u64.wrap ((IntKind.u64.wrap (s0_2 * 6364136223846793005)) + 0)) + 1442695040888963407)) / 1099511627776) 255), wrap64 (s0_1 + 1), IntKind.u64.wrap ((IntKind.u64.wrap ((IntKind.u64.wrap (s0_2 * 6364136223846793005)) + 0)) + 1442695040888963407))))
set_option maxHeartbeats 8000000 in
set_option maxRecDepth 100000 in
theorem spec_l1Cur_next.calls (g : Nat) (s0_0 : List Int) (s0_1 : Int) (s0_2 : Int) (r1 : Int) (r2 : Int) (r3 : Int) (w0 w : World) (hI : IsS49 w0 w g s0_0 s0_1 s0_2) (hB : Below w0.heap.size w0 w) (h : spec_l1Cur_next.f s0_0 s0_1 s0_2 = some (r1, r2, r3)) :
  Calls Try.prog 126 #[.pointer (some ⟨g, 0, none⟩)] w fun e w' => e = .returned (.int .i64 r1) ∧ IsS49 w0 w' g s0_0 r2 r3 ∧ Below w0.heap.size w0 w' ∧ KeepBut w w' g none := by
 have HI0 := Aside0.mk hI
 have HK := Aside0.mk (KeepBut.refl w g none)
 have HL := Aside0.mk hB.size
 clear hI
 have HW0 := Aside0.mk hB.size
 have HB := Aside0.mk hB
 clear hB
 have H : (if s0_1 < (s0_0.length : Int) then (if 0 ≤ s0_1 then (if (wrap64 (s0_1 + 1)) ≤ (s0_0.length : Int) then (some (wrap64 (rd s0_0 s0_1), wrap64 (s0_1 + 1), IntKind.u64.wrap ((IntKind.u64.wrap ((IntKind.u64.wrap (s0_2 * 6364136223846793005)) + (IntKind.u64.wrap (wrap64 (rd s0_0 s0_1))))) + 1442695040888963407))) else (some (wrap64 (Go.bits .and .u64 ((IntKind.u64.wrap ((IntKind.u64.wrap ((IntKind.u64.wrap (s0_2 * 6364136223846793005)) + (IntKind.u64.wrap (wrap64 (rd s0_0 s0_1))))) + 1442695040888963407)) / 1099511627776) 255), wrap64 (s0_1 + 1), IntKind.u64.wrap ((IntKind.u64.wrap ((IntKind.u64.wrap (s0_2 * 6364136223846793005)) + (IntKind.u64.wrap (wrap64 (rd s0_0 s0_1))))) + 1442695040888963407)))) else (none)) else (if (wrap64 (s0_1 + 1)) ≤ (s0_0.length : Int) then (some (0, wrap64 (s0_1 + 1), IntKind.u64.wrap ((IntKind.u64.wrap ((IntKind.u64.wrap (s0_2 * 6364136223846793005)) + 0)) + 1442695040888963407))) else (some (wrap64 (Go.bits .and .u64 ((IntKind.u64.wrap ((IntKind.u64.wrap ((IntKind.u64.wrap (s0_2 * 6364136223846793005)) + 0)) + 1442695040888963407)) / 1099511627776) 255), wrap64 (s0_1 + 1), IntKind.u64.wrap ((IntKind.u64.wrap ((IntKind.u64.wrap (s0_2 * 6364136223846793005)) + 0)) + 1442695040888963407))))) = some (r1, r2, r3) := h
 clear h
 by_cases c2 : s0_1 < (s0_0.length : Int)
 ·rw [if_pos c2] at H
  have c2b0 : decide (s0_1 < (s0_0.length : Int)) = true := decide_eq_true c2
  clear c2
  by_cases c3 : 0 ≤ s0_1
  ·rw [if_pos c3] at H
   have c3b0 : decide (0 ≤ s0_1) = true := decide_eq_true c3
   clear c3
   by_cases c4 : (wrap64 (s0_1 + 1)) ≤ (s0_0.length : Int)
   ·rw [if_pos c4] at H
    have c4b0 : decide ((wrap64 (s0_1 + 1)) ≤ (s0_0.length : Int)) = true := decide_eq_true c4
    clear c4
    simp only [Option.some.injEq, Prod.mk.injEq] at H
    obtain ⟨rfl, rfl, rfl⟩ := H
    obtain ⟨ASz5_0, cSz5_0, HGz5, hgz5, HSz5_0⟩ := HI0.out
    have hcz5_0 := cellS49_0 HGz5
    have hcz5_1 := cellS49_1 HGz5
    have hcz5_2 := cellS49_2 HGz5
    have hfz5_1 := blk_frozen HGz5 1
    have hfz5_2 := blk_frozen HGz5 2
    clear HGz5 hgz5
    have p101 : 0 ≤ (s0_1 : Int) := of_decide_eq_true tc2_
    have q101 : s0_1 < (s0_0.length : Int) := of_decide_eq_true tc2_
    obtain ⟨ad101, e101, hx101_0⟩ := Kd.at_int HSz5_0 s0_1 p101 q101
    cases e101
    replace hx101_0 := pw_cell_below HB.out hx101_0
    replace p101 := eq_true p101
    replace q101 := eq_true q101
    go_enter Try.func126, Try.ntmps126
    go_wp2
    repeat (go_quiet (fail); try go_wp2)
    go_ret
    exact ⟨by first | rfl | (simp [errW_none, errW_some] <;> rfl) | (simp [*, errW_none, errW_some] <;> rfl), by (try simp only [Int.add_zero]); repeat (first | (with_reducible first | exact HI0.out | apply IsS49.alloc | apply IsS49.drewN | apply IsS49.drew | apply IsS49.set_1 | apply IsS49.set_2) | exact HI0.out), by repeat (first | (with_reducible first | exact HB.out | apply below_alloc | apply pw_below_drewN | apply below_drew1 | refine below_set ?_ (IsS49.ge HI0.out)) | exact HB.out), by repeat (first | (with_reducible first | exact HK.out | apply KeepBut.set_ | apply keep_drewN | apply keep_drew | apply keep_alloc) | exact HK.out)⟩
   ·rw [if_neg c4] at H
    have c4b0 : decide ((wrap64 (s0_1 + 1)) ≤ (s0_0.length : Int)) = false := decide_eq_false c4
    clear c4
    simp only [Option.some.injEq, Prod.mk.injEq] at H
    obtain ⟨rfl, rfl, rfl⟩ := H
    obtain ⟨ASz6_0, cSz6_0, HGz6, hgz6, HSz6_0⟩ := HI0.out
    have hcz6_0 := cellS49_0 HGz6
    have hcz6_1 := cellS49_1 HGz6
    have hcz6_2 := cellS49_2 HGz6
    have hfz6_1 := blk_frozen HGz6 1
    have hfz6_2 := blk_frozen HGz6 2
    clear HGz6 hgz6
    have p101 : 0 ≤ (s0_1 : Int) := of_decide_eq_true tc2_
    have q101 : s0_1 < (s0_0.length : Int) := of_decide_eq_true tc2_
    obtain ⟨ad101, e101, hx101_0⟩ := Kd.at_int HSz6_0 s0_1 p101 q101
    cases e101
    replace hx101_0 := pw_cell_below HB.out hx101_0
    replace p101 := eq_true p101
    replace q101 := eq_true q101
    go_enter Try.func126, Try.ntmps126
    go_wp2
    repeat (go_quiet (fail); try go_wp2)
    go_ret
    exact ⟨by first | rfl | (simp [errW_none, errW_some] <;> rfl) | (simp [*, errW_none, errW_some] <;> rfl), by (try simp only [Int.add_zero]); repeat (first | (with_reducible first | exact HI0.out | apply IsS49.alloc | apply IsS49.drewN | apply IsS49.drew | apply IsS49.set_1 | apply IsS49.set_2) | exact HI0.out), by repeat (first | (with_reducible first | exact HB.out | apply below_alloc | apply pw_below_drewN | apply below_drew1 | refine below_set ?_ (IsS49.ge HI0.out)) | exact HB.out), by repeat (first | (with_reducible first | exact HK.out | apply KeepBut.set_ | apply keep_drewN | apply keep_drew | apply keep_alloc) | exact HK.out)⟩
  ·rw [if_neg c3] at H
   exact absurd H (by simp)
 ·rw [if_neg c2] at H
  have c2b0 : decide (s0_1 < (s0_0.length : Int)) = false := decide_eq_false c2
  clear c2
  by_cases c7 : (wrap64 (s0_1 + 1)) ≤ (s0_0.length : Int)
  ·rw [if_pos c7] at H
   have c7b0 : decide ((wrap64 (s0_1 + 1)) ≤ (s0_0.length : Int)) = true := decide_eq_true c7
   clear c7
   simp only [Option.some.injEq, Prod.mk.injEq] at H
   obtain ⟨rfl, rfl, rfl⟩ := H
   obtain ⟨ASz8_0, cSz8_0, HGz8, hgz8, HSz8_0⟩ := HI0.out
   have hcz8_0 := cellS49_0 HGz8
   have hcz8_1 := cellS49_1 HGz8
   have hcz8_2 := cellS49_2 HGz8
   have hfz8_1 := blk_frozen HGz8 1
   have hfz8_2 := blk_frozen HGz8 2
   clear HGz8 hgz8
   go_enter Try.func126, Try.ntmps126
   go_wp2
   repeat (go_quiet (fail); try go_wp2)
   go_ret
   exact ⟨by first | rfl | (simp [errW_none, errW_some] <;> rfl) | (simp [*, errW_none, errW_some] <;> rfl), by (try simp only [Int.add_zero]); repeat (first | (with_reducible first | exact HI0.out | apply IsS49.alloc | apply IsS49.drewN | apply IsS49.drew | apply IsS49.set_1 | apply IsS49.set_2) | exact HI0.out), by repeat (first | (with_reducible first | exact HB.out | apply below_alloc | apply pw_below_drewN | apply below_drew1 | refine below_set ?_ (IsS49.ge HI0.out)) | exact HB.out), by repeat (first | (with_reducible first | exact HK.out | apply KeepBut.set_ | apply keep_drewN | apply keep_drew | apply keep_alloc) | exact HK.out)⟩
  ·rw [if_neg c7] at H
   have c7b0 : decide ((wrap64 (s0_1 + 1)) ≤ (s0_0.length : Int)) = false := decide_eq_false c7
   clear c7
   simp only [Option.some.injEq, Prod.mk.injEq] at H
   obtain ⟨rfl, rfl, rfl⟩ := H
   obtain ⟨ASz9_0, cSz9_0, HGz9, hgz9, HSz9_0⟩ := HI0.out
   have hcz9_0 := cellS49_0 HGz9
   have hcz9_1 := cellS49_1 HGz9
   have hcz9_2 := cellS49_2 HGz9
   have hfz9_1 := blk_frozen HGz9 1
   have hfz9_2 := blk_frozen HGz9 2
   clear HGz9 hgz9
   go_enter Try.func126, Try.ntmps126
   go_wp2
   repeat (go_quiet (fail); try go_wp2)
   go_ret
   exact ⟨by first | rfl | (simp [errW_none, errW_some] <;> rfl) | (simp [*, errW_none, errW_some] <;> rfl), by (try simp only [Int.add_zero]); repeat (first | (with_reducible first | exact HI0.out | apply IsS49.alloc | apply IsS49.drewN | apply IsS49.drew | apply IsS49.set_1 | apply IsS49.set_2) | exact HI0.out), by repeat (first | (with_reducible first | exact HB.out | apply below_alloc | apply pw_below_drewN | apply below_drew1 | refine below_set ?_ (IsS49.ge HI0.out)) | exact HB.out), by repeat (first | (with_reducible first | exact HK.out | apply KeepBut.set_ | apply keep_drewN | apply keep_drew | apply keep_alloc) | exact HK.out)⟩

/-! ### spec_l1Cur_pick: function 88 -/
def spec_l1Cur_pick.f (s0_0 : List Int) (s0_1 : Int) (s0_2 : Int) (a1 : Int) : Option (Int × Int × Int) := if a1 ≤ 1 then (some (0, s0_1, s0_2)) else ((spec_l1Cur_next.f s0_0 s0_1 s0_2).bind fun bt101 => (if a1 > 200 then ((spec_l1Cur_next.f s0_0 bt101.2.1 bt101.2.2).bind fun bt104 => (if a1 = 0 then (none) else (some (Int.tmod (wrap64 ((wrap64 (bt101.1 * 256)) + bt104.1)) a1, bt104.2.1, bt104.2.2)))) else (if a1 = 0 then (none) else (some (Int.tmod bt101.1 a1, bt101.2.1, bt101.2.2)))))
set_option maxHeartbeats 8000000 in
set_option maxRecDepth 100000 in
theorem spec_l1Cur_pick.calls (g : Nat) (s0_0 : List Int) (s0_1 : Int) (s0_2 : Int) (a1 : Int) (r1 : Int) (r2 : Int) (r3 : Int) (w0 w : World) (hI : IsS49 w0 w g s0_0 s0_1 s0_2) (hB : Below w0.heap.size w0 w) (h : spec_l1Cur_pick.f s0_0 s0_1 s0_2 a1 = some (r1, r2, r3)) :
  Calls Try.prog 88 #[.pointer (some ⟨g, 0, none⟩), .int .i64 a1] w fun e w' => e = .returned (.int .i64 r1) ∧ IsS49 w0 w' g s0_0 r2 r3 ∧ Below w0.heap.size w0 w' ∧ KeepBut w w' g none := by
 have HI0 := Aside0.mk hI
 have HK := Aside0.mk (KeepBut.refl w g none)
 have HL := Aside0.mk hB.size
 clear hI
 have HW0 := Aside0.mk hB.size
 have HB := Aside0.mk hB
 clear hB
 have H : (if a1 ≤ 1 then (some (0, s0_1, s0_2)) else ((spec_l1Cur_next.f s0_0 s0_1 s0_2).bind fun bt101 => (if a1 > 200 then ((spec_l1Cur_next.f s0_0 bt101.2.1 bt101.2.2).bind fun bt104 => (if a1 = 0 then (none) else (some (Int.tmod (wrap64 ((wrap64 (bt101.1 * 256)) + bt104.1)) a1, bt104.2.1, bt104.2.2)))) else (if a1 = 0 then (none) else (some (Int.tmod bt101.1 a1, bt101.2.1, bt101.2.2)))))) = some (r1, r2, r3) := h
 clear h
 by_cases c3 : a1 ≤ 1
 ·rw [if_pos c3] at H
  have c3b0 : decide (a1 ≤ 1) = true := decide_eq_true c3
  clear c3
  simp only [Option.some.injEq, Prod.mk.injEq] at H
  obtain ⟨rfl, rfl, rfl⟩ := H
  go_enter Try.func88, Try.ntmps88
  go_wp2
  go_ret
  exact ⟨by first | rfl | (simp [errW_none, errW_some] <;> rfl) | (simp [*, errW_none, errW_some] <;> rfl), by repeat (first | (with_reducible first | exact HI0.out | apply IsS49.alloc | apply IsS49.drewN | apply IsS49.drew | apply IsS49.set_1 | apply IsS49.set_2) | exact HI0.out), by repeat (first | (with_reducible first | exact HB.out | apply below_alloc | apply pw_below_drewN | apply below_drew1 | refine below_set ?_ (IsS49.ge HI0.out)) | exact HB.out), by repeat (first | (with_reducible first | exact HK.out | apply KeepBut.set_ | apply keep_drewN | apply keep_drew | apply keep_alloc) | exact HK.out)⟩
 ·rw [if_neg c3] at H
  have c3b0 : decide (a1 ≤ 1) = false := decide_eq_false c3
  clear c3
  replace H := Option.bind_eq_some_iff.mp H
  obtain ⟨⟨t101, t102, t103⟩, A40, H⟩ := H
  replace H : (if a1 > 200 then ((spec_l1Cur_next.f s0_0 t102 t103).bind fun bt104 => (if a1 = 0 then (none) else (some (Int.tmod (wrap64 ((wrap64 (t101 * 256)) + bt104.1)) a1, bt104.2.1, bt104.2.2)))) else (if a1 = 0 then (none) else (some (Int.tmod t101 a1, t102, t103)))) = some (r1, r2, r3) := H
  have A4 := Aside0.mk A40
  clear A40
  by_cases c5 : a1 > 200
  ·rw [if_pos c5] at H
   have c5b0 : decide (200 < a1) = true := decide_eq_true c5
   clear c5
   replace H := Option.bind_eq_some_iff.mp H
   obtain ⟨⟨t104, t105, t106⟩, A60, H⟩ := H
   replace H : (if a1 = 0 then (none) else (some (Int.tmod (wrap64 ((wrap64 (t101 * 256)) + t104)) a1, t105, t106))) = some (r1, r2, r3) := H
   have A6 := Aside0.mk A60
   clear A60
   by_cases c7 : a1 = 0
   ·rw [if_pos c7] at H
    exact absurd H (by simp)
   ·rw [if_neg c7] at H
    have c7b0 : (a1 == 0) = false := beq_eq_false_iff_ne.mpr c7
    have c7b1 : (a1 != 0) = true := bne_iff_ne.mpr c7
    simp only [Option.some.injEq, Prod.mk.injEq] at H
    obtain ⟨rfl, rfl, rfl⟩ := H
    go_enter Try.func88, Try.ntmps88
    go_wp2_with (first | ((with_reducible refine gate_callee (f := 126) rfl ?_); refine goesL_ (some 9) rfl rfl Try.func126 (by kernel_rfl) rfl #[.pointer (some ⟨g, 0, none⟩)] rfl tc1_ ?_; (with_reducible refine (spec_l1Cur_next.calls g s0_0 s0_1 s0_2 t101 t102 t103 w0 _ ?side1 ?side2 A4.out).mono ?_); (case side1 => repeat (first | (with_reducible first | exact HI0.out | apply IsS49.alloc | apply IsS49.drewN | apply IsS49.drew | apply IsS49.set_1 | apply IsS49.set_2) | exact HI0.out)); (case side2 => repeat (first | (with_reducible first | exact HB.out | apply below_alloc | apply pw_below_drewN | apply below_drew1 | refine below_set ?_ (IsS49.ge HI0.out)) | exact HB.out)); rintro e w8 ⟨rfl, hi, hb, hk⟩; refine ⟨_, rfl, ?_⟩; have n0_ := Aside0.mk (KeepBut.trans tc3_ hk (.inl rfl)); have n1_ := Aside0.mk (hb); have n2_ := Aside0.mk (hi); clear HK; clear HB; clear HI0; have HK := n0_; have HB := n1_; have HI0 := n2_; clear n0_ n1_ n2_; (try clear hb); (try clear hb2); (try clear hk); (try clear hi)) | ((with_reducible refine gate_callee (f := 126) rfl ?_); refine goesL_ (some 15) rfl rfl Try.func126 (by kernel_rfl) rfl #[.pointer (some ⟨g, 0, none⟩)] rfl tc1_ ?_; (with_reducible refine (spec_l1Cur_next.calls g s0_0 t102 t103 t104 t105 t106 w0 _ ?side1 ?side2 A6.out).mono ?_); (case side1 => repeat (first | (with_reducible first | exact HI0.out | apply IsS49.alloc | apply IsS49.drewN | apply IsS49.drew | apply IsS49.set_1 | apply IsS49.set_2) | exact HI0.out)); (case side2 => repeat (first | (with_reducible first | exact HB.out | apply below_alloc | apply pw_below_drewN | apply below_drew1 | refine below_set ?_ (IsS49.ge HI0.out)) | exact HB.out)); rintro e w9 ⟨rfl, hi, hb, hk⟩; refine ⟨_, rfl, ?_⟩; have n0_ := Aside0.mk (KeepBut.trans tc3_ hk (.inl rfl)); have n1_ := Aside0.mk (hb); have n2_ := Aside0.mk (hi); clear HK; clear HB; clear HI0; have HK := n0_; have HB := n1_; have HI0 := n2_; clear n0_ n1_ n2_; (try clear hb); (try clear hb2); (try clear hk); (try clear hi)))
    go_ret
    exact ⟨by first | rfl | (simp [errW_none, errW_some] <;> rfl) | (simp [*, errW_none, errW_some] <;> rfl), by repeat (first | (with_reducible first | exact HI0.out | apply IsS49.alloc | apply IsS49.drewN | apply IsS49.drew | apply IsS49.set_1 | apply IsS49.set_2) | exact HI0.out), by repeat (first | (with_reducible first | exact HB.out | apply below_alloc | apply pw_below_drewN | apply below_drew1 | refine below_set ?_ (IsS49.ge HI0.out)) | exact HB.out), by repeat (first | (with_reducible first | exact HK.out | apply KeepBut.set_ | apply keep_drewN | apply keep_drew | apply keep_alloc) | exact HK.out)⟩
  ·rw [if_neg c5] at H
   have c5b0 : decide (200 < a1) = false := decide_eq_false c5
   clear c5
   by_cases c10 : a1 = 0
   ·rw [if_pos c10] at H
    exact absurd H (by simp)
   ·rw [if_neg c10] at H
    have c10b0 : (a1 == 0) = false := beq_eq_false_iff_ne.mpr c10
    have c10b1 : (a1 != 0) = true := bne_iff_ne.mpr c10
    simp only [Option.some.injEq, Prod.mk.injEq] at H
    obtain ⟨rfl, rfl, rfl⟩ := H
    go_enter Try.func88, Try.ntmps88
    go_wp2_with (first | ((with_reducible refine gate_callee (f := 126) rfl ?_); refine goesL_ (some 9) rfl rfl Try.func126 (by kernel_rfl) rfl #[.pointer (some ⟨g, 0, none⟩)] rfl tc1_ ?_; (with_reducible refine (spec_l1Cur_next.calls g s0_0 s0_1 s0_2 t101 t102 t103 w0 _ ?side1 ?side2 A4.out).mono ?_); (case side1 => repeat (first | (with_reducible first | exact HI0.out | apply IsS49.alloc | apply IsS49.drewN | apply IsS49.drew | apply IsS49.set_1 | apply IsS49.set_2) | exact HI0.out)); (case side2 => repeat (first | (with_reducible first | exact HB.out | apply below_alloc | apply pw_below_drewN | apply below_drew1 | refine below_set ?_ (IsS49.ge HI0.out)) | exact HB.out)); rintro e w11 ⟨rfl, hi, hb, hk⟩; refine ⟨_, rfl, ?_⟩; have n0_ := Aside0.mk (KeepBut.trans tc3_ hk (.inl rfl)); have n1_ := Aside0.mk (hb); have n2_ := Aside0.mk (hi); clear HK; clear HB; clear HI0; have HK := n0_; have HB := n1_; have HI0 := n2_; clear n0_ n1_ n2_; (try clear hb); (try clear hb2); (try clear hk); (try clear hi)))
    go_ret
    exact ⟨by first | rfl | (simp [errW_none, errW_some] <;> rfl) | (simp [*, errW_none, errW_some] <;> rfl), by repeat (first | (with_reducible first | exact HI0.out | apply IsS49.alloc | apply IsS49.drewN | apply IsS49.drew | apply IsS49.set_1 | apply IsS49.set_2) | exact HI0.out), by repeat (first | (with_reducible first | exact HB.out | apply below_alloc | apply pw_below_drewN | apply below_drew1 | refine below_set ?_ (IsS49.ge HI0.out)) | exact HB.out), by repeat (first | (with_reducible first | exact HK.out | apply KeepBut.set_ | apply keep_drewN | apply keep_drew | apply keep_alloc) | exact HK.out)⟩

/-! ### spec_l1Cur_one: function 87 -/
def spec_l1Cur_one.f (s0_0 : List Int) (s0_1 : Int) (s0_2 : Int) (a1 : Int) : Option (Bool × Int × Int) := (spec_l1Cur_pick.f s0_0 s0_1 s0_2 a1).bind fun bt101 => (some ((bt101.1 == 0), bt101.2.1, bt101.2.2))
set_option maxHeartbeats 8000000 in
set_option maxRecDepth 100000 in
theorem spec_l1Cur_one.calls (g : Nat) (s0_0 : List Int) (s0_1 : Int) (s0_2 : Int) (a1 : Int) (r1 : Bool) (r2 : Int) (r3 : Int) (w0 w : World) (hI : IsS49 w0 w g s0_0 s0_1 s0_2) (hB : Below w0.heap.size w0 w) (h : spec_l1Cur_one.f s0_0 s0_1 s0_2 a1 = some (r1, r2, r3)) :
  Calls Try.prog 87 #[.pointer (some ⟨g, 0, none⟩), .int .i64 a1] w fun e w' => e = .returned (.bool r1) ∧ IsS49 w0 w' g s0_0 r2 r3 ∧ Below w0.heap.size w0 w' ∧ KeepBut w w' g none := by
 have HI0 := Aside0.mk hI
 have HK := Aside0.mk (KeepBut.refl w g none)
 have HL := Aside0.mk hB.size
 clear hI
 have HW0 := Aside0.mk hB.size
 have HB := Aside0.mk hB
 clear hB
 have H : ((spec_l1Cur_pick.f s0_0 s0_1 s0_2 a1).bind fun bt101 => (some ((bt101.1 == 0), bt101.2.1, bt101.2.2))) = some (r1, r2, r3) := h
 clear h
 replace H := Option.bind_eq_some_iff.mp H
 obtain ⟨⟨t101, t102, t103⟩, A30, H⟩ := H
 replace H : (some ((t101 == 0), t102, t103)) = some (r1, r2, r3) := H
 have A3 := Aside0.mk A30
 clear A30
 simp only [Option.some.injEq, Prod.mk.injEq] at H
 obtain ⟨rfl, rfl, rfl⟩ := H
 go_enter Try.func87, Try.ntmps87
 go_wp2_with (first | ((with_reducible refine gate_callee (f := 88) rfl ?_); refine goesL_ (some 7) rfl rfl Try.func88 (by kernel_rfl) rfl #[.pointer (some ⟨g, 0, none⟩), .int .i64 a1] rfl tc1_ ?_; (with_reducible refine (spec_l1Cur_pick.calls g s0_0 s0_1 s0_2 a1 t101 t102 t103 w0 _ ?side1 ?side2 A3.out).mono ?_); (case side1 => repeat (first | (with_reducible first | exact HI0.out | apply IsS49.alloc | apply IsS49.drewN | apply IsS49.drew | apply IsS49.set_1 | apply IsS49.set_2) | exact HI0.out)); (case side2 => repeat (first | (with_reducible first | exact HB.out | apply below_alloc | apply pw_below_drewN | apply below_drew1 | refine below_set ?_ (IsS49.ge HI0.out)) | exact HB.out)); rintro e w4 ⟨rfl, hi, hb, hk⟩; refine ⟨_, rfl, ?_⟩; have n0_ := Aside0.mk (KeepBut.trans tc3_ hk (.inl rfl)); have n1_ := Aside0.mk (hb); have n2_ := Aside0.mk (hi); clear HK; clear HB; clear HI0; have HK := n0_; have HB := n1_; have HI0 := n2_; clear n0_ n1_ n2_; (try clear hb); (try clear hb2); (try clear hk); (try clear hi)))
 go_ret
 exact ⟨by first | rfl | (simp [errW_none, errW_some] <;> rfl) | (simp [*, errW_none, errW_some] <;> rfl), by repeat (first | (with_reducible first | exact HI0.out | apply IsS49.alloc | apply IsS49.drewN | apply IsS49.drew | apply IsS49.set_1 | apply IsS49.set_2) | exact HI0.out), by repeat (first | (with_reducible first | exact HB.out | apply below_alloc | apply pw_below_drewN | apply below_drew1 | refine below_set ?_ (IsS49.ge HI0.out)) | exact HB.out), by repeat (first | (with_reducible first | exact HK.out | apply KeepBut.set_ | apply keep_drewN | apply keep_drew | apply keep_alloc) | exact HK.out)⟩

/-! ### spec_l1Cur_among: function 105 -/
def spec_l1Cur_among.f (s0_0 : List Int) (s0_1 : Int) (s0_2 : Int) (l1 : List Int) : Option (Int × Int × Int) := (spec_l1Cur_pick.f s0_0 s0_1 s0_2 (l1.length : Int)).bind fun bt101 => (if 0 ≤ bt101.1 then (if bt101.1 < (l1.length : Int) then (some (rd l1 bt101.1, bt101.2.1, bt101.2.2)) else (none)) else (none))
set_option maxHeartbeats 8000000 in
set_option maxRecDepth 100000 in
theorem spec_l1Cur_among.calls (g : Nat) (s0_0 : List Int) (s0_1 : Int) (s0_2 : Int) (A1 : Option Addr) (c1 : Nat) (l1 : List Int) (r1 : Int) (r2 : Int) (r3 : Int) (w0 w : World) (hI : IsS49 w0 w g s0_0 s0_1 s0_2) (hB : Below w0.heap.size w0 w) (hr1 : Kd.C (Kd.int .i64) w A1 l1.length l1) (hc1 : l1.length ≤ c1) (hf1 : ∀ ad, A1 = some ad → 0 < l1.length → ad.block ≠ g) (h : spec_l1Cur_among.f s0_0 s0_1 s0_2 l1 = some (r1, r2, r3)) :
  Calls Try.prog 105 #[.pointer (some ⟨g, 0, none⟩), .slice A1 l1.length c1] w fun e w' => e = .returned (.int .i64 r1) ∧ IsS49 w0 w' g s0_0 r2 r3 ∧ Below w0.heap.size w0 w' ∧ KeepBut w w' g none := by
 have HR1 := Aside0.mk hr1
 have HC1 := Aside0.mk hc1
 clear hr1 hc1
 have HI0 := Aside0.mk hI
 have HK := Aside0.mk (KeepBut.refl w g none)
 have HL := Aside0.mk hB.size
 clear hI
 have HW0 := Aside0.mk hB.size
 have HB := Aside0.mk hB
 clear hB
 have H : ((spec_l1Cur_pick.f s0_0 s0_1 s0_2 (l1.length : Int)).bind fun bt101 => (if 0 ≤ bt101.1 then (if bt101.1 < (l1.length : Int) then (some (rd l1 bt101.1, bt101.2.1, bt101.2.2)) else (none)) else (none))) = some (r1, r2, r3) := h
 clear h
 replace H := Option.bind_eq_some_iff.mp H
 obtain ⟨⟨t101, t102, t103⟩, A30, H⟩ := H
 replace H : (if 0 ≤ t101 then (if t101 < (l1.length : Int) then (some (rd l1 t101, t102, t103)) else (none)) else (none)) = some (r1, r2, r3) := H
 have A3 := Aside0.mk A30
 clear A30
 by_cases c4 : 0 ≤ t101
 ·rw [if_pos c4] at H
  have c4b0 : decide (0 ≤ t101) = true := decide_eq_true c4
  clear c4
  by_cases c5 : t101 < (l1.length : Int)
  ·rw [if_pos c5] at H
   have c5b0 : decide (t101 < (l1.length : Int)) = true := decide_eq_true c5
   clear c5
   simp only [Option.some.injEq, Prod.mk.injEq] at H
   obtain ⟨rfl, rfl, rfl⟩ := H
   go_enter Try.func105, Try.ntmps105
   go_wp2_with (first | ((with_reducible refine gate_callee (f := 88) rfl ?_); refine goesL_ (some 9) rfl rfl Try.func88 (by kernel_rfl) rfl #[.pointer (some ⟨g, 0, none⟩), .int .i64 (l1.length : Int)] rfl tc1_ ?_; (with_reducible refine (spec_l1Cur_pick.calls g s0_0 s0_1 s0_2 (l1.length : Int) t101 t102 t103 w0 _ ?side1 ?side2 A3.out).mono ?_); (case side1 => repeat (first | (with_reducible first | exact HI0.out | apply IsS49.alloc | apply IsS49.drewN | apply IsS49.drew | apply IsS49.set_1 | apply IsS49.set_2) | exact HI0.out)); (case side2 => repeat (first | (with_reducible first | exact HB.out | apply below_alloc | apply pw_below_drewN | apply below_drew1 | refine below_set ?_ (IsS49.ge HI0.out)) | exact HB.out)); rintro e w6 ⟨rfl, hi, hb, hk⟩; refine ⟨_, rfl, ?_⟩; have n0_ := Aside0.mk (KeepBut.trans tc3_ hk (.inl rfl)); have n1_ := Aside0.mk (hb); have n2_ := Aside0.mk (hi); clear HK; clear HB; clear HI0; have HK := n0_; have HB := n1_; have HI0 := n2_; clear n0_ n1_ n2_; (try clear hb); (try clear hb2); (try clear hk); (try clear hi); have p104 : 0 ≤ (t101 : Int) := of_decide_eq_true tc2_; have q104 : t101 < (l1.length : Int) := of_decide_eq_true tc2_; obtain ⟨ad104, e104, hx104_0⟩ := Kd.at_int HR1.out t101 p104 q104; cases e104; replace hx104_0 := keep_cell HK.out hx104_0 (by first | (rw [add_block]; exact hf1 _ rfl (by omega)) | exact hf1 _ rfl (by omega) | exact hf1 ad104 rfl (by omega)); replace p104 := eq_true p104; replace q104 := eq_true q104))
   go_ret
   exact ⟨by first | rfl | (simp [errW_none, errW_some] <;> rfl) | (simp [*, errW_none, errW_some] <;> rfl), by repeat (first | (with_reducible first | exact HI0.out | apply IsS49.alloc | apply IsS49.drewN | apply IsS49.drew | apply IsS49.set_1 | apply IsS49.set_2) | exact HI0.out), by repeat (first | (with_reducible first | exact HB.out | apply below_alloc | apply pw_below_drewN | apply below_drew1 | refine below_set ?_ (IsS49.ge HI0.out)) | exact HB.out), by repeat (first | (with_reducible first | exact HK.out | apply KeepBut.set_ | apply keep_drewN | apply keep_drew | apply keep_alloc) | exact HK.out)⟩
  ·rw [if_neg c5] at H
   exact absurd H (by simp)
 ·rw [if_neg c4] at H
  exact absurd H (by simp)

/-! ### spec_l1Cur_side: function 50 -/
def spec_l1Cur_side.f (s0_0 : List Int) (s0_1 : Int) (s0_2 : Int) (a1 : Int) : Option (Int × Int × Int) := (spec_l1Cur_one.f s0_0 s0_1 s0_2 8).bind fun bt101 => (if bt101.1 = true then ((spec_l1Cur_among.f s0_0 bt101.2.1 bt101.2.2 (([(-1), 0, 1, a1, wrap64 (a1 + 1)] : List Int))).bind fun bt107 => (some (bt107.1, bt107.2.1, bt107.2.2))) else ((spec_l1Cur_pick.f s0_0 bt101.2.1 bt101.2.2 a1).bind fun bt110 => (some (wrap64 (1 + bt110.1), bt110.2.1, bt110.2.2))))
set_option maxHeartbeats 8000000 in
set_option maxRecDepth 100000 in
theorem spec_l1Cur_side.calls (g : Nat) (s0_0 : List Int) (s0_1 : Int) (s0_2 : Int) (a1 : Int) (r1 : Int) (r2 : Int) (r3 : Int) (w0 w : World) (hI : IsS49 w0 w g s0_0 s0_1 s0_2) (hB : Below w0.heap.size w0 w) (h : spec_l1Cur_side.f s0_0 s0_1 s0_2 a1 = some (r1, r2, r3)) :
  Calls Try.prog 50 #[.pointer (some ⟨g, 0, none⟩), .int .i64 a1] w fun e w' => e = .returned (.int .i64 r1) ∧ IsS49 w0 w' g s0_0 r2 r3 ∧ Below w0.heap.size w0 w' ∧ KeepBut w w' g none := by
 have HI0 := Aside0.mk hI
 have HK := Aside0.mk (KeepBut.refl w g none)
 have HL := Aside0.mk hB.size
 clear hI
 have HW0 := Aside0.mk hB.size
 have HB := Aside0.mk hB
 clear hB
 have H : ((spec_l1Cur_one.f s0_0 s0_1 s0_2 8).bind fun bt101 => (if bt101.1 = true then ((spec_l1Cur_among.f s0_0 bt101.2.1 bt101.2.2 (([(-1), 0, 1, a1, wrap64 (a1 + 1)] : List Int))).bind fun bt107 => (some (bt107.1, bt107.2.1, bt107.2.2))) else ((spec_l1Cur_pick.f s0_0 bt101.2.1 bt101.2.2 a1).bind fun bt110 => (some (wrap64 (1 + bt110.1), bt110.2.1, bt110.2.2))))) = some (r1, r2, r3) := h
 clear h
 replace H := Option.bind_eq_some_iff.mp H
 obtain ⟨⟨t101, t102, t103⟩, A30, H⟩ := H
 replace H : (if t101 = true then ((spec_l1Cur_among.f s0_0 t102 t103 (([(-1), 0, 1, a1, wrap64 (a1 + 1)] : List Int))).bind fun bt107 => (some (bt107.1, bt107.2.1, bt107.2.2))) else ((spec_l1Cur_pick.f s0_0 t102 t103 a1).bind fun bt110 => (some (wrap64 (1 + bt110.1), bt110.2.1, bt110.2.2)))) = some (r1, r2, r3) := H
 have A3 := Aside0.mk A30
 clear A30
 by_cases c4 : t101 = true
 ·subst c4
  have H1 : ((spec_l1Cur_among.f s0_0 t102 t103 (([(-1), 0, 1, a1, wrap64 (a1 + 1)] : List Int))).bind fun bt107 => (some (bt107.1, bt107.2.1, bt107.2.2))) = some (r1, r2, r3) := by rw [if_pos rfl] at H; exact H
  clear H
  have H := H1
  clear H1
  obtain ⟨y104, hy104⟩ : ∃ y_ : List Int, y_ = (([(-1), 0, 1, a1, wrap64 (a1 + 1)] : List Int)) := ⟨_, rfl⟩
  replace H : ((spec_l1Cur_among.f s0_0 t102 t103 y104).bind fun bt107 => (some (bt107.1, bt107.2.1, bt107.2.2))) = some (r1, r2, r3) := by first | (rw [hy104]; with_reducible exact H) | (have H2_ := (Option.bind_some _ _).symm.trans H; rw [hy104]; with_reducible exact H2_) | (have H2_ := (Option.bind_some _ _).symm.trans H; with_reducible exact H2_) | with_reducible exact H | (rw [hy104]; exact H) | exact H
  have Ny104 := Aside0.mk hy104
  clear hy104
  replace H := Option.bind_eq_some_iff.mp H
  obtain ⟨⟨t107, t108, t109⟩, A50, H⟩ := H
  replace H : (some (t107, t108, t109)) = some (r1, r2, r3) := H
  have A5 := Aside0.mk A50
  clear A50
  simp only [Option.some.injEq, Prod.mk.injEq] at H
  obtain ⟨rfl, rfl, rfl⟩ := H
  go_enter Try.func50, Try.ntmps50
  go_wp2_with (first | ((with_reducible refine gate_callee (f := 87) rfl ?_); refine goesL_ (some 6) rfl rfl Try.func87 (by kernel_rfl) rfl #[.pointer (some ⟨g, 0, none⟩), .int .i64 8] rfl tc1_ ?_; (with_reducible refine (spec_l1Cur_one.calls g s0_0 s0_1 s0_2 8 true t102 t103 w0 _ ?side1 ?side2 A3.out).mono ?_); (case side1 => repeat (first | (with_reducible first | exact HI0.out | apply IsS49.alloc | apply IsS49.drewN | apply IsS49.drew | apply IsS49.set_1 | apply IsS49.set_2) | exact HI0.out)); (case side2 => repeat (first | (with_reducible first | exact HB.out | apply below_alloc | apply pw_below_drewN | apply below_drew1 | refine below_set ?_ (IsS49.ge HI0.out)) | exact HB.out)); rintro e w6 ⟨rfl, hi, hb, hk⟩; refine ⟨_, rfl, ?_⟩; have n0_ := Aside0.mk (KeepBut.trans tc3_ hk (.inl rfl)); have n1_ := Aside0.mk (hb); have n2_ := Aside0.mk (hi); clear HK; clear HB; clear HI0; have HK := n0_; have HB := n1_; have HI0 := n2_; clear n0_ n1_ n2_; (try clear hb); (try clear hb2); (try clear hk); (try clear hi)) | ((with_reducible refine gate_dst (N := 11) rfl ?_); refine Kd.R_lit (Kd.int .i64) _ 3 ?hg (N := 11) ?hd (xs := ([(-1), 0, 1, a1, wrap64 (a1 + 1)] : List Int)) (inner := [.int .i64 (-1), .int .i64 0, .int .i64 1, .int .i64 a1, .int .i64 (wrap64 (a1 + 1))]) (ok := fun _ => True) (okp := fun _ => True) ?hr ?hp (fun _ hk => hk) trivial (Below.refl _ _) (Nat.le_refl _) (by simp) ?_; (case hd => rfl); (case hg => rfl); (case hr => first | (go_simp; done) | (go_simp; rfl)); (case hp => exact (Reps.one (show Kd.M (Kd.int .i64) _ _ _ (-1) [.int .i64 (-1)] from rfl) (Reps.one (show Kd.M (Kd.int .i64) _ _ _ 0 [.int .i64 0] from rfl) (Reps.one (show Kd.M (Kd.int .i64) _ _ _ 1 [.int .i64 1] from rfl) (Reps.one (show Kd.M (Kd.int .i64) _ _ _ a1 [.int .i64 a1] from rfl) (Reps.one (show Kd.M (Kd.int .i64) _ _ _ (wrap64 (a1 + 1)) [.int .i64 (wrap64 (a1 + 1))] from rfl) (Reps.none _ _))))))); intro v105 w7 ho8 hb hg_ hnew_; clear hg_ hnew_; (first | rw [← Ny104.out] at ho8 | (simp only [Int.reduceToNat] at ho8; rw [← Ny104.out] at ho8)); have n0_ := Aside0.mk (Kd.R_lower ho8 (keep_size (w := w) (g := g) (row := none) tc3_)); have n1_ := Aside0.mk (IsS49.below tc7_ hb); have n2_ := Aside0.mk (KeepBut.trans tc3_ (KeepBut.of_below hb g none) (.inl rfl)); have n3_ := Aside0.mk (below_step tc10_ hb); clear HI0; clear HK; clear HB; have HO106 := n0_; have HI0 := n1_; have HK := n2_; have HB := n3_; clear n0_ n1_ n2_ n3_; clear hb ho8; obtain ⟨Ao9, co9, eo9⟩ := Kd.R_slice HO106.out; subst eo9) | ((with_reducible refine gate_callee (f := 105) rfl ?_); refine goesL_ (some 12) rfl rfl Try.func105 (by kernel_rfl) rfl #[.pointer (some ⟨g, 0, none⟩), .slice Ao9 y104.length co9] rfl tc1_ ?_; (with_reducible refine (spec_l1Cur_among.calls g s0_0 t102 t103 _ _ y104 t107 t108 t109 w0 _ ?side1 ?side2 ?side3 ?side4 ?side5 A5.out).mono ?_); (case side1 => repeat (first | (with_reducible first | exact HI0.out | apply IsS49.alloc | apply IsS49.drewN | apply IsS49.drew | apply IsS49.set_1 | apply IsS49.set_2) | exact HI0.out)); (case side2 => repeat (first | (with_reducible first | exact HB.out | apply below_alloc | apply pw_below_drewN | apply below_drew1 | refine below_set ?_ (IsS49.ge HI0.out)) | exact HB.out)); (case side3 => repeat (first | exact (Kd.R_reads' HO106.out).2.2 | (with_reducible refine Kd.C_alloc ?_ _) | (with_reducible refine Kd.C_drewN ?_ _) | (with_reducible refine Kd.C_drew ?_))); (case side4 => exact (Kd.R_reads' HO106.out).2.1); (case side5 => exact far_slice (IsS49.own_ne HI0.out HO106.out (by decide))); rintro e w10 ⟨rfl, hi, hb, hk⟩; refine ⟨_, rfl, ?_⟩; have n0_ := Aside0.mk (Kd.R_mono (Kd.R_keep (IsS49.apart (show IsS49 w0 _ g s0_0 t102 t103 from by repeat (first | (with_reducible first | exact HI0.out | apply IsS49.alloc | apply IsS49.drewN | apply IsS49.drew | apply IsS49.set_1 | apply IsS49.set_2) | exact HI0.out)) (by (with_reducible repeat (first | apply Kd.R_alloc | apply Kd.R_drewN | apply Kd.R_drew)); exact HO106.out) (by decide)) hk (fun _ h => h.2)) (fun _ h => h.1)); have n1_ := Aside0.mk (KeepBut.trans tc3_ hk (.inl rfl)); have n2_ := Aside0.mk (hb); have n3_ := Aside0.mk (hi); clear HO106; clear HK; clear HB; clear HI0; have HO106 := n0_; have HK := n1_; have HB := n2_; have HI0 := n3_; clear n0_ n1_ n2_ n3_; (try clear hb); (try clear hb2); (try clear hk); (try clear hi)))
  go_ret
  exact ⟨by first | rfl | (simp [errW_none, errW_some] <;> rfl) | (simp [*, errW_none, errW_some] <;> rfl), by repeat (first | (with_reducible first | exact HI0.out | apply IsS49.alloc | apply IsS49.drewN | apply IsS49.drew | apply IsS49.set_1 | apply IsS49.set_2) | exact HI0.out), by repeat (first | (with_reducible first | exact HB.out | apply below_alloc | apply pw_below_drewN | apply below_drew1 | refine below_set ?_ (IsS49.ge HI0.out)) | exact HB.out), by repeat (first | (with_reducible first | exact HK.out | apply KeepBut.set_ | apply keep_drewN | apply keep_drew | apply keep_alloc) | exact HK.out)⟩
 ·replace c4 := Bool.eq_false_iff.mpr c4
  subst c4
  have H1 : ((spec_l1Cur_pick.f s0_0 t102 t103 a1).bind fun bt110 => (some (wrap64 (1 + bt110.1), bt110.2.1, bt110.2.2))) = some (r1, r2, r3) := by rw [if_neg (show ¬ (false = true) by decide)] at H; exact H
  clear H
  have H := H1
  clear H1
  replace H := Option.bind_eq_some_iff.mp H
  obtain ⟨⟨t110, t111, t112⟩, A110, H⟩ := H
  replace H : (some (wrap64 (1 + t110), t111, t112)) = some (r1, r2, r3) := H
  have A11 := Aside0.mk A110
  clear A110
  simp only [Option.some.injEq, Prod.mk.injEq] at H
  obtain ⟨rfl, rfl, rfl⟩ := H
  go_enter Try.func50, Try.ntmps50
  go_wp2_with (first | ((with_reducible refine gate_callee (f := 87) rfl ?_); refine goesL_ (some 6) rfl rfl Try.func87 (by kernel_rfl) rfl #[.pointer (some ⟨g, 0, none⟩), .int .i64 8] rfl tc1_ ?_; (with_reducible refine (spec_l1Cur_one.calls g s0_0 s0_1 s0_2 8 false t102 t103 w0 _ ?side1 ?side2 A3.out).mono ?_); (case side1 => repeat (first | (with_reducible first | exact HI0.out | apply IsS49.alloc | apply IsS49.drewN | apply IsS49.drew | apply IsS49.set_1 | apply IsS49.set_2) | exact HI0.out)); (case side2 => repeat (first | (with_reducible first | exact HB.out | apply below_alloc | apply pw_below_drewN | apply below_drew1 | refine below_set ?_ (IsS49.ge HI0.out)) | exact HB.out)); rintro e w12 ⟨rfl, hi, hb, hk⟩; refine ⟨_, rfl, ?_⟩; have n0_ := Aside0.mk (KeepBut.trans tc3_ hk (.inl rfl)); have n1_ := Aside0.mk (hb); have n2_ := Aside0.mk (hi); clear HK; clear HB; clear HI0; have HK := n0_; have HB := n1_; have HI0 := n2_; clear n0_ n1_ n2_; (try clear hb); (try clear hb2); (try clear hk); (try clear hi)) | ((with_reducible refine gate_callee (f := 88) rfl ?_); refine goesL_ (some 15) rfl rfl Try.func88 (by kernel_rfl) rfl #[.pointer (some ⟨g, 0, none⟩), .int .i64 a1] rfl tc1_ ?_; (with_reducible refine (spec_l1Cur_pick.calls g s0_0 t102 t103 a1 t110 t111 t112 w0 _ ?side1 ?side2 A11.out).mono ?_); (case side1 => repeat (first | (with_reducible first | exact HI0.out | apply IsS49.alloc | apply IsS49.drewN | apply IsS49.drew | apply IsS49.set_1 | apply IsS49.set_2) | exact HI0.out)); (case side2 => repeat (first | (with_reducible first | exact HB.out | apply below_alloc | apply pw_below_drewN | apply below_drew1 | refine below_set ?_ (IsS49.ge HI0.out)) | exact HB.out)); rintro e w13 ⟨rfl, hi, hb, hk⟩; refine ⟨_, rfl, ?_⟩; have n0_ := Aside0.mk (KeepBut.trans tc3_ hk (.inl rfl)); have n1_ := Aside0.mk (hb); have n2_ := Aside0.mk (hi); clear HK; clear HB; clear HI0; have HK := n0_; have HB := n1_; have HI0 := n2_; clear n0_ n1_ n2_; (try clear hb); (try clear hb2); (try clear hk); (try clear hi)))
  go_ret
  exact ⟨by first | rfl | (simp [errW_none, errW_some] <;> rfl) | (simp [*, errW_none, errW_some] <;> rfl), by repeat (first | (with_reducible first | exact HI0.out | apply IsS49.alloc | apply IsS49.drewN | apply IsS49.drew | apply IsS49.set_1 | apply IsS49.set_2) | exact HI0.out), by repeat (first | (with_reducible first | exact HB.out | apply below_alloc | apply pw_below_drewN | apply below_drew1 | refine below_set ?_ (IsS49.ge HI0.out)) | exact HB.out), by repeat (first | (with_reducible first | exact HK.out | apply KeepBut.set_ | apply keep_drewN | apply keep_drew | apply keep_alloc) | exact HK.out)⟩

/-! ### spec_l1Cur_weight: function 51 -/
def spec_l1Cur_weight.f (s0_0 : List Int) (s0_1 : Int) (s0_2 : Int) (a1 : Int) : Option (Int × Int × Int) := (spec_l1Cur_one.f s0_0 s0_1 s0_2 14).bind fun bt101 => (if bt101.1 = true then ((spec_l1Cur_among.f s0_0 bt101.2.1 bt101.2.2 (([(-1), wrap64 (a1 + 1), 4611686018427387904] : List Int))).bind fun bt107 => (some (bt107.1, bt107.2.1, bt107.2.2))) else ((spec_l1Cur_pick.f s0_0 bt101.2.1 bt101.2.2 (wrap64 (a1 + 1))).bind fun bt110 => (some (bt110.1, bt110.2.1, bt110.2.2))))
set_option maxHeartbeats 8000000 in
set_option maxRecDepth 100000 in
theorem spec_l1Cur_weight.calls (g : Nat) (s0_0 : List Int) (s0_1 : Int) (s0_2 : Int) (a1 : Int) (r1 : Int) (r2 : Int) (r3 : Int) (w0 w : World) (hI : IsS49 w0 w g s0_0 s0_1 s0_2) (hB : Below w0.heap.size w0 w) (h : spec_l1Cur_weight.f s0_0 s0_1 s0_2 a1 = some (r1, r2, r3)) :
  Calls Try.prog 51 #[.pointer (some ⟨g, 0, none⟩), .int .i64 a1] w fun e w' => e = .returned (.int .i64 r1) ∧ IsS49 w0 w' g s0_0 r2 r3 ∧ Below w0.heap.size w0 w' ∧ KeepBut w w' g none := by
 have HI0 := Aside0.mk hI
 have HK := Aside0.mk (KeepBut.refl w g none)
 have HL := Aside0.mk hB.size
 clear hI
 have HW0 := Aside0.mk hB.size
 have HB := Aside0.mk hB
 clear hB
 have H : ((spec_l1Cur_one.f s0_0 s0_1 s0_2 14).bind fun bt101 => (if bt101.1 = true then ((spec_l1Cur_among.f s0_0 bt101.2.1 bt101.2.2 (([(-1), wrap64 (a1 + 1), 4611686018427387904] : List Int))).bind fun bt107 => (some (bt107.1, bt107.2.1, bt107.2.2))) else ((spec_l1Cur_pick.f s0_0 bt101.2.1 bt101.2.2 (wrap64 (a1 + 1))).bind fun bt110 => (some (bt110.1, bt110.2.1, bt110.2.2))))) = some (r1, r2, r3) := h
 clear h
 replace H := Option.bind_eq_some_iff.mp H
 obtain ⟨⟨t101, t102, t103⟩, A30, H⟩ := H
 replace H : (if t101 = true then ((spec_l1Cur_among.f s0_0 t102 t103 (([(-1), wrap64 (a1 + 1), 4611686018427387904] : List Int))).bind fun bt107 => (some (bt107.1, bt107.2.1, bt107.2.2))) else ((spec_l1Cur_pick.f s0_0 t102 t103 (wrap64 (a1 + 1))).bind fun bt110 => (some (bt110.1, bt110.2.1, bt110.2.2)))) = some (r1, r2, r3) := H
 have A3 := Aside0.mk A30
 clear A30
 by_cases c4 : t101 = true
 ·subst c4
  have H1 : ((spec_l1Cur_among.f s0_0 t102 t103 (([(-1), wrap64 (a1 + 1), 4611686018427387904] : List Int))).bind fun bt107 => (some (bt107.1, bt107.2.1, bt107.2.2))) = some (r1, r2, r3) := by rw [if_pos rfl] at H; exact H
  clear H
  have H := H1
  clear H1
  obtain ⟨y104, hy104⟩ : ∃ y_ : List Int, y_ = (([(-1), wrap64 (a1 + 1), 4611686018427387904] : List Int)) := ⟨_, rfl⟩
  replace H : ((spec_l1Cur_among.f s0_0 t102 t103 y104).bind fun bt107 => (some (bt107.1, bt107.2.1, bt107.2.2))) = some (r1, r2, r3) := by first | (rw [hy104]; with_reducible exact H) | (have H2_ := (Option.bind_some _ _).symm.trans H; rw [hy104]; with_reducible exact H2_) | (have H2_ := (Option.bind_some _ _).symm.trans H; with_reducible exact H2_) | with_reducible exact H | (rw [hy104]; exact H) | exact H
  have Ny104 := Aside0.mk hy104
  clear hy104
  replace H := Option.bind_eq_some_iff.mp H
  obtain ⟨⟨t107, t108, t109⟩, A50, H⟩ := H
  replace H : (some (t107, t108, t109)) = some (r1, r2, r3) := H
  have A5 := Aside0.mk A50
  clear A50
  simp only [Option.some.injEq, Prod.mk.injEq] at H
  obtain ⟨rfl, rfl, rfl⟩ := H
  go_enter Try.func51, Try.ntmps51
  go_wp2_with (first | ((with_reducible refine gate_callee (f := 87) rfl ?_); refine goesL_ (some 6) rfl rfl Try.func87 (by kernel_rfl) rfl #[.pointer (some ⟨g, 0, none⟩), .int .i64 14] rfl tc1_ ?_; (with_reducible refine (spec_l1Cur_one.calls g s0_0 s0_1 s0_2 14 true t102 t103 w0 _ ?side1 ?side2 A3.out).mono ?_); (case side1 => repeat (first | (with_reducible first | exact HI0.out | apply IsS49.alloc | apply IsS49.drewN | apply IsS49.drew | apply IsS49.set_1 | apply IsS49.set_2) | exact HI0.out)); (case side2 => repeat (first | (with_reducible first | exact HB.out | apply below_alloc | apply pw_below_drewN | apply below_drew1 | refine below_set ?_ (IsS49.ge HI0.out)) | exact HB.out)); rintro e w6 ⟨rfl, hi, hb, hk⟩; refine ⟨_, rfl, ?_⟩; have n0_ := Aside0.mk (KeepBut.trans tc3_ hk (.inl rfl)); have n1_ := Aside0.mk (hb); have n2_ := Aside0.mk (hi); clear HK; clear HB; clear HI0; have HK := n0_; have HB := n1_; have HI0 := n2_; clear n0_ n1_ n2_; (try clear hb); (try clear hb2); (try clear hk); (try clear hi)) | ((with_reducible refine gate_dst (N := 10) rfl ?_); refine Kd.R_lit (Kd.int .i64) _ 3 ?hg (N := 10) ?hd (xs := ([(-1), wrap64 (a1 + 1), 4611686018427387904] : List Int)) (inner := [.int .i64 (-1), .int .i64 (wrap64 (a1 + 1)), .int .i64 4611686018427387904]) (ok := fun _ => True) (okp := fun _ => True) ?hr ?hp (fun _ hk => hk) trivial (Below.refl _ _) (Nat.le_refl _) (by simp) ?_; (case hd => rfl); (case hg => rfl); (case hr => first | (go_simp; done) | (go_simp; rfl)); (case hp => exact (Reps.one (show Kd.M (Kd.int .i64) _ _ _ (-1) [.int .i64 (-1)] from rfl) (Reps.one (show Kd.M (Kd.int .i64) _ _ _ (wrap64 (a1 + 1)) [.int .i64 (wrap64 (a1 + 1))] from rfl) (Reps.one (show Kd.M (Kd.int .i64) _ _ _ 4611686018427387904 [.int .i64 4611686018427387904] from rfl) (Reps.none _ _))))); intro v105 w7 ho8 hb hg_ hnew_; clear hg_ hnew_; (first | rw [← Ny104.out] at ho8 | (simp only [Int.reduceToNat] at ho8; rw [← Ny104.out] at ho8)); have n0_ := Aside0.mk (Kd.R_lower ho8 (keep_size (w := w) (g := g) (row := none) tc3_)); have n1_ := Aside0.mk (IsS49.below tc7_ hb); have n2_ := Aside0.mk (KeepBut.trans tc3_ (KeepBut.of_below hb g none) (.inl rfl)); have n3_ := Aside0.mk (below_step tc10_ hb); clear HI0; clear HK; clear HB; have HO106 := n0_; have HI0 := n1_; have HK := n2_; have HB := n3_; clear n0_ n1_ n2_ n3_; clear hb ho8; obtain ⟨Ao9, co9, eo9⟩ := Kd.R_slice HO106.out; subst eo9) | ((with_reducible refine gate_callee (f := 105) rfl ?_); refine goesL_ (some 11) rfl rfl Try.func105 (by kernel_rfl) rfl #[.pointer (some ⟨g, 0, none⟩), .slice Ao9 y104.length co9] rfl tc1_ ?_; (with_reducible refine (spec_l1Cur_among.calls g s0_0 t102 t103 _ _ y104 t107 t108 t109 w0 _ ?side1 ?side2 ?side3 ?side4 ?side5 A5.out).mono ?_); (case side1 => repeat (first | (with_reducible first | exact HI0.out | apply IsS49.alloc | apply IsS49.drewN | apply IsS49.drew | apply IsS49.set_1 | apply IsS49.set_2) | exact HI0.out)); (case side2 => repeat (first | (with_reducible first | exact HB.out | apply below_alloc | apply pw_below_drewN | apply below_drew1 | refine below_set ?_ (IsS49.ge HI0.out)) | exact HB.out)); (case side3 => repeat (first | exact (Kd.R_reads' HO106.out).2.2 | (with_reducible refine Kd.C_alloc ?_ _) | (with_reducible refine Kd.C_drewN ?_ _) | (with_reducible refine Kd.C_drew ?_))); (case side4 => exact (Kd.R_reads' HO106.out).2.1); (case side5 => exact far_slice (IsS49.own_ne HI0.out HO106.out (by decide))); rintro e w10 ⟨rfl, hi, hb, hk⟩; refine ⟨_, rfl, ?_⟩; have n0_ := Aside0.mk (Kd.R_mono (Kd.R_keep (IsS49.apart (show IsS49 w0 _ g s0_0 t102 t103 from by repeat (first | (with_reducible first | exact HI0.out | apply IsS49.alloc | apply IsS49.drewN | apply IsS49.drew | apply IsS49.set_1 | apply IsS49.set_2) | exact HI0.out)) (by (with_reducible repeat (first | apply Kd.R_alloc | apply Kd.R_drewN | apply Kd.R_drew)); exact HO106.out) (by decide)) hk (fun _ h => h.2)) (fun _ h => h.1)); have n1_ := Aside0.mk (KeepBut.trans tc3_ hk (.inl rfl)); have n2_ := Aside0.mk (hb); have n3_ := Aside0.mk (hi); clear HO106; clear HK; clear HB; clear HI0; have HO106 := n0_; have HK := n1_; have HB := n2_; have HI0 := n3_; clear n0_ n1_ n2_ n3_; (try clear hb); (try clear hb2); (try clear hk); (try clear hi)))
  go_ret
  exact ⟨by first | rfl | (simp [errW_none, errW_some] <;> rfl) | (simp [*, errW_none, errW_some] <;> rfl), by repeat (first | (with_reducible first | exact HI0.out | apply IsS49.alloc | apply IsS49.drewN | apply IsS49.drew | apply IsS49.set_1 | apply IsS49.set_2) | exact HI0.out), by repeat (first | (with_reducible first | exact HB.out | apply below_alloc | apply pw_below_drewN | apply below_drew1 | refine below_set ?_ (IsS49.ge HI0.out)) | exact HB.out), by repeat (first | (with_reducible first | exact HK.out | apply KeepBut.set_ | apply keep_drewN | apply keep_drew | apply keep_alloc) | exact HK.out)⟩
 ·replace c4 := Bool.eq_false_iff.mpr c4
  subst c4
  have H1 : ((spec_l1Cur_pick.f s0_0 t102 t103 (wrap64 (a1 + 1))).bind fun bt110 => (some (bt110.1, bt110.2.1, bt110.2.2))) = some (r1, r2, r3) := by rw [if_neg (show ¬ (false = true) by decide)] at H; exact H
  clear H
  have H := H1
  clear H1
  replace H := Option.bind_eq_some_iff.mp H
  obtain ⟨⟨t110, t111, t112⟩, A110, H⟩ := H
  replace H : (some (t110, t111, t112)) = some (r1, r2, r3) := H
  have A11 := Aside0.mk A110
  clear A110
  simp only [Option.some.injEq, Prod.mk.injEq] at H
  obtain ⟨rfl, rfl, rfl⟩ := H
  go_enter Try.func51, Try.ntmps51
  go_wp2_with (first | ((with_reducible refine gate_callee (f := 87) rfl ?_); refine goesL_ (some 6) rfl rfl Try.func87 (by kernel_rfl) rfl #[.pointer (some ⟨g, 0, none⟩), .int .i64 14] rfl tc1_ ?_; (with_reducible refine (spec_l1Cur_one.calls g s0_0 s0_1 s0_2 14 false t102 t103 w0 _ ?side1 ?side2 A3.out).mono ?_); (case side1 => repeat (first | (with_reducible first | exact HI0.out | apply IsS49.alloc | apply IsS49.drewN | apply IsS49.drew | apply IsS49.set_1 | apply IsS49.set_2) | exact HI0.out)); (case side2 => repeat (first | (with_reducible first | exact HB.out | apply below_alloc | apply pw_below_drewN | apply below_drew1 | refine below_set ?_ (IsS49.ge HI0.out)) | exact HB.out)); rintro e w12 ⟨rfl, hi, hb, hk⟩; refine ⟨_, rfl, ?_⟩; have n0_ := Aside0.mk (KeepBut.trans tc3_ hk (.inl rfl)); have n1_ := Aside0.mk (hb); have n2_ := Aside0.mk (hi); clear HK; clear HB; clear HI0; have HK := n0_; have HB := n1_; have HI0 := n2_; clear n0_ n1_ n2_; (try clear hb); (try clear hb2); (try clear hk); (try clear hi)) | ((with_reducible refine gate_callee (f := 88) rfl ?_); refine goesL_ (some 15) rfl rfl Try.func88 (by kernel_rfl) rfl #[.pointer (some ⟨g, 0, none⟩), .int .i64 (wrap64 (a1 + 1))] rfl tc1_ ?_; (with_reducible refine (spec_l1Cur_pick.calls g s0_0 t102 t103 (wrap64 (a1 + 1)) t110 t111 t112 w0 _ ?side1 ?side2 A11.out).mono ?_); (case side1 => repeat (first | (with_reducible first | exact HI0.out | apply IsS49.alloc | apply IsS49.drewN | apply IsS49.drew | apply IsS49.set_1 | apply IsS49.set_2) | exact HI0.out)); (case side2 => repeat (first | (with_reducible first | exact HB.out | apply below_alloc | apply pw_below_drewN | apply below_drew1 | refine below_set ?_ (IsS49.ge HI0.out)) | exact HB.out)); rintro e w13 ⟨rfl, hi, hb, hk⟩; refine ⟨_, rfl, ?_⟩; have n0_ := Aside0.mk (KeepBut.trans tc3_ hk (.inl rfl)); have n1_ := Aside0.mk (hb); have n2_ := Aside0.mk (hi); clear HK; clear HB; clear HI0; have HK := n0_; have HB := n1_; have HI0 := n2_; clear n0_ n1_ n2_; (try clear hb); (try clear hb2); (try clear hk); (try clear hi)))
  go_ret
  exact ⟨by first | rfl | (simp [errW_none, errW_some] <;> rfl) | (simp [*, errW_none, errW_some] <;> rfl), by repeat (first | (with_reducible first | exact HI0.out | apply IsS49.alloc | apply IsS49.drewN | apply IsS49.drew | apply IsS49.set_1 | apply IsS49.set_2) | exact HI0.out), by repeat (first | (with_reducible first | exact HB.out | apply below_alloc | apply pw_below_drewN | apply below_drew1 | refine below_set ?_ (IsS49.ge HI0.out)) | exact HB.out), by repeat (first | (with_reducible first | exact HK.out | apply KeepBut.set_ | apply keep_drewN | apply keep_drew | apply keep_alloc) | exact HK.out)⟩

/-! ### spec_DrawFreeSum: function 7 -/
def spec_DrawFreeSum.f (l0 : List Int) : Option (Int × Int × Int) := (spec_l1Cur_side.f l0 0 0 4).bind fun bt102 => ((spec_l1Cur_weight.f l0 bt102.2.1 bt102.2.2 5).bind fun bt105 => ((spec_l1Cur_weight.f l0 bt105.2.1 bt105.2.2 5).bind fun bt108 => (some (bt102.1, bt105.1, bt108.1))))
set_option maxHeartbeats 8000000 in
set_option maxRecDepth 100000 in
theorem spec_DrawFreeSum.calls (A0 : Option Addr) (c0 : Nat) (l0 : List Int) (r1 : Int) (r2 : Int) (r3 : Int) (w : World) (hr0 : Kd.C (Kd.int .u8) w A0 l0.length l0) (hc0 : l0.length ≤ c0) (h : spec_DrawFreeSum.f l0 = some (r1, r2, r3)) :
  Calls Try.prog 7 #[.slice A0 l0.length c0] w fun e w' => e = .returned (.tuple #[.int .i64 r1, .int .i64 r2, .int .i64 r3]) ∧ Below w.heap.size w w' := by
 have hu49 := Try.underlying49
 have HR0 := Aside0.mk hr0
 have HC0 := Aside0.mk hc0
 clear hr0 hc0
 have HB := Aside0.mk (Below.refl w.heap.size w)
 have H : ((spec_l1Cur_side.f l0 0 0 4).bind fun bt102 => ((spec_l1Cur_weight.f l0 bt102.2.1 bt102.2.2 5).bind fun bt105 => ((spec_l1Cur_weight.f l0 bt105.2.1 bt105.2.2 5).bind fun bt108 => (some (bt102.1, bt105.1, bt108.1))))) = some (r1, r2, r3) := h
 clear h
 replace H := Option.bind_eq_some_iff.mp H
 obtain ⟨⟨t102, t103, t104⟩, A20, H⟩ := H
 replace H : ((spec_l1Cur_weight.f l0 t103 t104 5).bind fun bt105 => ((spec_l1Cur_weight.f l0 bt105.2.1 bt105.2.2 5).bind fun bt108 => (some (t102, bt105.1, bt108.1)))) = some (r1, r2, r3) := H
 have A2 := Aside0.mk A20
 clear A20
 replace H := Option.bind_eq_some_iff.mp H
 obtain ⟨⟨t105, t106, t107⟩, A30, H⟩ := H
 replace H : ((spec_l1Cur_weight.f l0 t106 t107 5).bind fun bt108 => (some (t102, t105, bt108.1))) = some (r1, r2, r3) := H
 have A3 := Aside0.mk A30
 clear A30
 replace H := Option.bind_eq_some_iff.mp H
 obtain ⟨⟨t108, t109, t110⟩, A40, H⟩ := H
 replace H : (some (t102, t105, t108)) = some (r1, r2, r3) := H
 have A4 := Aside0.mk A40
 clear A40
 simp only [Option.some.injEq, Prod.mk.injEq] at H
 obtain ⟨rfl, rfl, rfl⟩ := H
 go_enter Try.func7, Try.ntmps7
 go_wp2_with (first | ((with_reducible refine gate_dst (N := 8) rfl ?_); refine box_event ?hg (N := 8) ?hd (cs := #[.slice A0 l0.length c0, .int .i64 0, .int .u64 0]) (t := 49) ?hr ?_; (case hd => rfl); (case hg => rfl); (case hr => first | (go_simp; done) | (go_simp; rfl)); intro gb101 hg w5 hbox hb; have n0_ := Aside0.mk (below_step tc0_ hb); have n1_ := Aside0.mk ((by rw [hg]; exact (below_size tc0_) : w.heap.size ≤ gb101)); have n2_ := Aside0.mk ((by rw [hg]; exact (below_size tc0_) : w.heap.size ≤ gb101)); have n3_ := Aside0.mk ((show IsS49 w w5 gb101 l0 0 0 from ⟨A0, c0, hbox, (by rw [hg]; exact (below_size tc0_) : w.heap.size ≤ gb101), HR0.out⟩)); clear HB; have HB := n0_; have GW101 := n1_; have GE101 := n2_; have HI101 := n3_; clear n0_ n1_ n2_ n3_; clear hb hbox hg) | ((with_reducible refine gate_callee (f := 50) rfl ?_); refine goesL_ (some 10) rfl rfl Try.func50 (by kernel_rfl) rfl #[.pointer (some ⟨gb101, 0, none⟩), .int .i64 4] rfl tc1_ ?_; (with_reducible refine (spec_l1Cur_side.calls gb101 l0 0 0 4 t102 t103 t104 w _ ?side1 ?side2 A2.out).mono ?_); (case side1 => repeat (first | (with_reducible first | exact HI101.out | apply IsS49.alloc | apply IsS49.drewN | apply IsS49.drew | apply IsS49.set_1 | apply IsS49.set_2) | exact HI101.out)); (case side2 => repeat (first | (with_reducible first | exact HB.out | apply below_alloc | apply pw_below_drewN | apply below_drew1 | refine below_set ?_ (IsS49.ge HI101.out)) | exact HB.out)); rintro e w6 ⟨rfl, hi, hb, hk⟩; refine ⟨_, rfl, ?_⟩; have n0_ := Aside0.mk (hb); have n1_ := Aside0.mk (hi); clear HB; clear HI101; have HB := n0_; have HI101 := n1_; clear n0_ n1_; (try clear hb); (try clear hb2); (try clear hk); (try clear hi)) | ((with_reducible refine gate_callee (f := 51) rfl ?_); refine goesL_ (some 12) rfl rfl Try.func51 (by kernel_rfl) rfl #[.pointer (some ⟨gb101, 0, none⟩), .int .i64 5] rfl tc1_ ?_; (with_reducible refine (spec_l1Cur_weight.calls gb101 l0 t103 t104 5 t105 t106 t107 w _ ?side1 ?side2 A3.out).mono ?_); (case side1 => repeat (first | (with_reducible first | exact HI101.out | apply IsS49.alloc | apply IsS49.drewN | apply IsS49.drew | apply IsS49.set_1 | apply IsS49.set_2) | exact HI101.out)); (case side2 => repeat (first | (with_reducible first | exact HB.out | apply below_alloc | apply pw_below_drewN | apply below_drew1 | refine below_set ?_ (IsS49.ge HI101.out)) | exact HB.out)); rintro e w7 ⟨rfl, hi, hb, hk⟩; refine ⟨_, rfl, ?_⟩; have n0_ := Aside0.mk (hb); have n1_ := Aside0.mk (hi); clear HB; clear HI101; have HB := n0_; have HI101 := n1_; clear n0_ n1_; (try clear hb); (try clear hb2); (try clear hk); (try clear hi)) | ((with_reducible refine gate_callee (f := 51) rfl ?_); refine goesL_ (some 14) rfl rfl Try.func51 (by kernel_rfl) rfl #[.pointer (some ⟨gb101, 0, none⟩), .int .i64 5] rfl tc1_ ?_; (with_reducible refine (spec_l1Cur_weight.calls gb101 l0 t106 t107 5 t108 t109 t110 w _ ?side1 ?side2 A4.out).mono ?_); (case side1 => repeat (first | (with_reducible first | exact HI101.out | apply IsS49.alloc | apply IsS49.drewN | apply IsS49.drew | apply IsS49.set_1 | apply IsS49.set_2) | exact HI101.out)); (case side2 => repeat (first | (with_reducible first | exact HB.out | apply below_alloc | apply pw_below_drewN | apply below_drew1 | refine below_set ?_ (IsS49.ge HI101.out)) | exact HB.out)); rintro e w8 ⟨rfl, hi, hb, hk⟩; refine ⟨_, rfl, ?_⟩; have n0_ := Aside0.mk (hb); have n1_ := Aside0.mk (hi); clear HB; clear HI101; have HB := n0_; have HI101 := n1_; clear n0_ n1_; (try clear hb); (try clear hb2); (try clear hk); (try clear hi)))
 go_ret3
 exact ⟨by first | rfl | (simp [errW_none, errW_some] <;> rfl) | (simp [*, errW_none, errW_some] <;> rfl), by repeat (first | (with_reducible first | exact HB.out | apply below_alloc | apply pw_below_drewN | apply below_drew1 | refine below_set ?_ (IsS49.ge HI101.out)) | exact HB.out)⟩

/-! ### impl_within: function 69 -/
def impl_within.f (a0 : Int) (a1 : Int) (a2 : Int) : Option (Bool) := if a1 ≤ a0 then (some (decide (a0 ≤ a2))) else (some false)
set_option maxHeartbeats 8000000 in
set_option maxRecDepth 100000 in
theorem impl_within.calls (a0 : Int) (a1 : Int) (a2 : Int) (r : Bool) (w : World) (h : impl_within.f a0 a1 a2 = some r) :
  Calls Try.prog 69 #[.int .i64 a0, .int .i64 a1, .int .i64 a2] w fun e w' => e = .returned (.bool r) ∧ Drawn0 w w' := by
 have H : (if a1 ≤ a0 then (some (decide (a0 ≤ a2))) else (some false)) = some r := h
 clear h
 by_cases c4 : a1 ≤ a0
 ·rw [if_pos c4] at H
  have c4b0 : decide (a1 ≤ a0) = true := decide_eq_true c4
  clear c4
  obtain rfl := Option.some.inj H
  go_enter Try.func69, Try.ntmps69
  go_wp2
  go_ret
  exact ⟨by first | rfl | (simp; done) | (simp [*]; done), by repeat (first | exact Drawn0.refl _ | apply Drawn0.step)⟩
 ·rw [if_neg c4] at H
  have c4b0 : decide (a1 ≤ a0) = false := decide_eq_false c4
  clear c4
  obtain rfl := Option.some.inj H
  go_enter Try.func69, Try.ntmps69
  go_wp2
  go_ret
  exact ⟨by first | rfl | (simp; done) | (simp [*]; done), by repeat (first | exact Drawn0.refl _ | apply Drawn0.step)⟩

/-! ### impl_isWeighted: function 52 -/
def impl_isWeighted.f (a0 : Int) : Option (Bool) := (impl_within.f a0 1 4).bind fun t101 => (some t101)
set_option maxHeartbeats 8000000 in
set_option maxRecDepth 100000 in
theorem impl_isWeighted.calls (a0 : Int) (r : Bool) (w : World) (h : impl_isWeighted.f a0 = some r) :
  Calls Try.prog 52 #[.int .i64 a0] w fun e w' => e = .returned (.bool r) ∧ Drawn0 w w' := by
 have H : ((impl_within.f a0 1 4).bind fun t101 => (some t101)) = some r := h
 clear h
 replace H := Option.bind_eq_some_iff.mp H
 obtain ⟨t101, A20, H⟩ := H
 replace H : (some t101) = some r := H
 have A2 := Aside0.mk A20
 clear A20
 obtain rfl := Option.some.inj H
 go_enter Try.func52, Try.ntmps52
 go_wp2_with (first | ((with_reducible refine gate_callee (f := 69) rfl ?_); refine goesL_ (some 4) rfl rfl Try.func69 (by kernel_rfl) rfl #[.int .i64 a0, .int .i64 1, .int .i64 4] rfl tc1_ ?_; (with_reducible refine (impl_within.calls a0 1 4 t101 _ A2.out).mono ?_); rintro e w' ⟨rfl, ⟨nd, rfl⟩⟩; refine ⟨_, rfl, ?_⟩))
 go_ret
 exact ⟨by first | rfl | (simp; done) | (simp [*]; done), by repeat (first | exact Drawn0.refl _ | apply Drawn0.step)⟩

/-! ### slices_IndexFunc_int_int_148: function 148 -/
def slices_IndexFunc_int_int_148.l0 : Nat → List Int → (Int → Option Bool) → Int → Int → Option (Int)
 | 0, _, _, _, _ => none
 | k + 1, x0, x1, x7, x8 => if x8 < x7 then (if 0 ≤ x8 then (if x8 < (x0.length : Int) then ((x1 (rd x0 x8)).bind fun t102 => (if t102 = true then (some x8) else (slices_IndexFunc_int_int_148.l0 k x0 x1 x7 (wrap64 (x8 + 1))))) else (none)) else (none)) else (some (-1))
def slices_IndexFunc_int_int_148.f (k : Nat) (l0 : List Int) (a1 : (Int → Option Bool)) : Option (Int) := slices_IndexFunc_int_int_148.l0 k l0 a1 (l0.length : Int) 0
theorem slices_IndexFunc_int_int_148.mono_l : ∀ k, (∀ y0 y1 y1' y2 y3 (hy1 : ∀ z0, LeO (y1 z0) (y1' z0)), LeO (slices_IndexFunc_int_int_148.l0 k y0 y1 y2 y3) (slices_IndexFunc_int_int_148.l0 (k + 1) y0 y1' y2 y3))
 | 0 => fun _ _ _ _ _ _ r h => by simp [slices_IndexFunc_int_int_148.l0] at h
 | k + 1 => by
  have ih0 := slices_IndexFunc_int_int_148.mono_l k
  ·intro y0 y1 y1' y2 y3 hy1
   unfold slices_IndexFunc_int_int_148.l0
   repeat' first
   | (with_reducible exact ih0 _ _ _ _ _ hy1)
   | (with_reducible exact hy1 _)
   | (with_reducible exact LeO.refl _)
   | (with_reducible exact LeO.none _)
   | (with_reducible refine LeO.ite ?_ ?_)
   | (with_reducible refine LeO.bind ?_ (fun _ => ?_))
   | exact ih0 _ _ _ _ _ hy1
   | exact hy1 _
   | exact LeO.none _
   | refine LeO.ite ?_ ?_
   | refine LeO.bind ?_ (fun _ => ?_)
theorem slices_IndexFunc_int_int_148.mono : ∀ a0 a1 a1' (ha1 : ∀ z0, LeO (a1 z0) (a1' z0)) k, LeO (slices_IndexFunc_int_int_148.f k a0 a1) (slices_IndexFunc_int_int_148.f (k + 1) a0 a1') := by
 intro a0 a1 a1' ha1 k
 have ih0 := slices_IndexFunc_int_int_148.mono_l k
 unfold slices_IndexFunc_int_int_148.f
 repeat' first
   | (with_reducible exact ih0 _ _ _ _ _ ha1)
   | (with_reducible exact ha1 _)
   | (with_reducible exact LeO.refl _)
   | (with_reducible exact LeO.none _)
   | (with_reducible refine LeO.ite ?_ ?_)
   | (with_reducible refine LeO.bind ?_ (fun _ => ?_))
   | exact ih0 _ _ _ _ _ ha1
   | exact ha1 _
   | exact LeO.none _
   | refine LeO.ite ?_ ?_
   | refine LeO.bind ?_ (fun _ => ?_)
set_option maxHeartbeats 8000000 in
set_option maxRecDepth 100000 in
theorem slices_IndexFunc_int_int_148.calls (k : Nat) (A0 : Option Addr) (c0 : Nat) (l0 : List Int) (g1 : Nat) (b1 : Array Value) (a1 : (Int → Option Bool)) (r : Int) (w : World) (hr0 : Kd.C (Kd.int .i64) w A0 l0.length l0) (hc0 : l0.length ≤ c0) (hf1 : Fn1 (Kd.int .i64) Value.bool Try.prog g1 b1 a1 w) (h : slices_IndexFunc_int_int_148.f k l0 a1 = some r) :
  Calls Try.prog 148 #[.slice A0 l0.length c0, .func (.func g1) #[] b1] w fun e w' => e = .returned (.int .i64 r) ∧ Below w.heap.size w w' := by
 have HR0 := Aside0.mk hr0
 have HC0 := Aside0.mk hc0
 clear hr0 hc0
 have HF1 := Aside0.mk hf1.cl
 have eg1 := hf1.eg
 clear hf1
 have HB := Aside0.mk (Below.refl w.heap.size w)
 have H : (slices_IndexFunc_int_int_148.l0 k l0 a1 (l0.length : Int) 0) = some r := h
 clear h
 have H' := Aside0.mk H
 clear H
 go_enter Try.func148, Try.ntmps148
 go_wp2
 go_loopg [8] k (fun kq v8 w' => ∃ (x8_1 : Int), v8 = .int .i64 x8_1 ∧ Aside0 (slices_IndexFunc_int_int_148.l0 kq l0 a1 (l0.length : Int) x8_1 = some r) ∧ Aside0 (kq ≤ k) ∧ Aside0 (Below w.heap.size w w'))
 case atStart => exact ⟨(0), tc4_, H', ⟨Nat.le_refl _⟩, ⟨by repeat (first | (with_reducible first | exact HB.out | apply below_alloc | apply pw_below_drewN | apply below_drew1) | exact HB.out)⟩⟩
 case round =>
  clear H'
  try clear c1
  try clear p2
  obtain ⟨x8_1, rfl, HA, HK1, HB⟩ := hrel
  cases gk with
  | zero => exact absurd HA.out (by simp [slices_IndexFunc_int_int_148.l0])
  | succ k1 =>
   have H := HA.out
   clear HA
   simp only [slices_IndexFunc_int_int_148.l0] at H
   by_cases c3 : x8_1 < (l0.length : Int)
   ·rw [if_pos c3] at H
    have c3b0 : decide (x8_1 < (l0.length : Int)) = true := decide_eq_true c3
    clear c3
    by_cases c4 : 0 ≤ x8_1
    ·rw [if_pos c4] at H
     have c4b0 : decide (0 ≤ x8_1) = true := decide_eq_true c4
     clear c4
     by_cases c5 : x8_1 < (l0.length : Int)
     ·rw [if_pos c5] at H
      have c5b0 : decide (x8_1 < (l0.length : Int)) = true := decide_eq_true c5
      clear c5
      replace H := Option.bind_eq_some_iff.mp H
      obtain ⟨t102, A60, H⟩ := H
      replace H : (if t102 = true then (some x8_1) else (slices_IndexFunc_int_int_148.l0 k1 l0 a1 (l0.length : Int) (wrap64 (x8_1 + 1)))) = some r := H
      have A6 := Aside0.mk A60
      clear A60
      by_cases c7 : t102 = true
      ·subst c7
       have H1 : (some x8_1) = some r := by rw [if_pos rfl] at H; exact H
       clear H
       have H := H1
       clear H1
       obtain rfl := Option.some.inj H
       have p101 : 0 ≤ (x8_1 : Int) := of_decide_eq_true tc2_
       have q101 : x8_1 < (l0.length : Int) := of_decide_eq_true tc2_
       obtain ⟨ad101, e101, hx101_0⟩ := Kd.at_int HR0.out x8_1 p101 q101
       cases e101
       replace hx101_0 := (HB.out.cell (World.block_lt_of_cell? w _ hx101_0)).trans hx101_0
       replace p101 := eq_true p101
       replace q101 := eq_true q101
       go_wp2_with (first | (go_at_fn g1; (refine (HF1.out _ ?side1 (rd l0 x8_1) _ K_int true A6.out).mono ?_); (case side1 => exact tc0_); rintro e w8 ⟨rfl, hb⟩; have n0_ := Aside0.mk (below_step tc0_ hb); clear HB; have HB := n0_; clear n0_; (try clear hb); (try clear hb2); (try clear hk); (try clear hi)))
       go_ret
       exact ⟨by first | rfl | (simp [errW_none, errW_some] <;> rfl) | (simp [*, errW_none, errW_some] <;> rfl), by repeat (first | (with_reducible first | exact HB.out | apply below_alloc | apply pw_below_drewN | apply below_drew1) | exact HB.out)⟩
      ·replace c7 := Bool.eq_false_iff.mpr c7
       subst c7
       have H1 : (slices_IndexFunc_int_int_148.l0 k1 l0 a1 (l0.length : Int) (wrap64 (x8_1 + 1))) = some r := by rw [if_neg (show ¬ (false = true) by decide)] at H; exact H
       clear H
       have H := H1
       clear H1
       have H' := Aside0.mk H
       clear H
       have p101 : 0 ≤ (x8_1 : Int) := of_decide_eq_true tc2_
       have q101 : x8_1 < (l0.length : Int) := of_decide_eq_true tc2_
       obtain ⟨ad101, e101, hx101_0⟩ := Kd.at_int HR0.out x8_1 p101 q101
       cases e101
       replace hx101_0 := (HB.out.cell (World.block_lt_of_cell? w _ hx101_0)).trans hx101_0
       replace p101 := eq_true p101
       replace q101 := eq_true q101
       go_wp2_with (first | (go_at_fn g1; (refine (HF1.out _ ?side1 (rd l0 x8_1) _ K_int false A6.out).mono ?_); (case side1 => exact tc0_); rintro e w9 ⟨rfl, hb⟩; have n0_ := Aside0.mk (below_step tc0_ hb); clear HB; have HB := n0_; clear n0_; (try clear hb); (try clear hb2); (try clear hk); (try clear hi)))
       go_roundg k1
       case measure => have := HK1.out; omega
       case rel => exact ⟨(wrap64 (x8_1 + 1)), tc4_, H', ⟨by have := HK1.out; omega⟩, ⟨by repeat (first | (with_reducible first | exact HB.out | apply below_alloc | apply pw_below_drewN | apply below_drew1) | exact HB.out)⟩⟩
     ·rw [if_neg c5] at H
      exact absurd H (by simp)
    ·rw [if_neg c4] at H
     exact absurd H (by simp)
   ·rw [if_neg c3] at H
    have c3b0 : decide (x8_1 < (l0.length : Int)) = false := decide_eq_false c3
    clear c3
    obtain rfl := Option.some.inj H
    go_wp2
    go_ret
    exact ⟨by first | rfl | (simp [errW_none, errW_some] <;> rfl) | (simp [*, errW_none, errW_some] <;> rfl), by repeat (first | (with_reducible first | exact HB.out | apply below_alloc | apply pw_below_drewN | apply below_drew1) | exact HB.out)⟩

/-! ### slices_ContainsFunc_int_int_134: function 134 -/
def slices_ContainsFunc_int_int_134.f (k : Nat) (l0 : List Int) (a1 : (Int → Option Bool)) : Option (Bool) := (slices_IndexFunc_int_int_148.f k l0 a1).bind fun t101 => (some (decide (t101 ≥ 0)))
theorem slices_ContainsFunc_int_int_134.mono : ∀ a0 a1 a1' (ha1 : ∀ z0, LeO (a1 z0) (a1' z0)) k, LeO (slices_ContainsFunc_int_int_134.f k a0 a1) (slices_ContainsFunc_int_int_134.f (k + 1) a0 a1') := by
 intro a0 a1 a1' ha1 k
 unfold slices_ContainsFunc_int_int_134.f
 repeat' first
   | (with_reducible exact ha1 _)
   | (with_reducible refine slices_IndexFunc_int_int_148.mono _ _ _ (fun _ => ?_) _)
   | (with_reducible exact LeO.refl _)
   | (with_reducible exact LeO.none _)
   | (with_reducible refine LeO.ite ?_ ?_)
   | (with_reducible refine LeO.bind ?_ (fun _ => ?_))
   | exact ha1 _
   | exact LeO.none _
   | refine LeO.ite ?_ ?_
   | refine LeO.bind ?_ (fun _ => ?_)
set_option maxHeartbeats 8000000 in
set_option maxRecDepth 100000 in
theorem slices_ContainsFunc_int_int_134.calls (k : Nat) (A0 : Option Addr) (c0 : Nat) (l0 : List Int) (g1 : Nat) (b1 : Array Value) (a1 : (Int → Option Bool)) (r : Bool) (w : World) (hr0 : Kd.C (Kd.int .i64) w A0 l0.length l0) (hc0 : l0.length ≤ c0) (hf1 : Fn1 (Kd.int .i64) Value.bool Try.prog g1 b1 a1 w) (h : slices_ContainsFunc_int_int_134.f k l0 a1 = some r) :
  Calls Try.prog 134 #[.slice A0 l0.length c0, .func (.func g1) #[] b1] w fun e w' => e = .returned (.bool r) ∧ Below w.heap.size w w' := by
 have HR0 := Aside0.mk hr0
 have HC0 := Aside0.mk hc0
 clear hr0 hc0
 have HF1 := Aside0.mk hf1.cl
 have eg1 := hf1.eg
 clear hf1
 have HB := Aside0.mk (Below.refl w.heap.size w)
 have H : ((slices_IndexFunc_int_int_148.f k l0 a1).bind fun t101 => (some (decide (t101 ≥ 0)))) = some r := h
 clear h
 replace H := Option.bind_eq_some_iff.mp H
 obtain ⟨t101, A30, H⟩ := H
 replace H : (some (decide (t101 ≥ 0))) = some r := H
 have A3 := Aside0.mk A30
 clear A30
 obtain rfl := Option.some.inj H
 go_enter Try.func134, Try.ntmps134
 go_wp2_with (first | ((with_reducible refine gate_callee (f := 148) rfl ?_); refine goesL_ (some 7) rfl rfl Try.func148 (by kernel_rfl) rfl #[.slice A0 l0.length c0, .func (.func g1) #[] b1] rfl tc1_ ?_; (with_reducible refine (slices_IndexFunc_int_int_148.calls k _ _ l0 _ _ a1 t101 _ ?side1 ?side2 ?side3 A3.out).mono ?_); (case side1 => repeat (first | exact HR0.out | (with_reducible refine Kd.C_alloc ?_ _) | (with_reducible refine Kd.C_drewN ?_ _) | (with_reducible refine Kd.C_drew ?_))); (case side2 => exact HC0.out); (case side3 => exact Fn1.later ⟨eg1, HF1.out⟩ tc0_); rintro e w4 ⟨rfl, hb⟩; refine ⟨_, rfl, ?_⟩; have n0_ := Aside0.mk (below_step tc0_ hb); clear HB; have HB := n0_; clear n0_; (try clear hb); (try clear hb2); (try clear hk); (try clear hi)))
 go_ret
 exact ⟨by first | rfl | (simp [errW_none, errW_some] <;> rfl) | (simp [*, errW_none, errW_some] <;> rfl), by repeat (first | (with_reducible first | exact HB.out | apply below_alloc | apply pw_below_drewN | apply below_drew1) | exact HB.out)⟩

/-! ### impl_areWithin_1: function 135 -/
def impl_areWithin_1.f (a0 : Int) (a1_0 : Int) (a2_0 : Int) : Option (Bool) := (impl_within.f a0 a1_0 a2_0).bind fun t101 => (some (!t101))
set_option maxHeartbeats 8000000 in
set_option maxRecDepth 100000 in
theorem impl_areWithin_1.calls (a0 : Int) (B1 : Nat) (a1_0 : Int) (B2 : Nat) (a2_0 : Int) (r : Bool) (w : World) (hb1 : w.heap[B1]? = some (.cells #[.int .i64 a1_0] 3 (0, 0))) (hb2 : w.heap[B2]? = some (.cells #[.int .i64 a2_0] 3 (0, 0))) (h : impl_areWithin_1.f a0 a1_0 a2_0 = some r) :
  Calls Try.prog 135 #[.int .i64 a0, .pointer (some ⟨B1, 0, none⟩), .pointer (some ⟨B2, 0, none⟩)] w fun e w' => e = .returned (.bool r) ∧ Drawn0 w w' := by
 have BK61 := Aside0.mk hb1
 clear hb1
 have BK62 := Aside0.mk hb2
 clear hb2
 have H : ((impl_within.f a0 a1_0 a2_0).bind fun t101 => (some (!t101))) = some r := h
 clear h
 replace H := Option.bind_eq_some_iff.mp H
 obtain ⟨t101, A40, H⟩ := H
 replace H : (some (!t101)) = some r := H
 have A4 := Aside0.mk A40
 clear A40
 obtain rfl := Option.some.inj H
 have hcz5_0 : w.cell? ⟨B1, 0, none⟩ = some (.int .i64 a1_0) := (blk_cell BK61.out 0).trans rfl
 have hfz5_0 := blk_frozen BK61.out 0
 have hcz6_0 : w.cell? ⟨B2, 0, none⟩ = some (.int .i64 a2_0) := (blk_cell BK62.out 0).trans rfl
 have hfz6_0 := blk_frozen BK62.out 0
 go_enter Try.func135, Try.ntmps135
 go_wp2_with (first | ((with_reducible refine gate_callee (f := 69) rfl ?_); refine goesL_ (some 8) rfl rfl Try.func69 (by kernel_rfl) rfl #[.int .i64 a0, .int .i64 a1_0, .int .i64 a2_0] rfl tc1_ ?_; (with_reducible refine (impl_within.calls a0 a1_0 a2_0 t101 _ A4.out).mono ?_); rintro e w' ⟨rfl, ⟨nd, rfl⟩⟩; refine ⟨_, rfl, ?_⟩))
 go_ret
 exact ⟨by first | rfl | (simp; done) | (simp [*]; done), by repeat (first | exact Drawn0.refl _ | apply Drawn0.step)⟩

/-! ### impl_areWithin: function 106 -/
def impl_areWithin.f (k : Nat) (l0 : List Int) (a1 : Int) (a2 : Int) : Option (Bool) := (slices_ContainsFunc_int_int_134.f k l0 (fun x0_ => impl_areWithin_1.f x0_ a1 a2)).bind fun t103 => (some (!t103))
theorem impl_areWithin.mono : ∀ a0 a1 a2  k, LeO (impl_areWithin.f k a0 a1 a2) (impl_areWithin.f (k + 1) a0 a1 a2) := by
 intro a0 a1 a2 k
 unfold impl_areWithin.f
 repeat' first
   | (with_reducible refine slices_ContainsFunc_int_int_134.mono _ _ _ (fun _ => ?_) _)
   | (with_reducible exact LeO.refl _)
   | (with_reducible exact LeO.none _)
   | (with_reducible refine LeO.ite ?_ ?_)
   | (with_reducible refine LeO.bind ?_ (fun _ => ?_))
   | exact LeO.none _
   | refine LeO.ite ?_ ?_
   | refine LeO.bind ?_ (fun _ => ?_)
set_option maxHeartbeats 8000000 in
set_option maxRecDepth 100000 in
theorem impl_areWithin.calls (k : Nat) (A0 : Option Addr) (c0 : Nat) (l0 : List Int) (a1 : Int) (a2 : Int) (r : Bool) (w : World) (hr0 : Kd.C (Kd.int .i64) w A0 l0.length l0) (hc0 : l0.length ≤ c0) (h : impl_areWithin.f k l0 a1 a2 = some r) :
  Calls Try.prog 106 #[.slice A0 l0.length c0, .int .i64 a1, .int .i64 a2] w fun e w' => e = .returned (.bool r) ∧ Below w.heap.size w w' := by
 have HR0 := Aside0.mk hr0
 have HC0 := Aside0.mk hc0
 clear hr0 hc0
 have HB := Aside0.mk (Below.refl w.heap.size w)
 have H : ((slices_ContainsFunc_int_int_134.f k l0 (fun x0_ => impl_areWithin_1.f x0_ a1 a2)).bind fun t103 => (some (!t103))) = some r := h
 clear h
 replace H := Option.bind_eq_some_iff.mp H
 obtain ⟨t103, A40, H⟩ := H
 replace H : (some (!t103)) = some r := H
 have A4 := Aside0.mk A40
 clear A40
 obtain rfl := Option.some.inj H
 go_enter Try.func106, Try.ntmps106
 go_wp2_with (first | ((with_reducible refine gate_dst (N := 4) rfl ?_); refine box_event ?hg (N := 4) ?hd (cs := #[.int .i64 a1]) (t := 3) ?hr ?_; (case hd => rfl); (case hg => rfl); (case hr => first | (go_simp; done) | (go_simp; rfl)); intro gb101 hg w5 hbox hb; have n0_ := Aside0.mk (below_step tc0_ hb); have n1_ := Aside0.mk (hbox); have n2_ := Aside0.mk ((by rw [hg]; exact (below_size tc0_) : w.heap.size ≤ gb101)); have n3_ := Aside0.mk ((by rw [hg]; exact (below_size tc0_) : w.heap.size ≤ gb101)); clear HB; have HB := n0_; have BK101 := n1_; have GW101 := n2_; have GE101 := n3_; clear n0_ n1_ n2_ n3_; clear hb hbox hg) | ((with_reducible refine gate_dst (N := 5) rfl ?_); refine box_event ?hg (N := 5) ?hd (cs := #[.int .i64 a2]) (t := 3) ?hr ?_; (case hd => rfl); (case hg => rfl); (case hr => first | (go_simp; done) | (go_simp; rfl)); intro gb102 hg w6 hbox hb; have n0_ := Aside0.mk (blk_below (g := gb101) (o := .cells #[.int .i64 a1] 3 (0, 0)) tc5_ hb); have n1_ := Aside0.mk (below_step tc6_ hb); have n2_ := Aside0.mk (hbox); have n3_ := Aside0.mk ((by rw [hg]; exact (below_size tc6_) : w.heap.size ≤ gb102)); have n4_ := Aside0.mk ((by rw [hg]; exact (below_size tc6_) : w.heap.size ≤ gb102)); have n5_ := Aside0.mk ((by rw [hg]; exact Nat.ne_of_lt (blk_lt (g := gb101) (o := .cells #[.int .i64 a1] 3 (0, 0)) tc5_) : gb101 ≠ gb102)); have n6_ := Aside0.mk ((by rw [hg]; exact Nat.ne_of_gt (blk_lt (g := gb101) (o := .cells #[.int .i64 a1] 3 (0, 0)) tc5_) : gb102 ≠ gb101)); clear BK101; clear HB; have BK101 := n0_; have HB := n1_; have BK102 := n2_; have GW102 := n3_; have GE102 := n4_; have NB101_102 := n5_; have NB102_101 := n6_; clear n0_ n1_ n2_ n3_ n4_ n5_ n6_; clear hb hbox hg) | ((with_reducible refine gate_callee (f := 134) rfl ?_); refine goesL_ (some 9) rfl rfl Try.func134 (by kernel_rfl) rfl #[.slice A0 l0.length c0, .func (.func 135) #[] #[.pointer (some ⟨gb101, 0, none⟩), .pointer (some ⟨gb102, 0, none⟩)]] rfl tc1_ ?_; (with_reducible refine (slices_ContainsFunc_int_int_134.calls k _ _ l0 _ _ (fun x0_ => impl_areWithin_1.f x0_ a1 a2) t103 _ ?side1 ?side2 ?side3 A4.out).mono ?_); (case side1 => repeat (first | exact (Kd.C_below HR0.out HB.out) | (with_reducible refine Kd.C_alloc ?_ _) | (with_reducible refine Kd.C_drewN ?_ _) | (with_reducible refine Kd.C_drew ?_))); (case side2 => exact HC0.out); (case side3 => refine ⟨enters_of Try.func135 (by kernel_rfl) rfl, fun W_ hW_ x0_ v0_ hK0_ r_ hr_ => ?_⟩; cases (show v0_ = .int .i64 x0_ from by simpa [Kd.int, Kd.bool, Kd.string, Kd.scalar] using hK0_); refine (impl_areWithin_1.calls x0_ _ a1 _ a2 r_ W_ ?cb1 ?cb2 hr_).mono ?_; (case cb1 => exact blk_below tc5_ hW_); (case cb2 => exact blk_below tc9_ hW_); exact fun _ _ h_ => ⟨h_.1, h_.2.below⟩); rintro e w7 ⟨rfl, hb⟩; refine ⟨_, rfl, ?_⟩; have n0_ := Aside0.mk (blk_below (g := gb101) (o := .cells #[.int .i64 a1] 3 (0, 0)) tc5_ hb); have n1_ := Aside0.mk (blk_below (g := gb102) (o := .cells #[.int .i64 a2] 3 (0, 0)) tc9_ hb); have n2_ := Aside0.mk (below_step tc8_ hb); clear BK101; clear BK102; clear HB; have BK101 := n0_; have BK102 := n1_; have HB := n2_; clear n0_ n1_ n2_; (try clear hb); (try clear hb2); (try clear hk); (try clear hi)))
 go_ret
 exact ⟨by first | rfl | (simp [errW_none, errW_some] <;> rfl) | (simp [*, errW_none, errW_some] <;> rfl), by repeat (first | (with_reducible first | exact HB.out | apply below_alloc | apply pw_below_drewN | apply below_drew1 | refine below_set ?_ GE101.out | refine below_set ?_ GE102.out) | exact HB.out)⟩

/-! ### impl_areBases: function 53 -/
def impl_areBases.f (k : Nat) (l0 : List Int) : Option (Bool) := (impl_areWithin.f k l0 0 5).bind fun t101 => (some t101)
theorem impl_areBases.mono : ∀ a0  k, LeO (impl_areBases.f k a0) (impl_areBases.f (k + 1) a0) := by
 intro a0 k
 unfold impl_areBases.f
 repeat' first
   | (with_reducible exact impl_areWithin.mono _ _ _ _)
   | (with_reducible exact LeO.refl _)
   | (with_reducible exact LeO.none _)
   | (with_reducible refine LeO.ite ?_ ?_)
   | (with_reducible refine LeO.bind ?_ (fun _ => ?_))
   | exact impl_areWithin.mono _ _ _ _
   | exact LeO.none _
   | refine LeO.ite ?_ ?_
   | refine LeO.bind ?_ (fun _ => ?_)
set_option maxHeartbeats 8000000 in
set_option maxRecDepth 100000 in
theorem impl_areBases.calls (k : Nat) (A0 : Option Addr) (c0 : Nat) (l0 : List Int) (r : Bool) (w : World) (hr0 : Kd.C (Kd.int .i64) w A0 l0.length l0) (hc0 : l0.length ≤ c0) (h : impl_areBases.f k l0 = some r) :
  Calls Try.prog 53 #[.slice A0 l0.length c0] w fun e w' => e = .returned (.bool r) ∧ Below w.heap.size w w' := by
 have HR0 := Aside0.mk hr0
 have HC0 := Aside0.mk hc0
 clear hr0 hc0
 have HB := Aside0.mk (Below.refl w.heap.size w)
 have H : ((impl_areWithin.f k l0 0 5).bind fun t101 => (some t101)) = some r := h
 clear h
 replace H := Option.bind_eq_some_iff.mp H
 obtain ⟨t101, A20, H⟩ := H
 replace H : (some t101) = some r := H
 have A2 := Aside0.mk A20
 clear A20
 obtain rfl := Option.some.inj H
 go_enter Try.func53, Try.ntmps53
 go_wp2_with (first | ((with_reducible refine gate_callee (f := 106) rfl ?_); refine goesL_ (some 4) rfl rfl Try.func106 (by kernel_rfl) rfl #[.slice A0 l0.length c0, .int .i64 0, .int .i64 5] rfl tc1_ ?_; (with_reducible refine (impl_areWithin.calls k _ _ l0 0 5 t101 _ ?side1 ?side2 A2.out).mono ?_); (case side1 => repeat (first | exact HR0.out | (with_reducible refine Kd.C_alloc ?_ _) | (with_reducible refine Kd.C_drewN ?_ _) | (with_reducible refine Kd.C_drew ?_))); (case side2 => exact HC0.out); rintro e w3 ⟨rfl, hb⟩; refine ⟨_, rfl, ?_⟩; have n0_ := Aside0.mk (below_step tc0_ hb); clear HB; have HB := n0_; clear n0_; (try clear hb); (try clear hb2); (try clear hk); (try clear hi)))
 go_ret
 exact ⟨by first | rfl | (simp [errW_none, errW_some] <;> rfl) | (simp [*, errW_none, errW_some] <;> rfl), by repeat (first | (with_reducible first | exact HB.out | apply below_alloc | apply pw_below_drewN | apply below_drew1) | exact HB.out)⟩

/-! ### impl_power: function 54 -/
def impl_power.l0 : Nat → Int → Int → Int → Int → Option (Int)
 | 0, _, _, _, _ => none
 | k + 1, x0, x5, x6, x7 => if x7 < x6 then (impl_power.l0 k x0 (wrap64 (x5 * x0)) x6 (wrap64 (x7 + 1))) else (some x5)
def impl_power.f (k : Nat) (a0 : Int) (a1 : Int) : Option (Int) := impl_power.l0 k a0 1 a1 0
theorem impl_power.mono_l : ∀ k, (∀ y0 y1 y2 y3, LeO (impl_power.l0 k y0 y1 y2 y3) (impl_power.l0 (k + 1) y0 y1 y2 y3))
 | 0 => fun _ _ _ _ r h => by simp [impl_power.l0] at h
 | k + 1 => by
  have ih0 := impl_power.mono_l k
  ·intro y0 y1 y2 y3
   unfold impl_power.l0
   repeat' first
   | (with_reducible exact ih0 _ _ _ _)
   | (with_reducible exact LeO.refl _)
   | (with_reducible exact LeO.none _)
   | (with_reducible refine LeO.ite ?_ ?_)
   | (with_reducible refine LeO.bind ?_ (fun _ => ?_))
   | exact ih0 _ _ _ _
   | exact LeO.none _
   | refine LeO.ite ?_ ?_
   | refine LeO.bind ?_ (fun _ => ?_)
theorem impl_power.mono : ∀ a0 a1  k, LeO (impl_power.f k a0 a1) (impl_power.f (k + 1) a0 a1) := by
 intro a0 a1 k
 have ih0 := impl_power.mono_l k
 unfold impl_power.f
 repeat' first
   | (with_reducible exact ih0 _ _ _ _)
   | (with_reducible exact LeO.refl _)
   | (with_reducible exact LeO.none _)
   | (with_reducible refine LeO.ite ?_ ?_)
   | (with_reducible refine LeO.bind ?_ (fun _ => ?_))
   | exact ih0 _ _ _ _
   | exact LeO.none _
   | refine LeO.ite ?_ ?_
   | refine LeO.bind ?_ (fun _ => ?_)
set_option maxHeartbeats 8000000 in
set_option maxRecDepth 100000 in
theorem impl_power.calls (k : Nat) (a0 : Int) (a1 : Int) (r : Int) (w : World) (h : impl_power.f k a0 a1 = some r) :
  Calls Try.prog 54 #[.int .i64 a0, .int .i64 a1] w fun e w' => e = .returned (.int .i64 r) ∧ Drawn0 w w' := by
 have H : (impl_power.l0 k a0 1 a1 0) = some r := h
 clear h
 have H' := Aside0.mk H
 clear H
 go_enter Try.func54, Try.ntmps54
 go_wp2
 go_loopg [5, 7] k (fun kq v5 v7 w' => ∃ (x5_1 : Int) (x7_1 : Int), v5 = .int .i64 x5_1 ∧ v7 = .int .i64 x7_1 ∧ Aside0 (impl_power.l0 kq a0 x5_1 a1 x7_1 = some r) ∧ Aside0 (kq ≤ k) ∧ Drawn0 w w')
 case atStart => exact ⟨(1), (0), tc4_, tc4_, H', ⟨Nat.le_refl _⟩, by repeat (first | exact Drawn0.refl _ | apply Drawn0.step)⟩
 case round =>
  clear H'
  try clear p2
  obtain ⟨x5_1, x7_1, rfl, rfl, HA, HK1, ⟨m1, rfl⟩⟩ := hrel
  cases gk with
  | zero => exact absurd HA.out (by simp [impl_power.l0])
  | succ k1 =>
   have H := HA.out
   clear HA
   simp only [impl_power.l0] at H
   by_cases c3 : x7_1 < a1
   ·rw [if_pos c3] at H
    have c3b0 : decide (x7_1 < a1) = true := decide_eq_true c3
    clear c3
    have H' := Aside0.mk H
    clear H
    go_wp2
    go_roundg k1
    case measure => have := HK1.out; omega
    case rel => exact ⟨(wrap64 (x5_1 * a0)), (wrap64 (x7_1 + 1)), tc4_, tc4_, H', ⟨by have := HK1.out; omega⟩, by repeat (first | exact Drawn0.refl _ | apply Drawn0.step)⟩
   ·rw [if_neg c3] at H
    have c3b0 : decide (x7_1 < a1) = false := decide_eq_false c3
    clear c3
    obtain rfl := Option.some.inj H
    go_wp2
    go_ret
    exact ⟨by first | rfl | (simp; done) | (simp [*]; done), by repeat (first | exact Drawn0.refl _ | apply Drawn0.step)⟩

/-! ### impl_FreeSum: function 8 -/
def impl_FreeSum.f (k : Nat) (a0 : Int) (a1 : Int) (a2 : Int) : Option (Int × Bool) := (impl_isWeighted.f a0).bind fun t101 => (if t101 = true then ((impl_areBases.f k (([a1, a2] : List Int))).bind fun t105 => (if t105 = true then ((impl_power.f k (wrap64 (a1 + a2)) (wrap64 (Int.tdiv (wrap64 (a0 * (wrap64 (a0 - 1)))) 2))).bind fun t106 => (some (t106, true))) else (some (0, false)))) else (some (0, false)))
theorem impl_FreeSum.mono : ∀ a0 a1 a2  k, LeO (impl_FreeSum.f k a0 a1 a2) (impl_FreeSum.f (k + 1) a0 a1 a2) := by
 intro a0 a1 a2 k
 unfold impl_FreeSum.f
 repeat' first
   | (with_reducible exact impl_areBases.mono _ _)
   | (with_reducible exact impl_power.mono _ _ _)
   | (with_reducible exact LeO.refl _)
   | (with_reducible exact LeO.none _)
   | (with_reducible refine LeO.ite ?_ ?_)
   | (with_reducible refine LeO.bind ?_ (fun _ => ?_))
   | exact impl_areBases.mono _ _
   | exact impl_power.mono _ _ _
   | exact LeO.none _
   | refine LeO.ite ?_ ?_
   | refine LeO.bind ?_ (fun _ => ?_)
set_option maxHeartbeats 8000000 in
set_option maxRecDepth 100000 in
theorem impl_FreeSum.calls (k : Nat) (a0 : Int) (a1 : Int) (a2 : Int) (r1 : Int) (r2 : Bool) (w : World) (h : impl_FreeSum.f k a0 a1 a2 = some (r1, r2)) :
  Calls Try.prog 8 #[.int .i64 a0, .int .i64 a1, .int .i64 a2] w fun e w' => e = .returned (.tuple #[.int .i64 r1, .bool r2]) ∧ Below w.heap.size w w' := by
 have HB := Aside0.mk (Below.refl w.heap.size w)
 have H : ((impl_isWeighted.f a0).bind fun t101 => (if t101 = true then ((impl_areBases.f k (([a1, a2] : List Int))).bind fun t105 => (if t105 = true then ((impl_power.f k (wrap64 (a1 + a2)) (wrap64 (Int.tdiv (wrap64 (a0 * (wrap64 (a0 - 1)))) 2))).bind fun t106 => (some (t106, true))) else (some (0, false)))) else (some (0, false)))) = some (r1, r2) := h
 clear h
 replace H := Option.bind_eq_some_iff.mp H
 obtain ⟨t101, A40, H⟩ := H
 replace H : (if t101 = true then ((impl_areBases.f k (([a1, a2] : List Int))).bind fun t105 => (if t105 = true then ((impl_power.f k (wrap64 (a1 + a2)) (wrap64 (Int.tdiv (wrap64 (a0 * (wrap64 (a0 - 1)))) 2))).bind fun t106 => (some (t106, true))) else (some (0, false)))) else (some (0, false))) = some (r1, r2) := H
 have A4 := Aside0.mk A40
 clear A40
 by_cases c5 : t101 = true
 ·subst c5
  have H1 : ((impl_areBases.f k (([a1, a2] : List Int))).bind fun t105 => (if t105 = true then ((impl_power.f k (wrap64 (a1 + a2)) (wrap64 (Int.tdiv (wrap64 (a0 * (wrap64 (a0 - 1)))) 2))).bind fun t106 => (some (t106, true))) else (some (0, false)))) = some (r1, r2) := by rw [if_pos rfl] at H; exact H
  clear H
  have H := H1
  clear H1
  obtain ⟨y102, hy102⟩ : ∃ y_ : List Int, y_ = (([a1, a2] : List Int)) := ⟨_, rfl⟩
  replace H : ((impl_areBases.f k y102).bind fun t105 => (if t105 = true then ((impl_power.f k (wrap64 (a1 + a2)) (wrap64 (Int.tdiv (wrap64 (a0 * (wrap64 (a0 - 1)))) 2))).bind fun t106 => (some (t106, true))) else (some (0, false)))) = some (r1, r2) := by first | (rw [hy102]; with_reducible exact H) | (have H2_ := (Option.bind_some _ _).symm.trans H; rw [hy102]; with_reducible exact H2_) | (have H2_ := (Option.bind_some _ _).symm.trans H; with_reducible exact H2_) | with_reducible exact H | (rw [hy102]; exact H) | exact H
  have Ny102 := Aside0.mk hy102
  clear hy102
  replace H := Option.bind_eq_some_iff.mp H
  obtain ⟨t105, A60, H⟩ := H
  replace H : (if t105 = true then ((impl_power.f k (wrap64 (a1 + a2)) (wrap64 (Int.tdiv (wrap64 (a0 * (wrap64 (a0 - 1)))) 2))).bind fun t106 => (some (t106, true))) else (some (0, false))) = some (r1, r2) := H
  have A6 := Aside0.mk A60
  clear A60
  by_cases c7 : t105 = true
  ·subst c7
   have H1 : ((impl_power.f k (wrap64 (a1 + a2)) (wrap64 (Int.tdiv (wrap64 (a0 * (wrap64 (a0 - 1)))) 2))).bind fun t106 => (some (t106, true))) = some (r1, r2) := by rw [if_pos rfl] at H; exact H
   clear H
   have H := H1
   clear H1
   replace H := Option.bind_eq_some_iff.mp H
   obtain ⟨t106, A80, H⟩ := H
   replace H : (some (t106, true)) = some (r1, r2) := H
   have A8 := Aside0.mk A80
   clear A80
   simp only [Option.some.injEq, Prod.mk.injEq] at H
   obtain ⟨rfl, rfl⟩ := H
   go_enter Try.func8, Try.ntmps8
   go_wp2_with (first | ((with_reducible refine gate_callee (f := 52) rfl ?_); refine goesL_ (some 9) rfl rfl Try.func52 (by kernel_rfl) rfl #[.int .i64 a0] rfl tc1_ ?_; (with_reducible refine (impl_isWeighted.calls a0 true _ A4.out).mono ?_); rintro e w' ⟨rfl, ⟨nd, rfl⟩⟩; refine ⟨_, rfl, ?_⟩) | ((with_reducible refine gate_dst (N := 14) rfl ?_); (try (refine gate_guard (by rfl) ?_; dsimp only)); refine Kd.R_lit (Kd.int .i64) _ 3 ?hg (N := 14) ?hd (xs := ([a1, a2] : List Int)) (inner := [.int .i64 a1, .int .i64 a2]) (ok := fun _ => True) (okp := fun _ => True) ?hr ?hp (fun _ hk => hk) trivial (Below.refl _ _) (Nat.le_refl _) (by simp) ?_; (case hd => rfl); (case hg => rfl); (case hr => first | (go_simp; done) | (go_simp; rfl)); (case hp => exact (Reps.one (show Kd.M (Kd.int .i64) _ _ _ a1 [.int .i64 a1] from rfl) (Reps.one (show Kd.M (Kd.int .i64) _ _ _ a2 [.int .i64 a2] from rfl) (Reps.none _ _)))); intro v103 w9 ho10 hb hg_ hnew_; clear hg_ hnew_; (first | rw [← Ny102.out] at ho10 | (simp only [Int.reduceToNat] at ho10; rw [← Ny102.out] at ho10)); have n0_ := Aside0.mk (Kd.R_lower ho10 (below_size tc0_)); have n1_ := Aside0.mk (below_step tc0_ hb); clear HB; have HO104 := n0_; have HB := n1_; clear n0_ n1_; clear hb ho10; obtain ⟨Ao11, co11, eo11⟩ := Kd.R_slice HO104.out; subst eo11) | (go_at_call 53; (with_reducible refine (impl_areBases.calls k _ _ y102 true _ ?side1 ?side2 A6.out).mono ?_); (case side1 => repeat (first | exact (Kd.R_reads' HO104.out).2.2 | (with_reducible refine Kd.C_alloc ?_ _) | (with_reducible refine Kd.C_drewN ?_ _) | (with_reducible refine Kd.C_drew ?_))); (case side2 => exact (Kd.R_reads' HO104.out).2.1); rintro e w12 ⟨rfl, hb⟩; have n0_ := Aside0.mk (Kd.R_below tc18_ hb); have n1_ := Aside0.mk (below_step tc0_ hb); clear HO104; clear HB; have HO104 := n0_; have HB := n1_; clear n0_ n1_; (try clear hb); (try clear hb2); (try clear hk); (try clear hi)) | ((with_reducible refine gate_callee (f := 54) rfl ?_); refine goesL_ (some 26) rfl rfl Try.func54 (by kernel_rfl) rfl #[.int .i64 (wrap64 (a1 + a2)), .int .i64 (wrap64 (Int.tdiv (wrap64 (a0 * (wrap64 (a0 - 1)))) 2))] rfl tc1_ ?_; (with_reducible refine (impl_power.calls k (wrap64 (a1 + a2)) (wrap64 (Int.tdiv (wrap64 (a0 * (wrap64 (a0 - 1)))) 2)) t106 _ A8.out).mono ?_); rintro e w' ⟨rfl, ⟨nd, rfl⟩⟩; refine ⟨_, rfl, ?_⟩))
   go_ret2
   exact ⟨by first | rfl | (simp [errW_none, errW_some] <;> rfl) | (simp [*, errW_none, errW_some] <;> rfl), by repeat (first | (with_reducible first | exact HB.out | apply below_alloc | apply pw_below_drewN | apply below_drew1) | exact HB.out)⟩
  ·replace c7 := Bool.eq_false_iff.mpr c7
   subst c7
   have H1 : (some (0, false)) = some (r1, r2) := by rw [if_neg (show ¬ (false = true) by decide)] at H; exact H
   clear H
   have H := H1
   clear H1
   simp only [Option.some.injEq, Prod.mk.injEq] at H
   obtain ⟨rfl, rfl⟩ := H
   go_enter Try.func8, Try.ntmps8
   go_wp2_with (first | ((with_reducible refine gate_callee (f := 52) rfl ?_); refine goesL_ (some 9) rfl rfl Try.func52 (by kernel_rfl) rfl #[.int .i64 a0] rfl tc1_ ?_; (with_reducible refine (impl_isWeighted.calls a0 true _ A4.out).mono ?_); rintro e w' ⟨rfl, ⟨nd, rfl⟩⟩; refine ⟨_, rfl, ?_⟩) | ((with_reducible refine gate_dst (N := 14) rfl ?_); (try (refine gate_guard (by rfl) ?_; dsimp only)); refine Kd.R_lit (Kd.int .i64) _ 3 ?hg (N := 14) ?hd (xs := ([a1, a2] : List Int)) (inner := [.int .i64 a1, .int .i64 a2]) (ok := fun _ => True) (okp := fun _ => True) ?hr ?hp (fun _ hk => hk) trivial (Below.refl _ _) (Nat.le_refl _) (by simp) ?_; (case hd => rfl); (case hg => rfl); (case hr => first | (go_simp; done) | (go_simp; rfl)); (case hp => exact (Reps.one (show Kd.M (Kd.int .i64) _ _ _ a1 [.int .i64 a1] from rfl) (Reps.one (show Kd.M (Kd.int .i64) _ _ _ a2 [.int .i64 a2] from rfl) (Reps.none _ _)))); intro v103 w13 ho14 hb hg_ hnew_; clear hg_ hnew_; (first | rw [← Ny102.out] at ho14 | (simp only [Int.reduceToNat] at ho14; rw [← Ny102.out] at ho14)); have n0_ := Aside0.mk (Kd.R_lower ho14 (below_size tc0_)); have n1_ := Aside0.mk (below_step tc0_ hb); clear HB; have HO104 := n0_; have HB := n1_; clear n0_ n1_; clear hb ho14; obtain ⟨Ao15, co15, eo15⟩ := Kd.R_slice HO104.out; subst eo15) | (go_at_call 53; (with_reducible refine (impl_areBases.calls k _ _ y102 false _ ?side1 ?side2 A6.out).mono ?_); (case side1 => repeat (first | exact (Kd.R_reads' HO104.out).2.2 | (with_reducible refine Kd.C_alloc ?_ _) | (with_reducible refine Kd.C_drewN ?_ _) | (with_reducible refine Kd.C_drew ?_))); (case side2 => exact (Kd.R_reads' HO104.out).2.1); rintro e w16 ⟨rfl, hb⟩; have n0_ := Aside0.mk (Kd.R_below tc18_ hb); have n1_ := Aside0.mk (below_step tc0_ hb); clear HO104; clear HB; have HO104 := n0_; have HB := n1_; clear n0_ n1_; (try clear hb); (try clear hb2); (try clear hk); (try clear hi)))
   go_ret2
   exact ⟨by first | rfl | (simp [errW_none, errW_some] <;> rfl) | (simp [*, errW_none, errW_some] <;> rfl), by repeat (first | (with_reducible first | exact HB.out | apply below_alloc | apply pw_below_drewN | apply below_drew1) | exact HB.out)⟩
 ·replace c5 := Bool.eq_false_iff.mpr c5
  subst c5
  have H1 : (some (0, false)) = some (r1, r2) := by rw [if_neg (show ¬ (false = true) by decide)] at H; exact H
  clear H
  have H := H1
  clear H1
  simp only [Option.some.injEq, Prod.mk.injEq] at H
  obtain ⟨rfl, rfl⟩ := H
  go_enter Try.func8, Try.ntmps8
  go_wp2_with (first | ((with_reducible refine gate_callee (f := 52) rfl ?_); refine goesL_ (some 9) rfl rfl Try.func52 (by kernel_rfl) rfl #[.int .i64 a0] rfl tc1_ ?_; (with_reducible refine (impl_isWeighted.calls a0 false _ A4.out).mono ?_); rintro e w' ⟨rfl, ⟨nd, rfl⟩⟩; refine ⟨_, rfl, ?_⟩))
  go_ret2
  exact ⟨by first | rfl | (simp [errW_none, errW_some] <;> rfl) | (simp [*, errW_none, errW_some] <;> rfl), by repeat (first | (with_reducible first | exact HB.out | apply below_alloc | apply pw_below_drewN | apply below_drew1) | exact HB.out)⟩

/-! ### spec_l1In: function 89 -/
def spec_l1In.f (a0 : Int) (a1 : Int) (a2 : Int) : Option (Bool) := if a0 ≥ a1 then (some (decide (a0 ≤ a2))) else (some false)
set_option maxHeartbeats 8000000 in
set_option maxRecDepth 100000 in
theorem spec_l1In.calls (a0 : Int) (a1 : Int) (a2 : Int) (r : Bool) (w : World) (h : spec_l1In.f a0 a1 a2 = some r) :
  Calls Try.prog 89 #[.int .i64 a0, .int .i64 a1, .int .i64 a2] w fun e w' => e = .returned (.bool r) ∧ Drawn0 w w' := by
 have H : (if a0 ≥ a1 then (some (decide (a0 ≤ a2))) else (some false)) = some r := h
 clear h
 by_cases c4 : a0 ≥ a1
 ·rw [if_pos c4] at H
  have c4b0 : decide (a1 ≤ a0) = true := decide_eq_true c4
  clear c4
  obtain rfl := Option.some.inj H
  go_enter Try.func89, Try.ntmps89
  go_wp2
  go_ret
  exact ⟨by first | rfl | (simp; done) | (simp [*]; done), by repeat (first | exact Drawn0.refl _ | apply Drawn0.step)⟩
 ·rw [if_neg c4] at H
  have c4b0 : decide (a1 ≤ a0) = false := decide_eq_false c4
  clear c4
  obtain rfl := Option.some.inj H
  go_enter Try.func89, Try.ntmps89
  go_wp2
  go_ret
  exact ⟨by first | rfl | (simp; done) | (simp [*]; done), by repeat (first | exact Drawn0.refl _ | apply Drawn0.step)⟩

/-! ### spec_weSide: function 55 -/
def spec_weSide.f (a0 : Int) : Option (Bool) := (spec_l1In.f a0 1 4).bind fun t101 => (some t101)
set_option maxHeartbeats 8000000 in
set_option maxRecDepth 100000 in
theorem spec_weSide.calls (a0 : Int) (r : Bool) (w : World) (h : spec_weSide.f a0 = some r) :
  Calls Try.prog 55 #[.int .i64 a0] w fun e w' => e = .returned (.bool r) ∧ Drawn0 w w' := by
 have H : ((spec_l1In.f a0 1 4).bind fun t101 => (some t101)) = some r := h
 clear h
 replace H := Option.bind_eq_some_iff.mp H
 obtain ⟨t101, A20, H⟩ := H
 replace H : (some t101) = some r := H
 have A2 := Aside0.mk A20
 clear A20
 obtain rfl := Option.some.inj H
 go_enter Try.func55, Try.ntmps55
 go_wp2_with (first | ((with_reducible refine gate_callee (f := 89) rfl ?_); refine goesL_ (some 4) rfl rfl Try.func89 (by kernel_rfl) rfl #[.int .i64 a0, .int .i64 1, .int .i64 4] rfl tc1_ ?_; (with_reducible refine (spec_l1In.calls a0 1 4 t101 _ A2.out).mono ?_); rintro e w' ⟨rfl, ⟨nd, rfl⟩⟩; refine ⟨_, rfl, ?_⟩))
 go_ret
 exact ⟨by first | rfl | (simp; done) | (simp [*]; done), by repeat (first | exact Drawn0.refl _ | apply Drawn0.step)⟩

/-! ### spec_l1All: function 90 -/
def spec_l1All.l0 : Nat → Int → Int → List Int → Int → Int → Option (Bool)
 | 0, _, _, _, _, _ => none
 | k + 1, x1, x2, x9, x10, x11 => if x11 < x10 then (if 0 ≤ x11 then (if x11 < (x9.length : Int) then ((spec_l1In.f (rd x9 x11) x1 x2).bind fun t102 => (if t102 = true then (spec_l1All.l0 k x1 x2 x9 x10 (wrap64 (x11 + 1))) else (some false))) else (none)) else (none)) else (some true)
def spec_l1All.f (k : Nat) (l0 : List Int) (a1 : Int) (a2 : Int) : Option (Bool) := spec_l1All.l0 k a1 a2 l0 (l0.length : Int) 0
theorem spec_l1All.mono_l : ∀ k, (∀ y0 y1 y2 y3 y4, LeO (spec_l1All.l0 k y0 y1 y2 y3 y4) (spec_l1All.l0 (k + 1) y0 y1 y2 y3 y4))
 | 0 => fun _ _ _ _ _ r h => by simp [spec_l1All.l0] at h
 | k + 1 => by
  have ih0 := spec_l1All.mono_l k
  ·intro y0 y1 y2 y3 y4
   unfold spec_l1All.l0
   repeat' first
   | (with_reducible exact ih0 _ _ _ _ _)
   | (with_reducible exact LeO.refl _)
   | (with_reducible exact LeO.none _)
   | (with_reducible refine LeO.ite ?_ ?_)
   | (with_reducible refine LeO.bind ?_ (fun _ => ?_))
   | exact ih0 _ _ _ _ _
   | exact LeO.none _
   | refine LeO.ite ?_ ?_
   | refine LeO.bind ?_ (fun _ => ?_)
theorem spec_l1All.mono : ∀ a0 a1 a2  k, LeO (spec_l1All.f k a0 a1 a2) (spec_l1All.f (k + 1) a0 a1 a2) := by
 intro a0 a1 a2 k
 have ih0 := spec_l1All.mono_l k
 unfold spec_l1All.f
 repeat' first
   | (with_reducible exact ih0 _ _ _ _ _)
   | (with_reducible exact LeO.refl _)
   | (with_reducible exact LeO.none _)
   | (with_reducible refine LeO.ite ?_ ?_)
   | (with_reducible refine LeO.bind ?_ (fun _ => ?_))
   | exact ih0 _ _ _ _ _
   | exact LeO.none _
   | refine LeO.ite ?_ ?_
   | refine LeO.bind ?_ (fun _ => ?_)
set_option maxHeartbeats 8000000 in
set_option maxRecDepth 100000 in
theorem spec_l1All.calls (k : Nat) (A0 : Option Addr) (c0 : Nat) (l0 : List Int) (a1 : Int) (a2 : Int) (r : Bool) (w : World) (hr0 : Kd.C (Kd.int .i64) w A0 l0.length l0) (hc0 : l0.length ≤ c0) (h : spec_l1All.f k l0 a1 a2 = some r) :
  Calls Try.prog 90 #[.slice A0 l0.length c0, .int .i64 a1, .int .i64 a2] w fun e w' => e = .returned (.bool r) ∧ Drawn0 w w' := by
 have HR0 := Aside0.mk hr0
 have HC0 := Aside0.mk hc0
 clear hr0 hc0
 have H : (spec_l1All.l0 k a1 a2 l0 (l0.length : Int) 0) = some r := h
 clear h
 have H' := Aside0.mk H
 clear H
 go_enter Try.func90, Try.ntmps90
 go_wp2
 go_loopg [11] k (fun kq v11 w' => ∃ (x11_1 : Int), v11 = .int .i64 x11_1 ∧ Aside0 (spec_l1All.l0 kq a1 a2 l0 (l0.length : Int) x11_1 = some r) ∧ Aside0 (kq ≤ k) ∧ Drawn0 w w')
 case atStart => exact ⟨(0), tc4_, H', ⟨Nat.le_refl _⟩, by repeat (first | exact Drawn0.refl _ | apply Drawn0.step)⟩
 case round =>
  clear H'
  try clear p2
  obtain ⟨x11_1, rfl, HA, HK1, ⟨m1, rfl⟩⟩ := hrel
  cases gk with
  | zero => exact absurd HA.out (by simp [spec_l1All.l0])
  | succ k1 =>
   have H := HA.out
   clear HA
   simp only [spec_l1All.l0] at H
   by_cases c4 : x11_1 < (l0.length : Int)
   ·rw [if_pos c4] at H
    have c4b0 : decide (x11_1 < (l0.length : Int)) = true := decide_eq_true c4
    clear c4
    by_cases c5 : 0 ≤ x11_1
    ·rw [if_pos c5] at H
     have c5b0 : decide (0 ≤ x11_1) = true := decide_eq_true c5
     clear c5
     by_cases c6 : x11_1 < (l0.length : Int)
     ·rw [if_pos c6] at H
      have c6b0 : decide (x11_1 < (l0.length : Int)) = true := decide_eq_true c6
      clear c6
      replace H := Option.bind_eq_some_iff.mp H
      obtain ⟨t102, A70, H⟩ := H
      replace H : (if t102 = true then (spec_l1All.l0 k1 a1 a2 l0 (l0.length : Int) (wrap64 (x11_1 + 1))) else (some false)) = some r := H
      have A7 := Aside0.mk A70
      clear A70
      by_cases c8 : t102 = true
      ·subst c8
       have H1 : (spec_l1All.l0 k1 a1 a2 l0 (l0.length : Int) (wrap64 (x11_1 + 1))) = some r := by rw [if_pos rfl] at H; exact H
       clear H
       have H := H1
       clear H1
       have H' := Aside0.mk H
       clear H
       have p101 : 0 ≤ (x11_1 : Int) := of_decide_eq_true tc2_
       have q101 : x11_1 < (l0.length : Int) := of_decide_eq_true tc2_
       obtain ⟨ad101, e101, hx101_0⟩ := Kd.at_int HR0.out x11_1 p101 q101
       cases e101
       replace p101 := eq_true p101
       replace q101 := eq_true q101
       go_wp2_with (first | ((with_reducible refine gate_callee (f := 89) rfl ?_); refine goesL_ (some 18) rfl rfl Try.func89 (by kernel_rfl) rfl #[.int .i64 (rd l0 x11_1), .int .i64 a1, .int .i64 a2] rfl tc1_ ?_; (with_reducible refine (spec_l1In.calls (rd l0 x11_1) a1 a2 true _ A7.out).mono ?_); rintro e w' ⟨rfl, ⟨nd, rfl⟩⟩; refine ⟨_, rfl, ?_⟩))
       go_roundg k1
       case measure => have := HK1.out; omega
       case rel => exact ⟨(wrap64 (x11_1 + 1)), tc4_, H', ⟨by have := HK1.out; omega⟩, by repeat (first | exact Drawn0.refl _ | apply Drawn0.step)⟩
      ·replace c8 := Bool.eq_false_iff.mpr c8
       subst c8
       have H1 : (some false) = some r := by rw [if_neg (show ¬ (false = true) by decide)] at H; exact H
       clear H
       have H := H1
       clear H1
       obtain rfl := Option.some.inj H
       have p101 : 0 ≤ (x11_1 : Int) := of_decide_eq_true tc2_
       have q101 : x11_1 < (l0.length : Int) := of_decide_eq_true tc2_
       obtain ⟨ad101, e101, hx101_0⟩ := Kd.at_int HR0.out x11_1 p101 q101
       cases e101
       replace p101 := eq_true p101
       replace q101 := eq_true q101
       go_wp2_with (first | ((with_reducible refine gate_callee (f := 89) rfl ?_); refine goesL_ (some 18) rfl rfl Try.func89 (by kernel_rfl) rfl #[.int .i64 (rd l0 x11_1), .int .i64 a1, .int .i64 a2] rfl tc1_ ?_; (with_reducible refine (spec_l1In.calls (rd l0 x11_1) a1 a2 false _ A7.out).mono ?_); rintro e w' ⟨rfl, ⟨nd, rfl⟩⟩; refine ⟨_, rfl, ?_⟩))
       go_ret
       exact ⟨by first | rfl | (simp; done) | (simp [*]; done), by repeat (first | exact Drawn0.refl _ | apply Drawn0.step)⟩
     ·rw [if_neg c6] at H
      exact absurd H (by simp)
    ·rw [if_neg c5] at H
     exact absurd H (by simp)
   ·rw [if_neg c4] at H
    have c4b0 : decide (x11_1 < (l0.length : Int)) = false := decide_eq_false c4
    clear c4
    obtain rfl := Option.some.inj H
    go_wp2
    go_ret
    exact ⟨by first | rfl | (simp; done) | (simp [*]; done), by repeat (first | exact Drawn0.refl _ | apply Drawn0.step)⟩

/-! ### spec_weWeights: function 56 -/
def spec_weWeights.f (k : Nat) (l0 : List Int) : Option (Bool) := (spec_l1All.f k l0 0 5).bind fun t101 => (some t101)
theorem spec_weWeights.mono : ∀ a0  k, LeO (spec_weWeights.f k a0) (spec_weWeights.f (k + 1) a0) := by
 intro a0 k
 unfold spec_weWeights.f
 repeat' first
   | (with_reducible exact spec_l1All.mono _ _ _ _)
   | (with_reducible exact LeO.refl _)
   | (with_reducible exact LeO.none _)
   | (with_reducible refine LeO.ite ?_ ?_)
   | (with_reducible refine LeO.bind ?_ (fun _ => ?_))
   | exact spec_l1All.mono _ _ _ _
   | exact LeO.none _
   | refine LeO.ite ?_ ?_
   | refine LeO.bind ?_ (fun _ => ?_)
set_option maxHeartbeats 8000000 in
set_option maxRecDepth 100000 in
theorem spec_weWeights.calls (k : Nat) (A0 : Option Addr) (c0 : Nat) (l0 : List Int) (r : Bool) (w : World) (hr0 : Kd.C (Kd.int .i64) w A0 l0.length l0) (hc0 : l0.length ≤ c0) (h : spec_weWeights.f k l0 = some r) :
  Calls Try.prog 56 #[.slice A0 l0.length c0] w fun e w' => e = .returned (.bool r) ∧ Drawn0 w w' := by
 have HR0 := Aside0.mk hr0
 have HC0 := Aside0.mk hc0
 clear hr0 hc0
 have H : ((spec_l1All.f k l0 0 5).bind fun t101 => (some t101)) = some r := h
 clear h
 replace H := Option.bind_eq_some_iff.mp H
 obtain ⟨t101, A20, H⟩ := H
 replace H : (some t101) = some r := H
 have A2 := Aside0.mk A20
 clear A20
 obtain rfl := Option.some.inj H
 go_enter Try.func56, Try.ntmps56
 go_wp2_with (first | ((with_reducible refine gate_callee (f := 90) rfl ?_); refine goesL_ (some 4) rfl rfl Try.func90 (by kernel_rfl) rfl #[.slice A0 l0.length c0, .int .i64 0, .int .i64 5] rfl tc1_ ?_; (with_reducible refine (spec_l1All.calls k _ _ l0 0 5 t101 _ ?side1 ?side2 A2.out).mono ?_); (case side1 => repeat (first | exact HR0.out | (with_reducible refine Kd.C_alloc ?_ _) | (with_reducible refine Kd.C_drewN ?_ _) | (with_reducible refine Kd.C_drew ?_))); (case side2 => exact HC0.out); rintro e w' ⟨rfl, ⟨nd, rfl⟩⟩; refine ⟨_, rfl, ?_⟩))
 go_ret
 exact ⟨by first | rfl | (simp; done) | (simp [*]; done), by repeat (first | exact Drawn0.refl _ | apply Drawn0.step)⟩

/-! ### spec_l1Own: function 76 -/
def spec_l1Own.f (l0 : List Int) : Option (List Int) := (some (([] : List Int) : List Int)).bind fun y101 => (if y101.length + l0.length < 17592186044416 then (some (y101 ++ l0)) else (none))
set_option maxHeartbeats 8000000 in
set_option maxRecDepth 100000 in
theorem spec_l1Own.calls (A0 : Option Addr) (c0 : Nat) (l0 : List Int) (r : List Int) (w : World) (hr0 : Kd.C (Kd.int .i64) w A0 l0.length l0) (hc0 : l0.length ≤ c0) (h : spec_l1Own.f l0 = some r) :
  Calls Try.prog 76 #[.slice A0 l0.length c0] w fun e w' => ∃ v0_ : Value, e = .returned (v0_) ∧ Kd.R (Kd.int .i64) 3 w' w.heap.size (fun _ => True) v0_ r ∧ Below w.heap.size w w' := by
 have HR0 := Aside0.mk hr0
 have HC0 := Aside0.mk hc0
 clear hr0 hc0
 have HB := Aside0.mk (Below.refl w.heap.size w)
 have H : ((some (([] : List Int) : List Int)).bind fun y101 => (if y101.length + l0.length < 17592186044416 then (some (y101 ++ l0)) else (none))) = some r := h
 clear h
 obtain ⟨y101, hy101⟩ : ∃ y_ : List Int, y_ = (([] : List Int)) := ⟨_, rfl⟩
 replace H : (if y101.length + l0.length < 17592186044416 then (some (y101 ++ l0)) else (none)) = some r := by first | (rw [hy101]; with_reducible exact H) | (have H2_ := (Option.bind_some _ _).symm.trans H; rw [hy101]; with_reducible exact H2_) | (have H2_ := (Option.bind_some _ _).symm.trans H; with_reducible exact H2_) | with_reducible exact H | (rw [hy101]; exact H) | exact H
 have Ny101 := Aside0.mk hy101
 clear hy101
 by_cases c2 : y101.length + l0.length < 17592186044416
 ·rw [if_pos c2] at H
  have LMc2 := Aside0.mk c2
  clear c2
  obtain ⟨y104, hy104⟩ : ∃ y_ : List Int, y_ = (y101 ++ l0) := ⟨_, rfl⟩
  replace H : (some y104) = some r := by first | (rw [hy104]; with_reducible exact H) | (have H2_ := (Option.bind_some _ _).symm.trans H; rw [hy104]; with_reducible exact H2_) | (have H2_ := (Option.bind_some _ _).symm.trans H; with_reducible exact H2_) | with_reducible exact H | (rw [hy104]; exact H) | exact H
  have Ny104 := Aside0.mk hy104
  clear hy104
  obtain rfl := Option.some.inj H
  go_enter Try.func76, Try.ntmps76
  go_wp2_with (first | ((with_reducible refine gate_dst (N := 3) rfl ?_); refine Kd.R_lit (Kd.int .i64) _ 3 ?hg (N := 3) ?hd (xs := ([] : List Int)) (inner := []) (ok := fun _ => True) (okp := fun _ => True) ?hr ?hp (fun _ hk => hk) trivial (Below.refl _ _) (Nat.le_refl _) (by simp) ?_; (case hd => rfl); (case hg => rfl); (case hr => first | (go_simp; done) | (go_simp; rfl)); (case hp => exact (Reps.none _ _)); intro v102 w3 ho4 hb hg_ hnew_; clear hg_ hnew_; (first | rw [← Ny101.out] at ho4 | (simp only [Int.reduceToNat] at ho4; rw [← Ny101.out] at ho4)); have n0_ := Aside0.mk (Kd.R_lower ho4 (below_size tc0_)); have n1_ := Aside0.mk (below_step tc0_ hb); clear HB; have HO103 := n0_; have HB := n1_; clear n0_ n1_; clear hb ho4) | ((with_reducible refine gate_builtin (b := .append) (xs := #[.tmp 3, .tmp 4]) rfl ?_); at_builtin; refine Kd.R_append_rows (Kd.int .i64) (w0 := w) w.heap.size rfl (.tmp 3) (.tmp 4) 40 3 (.int .i64 0) 8 rfl Try.underlying40 info3 rfl (by decide) (by omega) v102 y101 l0 _ _ _ (fun _ => True) (fun _ => False) rfl rfl ?aO ?aR (fun _ _ h => h) (fun _ h => h.elim) ?aF ?aB ?aS ?aL ?_; (case aR => repeat (first | exact (Kd.C_below HR0.out HB.out) | (with_reducible refine Kd.C_alloc ?_ _) | (with_reducible refine Kd.C_drewN ?_ _) | (with_reducible refine Kd.C_drew ?_))); (case aB => exact tc0_); (case aF => exact (fun _ _ => trivial)); (case aO => exact tc19_); (case aS => exact (below_size tc0_)); (case aL => have := LMc2.out; omega); intro v105 w5 ho hb hg hat; rw [← Ny104.out] at ho; have n0_ := Aside0.mk (hb); have n1_ := Aside0.mk (ho); clear HB; clear HO103; have HB := n0_; have HO106 := n1_; clear n0_ n1_; clear ho hb hg hat))
  go_ret
  exact ⟨_, by first | rfl | (simp [errW_none, errW_some] <;> rfl) | (simp [*, errW_none, errW_some] <;> rfl), by (with_reducible repeat (first | apply Kd.R_alloc | apply Kd.R_drewN | apply Kd.R_drew)); exact HO106.out, by repeat (first | (with_reducible first | exact HB.out | apply below_alloc | apply pw_below_drewN | apply below_drew1) | exact HB.out)⟩
 ·rw [if_neg c2] at H
  exact absurd H (by simp)

/-! ### spec_weRows: function 136 -/
mutual
def spec_weRows.l0 : Nat → List Int → List Int → Int → List (List Int) → Int → Option ((List (List Int)))
 | 0, _, _, _, _, _ => none
 | k + 1, x0, x1, x2, x7, x8 => if x8 ≤ 1 then ((spec_l1In.f (wrap64 (x2 + x8)) 0 1).bind fun t104 => (if t104 = true then (if 0 ≤ (x1.length : Int) then (if (x1.length : Int) < (x0.length : Int) then ((spec_l1In.f (wrap64 ((rd x0 (x1.length : Int)) + x8)) 0 1).bind fun t106 => (spec_weRows.j1 k x0 x1 x2 x7 x8 t106)) else (none)) else (none)) else (spec_weRows.j1 k x0 x1 x2 x7 x8 false))) else (some x7)
def spec_weRows.j1 : Nat → List Int → List Int → Int → List (List Int) → Int → Bool → Option ((List (List Int)))
 | 0, _, _, _, _, _, _ => none
 | k + 1, x0, x1, x2, x7, x8, x35 => if x35 = true then ((spec_l1Own.f x1).bind fun t107 => (if t107.length < 17592186044416 then ((spec_weRows.f k x0 (t107 ++ [x8]) (wrap64 (x2 + x8))).bind fun t113 => (if x7.length + t113.length < 5864062014805 then (spec_weRows.l0 k x0 x1 x2 (x7 ++ t113) (wrap64 (x8 + 1))) else (none))) else (none))) else (spec_weRows.l0 k x0 x1 x2 x7 (wrap64 (x8 + 1)))
def spec_weRows.f : Nat → List Int → List Int → Int → Option ((List (List Int)))
 | 0, _, _, _ => none
 | k + 1, l0, l1, a2 => if (l1.length : Int) = (l0.length : Int) then (if a2 = 1 then (some (([l1] : List (List Int)))) else (some ([] : List (List Int)))) else (spec_weRows.l0 k l0 l1 a2 ([] : List (List Int)) (-1))
end
theorem spec_weRows.mono_l : ∀ k, (∀ y0 y1 y2, LeO (spec_weRows.f k y0 y1 y2) (spec_weRows.f (k + 1) y0 y1 y2)) ∧ (∀ y0 y1 y2 y3 y4, LeO (spec_weRows.l0 k y0 y1 y2 y3 y4) (spec_weRows.l0 (k + 1) y0 y1 y2 y3 y4)) ∧ (∀ y0 y1 y2 y3 y4 y5, LeO (spec_weRows.j1 k y0 y1 y2 y3 y4 y5) (spec_weRows.j1 (k + 1) y0 y1 y2 y3 y4 y5))
 | 0 => ⟨fun _ _ _ r h => by simp [spec_weRows.f] at h, fun _ _ _ _ _ r h => by simp [spec_weRows.l0] at h, fun _ _ _ _ _ _ r h => by simp [spec_weRows.j1] at h⟩
 | k + 1 => by
  obtain ⟨ih0, ih1, ih2⟩ := spec_weRows.mono_l k
  refine ⟨?_, ?_, ?_⟩
  ·intro y0 y1 y2
   unfold spec_weRows.f
   repeat' first
   | (with_reducible exact ih0 _ _ _)
   | (with_reducible exact ih1 _ _ _ _ _)
   | (with_reducible exact ih2 _ _ _ _ _ _)
   | (with_reducible exact LeO.refl _)
   | (with_reducible exact LeO.none _)
   | (with_reducible refine LeO.ite ?_ ?_)
   | (with_reducible refine LeO.bind ?_ (fun _ => ?_))
   | exact ih0 _ _ _
   | exact ih1 _ _ _ _ _
   | exact ih2 _ _ _ _ _ _
   | exact LeO.none _
   | refine LeO.ite ?_ ?_
   | refine LeO.bind ?_ (fun _ => ?_)
  ·intro y0 y1 y2 y3 y4
   unfold spec_weRows.l0
   repeat' first
   | (with_reducible exact ih0 _ _ _)
   | (with_reducible exact ih1 _ _ _ _ _)
   | (with_reducible exact ih2 _ _ _ _ _ _)
   | (with_reducible exact LeO.refl _)
   | (with_reducible exact LeO.none _)
   | (with_reducible refine LeO.ite ?_ ?_)
   | (with_reducible refine LeO.bind ?_ (fun _ => ?_))
   | exact ih0 _ _ _
   | exact ih1 _ _ _ _ _
   | exact ih2 _ _ _ _ _ _
   | exact LeO.none _
   | refine LeO.ite ?_ ?_
   | refine LeO.bind ?_ (fun _ => ?_)
  ·intro y0 y1 y2 y3 y4 y5
   unfold spec_weRows.j1
   repeat' first
   | (with_reducible exact ih0 _ _ _)
   | (with_reducible exact ih1 _ _ _ _ _)
   | (with_reducible exact ih2 _ _ _ _ _ _)
   | (with_reducible exact LeO.refl _)
   | (with_reducible exact LeO.none _)
   | (with_reducible refine LeO.ite ?_ ?_)
   | (with_reducible refine LeO.bind ?_ (fun _ => ?_))
   | exact ih0 _ _ _
   | exact ih1 _ _ _ _ _
   | exact ih2 _ _ _ _ _ _
   | exact LeO.none _
   | refine LeO.ite ?_ ?_
   | refine LeO.bind ?_ (fun _ => ?_)
theorem spec_weRows.mono : ∀ a0 a1 a2  k, LeO (spec_weRows.f k a0 a1 a2) (spec_weRows.f (k + 1) a0 a1 a2) := by
 intro a0 a1 a2 k
 obtain ⟨ih0, ih1, ih2⟩ := spec_weRows.mono_l k
 exact ih0 a0 a1 a2
set_option maxHeartbeats 8000000 in
set_option maxRecDepth 100000 in
theorem spec_weRows.calls (k : Nat) : ∀ (A0 : Option Addr) (c0 : Nat) (l0 : List Int) (P1_ : Nat → Prop) (A1 : Option Addr) (c1 : Nat) (l1 : List Int) (a2 : Int) (r : List (List Int)) (w : World) (hr0 : Kd.C (Kd.int .i64) w A0 l0.length l0) (hc0 : l0.length ≤ c0) (hs1 : Kd.V (Kd.int .i64) 3 w w.heap.size (fun k_ => P1_ k_) (.slice A1 l1.length c1) l1) (h : spec_weRows.f k l0 l1 a2 = some r),
  Calls Try.prog 136 #[.slice A0 l0.length c0, .slice A1 l1.length c1, .int .i64 a2] w fun e w' => ∃ v0_ : Value, e = .returned (v0_) ∧ Kd.N (Kd.slice 3 (Kd.int .i64)) 40 w' w.heap.size (fun k_ => (P1_ k_ ∨ w.heap.size ≤ k_)) v0_ r ∧ Below w.heap.size w w' := by
 induction k using Nat.strongRecOn with
 | _ k ih =>
 intro A0 c0 l0 P1_ A1 c1 l1 a2 r w hr0 hc0 hs1 h
 cases k with
 | zero => exact absurd h (by simp [spec_weRows.f])
 | succ k =>
 simp only [spec_weRows.f] at h
 have HR0 := Aside0.mk hr0
 have HC0 := Aside0.mk hc0
 clear hr0 hc0
 have HO1 := Aside0.mk (show Kd.V (Kd.int .i64) 3 w w.heap.size (fun k_ => (P1_ k_ ∨ w.heap.size ≤ k_)) (.slice A1 l1.length c1) l1 from Kd.V_mono hs1 (fun k_ hk => .inl hk))
 have HB := Aside0.mk (Below.refl w.heap.size w)
 have H : (if (l1.length : Int) = (l0.length : Int) then (if a2 = 1 then (some (([l1] : List (List Int)))) else (some ([] : List (List Int)))) else (spec_weRows.l0 k l0 l1 a2 ([] : List (List Int)) (-1))) = some r := h
 clear h
 by_cases c4 : (l1.length : Int) = (l0.length : Int)
 ·rw [if_pos c4] at H
  have c4b0 : ((l1.length : Int) == (l0.length : Int)) = true := beq_iff_eq.mpr c4
  have c4b1 : ((l1.length : Int) != (l0.length : Int)) = false := bne_eq_false_iff_eq.mpr c4
  have c4b2 : (l1.length == l0.length) = true := by first | simpa using c4 | (simp at c4 ⊢; omega)
  clear c4
  by_cases c5 : a2 = 1
  ·rw [if_pos c5] at H
   have c5b0 : (a2 == 1) = true := beq_iff_eq.mpr c5
   have c5b1 : (a2 != 1) = false := bne_eq_false_iff_eq.mpr c5
   clear c5
   obtain ⟨y101, hy101⟩ : ∃ y_ : List (List Int), y_ = (([l1] : List (List Int))) := ⟨_, rfl⟩
   replace H : (some y101) = some r := by first | (rw [hy101]; with_reducible exact H) | (have H2_ := (Option.bind_some _ _).symm.trans H; rw [hy101]; with_reducible exact H2_) | (have H2_ := (Option.bind_some _ _).symm.trans H; with_reducible exact H2_) | with_reducible exact H | (rw [hy101]; exact H) | exact H
   have Ny101 := Aside0.mk hy101
   clear hy101
   obtain rfl := Option.some.inj H
   go_enter Try.func136, Try.ntmps136
   go_wp2_with (first | ((with_reducible refine gate_dst (N := 17) rfl ?_); (try (refine gate_guard (by rfl) ?_; dsimp only)); refine Kd.N_lit (Kd.slice 3 (Kd.int .i64)) _ 40 ?hg (N' := 17) ?hd (xs := ([l1] : List (List Int))) (inner := [.slice A1 l1.length c1]) (ok := (fun k_ => (P1_ k_ ∨ w.heap.size ≤ k_))) (okp := (fun k_ => (P1_ k_ ∨ w.heap.size ≤ k_))) ?hr ?hp (fun _ hk => hk) ((show ∀ k_, w.heap.size ≤ k_ → (fun k_ => (P1_ k_ ∨ w.heap.size ≤ k_)) k_ from fun k_ hk => (.inr (Nat.le_trans (below_size tc0_) hk))) _ (Nat.le_refl _)) (Below.refl _ _) (Nat.le_refl _) (by simp) ?_; (case hd => rfl); (case hg => rfl); (case hr => first | (go_simp; done) | (go_simp; rfl)); (case hp => exact (Reps.one (show Kd.FK (Kd.slice 3 (Kd.int .i64)) _ _ l1 [.slice A1 l1.length c1] from (Kd.FK_slice_mk (Kd.V_reads' (Kd.V_mono (ok' := (fun k_ => (P1_ k_ ∨ w.heap.size ≤ k_))) (HO1.out) (fun k_ hk => hk))).2.1 (Kd.V_F (Kd.V_mono (ok' := (fun k_ => (P1_ k_ ∨ w.heap.size ≤ k_))) (HO1.out) (fun k_ hk => hk))))) (Reps.none _ _))); intro v102 w6 ho7 hb hg_ hnew_; clear hg_ hnew_; (first | rw [← Ny101.out] at ho7 | (simp only [Int.reduceToNat] at ho7; rw [← Ny101.out] at ho7)); have n0_ := Aside0.mk (Kd.V_elder' (by (with_reducible repeat (first | apply Kd.V_alloc | apply Kd.V_drewN | apply Kd.V_drew)); exact HO1.out) (Kd.N_base ho7) hb); have n1_ := Aside0.mk (Kd.N_lower ho7 (below_size tc0_)); have n2_ := Aside0.mk (below_step tc0_ hb); clear HO1; clear HB; have HO1 := n0_; have HO103 := n1_; have HB := n2_; clear n0_ n1_ n2_; clear hb ho7))
   go_ret
   exact ⟨_, by first | rfl | (simp [errW_none, errW_some] <;> rfl) | (simp [*, errW_none, errW_some] <;> rfl), by (with_reducible repeat (first | apply Kd.N_alloc | apply Kd.N_drewN | apply Kd.N_drew)); exact HO103.out, by repeat (first | (with_reducible first | exact HB.out | apply below_alloc | apply pw_below_drewN | apply below_drew1) | exact HB.out)⟩
  ·rw [if_neg c5] at H
   have c5b0 : (a2 == 1) = false := beq_eq_false_iff_ne.mpr c5
   have c5b1 : (a2 != 1) = true := bne_iff_ne.mpr c5
   obtain rfl := Option.some.inj H
   go_enter Try.func136, Try.ntmps136
   go_wp2
   go_ret
   exact ⟨_, by first | rfl | (simp [errW_none, errW_some] <;> rfl) | (simp [*, errW_none, errW_some] <;> rfl), by first | exact Kd.S_nil _ _ _ _ _ | exact Kd.N_nil _ _ _ _ _ | exact Kd.V_nil _ _ _ _ _ | exact Kd.Q_nil _ _ _ _ _ | exact Kd.R_nil _ _ _ _ _, by repeat (first | (with_reducible first | exact HB.out | apply below_alloc | apply pw_below_drewN | apply below_drew1) | exact HB.out)⟩
 ·rw [if_neg c4] at H
  have c4b0 : ((l1.length : Int) == (l0.length : Int)) = false := beq_eq_false_iff_ne.mpr c4
  have c4b1 : ((l1.length : Int) != (l0.length : Int)) = true := bne_iff_ne.mpr c4
  have c4b2 : (l1.length == l0.length) = false := by first | simpa using c4 | (simp at c4 ⊢; omega)
  have H' := Aside0.mk H
  clear H
  go_enter Try.func136, Try.ntmps136
  go_wp2
  go_loopg [7, 8] k (fun kq v7 v8 w' => ∃ (x7_1 : List (List Int)) (x8_1 : Int), v8 = .int .i64 x8_1 ∧ Aside0 (spec_weRows.l0 kq l0 l1 a2 x7_1 x8_1 = some r) ∧ Aside0 (kq ≤ k) ∧ Aside0 (Kd.V (Kd.int .i64) 3 w' w.heap.size (fun k_ => (P1_ k_ ∨ w.heap.size ≤ k_) ∧ some k_ ≠ (v7 : Value).ownBlock) (.slice A1 l1.length c1) l1) ∧ Aside0 (Kd.N (Kd.slice 3 (Kd.int .i64)) 40 w' w.heap.size (fun k_ => (P1_ k_ ∨ w.heap.size ≤ k_)) v7 x7_1) ∧ Aside0 (Below w.heap.size w w'))
  case atStart => exact ⟨(([] : List (List Int))), ((-1)), tc4_, H', ⟨Nat.le_refl _⟩, ⟨by (with_reducible repeat (first | apply Kd.V_alloc | apply Kd.V_drewN | apply Kd.V_drew)); exact Kd.V_mono HO1.out (fun _ hk => ⟨hk, (by simp [Value.ownBlock])⟩)⟩, ⟨by first | exact Kd.S_nil _ _ _ _ _ | exact Kd.N_nil _ _ _ _ _ | exact Kd.V_nil _ _ _ _ _ | exact Kd.Q_nil _ _ _ _ _ | exact Kd.R_nil _ _ _ _ _⟩, ⟨by repeat (first | (with_reducible first | exact HB.out | apply below_alloc | apply pw_below_drewN | apply below_drew1) | exact HB.out)⟩⟩
  case round =>
   clear H'
   try clear c1
   try clear p2
   try clear c4
   try clear c4b0
   try clear c4b1
   try clear c4b2
   try clear c5
   try clear c5b0
   try clear c5b1
   obtain ⟨x7_1, x8_1, rfl, HA, HK1, HO_1, HO_7, HB⟩ := hrel
   cases gk with
   | zero => exact absurd HA.out (by simp [spec_weRows.l0])
   | succ k1 =>
    have H := HA.out
    clear HA
    simp only [spec_weRows.l0] at H
    by_cases c8 : x8_1 ≤ 1
    ·rw [if_pos c8] at H
     have c8b0 : decide (x8_1 ≤ 1) = true := decide_eq_true c8
     clear c8
     have HC9 := Aside0.mk H
     clear H
     go_upto_region 9 with (fail)
     go_cut [35] (fun v35 wc => ∃ (kq : Nat) (x35_8 : Bool), v35 = .bool x35_8 ∧ Aside0 (spec_weRows.j1 kq l0 l1 a2 x7_1 x8_1 x35_8 = some r) ∧ Aside0 (kq ≤ k1) ∧ Aside0 (Kd.V (Kd.int .i64) 3 wc w.heap.size (fun k_ => (P1_ k_ ∨ w.heap.size ≤ k_) ∧ some k_ ≠ (u7 : Value).ownBlock) (.slice A1 l1.length c1) l1) ∧ Aside0 (Kd.N (Kd.slice 3 (Kd.int .i64)) 40 wc w.heap.size (fun k_ => (P1_ k_ ∨ w.heap.size ≤ k_)) u7 x7_1) ∧ Aside0 (Below w.heap.size w wc))
     case first =>
      have H := HC9.out
      clear HC9
      replace H := Option.bind_eq_some_iff.mp H
      obtain ⟨t104, A100, H⟩ := H
      replace H : (if t104 = true then (if 0 ≤ (l1.length : Int) then (if (l1.length : Int) < (l0.length : Int) then ((spec_l1In.f (wrap64 ((rd l0 (l1.length : Int)) + x8_1)) 0 1).bind fun t106 => (spec_weRows.j1 k1 l0 l1 a2 x7_1 x8_1 t106)) else (none)) else (none)) else (spec_weRows.j1 k1 l0 l1 a2 x7_1 x8_1 false)) = some r := H
      have A10 := Aside0.mk A100
      clear A100
      by_cases c11 : t104 = true
      ·subst c11
       have H1 : (if 0 ≤ (l1.length : Int) then (if (l1.length : Int) < (l0.length : Int) then ((spec_l1In.f (wrap64 ((rd l0 (l1.length : Int)) + x8_1)) 0 1).bind fun t106 => (spec_weRows.j1 k1 l0 l1 a2 x7_1 x8_1 t106)) else (none)) else (none)) = some r := by rw [if_pos rfl] at H; exact H
       clear H
       have H := H1
       clear H1
       by_cases c12 : 0 ≤ (l1.length : Int)
       ·rw [if_pos c12] at H
        have c12b0 : decide (0 ≤ (l1.length : Int)) = true := decide_eq_true c12
        have c12b1 : decide (0 ≤ l1.length) = true := decide_eq_true (by omega)
        clear c12
        (first | rw [c12b0] | (simp only [i64_w, i32_w]; rw [c12b0]) | skip)
        by_cases c13 : (l1.length : Int) < (l0.length : Int)
        ·rw [if_pos c13] at H
         have c13b0 : decide ((l1.length : Int) < (l0.length : Int)) = true := decide_eq_true c13
         have c13b1 : decide (l1.length < l0.length) = true := decide_eq_true (Int.ofNat_lt.mp c13)
         clear c13
         replace H := Option.bind_eq_some_iff.mp H
         obtain ⟨t106, A140, H⟩ := H
         replace H : (spec_weRows.j1 k1 l0 l1 a2 x7_1 x8_1 t106) = some r := H
         have A14 := Aside0.mk A140
         clear A140
         have H' := Aside0.mk H
         clear H
         go_wp2_with (first | ((with_reducible refine gate_callee (f := 89) rfl ?_); refine goesL_ (some 25) rfl rfl Try.func89 (by kernel_rfl) rfl #[.int .i64 (wrap64 (a2 + x8_1)), .int .i64 0, .int .i64 1] rfl tc1_ ?_; (with_reducible refine (spec_l1In.calls (wrap64 (a2 + x8_1)) 0 1 true _ A10.out).mono ?_); rintro e w' ⟨rfl, ⟨nd, rfl⟩⟩; refine ⟨_, rfl, ?_⟩; have p105 : 0 ≤ ((l1.length : Int) : Int) := of_decide_eq_true tc2_; have q105 : (l1.length : Int) < (l0.length : Int) := of_decide_eq_true tc2_; obtain ⟨ad105, e105, hx105_0⟩ := Kd.at_int HR0.out (l1.length : Int) p105 q105; cases e105; replace hx105_0 := (HB.out.cell (World.block_lt_of_cell? w _ hx105_0)).trans hx105_0; (try simp only [Go.IntWalk.toNatUp] at hx105_0); replace p105 := eq_true p105; replace q105 := eq_true q105) | (go_at_call 89; (with_reducible refine (spec_l1In.calls (wrap64 ((rd l0 (l1.length : Int)) + x8_1)) 0 1 t106 _ A14.out).mono ?_); rintro e w' ⟨rfl, ⟨nd, rfl⟩⟩))
         go_meet
         case rel => exact ⟨_, (t106), tc4_, H', ⟨by have := HK1.out; first | omega | exact Nat.le_refl _⟩, ⟨by (with_reducible repeat (first | apply Kd.V_alloc | apply Kd.V_drewN | apply Kd.V_drew)); exact HO_1.out⟩, ⟨by (with_reducible repeat (first | apply Kd.N_alloc | apply Kd.N_drewN | apply Kd.N_drew)); exact HO_7.out⟩, ⟨by repeat (first | (with_reducible first | exact HB.out | apply below_alloc | apply pw_below_drewN | apply below_drew1) | exact HB.out)⟩⟩
        ·rw [if_neg c13] at H
         exact absurd H (by simp)
       ·rw [if_neg c12] at H
        exact absurd H (by simp)
      ·replace c11 := Bool.eq_false_iff.mpr c11
       subst c11
       have H1 : (spec_weRows.j1 k1 l0 l1 a2 x7_1 x8_1 false) = some r := by rw [if_neg (show ¬ (false = true) by decide)] at H; exact H
       clear H
       have H := H1
       clear H1
       have H' := Aside0.mk H
       clear H
       go_wp2_with (first | ((with_reducible refine gate_callee (f := 89) rfl ?_); refine goesL_ (some 25) rfl rfl Try.func89 (by kernel_rfl) rfl #[.int .i64 (wrap64 (a2 + x8_1)), .int .i64 0, .int .i64 1] rfl tc1_ ?_; (with_reducible refine (spec_l1In.calls (wrap64 (a2 + x8_1)) 0 1 false _ A10.out).mono ?_); rintro e w' ⟨rfl, ⟨nd, rfl⟩⟩; refine ⟨_, rfl, ?_⟩))
       go_meet
       case rel => exact ⟨_, (false), tc4_, H', ⟨by have := HK1.out; first | omega | exact Nat.le_refl _⟩, ⟨by (with_reducible repeat (first | apply Kd.V_alloc | apply Kd.V_drewN | apply Kd.V_drew)); exact HO_1.out⟩, ⟨by (with_reducible repeat (first | apply Kd.N_alloc | apply Kd.N_drewN | apply Kd.N_drew)); exact HO_7.out⟩, ⟨by repeat (first | (with_reducible first | exact HB.out | apply below_alloc | apply pw_below_drewN | apply below_drew1) | exact HB.out)⟩⟩
     case rest =>
      clear HC9
      try clear c1
      try clear p1
      try clear q1
      try clear hx1
      try clear p2
      try clear c4
      try clear c4b0
      try clear c4b1
      try clear c4b2
      try clear c5
      try clear c5b0
      try clear c5b1
      try clear p6
      try clear c8
      try clear c8b0
      try clear p10
      try clear q10
      try clear hx10
      try clear c11
      try clear c12
      try clear c12b0
      try clear c12b1
      try clear c13
      try clear c13b0
      try clear c13b1
      try clear hx105_0
      try clear p105
      try clear p2
      try clear q105
      obtain ⟨kq, x35_8, rfl, HA, HJ8, HO_1, HO_7, HB⟩ := hcut
      cases kq with
      | zero => exact absurd HA.out (by simp [spec_weRows.j1])
      | succ kj8 =>
       have H := HA.out
       clear HA
       simp only [spec_weRows.j1] at H
       by_cases c15 : x35_8 = true
       ·subst c15
        have H1 : ((spec_l1Own.f l1).bind fun t107 => (if t107.length < 17592186044416 then ((spec_weRows.f kj8 l0 (t107 ++ [x8_1]) (wrap64 (a2 + x8_1))).bind fun t113 => (if x7_1.length + t113.length < 5864062014805 then (spec_weRows.l0 kj8 l0 l1 a2 (x7_1 ++ t113) (wrap64 (x8_1 + 1))) else (none))) else (none))) = some r := by rw [if_pos rfl] at H; exact H
        clear H
        have H := H1
        clear H1
        replace H := Option.bind_eq_some_iff.mp H
        obtain ⟨t107, A160, H⟩ := H
        replace H : (if t107.length < 17592186044416 then ((spec_weRows.f kj8 l0 (t107 ++ [x8_1]) (wrap64 (a2 + x8_1))).bind fun t113 => (if x7_1.length + t113.length < 5864062014805 then (spec_weRows.l0 kj8 l0 l1 a2 (x7_1 ++ t113) (wrap64 (x8_1 + 1))) else (none))) else (none)) = some r := H
        have A16 := Aside0.mk A160
        clear A160
        by_cases c17 : t107.length < 17592186044416
        ·rw [if_pos c17] at H
         have LMc17 := Aside0.mk c17
         clear c17
         obtain ⟨y110, hy110⟩ : ∃ y_ : List Int, y_ = (t107 ++ [x8_1]) := ⟨_, rfl⟩
         replace H : ((spec_weRows.f kj8 l0 y110 (wrap64 (a2 + x8_1))).bind fun t113 => (if x7_1.length + t113.length < 5864062014805 then (spec_weRows.l0 kj8 l0 l1 a2 (x7_1 ++ t113) (wrap64 (x8_1 + 1))) else (none))) = some r := by first | (rw [hy110]; with_reducible exact H) | (have H2_ := (Option.bind_some _ _).symm.trans H; rw [hy110]; with_reducible exact H2_) | (have H2_ := (Option.bind_some _ _).symm.trans H; with_reducible exact H2_) | with_reducible exact H | (rw [hy110]; exact H) | exact H
         have Ny110 := Aside0.mk hy110
         clear hy110
         replace H := Option.bind_eq_some_iff.mp H
         obtain ⟨t113, A180, H⟩ := H
         replace H : (if x7_1.length + t113.length < 5864062014805 then (spec_weRows.l0 kj8 l0 l1 a2 (x7_1 ++ t113) (wrap64 (x8_1 + 1))) else (none)) = some r := H
         have A18 := Aside0.mk A180
         clear A180
         by_cases c19 : x7_1.length + t113.length < 5864062014805
         ·rw [if_pos c19] at H
          have LMc19 := Aside0.mk c19
          clear c19
          obtain ⟨y116, hy116⟩ : ∃ y_ : List (List Int), y_ = (x7_1 ++ t113) := ⟨_, rfl⟩
          replace H : (spec_weRows.l0 kj8 l0 l1 a2 y116 (wrap64 (x8_1 + 1))) = some r := by first | (rw [hy116]; with_reducible exact H) | (have H2_ := (Option.bind_some _ _).symm.trans H; rw [hy116]; with_reducible exact H2_) | (have H2_ := (Option.bind_some _ _).symm.trans H; with_reducible exact H2_) | with_reducible exact H | (rw [hy116]; exact H) | exact H
          have Ny116 := Aside0.mk hy116
          clear hy116
          have H' := Aside0.mk H
          clear H
          go_wp2_with (first | ((with_reducible refine gate_callee (f := 76) rfl ?_); refine goesL_ (some 39) rfl rfl Try.func76 (by kernel_rfl) rfl #[.slice A1 l1.length c1] rfl tc1_ ?_; (with_reducible refine (spec_l1Own.calls _ _ l1 t107 _ ?side1 ?side2 A16.out).mono ?_); (case side1 => repeat (first | exact (Kd.V_reads' HO_1.out).2.2 | (with_reducible refine Kd.C_alloc ?_ _) | (with_reducible refine Kd.C_drewN ?_ _) | (with_reducible refine Kd.C_drew ?_))); (case side2 => exact (Kd.V_reads' HO_1.out).2.1); rintro e w20 ⟨v108, rfl, ho0, hb⟩; refine ⟨_, rfl, ?_⟩; have n0_ := Aside0.mk (Kd.V_elder' tc35_ (Kd.R_base ho0) hb); have n1_ := Aside0.mk (Kd.N_elder' tc21_ (Kd.R_base ho0) hb); have n2_ := Aside0.mk (Kd.R_lower (Kd.R_newM (M := fun k_ => (w.heap.size ≤ k_)) ho0 (below_size tc0_) (fun k_ h_ => h_)) (below_size tc0_)); have n3_ := Aside0.mk (below_step tc0_ hb); clear HO_1; clear HO_7; clear HB; have HO_1 := n0_; have HO_7 := n1_; have HO109 := n2_; have HB := n3_; clear n0_ n1_ n2_ n3_; (try clear hb); (try clear hb2); (try clear hk); (try clear hi); (try clear ho0)) | ((with_reducible refine gate_builtin (b := .append) (xs := #[.tmp 39, .tmp 41]) rfl ?_); (try (refine gate_guard (by rfl) ?_; dsimp only)); at_builtin; refine Kd.R_append (Kd.int .i64) (w0 := w) w.heap.size rfl (.tmp 39) (.tmp 41) 40 3 (.int .i64 0) 8 rfl Try.underlying40 info3 rfl (by decide) (by omega) v108 t107 x8_1 [.int .i64 x8_1] (fun k_ => (w.heap.size ≤ k_)) (fun _ => False) rfl rfl ?aP (fun _ hk => hk.elim) ?aF ?aO ?aB ?aS ?aL ?_; (case aP => exact rfl); (case aB => exact tc0_); (case aF => exact (fun k_ hk => (Nat.le_trans (below_size tc0_) hk))); (case aO => exact (by (with_reducible repeat (first | apply Kd.R_alloc | apply Kd.R_drewN | apply Kd.R_drew)); exact Kd.R_mono HO109.out (fun _ hk => hk.1))); (case aS => exact (below_size tc0_)); (case aL => have := LMc17.out; omega); intro v111 w21 ho hb hg hat; rw [← Ny110.out] at ho; have n0_ := Aside0.mk (Kd.V_afterv (ok := (fun k_ => (P1_ k_ ∨ w.heap.size ≤ k_) ∧ some k_ ≠ (u7 : Value).ownBlock)) tc35_ hg hat); have n1_ := Aside0.mk (Kd.N_afterv (ok := (fun k_ => (P1_ k_ ∨ w.heap.size ≤ k_))) tc21_ hg hat); have n2_ := Aside0.mk (hb); have n3_ := Aside0.mk (ho); clear HO_1; clear HO_7; clear HB; clear HO109; have HO_1 := n0_; have HO_7 := n1_; have HB := n2_; have HO112 := n3_; clear n0_ n1_ n2_ n3_; clear ho hb hg hat; obtain ⟨Ao22, co22, eo22⟩ := Kd.R_slice HO112.out; subst eo22) | ((with_reducible refine gate_callee (f := 136) rfl ?_); refine goesL_ (some 46) rfl rfl Try.func136 (by kernel_rfl) rfl #[.slice A0 l0.length c0, .slice Ao22 y110.length co22, .int .i64 (wrap64 (a2 + x8_1))] rfl tc1_ ?_; (with_reducible refine (ih kj8 (by have := HK1.out; have := HJ8.out; omega) _ _ l0 (fun k_ => some k_ = (.slice Ao22 y110.length co22 : Value).ownBlock) _ _ y110 (wrap64 (a2 + x8_1)) t113 _ ?side1 ?side2 ?side3 A18.out).mono ?_); (case side1 => repeat (first | exact (Kd.C_below HR0.out HB.out) | (with_reducible refine Kd.C_alloc ?_ _) | (with_reducible refine Kd.C_drewN ?_ _) | (with_reducible refine Kd.C_drew ?_))); (case side2 => exact HC0.out); (case side3 => exact Kd.R_V (Kd.R_tight rfl (Kd.R_apart' (HO112.out) (Kd.N_typed HO_7.out) (by decide)))); rintro e w23 ⟨v114, rfl, ho0, hb⟩; refine ⟨_, rfl, ?_⟩; have n0_ := Aside0.mk (Kd.V_elder' tc35_ (Kd.N_base ho0) hb); have n1_ := Aside0.mk (Kd.N_elder' tc21_ (Kd.N_base ho0) hb); have n2_ := Aside0.mk (Kd.R_below (by (with_reducible repeat (first | apply Kd.R_alloc | apply Kd.R_drewN | apply Kd.R_drew)); exact HO112.out) hb); have n3_ := Aside0.mk (Kd.N_lower (Kd.N_mono (ok' := fun k_ => (P1_ k_ ∨ w.heap.size ≤ k_) ∧ some k_ ≠ (u7 : Value).ownBlock) ho0 (fun k_ hk_ => ⟨Or.elim hk_ (fun hs_ => (.inr (((Kd.R_apart' (HO112.out) (Kd.N_typed HO_7.out) (by decide)).1 k_ hs_.symm).1))) (fun hn_ => (.inr (Nat.le_trans (below_size tc0_) hn_))), Or.elim hk_ (fun hs_ => ((Kd.R_apart' (HO112.out) (Kd.N_typed HO_7.out) (by decide)).1 k_ hs_.symm).2) (fun hn_ => (Kd.fresh' (Kd.N_lt tc21_) k_ hn_))⟩)) (below_size tc0_)); have n4_ := Aside0.mk (below_step tc0_ hb); clear HO_1; clear HO_7; clear HO112; clear HB; have HO_1 := n0_; have HO_7 := n1_; have HO112 := n2_; have HO115 := n3_; have HB := n4_; clear n0_ n1_ n2_ n3_ n4_; (try clear hb); (try clear hb2); (try clear hk); (try clear hi); (try clear ho0); obtain ⟨Ao25, co25, eo25⟩ := Kd.N_slice HO115.out; subst eo25) | ((with_reducible refine gate_builtin (b := .append) (xs := #[.tmp 36, .tmp 46]) rfl ?_); (try (refine gate_guard (by rfl) ?_; dsimp only)); at_builtin; refine Kd.N_append_rows (Kd.slice 3 (Kd.int .i64)) (w0 := w) w.heap.size rfl (.tmp 36) (.tmp 46) 28 40 (.slice none 0 0) 24 rfl Try.underlying28 info40 rfl (by decide) (by omega) u7 x7_1 t113 _ _ _ (fun k_ => (P1_ k_ ∨ w.heap.size ≤ k_)) (fun k_ => ((fun k_ => (P1_ k_ ∨ w.heap.size ≤ k_))) k_ ∧ some k_ ≠ (u7 : Value).ownBlock) rfl rfl ?aO ?aR (fun _ hk => hk) ?aF ?aB ?aS ?aL ?_; (case aR => exact (by skip; exact Kd.N_F (Kd.N_mono (ok' := (fun k_ => ((fun k_ => (P1_ k_ ∨ w.heap.size ≤ k_))) k_ ∧ some k_ ≠ (u7 : Value).ownBlock)) (HO115.out) (fun k_ hk => ⟨hk.1, hk.2⟩)))); (case aB => exact tc0_); (case aF => exact (fun k_ hk => (.inr (Nat.le_trans (below_size tc0_) hk)))); (case aO => exact (by (with_reducible repeat (first | apply Kd.N_alloc | apply Kd.N_drewN | apply Kd.N_drew)); exact Kd.N_mono HO_7.out (fun _ hk => hk.1.1))); (case aS => exact (below_size tc0_)); (case aL => have := LMc19.out; omega); intro v117 w24 ho hb hg hat; rw [← Ny116.out] at ho; have n0_ := Aside0.mk (Kd.V_afterv (ok := (fun k_ => (P1_ k_ ∨ w.heap.size ≤ k_) ∧ some k_ ≠ (.slice Ao22 y110.length co22 : Value).ownBlock ∧ some k_ ≠ (.slice Ao25 t113.length co25 : Value).ownBlock)) (by (with_reducible repeat (first | apply Kd.V_alloc | apply Kd.V_drewN | apply Kd.V_drew)); exact Kd.V_mono HO_1.out (fun _ hk => ⟨⟨hk.1.1.1, ⟨hk.1.2, hk.2⟩⟩, hk.1.1.2⟩)) hg hat); have n1_ := Aside0.mk (Kd.R_over' (by (with_reducible repeat (first | apply Kd.R_alloc | apply Kd.R_drewN | apply Kd.R_drew)); exact HO112.out) (Kd.N_typed tc21_) (by decide) hg); have n2_ := Aside0.mk (Kd.N_afterv (ok := (fun k_ => (P1_ k_ ∨ w.heap.size ≤ k_))) (by (with_reducible repeat (first | apply Kd.N_alloc | apply Kd.N_drewN | apply Kd.N_drew)); exact HO115.out) hg hat); have n3_ := Aside0.mk (hb); have n4_ := Aside0.mk (ho); clear HO_1; clear HO112; clear HO115; clear HB; clear HO_7; have HO_1 := n0_; have HO112 := n1_; have HO115 := n2_; have HB := n3_; have HO118 := n4_; clear n0_ n1_ n2_ n3_ n4_; clear ho hb hg hat))
          go_roundg kj8
          case measure => have := HK1.out; have := HJ8.out; omega
          case rel => exact ⟨(y116), (wrap64 (x8_1 + 1)), tc4_, H', ⟨by have := HK1.out; have := HJ8.out; omega⟩, ⟨by (with_reducible repeat (first | apply Kd.V_alloc | apply Kd.V_drewN | apply Kd.V_drew)); exact Kd.V_mono HO_1.out (fun _ hk => ⟨hk.1.1, hk.2⟩)⟩, ⟨by (with_reducible repeat (first | apply Kd.N_alloc | apply Kd.N_drewN | apply Kd.N_drew)); exact HO118.out⟩, ⟨by repeat (first | (with_reducible first | exact HB.out | apply below_alloc | apply pw_below_drewN | apply below_drew1) | exact HB.out)⟩⟩
         ·rw [if_neg c19] at H
          exact absurd H (by simp)
        ·rw [if_neg c17] at H
         exact absurd H (by simp)
       ·replace c15 := Bool.eq_false_iff.mpr c15
        subst c15
        have H1 : (spec_weRows.l0 kj8 l0 l1 a2 x7_1 (wrap64 (x8_1 + 1))) = some r := by rw [if_neg (show ¬ (false = true) by decide)] at H; exact H
        clear H
        have H := H1
        clear H1
        have H' := Aside0.mk H
        clear H
        go_wp2
        go_roundg kj8
        case measure => have := HK1.out; have := HJ8.out; omega
        case rel => exact ⟨(x7_1), (wrap64 (x8_1 + 1)), tc4_, H', ⟨by have := HK1.out; have := HJ8.out; omega⟩, ⟨by (with_reducible repeat (first | apply Kd.V_alloc | apply Kd.V_drewN | apply Kd.V_drew)); exact HO_1.out⟩, ⟨by (with_reducible repeat (first | apply Kd.N_alloc | apply Kd.N_drewN | apply Kd.N_drew)); exact HO_7.out⟩, ⟨by repeat (first | (with_reducible first | exact HB.out | apply below_alloc | apply pw_below_drewN | apply below_drew1) | exact HB.out)⟩⟩
    ·rw [if_neg c8] at H
     have c8b0 : decide (x8_1 ≤ 1) = false := decide_eq_false c8
     clear c8
     obtain rfl := Option.some.inj H
     go_wp2
     go_ret
     exact ⟨_, by first | rfl | (simp [errW_none, errW_some] <;> rfl) | (simp [*, errW_none, errW_some] <;> rfl), by (with_reducible repeat (first | apply Kd.N_alloc | apply Kd.N_drewN | apply Kd.N_drew)); exact HO_7.out, by repeat (first | (with_reducible first | exact HB.out | apply below_alloc | apply pw_below_drewN | apply below_drew1) | exact HB.out)⟩

/-! ### spec_weGoOn: function 107 (by hand) -/
mutual
def spec_weGoOn.l0 : Nat → List (List Int) → List Int → List (List Int) → List (List (List Int)) → Int → Option (List (List (List Int)))
  | 0, _, _, _, _, _ => none
  | k + 1, l0, l1, rs, out, i => if i < (rs.length : Int) then (if 0 ≤ i then ((spec_l1Own.f l1).bind fun nx => (if rowOk nx (rs.getD i.toNat []) = true then (if l0.length < 1000000 then
      ((spec_weGoOn.f k (l0 ++ [rs.getD i.toNat []]) (List.zipWith (· + ·) nx (rs.getD i.toNat []))).bind fun a => (if out.length + a.length < 5864062014805 then spec_weGoOn.l0 k l0 l1 rs (out ++ a) (i + 1) else none)) else none) else none)) else none) else some out
def spec_weGoOn.f : Nat → List (List Int) → List Int → Option (List (List (List Int)))
  | 0, _, _ => none
  | k + 1, l0, l1 => if (l0.length : Int) = (l1.length : Int) then ((spec_l1All.f k l1 1 1).bind fun t => if t = true then some [l0] else some []) else ((spec_weRows.f k l1 [] 0).bind fun rs => spec_weGoOn.l0 k l0 l1 rs [] 0)
end
theorem spec_weGoOn.mono_l : ∀ k, (∀ y0 y1, LeO (spec_weGoOn.f k y0 y1) (spec_weGoOn.f (k + 1) y0 y1)) ∧ (∀ y0 y1 y2 y3 y4, LeO (spec_weGoOn.l0 k y0 y1 y2 y3 y4) (spec_weGoOn.l0 (k + 1) y0 y1 y2 y3 y4))
  | 0 => ⟨fun _ _ r h => by simp [spec_weGoOn.f] at h, fun _ _ _ _ _ r h => by simp [spec_weGoOn.l0] at h⟩
  | k + 1 => by
    obtain ⟨ih0, ih1⟩ := spec_weGoOn.mono_l k
    refine ⟨?_, ?_⟩
    · intro y0 y1
      unfold spec_weGoOn.f
      repeat' first
      | (with_reducible exact ih1 _ _ _ _ _)
      | (with_reducible exact spec_l1All.mono _ _ _ _)
      | (with_reducible exact spec_weRows.mono _ _ _ _)
      | (with_reducible exact LeO.refl _)
      | (with_reducible refine LeO.ite ?_ ?_)
      | (with_reducible refine LeO.bind ?_ (fun _ => ?_))
    · intro y0 y1 y2 y3 y4
      unfold spec_weGoOn.l0
      repeat' first
      | (with_reducible exact ih0 _ _)
      | (with_reducible exact ih1 _ _ _ _ _)
      | (with_reducible exact LeO.refl _)
      | (with_reducible refine LeO.ite ?_ ?_)
      | (with_reducible refine LeO.bind ?_ (fun _ => ?_))
theorem spec_weGoOn.mono : ∀ a0 a1 k, LeO (spec_weGoOn.f k a0 a1) (spec_weGoOn.f (k + 1) a0 a1) := fun a0 a1 k => (spec_weGoOn.mono_l k).1 a0 a1
set_option maxHeartbeats 4000000 in
set_option maxRecDepth 100000 in
theorem spec_weGoOn.calls (k : Nat) : ∀ (A0 : Option Addr) (c0 : Nat) (l0 : List (List Int)) (P0_ : Nat → Prop) (A1 : Option Addr) (c1 : Nat) (l1 : List Int) (r : List (List (List Int))) (w : World)
    (hs0 : Kd.V (Kd.slice 3 (Kd.int .i64)) 40 w w.heap.size (fun k_ => P0_ k_) (.slice A0 l0.length c0) l0) (hr1 : Kd.C (Kd.int .i64) w A1 l1.length l1) (hc1 : l1.length ≤ c1) (h : spec_weGoOn.f k l0 l1 = some r),
    Calls Try.prog 107 #[.slice A0 l0.length c0, .slice A1 l1.length c1] w fun e w' => ∃ v0_ : Value, e = .returned v0_ ∧ Kd.N (Kd.slice 40 (Kd.slice 3 (Kd.int .i64))) 28 w' w.heap.size (fun k_ => (P0_ k_ ∨ w.heap.size ≤ k_)) v0_ r ∧ Below w.heap.size w w' := by
  induction k using Nat.strongRecOn with
  | _ k ih =>
  intro A0 c0 l0 P0_ A1 c1 l1 r w hs0 hr1 hc1 h
  cases k with
  | zero => exact absurd h (by simp [spec_weGoOn.f])
  | succ k =>
  simp only [spec_weGoOn.f] at h
  have hz0 : l0.length ≤ 9223372036854775807 := (Kd.V_reads' hs0).2.2.2.1
  have hz1 : l1.length ≤ 9223372036854775807 := hr1.2.1
  have HV := Aside0.mk (Kd.V_bound hs0)
  have HR := Aside0.mk hr1
  have HC := Aside0.mk hc1
  clear hs0 hr1 hc1
  by_cases c1 : (l0.length : Int) = (l1.length : Int)
  · rw [if_pos c1] at h
    have c1b : ((l0.length : Int) == (l1.length : Int)) = true := beq_iff_eq.mpr c1
    have c1c : (l0.length == l1.length) = true := by have := c1; simp only [beq_iff_eq]; omega
    clear c1
    obtain ⟨t, ht, h⟩ := Option.bind_eq_some_iff.mp h
    have HT := Aside0.mk ht
    clear ht
    cases t with
    | true =>
      rw [if_pos rfl] at h
      obtain rfl := Option.some.inj h
      clear h
      go_enter Try.func107, Try.ntmps107
      go_wp2_with (first | (go_at_call 90; (refine (spec_l1All.calls k _ _ l1 1 1 true _ HR.out HC.out HT.out).mono ?_); rintro e w' ⟨rfl, ⟨nd, rfl⟩⟩) | ((with_reducible refine gate_dst (N := 20) rfl ?_); refine Kd.N_lit (Kd.slice 40 (Kd.slice 3 (Kd.int .i64))) _ 28 ?hg (N' := 20) ?hd (xs := ([l0] : List (List (List Int)))) (inner := [.slice A0 l0.length c0]) (ok := (fun k_ => (P0_ k_ ∨ w.heap.size ≤ k_))) (okp := (fun k_ => P0_ k_ ∧ k_ < w.heap.size)) ?hr ?hp (fun _ hk => .inl hk.1) (.inr (Nat.le_refl _)) (Below.refl _ _) (Nat.le_refl _) (by simp) ?_; (case hd => rfl); (case hg => rfl); (case hr => first | (go_simp; done) | (go_simp; rfl)); (case hp => exact (Reps.one (show Kd.FK (Kd.slice 40 (Kd.slice 3 (Kd.int .i64))) _ _ l0 [.slice A0 l0.length c0] from (Kd.FK_slice_mk (Kd.V_reads' HV.out).2.1 (Kd.V_F (Kd.V_drewN HV.out nd)))) (Reps.none _ _))); intro v102 w6 ho7 hb hg_ hnew_; have HO := Aside0.mk ho7; have HB := Aside0.mk hb; clear hg_ hnew_ ho7 hb))
      go_ret
      exact ⟨_, rfl, Kd.N_lower HO.out (Nat.le_refl _), below_step (pw_below_drewN (Below.refl _ _) _) HB.out⟩
    | false =>
      rw [if_neg (by simp)] at h
      obtain rfl := Option.some.inj h
      clear h
      go_enter Try.func107, Try.ntmps107
      go_wp2_with (go_at_call 90; (refine (spec_l1All.calls k _ _ l1 1 1 false _ HR.out HC.out HT.out).mono ?_); rintro e w' ⟨rfl, ⟨nd, rfl⟩⟩)
      go_ret
      exact ⟨_, rfl, Kd.N_nil _ _ _ _ _, pw_below_drewN (Below.refl _ _) _⟩
  · rw [if_neg c1] at h
    have c1b : ((l0.length : Int) == (l1.length : Int)) = false := beq_eq_false_iff_ne.mpr c1
    have c1c : (l0.length == l1.length) = false := by have := c1; simp only [beq_eq_false_iff_ne]; omega
    clear c1
    obtain ⟨rs, hrs, h⟩ := Option.bind_eq_some_iff.mp h
    have HRS := Aside0.mk hrs
    have HL := Aside0.mk h
    clear hrs h
    go_enter Try.func107, Try.ntmps107
    go_wp2_with (go_at_call 136; (refine (spec_weRows.calls k _ _ l1 (fun _ => False) none 0 [] 0 rs _ HR.out HC.out (Kd.V_nil _ _ _ _ _) HRS.out).mono ?_); rintro e w1 ⟨v22, rfl, ho, hb⟩; have HO := Aside0.mk (Kd.N_V (base' := 0) (Kd.N_mono (ok' := fun k_ => w.heap.size ≤ k_) ho (fun k hk => hk.elim (fun h => h.elim) (fun h => h)))); have HB := Aside0.mk hb; clear ho hb; obtain ⟨A22, c22, e22⟩ := Kd.V_slice HO.out; subst e22)
    clear HRS
    go_loopg [5, 24] k (fun kq v5 v24 w' => ∃ (out : List (List (List Int))) (i : Int), v24 = .int .i64 i ∧ Aside0 (spec_weGoOn.l0 kq l0 l1 rs out i = some r) ∧ Aside0 (kq ≤ k) ∧ Aside0 (Kd.V (Kd.slice 3 (Kd.int .i64)) 40 w' 0 (fun k_ => w.heap.size ≤ k_ ∧ some k_ ≠ (v5 : Value).ownBlock) (.slice A22 rs.length c22) rs) ∧ Aside0 (Kd.N (Kd.slice 40 (Kd.slice 3 (Kd.int .i64))) 28 w' w.heap.size (fun k_ => (P0_ k_ ∨ w.heap.size ≤ k_)) v5 out) ∧ Aside0 (Below w.heap.size w w'))
    case atStart => exact ⟨[], 0, rfl, HL, ⟨Nat.le_refl _⟩, ⟨Kd.V_apart_nil HO.out⟩, ⟨Kd.N_nil _ _ _ _ _⟩, HB⟩
    case round =>
      clear HL HO HB
      obtain ⟨wo, rfl⟩ : ∃ w_ : World, w_ = wr := ⟨_, rfl⟩
      obtain ⟨out, i, rfl, HL, HK, HO, HN, HB⟩ := hrel
      cases gk with
      | zero => exact absurd HL.out (by simp [spec_weGoOn.l0])
      | succ k1 =>
        have H := HL.out
        clear HL
        simp only [spec_weGoOn.l0] at H
        have hz4 : rs.length ≤ 9223372036854775807 := (Kd.V_reads' HO.out).2.2.2.1
        by_cases c3 : i < (rs.length : Int)
        · rw [if_pos c3] at H
          by_cases c4 : 0 ≤ i
          · rw [if_pos c4] at H
            obtain ⟨nx, hnx, H⟩ := Option.bind_eq_some_iff.mp H
            obtain ⟨ad, Aw, cw, eA, hxw, hVw⟩ := V_row (b' := 0) HO.out i c4 c3
            obtain ⟨row, hrow⟩ : ∃ row : List Int, rs.getD i.toNat [] = row := ⟨_, rfl⟩
            rw [hrow] at H hxw hVw
            clear hrow
            subst eA
            have HVw := Aside0.mk (Kd.V_bound hVw)
            have hz3 : row.length ≤ 9223372036854775807 := (Kd.V_reads' hVw).2.2.2.1
            have HNX := Aside0.mk hnx
            clear hVw hnx
            have hd3 : decide (i < (rs.length : Int)) = true := decide_eq_true c3
            have hd4 : decide (0 ≤ i) = true := decide_eq_true c4
            by_cases c5 : rowOk nx row = true
            · rw [if_pos c5] at H
              by_cases c6 : l0.length < 1000000
              · rw [if_pos c6] at H
                obtain ⟨a, ha, H⟩ := Option.bind_eq_some_iff.mp H
                by_cases c7 : out.length + a.length < 5864062014805
                · rw [if_pos c7] at H
                  have HL4 := Aside0.mk H
                  obtain ⟨nx2, he2⟩ : ∃ x : List Int, List.zipWith (· + ·) nx row = x := ⟨_, rfl⟩
                  rw [he2] at ha
                  obtain ⟨l2, hl2⟩ : ∃ x : List (List Int), l0 ++ [row] = x := ⟨_, rfl⟩
                  rw [hl2] at ha
                  have HL2 := Aside0.mk hl2
                  clear hl2
                  have HZ := Aside0.mk (rowOk_len c5)
                  rw [he2] at HZ
                  have HE2 := Aside0.mk he2
                  have HA := Aside0.mk ha
                  have H5 := Aside0.mk c5
                  have H6 := Aside0.mk c6
                  have H7 := Aside0.mk c7
                  clear he2 ha c5 c6 c7 H
                  go_wp2_with (go_at_call 76; (refine (spec_l1Own.calls _ _ l1 nx _ (Kd.C_below HR.out HB.out) HC.out HNX.out).mono ?_); rintro e w2 ⟨v8, rfl, ho, hb⟩; have HX := Aside0.mk ho; have HB2 := Aside0.mk hb; clear ho hb)
                  go_loopg [32] row.length (fun gj v32 w' => ∃ j : Nat, v32 = .int .i64 (j : Int) ∧ Aside0 (j + gj = row.length) ∧ Aside0 (Kd.R (Kd.int .i64) 3 w' wo.heap.size (fun _ => True) v8 (rowMid nx2 nx j)) ∧ Aside0 (Below wo.heap.size wo w'))
                  case atStart => exact ⟨0, rfl, ⟨by omega⟩, ⟨by rw [rowMid_zero]; exact HX.out⟩, HB2⟩
                  case round =>
                    clear HX HB2
                    obtain ⟨w3, rfl⟩ : ∃ w_ : World, w_ = wr := ⟨_, rfl⟩
                    obtain ⟨j, rfl, HJ, HX, HB3⟩ := hrel
                    have HLb := Aside0.mk (rowMid_len (a := nx2) (b := nx) (HZ.out.2.trans HZ.out.1.symm) j)
                    by_cases hj : j < row.length
                    · obtain ⟨g1, rfl⟩ : ∃ g1, gk = g1 + 1 := ⟨gk - 1, by have := HJ.out; omega⟩
                      obtain ⟨adw, eAw, hcw⟩ := Kd.at_int (Kd.V_reads' (Kd.V_below HVw.out HB3.out)).2.2 (j : Int) (by omega) (by omega)
                      subst eAw
                      obtain ⟨o1, o2, o3, o4, o5⟩ := rowOk_at H5.out j hj
                      obtain ⟨g, cap, e8, hg1, hg2, _⟩ := Kd.R_form HX.out (by have := HLb.out; have := HZ.out; omega)
                      rw [HLb.out, HZ.out.1] at e8
                      subst e8
                      have HG := Aside0.mk hg1
                      clear hg1 hg2
                      obtain ⟨q1, hfs⟩ := Kd.R_celln (enc := Value.int .i64) (d := (0 : Int)) HX.out (j : Int) (by omega) (by omega)
                      have hcs : w3.cell? ⟨g, j, none⟩ = some (.int .i64 (nx.getD j 0)) := by
                        have e_ := rowMid_at (a := nx2) (b := nx) (HZ.out.2.trans HZ.out.1.symm) j (by have := HZ.out; omega)
                        rw [← e_]
                        simpa [rdOf] using q1
                      clear q1
                      rw [show rd row (j : Int) = row.getD j 0 from rfl] at hcw
                      rw [Int.toNat_natCast] at hcw hfs
                      have HST := Aside0.mk (Kd.R_putn (enc := Value.int .i64) (h1 := fun _ => rfl) HX.out (j : Int) (nx2.getD j 0))
                      have HMS := Aside0.mk (rowMid_set (a := nx2) (b := nx) (HZ.out.2.trans HZ.out.1.symm) j (by have := HZ.out; omega))
                      have HVE := Aside0.mk (show nx2.getD j 0 = nx.getD j 0 + row.getD j 0 by rw [← HE2.out] at *; omega)
                      have hd1 : decide ((j : Int) < (row.length : Int)) = true := decide_eq_true (by omega)
                      have hd2 : decide (j < row.length) = true := decide_eq_true hj
                      clear o5
                      generalize nx.getD j 0 = x at *
                      generalize row.getD j 0 = y at *
                      go_wp2
                      go_roundg g1
                      case measure => omega
                      case rel =>
                        refine ⟨j + 1, by go_num, ⟨by have := HJ.out; omega⟩, ⟨?_⟩, ⟨below_set HB3.out HG.out⟩⟩
                        have := HST.out
                        rw [Int.toNat_natCast, HMS.out] at this
                        rwa [HVE.out] at this
                    · have ej : j = row.length := by have := HJ.out; omega
                      subst ej
                      have hd1 : decide ((row.length : Int) < (row.length : Int)) = false := decide_eq_false (by omega)
                      have hd2 : decide (row.length < row.length) = false := decide_eq_false (by omega)
                      have HX2 := Aside0.mk HX.out
                      rw [rowMid_all (HZ.out.2.trans HZ.out.1.symm) HZ.out.1.symm] at HX2
                      clear HX HJ HLb hj
                      have HBW := Aside0.mk (below_step HB.out HB3.out)
                      have HSZ := Aside0.mk (And.intro (below_size HB.out) (below_size HB3.out))
                      obtain ⟨A8, c8, e8⟩ := Kd.R_slice HX2.out
                      subst e8
                      go_wp2_with (first
                        | ((with_reducible refine gate_builtin (b := .append) (xs := #[.tmp 46, .tmp 47]) rfl ?_); at_builtin; refine Kd.N_append_rows (Kd.slice 3 (Kd.int .i64)) (w0 := w3) w3.heap.size rfl (.tmp 46) (.tmp 47) 28 40 (.slice none 0 0) 24 rfl Try.underlying28 info40 rfl (by decide) (by omega) (.slice (some ⟨w3.heap.size, 0, none⟩) 0 0) [] l0 A0 l0.length c0 (fun k_ => (P0_ k_ ∨ w.heap.size ≤ k_) ∧ some k_ ≠ (u5 : Value).ownBlock) (fun k_ => P0_ k_ ∧ k_ < w.heap.size) rfl rfl (Kd.R_N (R_empty (blk_new _ _) (Nat.le_refl _) ⟨.inr (by have := HSZ.out; omega), fun e => by have := Kd.N_lt HN.out _ e.symm; have := HSZ.out; omega⟩)) (Kd.V_F (Kd.V_alloc (Kd.V_below HV.out HBW.out) _)) (fun k_ hk => ⟨⟨.inl hk.1, fun e => by have := Kd.N_base HN.out _ e.symm; omega⟩, fun e => by (have e2 : k_ = w3.heap.size := by simpa [Value.ownBlock] using e); have := HSZ.out; omega⟩) (fun k_ hk => ⟨.inr (by have := HSZ.out; simp at hk; omega), fun e => by have := Kd.N_lt HN.out _ e.symm; have := HSZ.out; simp at hk; omega⟩) (below_alloc (Below.refl _ _) _) (by simp) (by have := H6.out; simp; omega) ?_; intro v48 w4 ho4 hb4 hg4 hat4; have HN48 := Aside0.mk ho4; have HB4 := Aside0.mk hb4; clear ho4 hb4 hg4 hat4)
                        | ((with_reducible refine gate_builtin (b := .append) (xs := #[.tmp 48, .tmp 50]) rfl ?_); at_builtin; refine Kd.N_append (Kd.slice 3 (Kd.int .i64)) (w0 := w3) w3.heap.size rfl (.tmp 48) (.tmp 50) 28 40 (.slice none 0 0) 24 rfl Try.underlying28 info40 rfl (by decide) (by omega) v48 ([] ++ l0) row [.slice Aw row.length cw] (fun k_ => (P0_ k_ ∨ w.heap.size ≤ k_) ∧ some k_ ≠ (u5 : Value).ownBlock) (fun k_ => (w.heap.size ≤ k_ ∧ some k_ ≠ (u5 : Value).ownBlock) ∧ k_ < wo.heap.size) rfl rfl (Kd.FK_slice_mk (Kd.V_reads' HVw.out).2.1 (Kd.V_F (Kd.V_below HVw.out (below_step HB3.out HB4.out)))) (fun k_ hk => ⟨⟨.inr hk.1.1, hk.1.2⟩, fun e => by have := Kd.N_base HN48.out _ e.symm; have := HSZ.out; omega⟩) (fun k_ hk => ⟨.inr (by have := HSZ.out; have := below_size HB4.out; omega), fun e => by have := Kd.N_lt HN.out _ e.symm; have := HSZ.out; have := below_size HB4.out; omega⟩) HN48.out HB4.out (below_size HB4.out) (by have := H6.out; simp; omega) ?_; intro v51 w5 ho5 hb5 hg5 hat5; rw [List.nil_append, HL2.out] at ho5; have HN51 := Aside0.mk ho5; have HB5 := Aside0.mk hb5; clear ho5 hb5 hg5 hat5; obtain ⟨A51, c51, e51⟩ := Kd.N_slice HN51.out; subst e51)
                        | (go_at_call 107; (with_reducible refine (ih k1 (by have := HK.out; omega) A51 c51 l2 (fun k_ => (P0_ k_ ∨ w.heap.size ≤ k_) ∧ some k_ ≠ (u5 : Value).ownBlock) A8 c8 nx2 a w5 (Kd.N_V HN51.out) (Kd.R_reads' (Kd.R_below HX2.out HB5.out)).2.2 (Kd.R_reads' HX2.out).2.1 HA.out).mono ?_); rintro e w6 ⟨v53, rfl, ho6, hb6⟩; have HN53 := Aside0.mk ho6; have HB6 := Aside0.mk hb6; clear ho6 hb6; obtain ⟨A53, c53, e53⟩ := Kd.N_slice HN53.out; subst e53)
                        | ((with_reducible refine gate_builtin (b := .append) (xs := #[.tmp 45, .tmp 53]) rfl ?_); at_builtin; refine Kd.N_append_rows (Kd.slice 40 (Kd.slice 3 (Kd.int .i64))) (w0 := w) w.heap.size rfl (.tmp 45) (.tmp 53) 54 28 (.slice none 0 0) 24 rfl Try.underlying54 info28 rfl (by decide) (by omega) u5 out a A53 a.length c53 (fun k_ => P0_ k_ ∨ w.heap.size ≤ k_) (fun k_ => ((P0_ k_ ∨ w.heap.size ≤ k_) ∧ some k_ ≠ (u5 : Value).ownBlock) ∨ w5.heap.size ≤ k_) rfl rfl (Kd.N_below HN.out (below_step HB3.out (below_step HB5.out HB6.out))) (Kd.N_F HN53.out) (fun k_ hk => hk.elim (fun h => h) (fun h => ⟨.inr (by have := HSZ.out; have := below_size HB5.out; omega), fun e => by have := Kd.N_lt HN.out _ e.symm; have := HSZ.out; have := below_size HB5.out; omega⟩)) (fun k_ hk => .inr (by have := HSZ.out; have := below_size HB5.out; have := below_size HB6.out; omega)) (below_step HBW.out (below_step HB5.out HB6.out)) (by have := HSZ.out; have := below_size HB5.out; have := below_size HB6.out; omega) (by have := H7.out; omega) ?_; intro v54 w7 ho7 hb7 hg7 hat7; have HN7 := Aside0.mk ho7; have HB7 := Aside0.mk hb7; have HO7 := Aside0.mk (Kd.V_afterv (ok := fun k_ => w.heap.size ≤ k_) (Kd.V_below HO.out (below_step HB3.out (below_step HB5.out HB6.out))) hg7 hat7); clear ho7 hb7 hg7 hat7))
                      go_roundg k1
                      case measure => have := HK.out; omega
                      case rel => exact ⟨out ++ a, i + 1, by go_num, HL4, ⟨by have := HK.out; omega⟩, HO7, HN7, HB7⟩
                · rw [if_neg c7] at H
                  exact absurd H (by simp)
              · rw [if_neg c6] at H
                exact absurd H (by simp)
            · rw [if_neg c5] at H
              exact absurd H (by simp)
          · rw [if_neg c4] at H
            exact absurd H (by simp)
        · rw [if_neg c3] at H
          have hd3 : decide (i < (rs.length : Int)) = false := decide_eq_false c3
          obtain rfl := Option.some.inj H
          clear H
          go_wp2
          go_ret
          exact ⟨_, rfl, HN.out, HB.out⟩

/-! ### spec_weAll: function 57 (by hand) -/
def spec_weAll.f (k : Nat) (a0 : Int) : Option (List (List (List Int))) := if 0 ≤ a0 then (if a0 ≤ 1000 then spec_weGoOn.f k [] (List.replicate a0.toNat 0) else none) else none
theorem spec_weAll.mono : ∀ a0 k, LeO (spec_weAll.f k a0) (spec_weAll.f (k + 1) a0) := fun a0 k => by
  unfold spec_weAll.f
  exact LeO.ite (LeO.ite (spec_weGoOn.mono _ _ _) (LeO.refl _)) (LeO.refl _)
set_option maxHeartbeats 4000000 in
set_option maxRecDepth 100000 in
theorem spec_weAll.calls (k : Nat) (a0 : Int) (r : List (List (List Int))) (w : World) (h : spec_weAll.f k a0 = some r) :
    Calls Try.prog 57 #[.int .i64 a0] w fun e w' => ∃ v0_ : Value, e = .returned v0_ ∧ Kd.N (Kd.slice 40 (Kd.slice 3 (Kd.int .i64))) 28 w' w.heap.size (fun k_ => (w.heap.size ≤ k_)) v0_ r ∧ Below w.heap.size w w' := by
  unfold spec_weAll.f at h
  by_cases c1 : 0 ≤ a0
  · rw [if_pos c1] at h
    by_cases c2 : a0 ≤ 1000
    · rw [if_pos c2] at h
      obtain ⟨z, hz⟩ : ∃ x : List Int, List.replicate a0.toNat 0 = x := ⟨_, rfl⟩
      rw [hz] at h
      have HO := Aside0.mk h
      have EZ := Aside0.mk hz
      clear h hz
      go_enter Try.func57, Try.ntmps57
      go_wp2_with (first
        | ((with_reducible refine gate_dst (N := 4) rfl ?_); refine Kd.R_make (Kd.int .i64) (w0 := w) w.heap.size 3 rfl (N := 4) rfl 40 (.tmp 3) (.tmp 3) rfl a0 rfl rfl Try.underlying40 (.int .i64 0) 8 info3 rfl (by decide) (by decide) 0 (ok := fun _ => True) (okp := fun _ => True) rfl (fun _ h => h) trivial c1 (by omega) (Below.refl _ _) (Nat.le_refl _) ?_; intro v4 w1 ho hb hg hat; rw [EZ.out] at ho; have HR := Aside0.mk ho; have HB := Aside0.mk hb; clear ho hb hg hat; obtain ⟨A4, c4, e4⟩ := Kd.R_slice HR.out; subst e4)
        | (go_at_call 107; (refine (spec_weGoOn.calls k none 0 [] (fun _ => False) A4 c4 z r w1 (Kd.V_nil _ _ _ _ _) (Kd.R_reads' HR.out).2.2 (Kd.R_reads' HR.out).2.1 HO.out).mono ?_); rintro e w2 ⟨v5, rfl, ho, hb⟩; have HN := Aside0.mk ho; have HB2 := Aside0.mk hb; clear ho hb))
      go_ret
      exact ⟨_, rfl, Kd.N_lower (Kd.N_mono HN.out (fun k hk => hk.elim (fun h => h.elim) (fun h => Nat.le_trans (below_size HB.out) h))) (below_size HB.out), below_step HB.out HB2.out⟩
    · rw [if_neg c2] at h
      exact absurd h (by simp)
  · rw [if_neg c1] at h
    exact absurd h (by simp)

/-! ### spec_weKinds: function 108 -/
mutual
def spec_weKinds.l0 : Nat → List (List Int) → List Int → List (List Int) → Int → Int → Option ((List (List Int)))
 | 0, _, _, _, _, _ => none
 | k + 1, x3, x4, x14, x15, x16 => if x16 < x15 then (if 0 ≤ x16 then (if x16 < (x14.length : Int) then (spec_weKinds.l1 k x3 x4 ([] : List Int) 0 x14 x15 x16 (rd_L3 x14 x16) ((rd_L3 x14 x16).length : Int) 0) else (none)) else (none)) else (some x3)
def spec_weKinds.l1 : Nat → List (List Int) → List Int → List Int → Int → List (List Int) → Int → Int → List Int → Int → Int → Option ((List (List Int)))
 | 0, _, _, _, _, _, _, _, _, _, _ => none
 | k + 1, x3, x4, x7, x8, x14, x15, x16, x20, x21, x22 => if x22 < x21 then (if 0 ≤ x22 then (if x22 < (x20.length : Int) then (if (rd x20 x22) = 1 then (if x7.length < 17592186044416 then (if x22 < (x4.length : Int) then (spec_weKinds.l1 k x3 (x4.set (x22 : Int).toNat (wrap64 ((rd x4 x22) + (rd x20 x22)))) (x7 ++ [4]) (wrap64 (x8 + (rd x20 x22))) x14 x15 x16 x20 x21 (wrap64 (x22 + 1))) else (none)) else (none)) else (if (rd x20 x22) = (-1) then (if x7.length < 17592186044416 then (if x22 < (x4.length : Int) then (spec_weKinds.l1 k x3 (x4.set (x22 : Int).toNat (wrap64 ((rd x4 x22) + (rd x20 x22)))) (x7 ++ [5]) (wrap64 (x8 + (rd x20 x22))) x14 x15 x16 x20 x21 (wrap64 (x22 + 1))) else (none)) else (none)) else (if x22 < (x4.length : Int) then (if x7.length < 17592186044416 then (spec_weKinds.l1 k x3 (x4.set (x22 : Int).toNat (wrap64 ((rd x4 x22) + (rd x20 x22)))) (x7 ++ [wrap64 ((wrap64 (2 * x8)) + (rd x4 x22))]) (wrap64 (x8 + (rd x20 x22))) x14 x15 x16 x20 x21 (wrap64 (x22 + 1))) else (none)) else (none)))) else (none)) else (none)) else (if x3.length < 5864062014805 then (spec_weKinds.l0 k (x3 ++ [x7]) x4 x14 x15 (wrap64 (x16 + 1))) else (none))
end
def spec_weKinds.f (k : Nat) (l0 : List (List Int)) : Option ((List (List Int))) := if 0 ≤ (l0.length : Int) then (if ((l0.length : Int) : Int).toNat ≤ 35184372088832 then (spec_weKinds.l0 k ([] : List (List Int)) (List.replicate ((l0.length : Int) : Int).toNat 0) l0 (l0.length : Int) 0) else (none)) else (none)
theorem spec_weKinds.mono_l : ∀ k, (∀ y0 y1 y2 y3 y4, LeO (spec_weKinds.l0 k y0 y1 y2 y3 y4) (spec_weKinds.l0 (k + 1) y0 y1 y2 y3 y4)) ∧ (∀ y0 y1 y2 y3 y4 y5 y6 y7 y8 y9, LeO (spec_weKinds.l1 k y0 y1 y2 y3 y4 y5 y6 y7 y8 y9) (spec_weKinds.l1 (k + 1) y0 y1 y2 y3 y4 y5 y6 y7 y8 y9))
 | 0 => ⟨fun _ _ _ _ _ r h => by simp [spec_weKinds.l0] at h, fun _ _ _ _ _ _ _ _ _ _ r h => by simp [spec_weKinds.l1] at h⟩
 | k + 1 => by
  obtain ⟨ih0, ih1⟩ := spec_weKinds.mono_l k
  refine ⟨?_, ?_⟩
  ·intro y0 y1 y2 y3 y4
   unfold spec_weKinds.l0
   repeat' first
   | (with_reducible exact ih0 _ _ _ _ _)
   | (with_reducible exact ih1 _ _ _ _ _ _ _ _ _ _)
   | (with_reducible exact LeO.refl _)
   | (with_reducible exact LeO.none _)
   | (with_reducible refine LeO.ite ?_ ?_)
   | (with_reducible refine LeO.bind ?_ (fun _ => ?_))
   | exact ih0 _ _ _ _ _
   | exact ih1 _ _ _ _ _ _ _ _ _ _
   | exact LeO.none _
   | refine LeO.ite ?_ ?_
   | refine LeO.bind ?_ (fun _ => ?_)
  ·intro y0 y1 y2 y3 y4 y5 y6 y7 y8 y9
   unfold spec_weKinds.l1
   repeat' first
   | (with_reducible exact ih0 _ _ _ _ _)
   | (with_reducible exact ih1 _ _ _ _ _ _ _ _ _ _)
   | (with_reducible exact LeO.refl _)
   | (with_reducible exact LeO.none _)
   | (with_reducible refine LeO.ite ?_ ?_)
   | (with_reducible refine LeO.bind ?_ (fun _ => ?_))
   | exact ih0 _ _ _ _ _
   | exact ih1 _ _ _ _ _ _ _ _ _ _
   | exact LeO.none _
   | refine LeO.ite ?_ ?_
   | refine LeO.bind ?_ (fun _ => ?_)
theorem spec_weKinds.mono : ∀ a0  k, LeO (spec_weKinds.f k a0) (spec_weKinds.f (k + 1) a0) := by
 intro a0 k
 obtain ⟨ih0, ih1⟩ := spec_weKinds.mono_l k
 unfold spec_weKinds.f
 repeat' first
   | (with_reducible exact ih0 _ _ _ _ _)
   | (with_reducible exact ih1 _ _ _ _ _ _ _ _ _ _)
   | (with_reducible exact LeO.refl _)
   | (with_reducible exact LeO.none _)
   | (with_reducible refine LeO.ite ?_ ?_)
   | (with_reducible refine LeO.bind ?_ (fun _ => ?_))
   | exact ih0 _ _ _ _ _
   | exact ih1 _ _ _ _ _ _ _ _ _ _
   | exact LeO.none _
   | refine LeO.ite ?_ ?_
   | refine LeO.bind ?_ (fun _ => ?_)
set_option maxHeartbeats 8000000 in
set_option maxRecDepth 100000 in
theorem spec_weKinds.calls (k : Nat) (A0 : Option Addr) (c0 : Nat) (l0 : List (List Int)) (r : List (List Int)) (w : World) (hr0 : Kd.C (Kd.slice 3 (Kd.int .i64)) w A0 l0.length l0) (hc0 : l0.length ≤ c0) (h : spec_weKinds.f k l0 = some r) :
  Calls Try.prog 108 #[.slice A0 l0.length c0] w fun e w' => ∃ v0_ : Value, e = .returned (v0_) ∧ Kd.S (Kd.slice 3 (Kd.int .i64)) 40 w' w.heap.size (fun _ => True) v0_ r ∧ Below w.heap.size w w' := by
 have HR0 := Aside0.mk hr0
 have HC0 := Aside0.mk hc0
 clear hr0 hc0
 have HB := Aside0.mk (Below.refl w.heap.size w)
 have H : (if 0 ≤ (l0.length : Int) then (if ((l0.length : Int) : Int).toNat ≤ 35184372088832 then (spec_weKinds.l0 k ([] : List (List Int)) (List.replicate ((l0.length : Int) : Int).toNat 0) l0 (l0.length : Int) 0) else (none)) else (none)) = some r := h
 clear h
 by_cases c2 : 0 ≤ (l0.length : Int)
 ·rw [if_pos c2] at H
  have c2b0 := eq_true c2
  have c2b1 : decide (0 ≤ (l0.length : Int)) = true := decide_eq_true c2
  clear c2
  by_cases c3 : ((l0.length : Int) : Int).toNat ≤ 35184372088832
  ·rw [if_pos c3] at H
   have c3b0 := eq_true c3
   have c3b1 : decide (((l0.length : Int) : Int).toNat ≤ 35184372088832) = true := decide_eq_true c3
   clear c3
   obtain ⟨y101, hy101⟩ : ∃ y_ : List Int, y_ = (List.replicate ((l0.length : Int) : Int).toNat 0) := ⟨_, rfl⟩
   replace H : (spec_weKinds.l0 k ([] : List (List Int)) y101 l0 (l0.length : Int) 0) = some r := by first | (rw [hy101]; with_reducible exact H) | (have H2_ := (Option.bind_some _ _).symm.trans H; rw [hy101]; with_reducible exact H2_) | (have H2_ := (Option.bind_some _ _).symm.trans H; with_reducible exact H2_) | with_reducible exact H | (rw [hy101]; exact H) | exact H
   have Ny101 := Aside0.mk hy101
   clear hy101
   have H' := Aside0.mk H
   clear H
   go_enter Try.func108, Try.ntmps108
   go_wp2_with (first | ((with_reducible refine gate_dst (N := 13) rfl ?_); refine Kd.R_make (Kd.int .i64) _ 3 rfl (N := 13) rfl 40 _ _ rfl (l0.length : Int) rfl rfl Try.underlying40 (.int .i64 0) 8 info3 rfl (by decide) (by omega) 0 (ok := fun _ => True) (okp := fun _ => True) rfl (fun _ hk => hk) trivial (of_decide_eq_true tc2_) (Nat.le_trans (Nat.mul_le_mul_right _ (of_decide_eq_true tc2_ : (l0.length : Int).toNat ≤ 35184372088832)) (by omega)) (Below.refl _ _) (Nat.le_refl _) ?_; intro v102 w4 ho5 hb hg_ hnew_; clear hg_ hnew_; (first | rw [← Ny101.out] at ho5 | (simp only [Int.reduceToNat] at ho5; rw [← Ny101.out] at ho5)); have n0_ := Aside0.mk (Kd.R_lower ho5 (below_size tc0_)); have n1_ := Aside0.mk (below_step tc0_ hb); clear HB; have HO103 := n0_; have HB := n1_; clear n0_ n1_; clear hb ho5))
   go_loopg [3, 16] k (fun kq v3 v16 w' => ∃ (x3_1 : List (List Int)) (x4_1 : List Int) (x16_1 : Int), v16 = .int .i64 x16_1 ∧ Aside0 (spec_weKinds.l0 kq x3_1 x4_1 l0 (l0.length : Int) x16_1 = some r) ∧ Aside0 (kq ≤ k) ∧ Aside0 (Kd.S (Kd.slice 3 (Kd.int .i64)) 40 w' w.heap.size (fun k_ => some k_ ≠ (v102 : Value).ownBlock) v3 x3_1) ∧ Aside0 (Kd.R (Kd.int .i64) 3 w' w.heap.size (fun _ => True) v102 x4_1) ∧ Aside0 (Below w.heap.size w w'))
   case atStart => exact ⟨(([] : List (List Int))), (y101), (0), tc4_, H', ⟨Nat.le_refl _⟩, ⟨by first | exact Kd.S_nil _ _ _ _ _ | exact Kd.N_nil _ _ _ _ _ | exact Kd.V_nil _ _ _ _ _ | exact Kd.Q_nil _ _ _ _ _ | exact Kd.R_nil _ _ _ _ _⟩, ⟨by (with_reducible repeat (first | apply Kd.R_alloc | apply Kd.R_drewN | apply Kd.R_drew)); exact HO103.out⟩, ⟨by repeat (first | (with_reducible first | exact HB.out | apply below_alloc | apply pw_below_drewN | apply below_drew1) | exact HB.out)⟩⟩
   case round =>
    clear H'
    try clear c1
    try clear c2
    try clear c2b0
    try clear c2b1
    try clear p2
    try clear c3
    try clear c3b0
    try clear c3b1
    obtain ⟨x3_1, x4_1, x16_1, rfl, HA, HK1, HO_3, HO_4, HB⟩ := hrel
    cases gk with
    | zero => exact absurd HA.out (by simp [spec_weKinds.l0])
    | succ k1 =>
     have H := HA.out
     clear HA
     simp only [spec_weKinds.l0] at H
     by_cases c6 : x16_1 < (l0.length : Int)
     ·rw [if_pos c6] at H
      have c6b0 : decide (x16_1 < (l0.length : Int)) = true := decide_eq_true c6
      clear c6
      by_cases c7 : 0 ≤ x16_1
      ·rw [if_pos c7] at H
       have c7b0 : decide (0 ≤ x16_1) = true := decide_eq_true c7
       clear c7
       by_cases c8 : x16_1 < (l0.length : Int)
       ·rw [if_pos c8] at H
        have c8b0 : decide (x16_1 < (l0.length : Int)) = true := decide_eq_true c8
        clear c8
        have H' := Aside0.mk H
        clear H
        have p104 : 0 ≤ (x16_1 : Int) := of_decide_eq_true tc2_
        have q104 : x16_1 < (l0.length : Int) := of_decide_eq_true tc2_
        obtain ⟨ad104, A104_0, c104_0, e104, hx104_0, hl104_0, hi104_0⟩ := at_L3 HR0.out x16_1 p104 q104
        cases e104
        replace hx104_0 := (HB.out.cell (World.block_lt_of_cell? w _ hx104_0)).trans hx104_0
        have HR104_0 := Aside0.mk hi104_0
        have HC104_0 := Aside0.mk hl104_0
        clear hi104_0 hl104_0
        replace p104 := eq_true p104
        replace q104 := eq_true q104
        go_wp2
        go_loopg [7, 8, 22] k1 (fun kq v7 v8 v22 w' => ∃ (x4_2 : List Int) (x7_2 : List Int) (x8_2 : Int) (x22_2 : Int), v8 = .int .i64 x8_2 ∧ v22 = .int .i64 x22_2 ∧ Aside0 (spec_weKinds.l1 kq x3_1 x4_2 x7_2 x8_2 l0 (l0.length : Int) x16_1 (rd_L3 l0 x16_1) ((rd_L3 l0 x16_1).length : Int) x22_2 = some r) ∧ Aside0 (kq ≤ k1) ∧ Aside0 (Kd.S (Kd.slice 3 (Kd.int .i64)) 40 w' w.heap.size (fun k_ => some k_ ≠ (v102 : Value).ownBlock ∧ some k_ ≠ (v7 : Value).ownBlock) u3 x3_1) ∧ Aside0 (Kd.R (Kd.int .i64) 3 w' w.heap.size (fun k_ => some k_ ≠ (v7 : Value).ownBlock) v102 x4_2) ∧ Aside0 (Kd.R (Kd.int .i64) 3 w' w.heap.size (fun k_ => some k_ ≠ (v102 : Value).ownBlock) v7 x7_2) ∧ Aside0 (Below w.heap.size w w'))
        case atStart => exact ⟨(x4_1), (([] : List Int)), (0), (0), tc4_, tc4_, H', ⟨Nat.le_refl _⟩, ⟨by (with_reducible repeat (first | apply Kd.S_alloc | apply Kd.S_drewN | apply Kd.S_drew)); exact Kd.S_mono HO_3.out (fun _ hk => ⟨hk, (by simp [Value.ownBlock])⟩)⟩, ⟨by (with_reducible repeat (first | apply Kd.R_alloc | apply Kd.R_drewN | apply Kd.R_drew)); exact Kd.R_mono HO_4.out (fun _ hk => (by simp [Value.ownBlock]))⟩, ⟨by first | exact Kd.R_nil _ _ _ _ _ | exact Kd.N_nil _ _ _ _ _ | exact Kd.V_nil _ _ _ _ _ | exact Kd.Q_nil _ _ _ _ _ | exact Kd.S_nil _ _ _ _ _⟩, ⟨by repeat (first | (with_reducible first | exact HB.out | apply below_alloc | apply pw_below_drewN | apply below_drew1) | exact HB.out)⟩⟩
        case round =>
         clear H'
         try clear c1
         try clear p1
         try clear q1
         try clear hx1
         try clear c2
         try clear c2b0
         try clear c2b1
         try clear p2
         try clear c3
         try clear c3b0
         try clear c3b1
         try clear c6
         try clear c6b0
         try clear c7
         try clear c7b0
         try clear c8
         try clear c8b0
         try clear hx104_0
         try clear p104
         try clear p2
         try clear q104
         obtain ⟨x4_2, x7_2, x8_2, x22_2, rfl, rfl, HA, HK2, HO_3, HO_4, HO_7, HB⟩ := hrel
         cases gk with
         | zero => exact absurd HA.out (by simp [spec_weKinds.l1])
         | succ k2 =>
          have H := HA.out
          clear HA
          simp only [spec_weKinds.l1] at H
          by_cases c9 : x22_2 < ((rd_L3 l0 x16_1).length : Int)
          ·rw [if_pos c9] at H
           have c9b0 : decide (x22_2 < ((rd_L3 l0 x16_1).length : Int)) = true := decide_eq_true c9
           clear c9
           by_cases c10 : 0 ≤ x22_2
           ·rw [if_pos c10] at H
            have c10b0 : decide (0 ≤ x22_2) = true := decide_eq_true c10
            clear c10
            by_cases c11 : x22_2 < ((rd_L3 l0 x16_1).length : Int)
            ·rw [if_pos c11] at H
             have c11b0 : decide (x22_2 < ((rd_L3 l0 x16_1).length : Int)) = true := decide_eq_true c11
             clear c11
             by_cases c12 : (rd (rd_L3 l0 x16_1) x22_2) = 1
             ·rw [if_pos c12] at H
              have c12b0 : ((rd (rd_L3 l0 x16_1) x22_2) == 1) = true := beq_iff_eq.mpr c12
              have c12b1 : ((rd (rd_L3 l0 x16_1) x22_2) != 1) = false := bne_eq_false_iff_eq.mpr c12
              clear c12
              by_cases c13 : x7_2.length < 17592186044416
              ·rw [if_pos c13] at H
               have LMc13 := Aside0.mk c13
               clear c13
               obtain ⟨y109, hy109⟩ : ∃ y_ : List Int, y_ = (x7_2 ++ [4]) := ⟨_, rfl⟩
               replace H : (if x22_2 < (x4_2.length : Int) then (spec_weKinds.l1 k2 x3_1 (x4_2.set (x22_2 : Int).toNat (wrap64 ((rd x4_2 x22_2) + (rd (rd_L3 l0 x16_1) x22_2)))) y109 (wrap64 (x8_2 + (rd (rd_L3 l0 x16_1) x22_2))) l0 (l0.length : Int) x16_1 (rd_L3 l0 x16_1) ((rd_L3 l0 x16_1).length : Int) (wrap64 (x22_2 + 1))) else (none)) = some r := by first | (rw [hy109]; with_reducible exact H) | (have H2_ := (Option.bind_some _ _).symm.trans H; rw [hy109]; with_reducible exact H2_) | (have H2_ := (Option.bind_some _ _).symm.trans H; with_reducible exact H2_) | with_reducible exact H | (rw [hy109]; exact H) | exact H
               have Ny109 := Aside0.mk hy109
               clear hy109
               by_cases c14 : x22_2 < (x4_2.length : Int)
               ·rw [if_pos c14] at H
                have c14b0 : decide (x22_2 < (x4_2.length : Int)) = true := decide_eq_true c14
                clear c14
                obtain ⟨y113, hy113⟩ : ∃ y_ : List Int, y_ = (x4_2.set (x22_2 : Int).toNat (wrap64 ((rd x4_2 x22_2) + (rd (rd_L3 l0 x16_1) x22_2)))) := ⟨_, rfl⟩
                replace H : (spec_weKinds.l1 k2 x3_1 y113 y109 (wrap64 (x8_2 + (rd (rd_L3 l0 x16_1) x22_2))) l0 (l0.length : Int) x16_1 (rd_L3 l0 x16_1) ((rd_L3 l0 x16_1).length : Int) (wrap64 (x22_2 + 1))) = some r := by first | (rw [hy113]; with_reducible exact H) | (have H2_ := (Option.bind_some _ _).symm.trans H; rw [hy113]; with_reducible exact H2_) | (have H2_ := (Option.bind_some _ _).symm.trans H; with_reducible exact H2_) | with_reducible exact H | (rw [hy113]; exact H) | exact H
                have Ny113 := Aside0.mk hy113
                clear hy113
                have H' := Aside0.mk H
                clear H
                have p108 : 0 ≤ (x22_2 : Int) := of_decide_eq_true tc2_
                have q108 : x22_2 < ((rd_L3 l0 x16_1).length : Int) := of_decide_eq_true tc2_
                obtain ⟨ad108, e108, hx108_0⟩ := Kd.at_int HR104_0.out x22_2 p108 q108
                cases e108
                replace hx108_0 := (HB.out.cell (World.block_lt_of_cell? w _ hx108_0)).trans hx108_0
                replace p108 := eq_true p108
                replace q108 := eq_true q108
                go_wp2_with (first | ((with_reducible refine gate_builtin (b := .append) (xs := #[.tmp 40, .tmp 41]) rfl ?_); at_builtin; refine Kd.R_append (Kd.int .i64) (w0 := w) w.heap.size rfl (.tmp 40) (.tmp 41) 40 3 (.int .i64 0) 8 rfl Try.underlying40 info3 rfl (by decide) (by omega) u7 x7_2 4 [.int .i64 4] (fun k_ => some k_ ≠ (v102 : Value).ownBlock) (fun _ => False) rfl rfl ?aP (fun _ hk => hk.elim) ?aF ?aO ?aB ?aS ?aL ?_; (case aP => exact rfl); (case aB => exact tc0_); (case aF => exact (fun k_ hk => Kd.fresh' (Kd.R_lt tc22_) k_ hk)); (case aO => exact tc36_); (case aS => exact (below_size tc0_)); (case aL => have := LMc13.out; omega); intro v110 w16 ho hb hg hat; rw [← Ny109.out] at ho; have n0_ := Aside0.mk (Kd.S_after (ok := (fun k_ => some k_ ≠ (v102 : Value).ownBlock)) tc23_ hg hat); have n1_ := Aside0.mk (Kd.R_after (ok := (fun _ => True)) tc28_ hg hat); have n2_ := Aside0.mk (hb); have n3_ := Aside0.mk (ho); clear HO_3; clear HO_4; clear HB; clear HO_7; have HO_3 := n0_; have HO_4 := n1_; have HB := n2_; have HO111 := n3_; clear n0_ n1_ n2_ n3_; clear ho hb hg hat; obtain ⟨Ao17, co17, eo17⟩ := Kd.R_slice HO_4.out; subst eo17; have p112 : 0 ≤ (x22_2 : Int) := of_decide_eq_true tc2_; have q112 : x22_2 < (x4_2.length : Int) := of_decide_eq_true tc2_; obtain ⟨ad112, e112, hx112_0⟩ := Kd.at_int (Kd.R_reads' HO_4.out).2.2 x22_2 p112 q112; cases e112; replace p112 := eq_true p112; replace q112 := eq_true q112; have p15 : 0 ≤ (x22_2 : Int) := of_decide_eq_true tc2_; have q15 : (x22_2 : Int) < ((x4_2.length : Int) : Int) := of_decide_eq_true tc2_; obtain ⟨go15, co15, eo15, gb15, gl15, cl15, HG15⟩ := Kd.R_form HO_4.out (by omega); (first | cases eo15 | (injection eo15 with ea_ en_ ec_; (first | subst ea_ | (injection ea_ with ea_; subst ea_)); subst ec_; clear en_)); have GB15 := Aside0.mk gb15; have GG15 := Aside0.mk HG15; clear gb15 gl15 HG15; (first | simp only [add_plain] at hx112_0 | skip); obtain ⟨hx15_0, hf15_0⟩ := Kd.R_celln 0 HO_4.out (x22_2 : Int) p15 q15; replace p15 := eq_true p15; replace q15 := eq_true q15; have n_ := Aside0.mk (Kd.R_mono (ok' := (fun k_ => some k_ ≠ (v110 : Value).ownBlock)) HO_4.out (fun k_ hk => hk.2)); clear HO_4; have HO_4 := n_; clear n_; obtain ⟨hy18_, hz18_⟩ := Kd.R_celln 0 HO_4.out (x22_2 : Int) (of_decide_eq_true tc2_) (of_decide_eq_true tc2_); have HP18 := Kd.R_putg HO_4.out (x22_2 : Int) (wrap64 ((rd x4_2 x22_2) + (rd (rd_L3 l0 x16_1) x22_2)))) | ((with_reducible refine gate_store (t := 3) (p := 57) rfl ?_); refine store_event (t := 3) (p := 57) (v := ?vo_w19) (w1 := (w16.setCell ⟨go15, (x22_2 : Int).toNat, none⟩ (.int .i64 (wrap64 ((rd x4_2 x22_2) + (rd (rd_L3 l0 x16_1) x22_2)))))) ?hg ?ho ?hn ?hr ?_; (case ho => rfl); (case hg => rfl); (case hn => rfl); (case hr => first | (go_simp; done) | (go_simp; rfl)); intro w19 hw; have hg : w16.grownBy w19 (some go15) := (by rw [hw]; exact HP18.2); have hp_ : Kd.R (Kd.int .i64) 3 w19 w.heap.size (fun k_ => some k_ ≠ (v110 : Value).ownBlock) (.slice (some ⟨go15, 0, none⟩) x4_2.length co17) y113 := (by rw [hw, Ny113.out]; exact HP18.1); clear HP18; have n0_ := Aside0.mk (Kd.S_after (v := (.slice (some ⟨go15, 0, none⟩) x4_2.length co17)) (v1 := (.slice (some ⟨go15, 0, none⟩) x4_2.length co17)) (ok := (fun k_ => some k_ ≠ (v110 : Value).ownBlock)) tc29_ hg (.inl rfl)); have n1_ := Aside0.mk (hp_); have n2_ := Aside0.mk (Kd.R_after (v := (.slice (some ⟨go15, 0, none⟩) x4_2.length co17)) (v1 := (.slice (some ⟨go15, 0, none⟩) x4_2.length co17)) (ok := (fun _ => True)) (by (with_reducible repeat (first | apply Kd.R_alloc | apply Kd.R_drewN | apply Kd.R_drew)); exact Kd.R_mono HO111.out (fun _ hk => ⟨trivial, hk⟩)) hg (.inl rfl)); have n3_ := Aside0.mk ((by rw [hw]; exact below_set (HB.out) GB15.out : Below w.heap.size w w19)); clear HO_3; clear HO_4; clear HO111; clear HB; have HO_3 := n0_; have HO_4 := n1_; have HO111 := n2_; have HB := n3_; clear n0_ n1_ n2_ n3_; clear hg hw hp_))
                go_roundg k2
                case measure => have := HK1.out; have := HK2.out; omega
                case rel => exact ⟨(y113), (y109), (wrap64 (x8_2 + (rd (rd_L3 l0 x16_1) x22_2))), (wrap64 (x22_2 + 1)), tc4_, tc4_, H', ⟨by have := HK1.out; have := HK2.out; omega⟩, ⟨by (with_reducible repeat (first | apply Kd.S_alloc | apply Kd.S_drewN | apply Kd.S_drew)); exact Kd.S_mono HO_3.out (fun _ hk => ⟨hk.2, hk.1⟩)⟩, ⟨by (with_reducible repeat (first | apply Kd.R_alloc | apply Kd.R_drewN | apply Kd.R_drew)); exact HO_4.out⟩, ⟨by (with_reducible repeat (first | apply Kd.R_alloc | apply Kd.R_drewN | apply Kd.R_drew)); exact Kd.R_mono HO111.out (fun _ hk => hk.2)⟩, ⟨by repeat (first | (with_reducible first | exact HB.out | apply below_alloc | apply pw_below_drewN | apply below_drew1) | exact HB.out)⟩⟩
               ·rw [if_neg c14] at H
                exact absurd H (by simp)
              ·rw [if_neg c13] at H
               exact absurd H (by simp)
             ·rw [if_neg c12] at H
              have c12b0 : ((rd (rd_L3 l0 x16_1) x22_2) == 1) = false := beq_eq_false_iff_ne.mpr c12
              have c12b1 : ((rd (rd_L3 l0 x16_1) x22_2) != 1) = true := bne_iff_ne.mpr c12
              by_cases c20 : (rd (rd_L3 l0 x16_1) x22_2) = (-1)
              ·rw [if_pos c20] at H
               have c20b0 : ((rd (rd_L3 l0 x16_1) x22_2) == (-1)) = true := beq_iff_eq.mpr c20
               have c20b1 : ((rd (rd_L3 l0 x16_1) x22_2) != (-1)) = false := bne_eq_false_iff_eq.mpr c20
               clear c20
               by_cases c21 : x7_2.length < 17592186044416
               ·rw [if_pos c21] at H
                have LMc21 := Aside0.mk c21
                clear c21
                obtain ⟨y114, hy114⟩ : ∃ y_ : List Int, y_ = (x7_2 ++ [5]) := ⟨_, rfl⟩
                replace H : (if x22_2 < (x4_2.length : Int) then (spec_weKinds.l1 k2 x3_1 (x4_2.set (x22_2 : Int).toNat (wrap64 ((rd x4_2 x22_2) + (rd (rd_L3 l0 x16_1) x22_2)))) y114 (wrap64 (x8_2 + (rd (rd_L3 l0 x16_1) x22_2))) l0 (l0.length : Int) x16_1 (rd_L3 l0 x16_1) ((rd_L3 l0 x16_1).length : Int) (wrap64 (x22_2 + 1))) else (none)) = some r := by first | (rw [hy114]; with_reducible exact H) | (have H2_ := (Option.bind_some _ _).symm.trans H; rw [hy114]; with_reducible exact H2_) | (have H2_ := (Option.bind_some _ _).symm.trans H; with_reducible exact H2_) | with_reducible exact H | (rw [hy114]; exact H) | exact H
                have Ny114 := Aside0.mk hy114
                clear hy114
                by_cases c22 : x22_2 < (x4_2.length : Int)
                ·rw [if_pos c22] at H
                 have c22b0 : decide (x22_2 < (x4_2.length : Int)) = true := decide_eq_true c22
                 clear c22
                 obtain ⟨y118, hy118⟩ : ∃ y_ : List Int, y_ = (x4_2.set (x22_2 : Int).toNat (wrap64 ((rd x4_2 x22_2) + (rd (rd_L3 l0 x16_1) x22_2)))) := ⟨_, rfl⟩
                 replace H : (spec_weKinds.l1 k2 x3_1 y118 y114 (wrap64 (x8_2 + (rd (rd_L3 l0 x16_1) x22_2))) l0 (l0.length : Int) x16_1 (rd_L3 l0 x16_1) ((rd_L3 l0 x16_1).length : Int) (wrap64 (x22_2 + 1))) = some r := by first | (rw [hy118]; with_reducible exact H) | (have H2_ := (Option.bind_some _ _).symm.trans H; rw [hy118]; with_reducible exact H2_) | (have H2_ := (Option.bind_some _ _).symm.trans H; with_reducible exact H2_) | with_reducible exact H | (rw [hy118]; exact H) | exact H
                 have Ny118 := Aside0.mk hy118
                 clear hy118
                 have H' := Aside0.mk H
                 clear H
                 have p108 : 0 ≤ (x22_2 : Int) := of_decide_eq_true tc2_
                 have q108 : x22_2 < ((rd_L3 l0 x16_1).length : Int) := of_decide_eq_true tc2_
                 obtain ⟨ad108, e108, hx108_0⟩ := Kd.at_int HR104_0.out x22_2 p108 q108
                 cases e108
                 replace hx108_0 := (HB.out.cell (World.block_lt_of_cell? w _ hx108_0)).trans hx108_0
                 replace p108 := eq_true p108
                 replace q108 := eq_true q108
                 go_wp2_with (first | ((with_reducible refine gate_builtin (b := .append) (xs := #[.tmp 45, .tmp 46]) rfl ?_); at_builtin; refine Kd.R_append (Kd.int .i64) (w0 := w) w.heap.size rfl (.tmp 45) (.tmp 46) 40 3 (.int .i64 0) 8 rfl Try.underlying40 info3 rfl (by decide) (by omega) u7 x7_2 5 [.int .i64 5] (fun k_ => some k_ ≠ (v102 : Value).ownBlock) (fun _ => False) rfl rfl ?aP (fun _ hk => hk.elim) ?aF ?aO ?aB ?aS ?aL ?_; (case aP => exact rfl); (case aB => exact tc0_); (case aF => exact (fun k_ hk => Kd.fresh' (Kd.R_lt tc22_) k_ hk)); (case aO => exact tc36_); (case aS => exact (below_size tc0_)); (case aL => have := LMc21.out; omega); intro v115 w24 ho hb hg hat; rw [← Ny114.out] at ho; have n0_ := Aside0.mk (Kd.S_after (ok := (fun k_ => some k_ ≠ (v102 : Value).ownBlock)) tc23_ hg hat); have n1_ := Aside0.mk (Kd.R_after (ok := (fun _ => True)) tc28_ hg hat); have n2_ := Aside0.mk (hb); have n3_ := Aside0.mk (ho); clear HO_3; clear HO_4; clear HB; clear HO_7; have HO_3 := n0_; have HO_4 := n1_; have HB := n2_; have HO116 := n3_; clear n0_ n1_ n2_ n3_; clear ho hb hg hat; obtain ⟨Ao25, co25, eo25⟩ := Kd.R_slice HO_4.out; subst eo25; have p117 : 0 ≤ (x22_2 : Int) := of_decide_eq_true tc2_; have q117 : x22_2 < (x4_2.length : Int) := of_decide_eq_true tc2_; obtain ⟨ad117, e117, hx117_0⟩ := Kd.at_int (Kd.R_reads' HO_4.out).2.2 x22_2 p117 q117; cases e117; replace p117 := eq_true p117; replace q117 := eq_true q117; have p23 : 0 ≤ (x22_2 : Int) := of_decide_eq_true tc2_; have q23 : (x22_2 : Int) < ((x4_2.length : Int) : Int) := of_decide_eq_true tc2_; obtain ⟨go23, co23, eo23, gb23, gl23, cl23, HG23⟩ := Kd.R_form HO_4.out (by omega); (first | cases eo23 | (injection eo23 with ea_ en_ ec_; (first | subst ea_ | (injection ea_ with ea_; subst ea_)); subst ec_; clear en_)); have GB23 := Aside0.mk gb23; have GG23 := Aside0.mk HG23; clear gb23 gl23 HG23; (first | simp only [add_plain] at hx117_0 | skip); obtain ⟨hx23_0, hf23_0⟩ := Kd.R_celln 0 HO_4.out (x22_2 : Int) p23 q23; replace p23 := eq_true p23; replace q23 := eq_true q23; have n_ := Aside0.mk (Kd.R_mono (ok' := (fun k_ => some k_ ≠ (v115 : Value).ownBlock)) HO_4.out (fun k_ hk => hk.2)); clear HO_4; have HO_4 := n_; clear n_; obtain ⟨hy26_, hz26_⟩ := Kd.R_celln 0 HO_4.out (x22_2 : Int) (of_decide_eq_true tc2_) (of_decide_eq_true tc2_); have HP26 := Kd.R_putg HO_4.out (x22_2 : Int) (wrap64 ((rd x4_2 x22_2) + (rd (rd_L3 l0 x16_1) x22_2)))) | ((with_reducible refine gate_store (t := 3) (p := 57) rfl ?_); refine store_event (t := 3) (p := 57) (v := ?vo_w27) (w1 := (w24.setCell ⟨go23, (x22_2 : Int).toNat, none⟩ (.int .i64 (wrap64 ((rd x4_2 x22_2) + (rd (rd_L3 l0 x16_1) x22_2)))))) ?hg ?ho ?hn ?hr ?_; (case ho => rfl); (case hg => rfl); (case hn => rfl); (case hr => first | (go_simp; done) | (go_simp; rfl)); intro w27 hw; have hg : w24.grownBy w27 (some go23) := (by rw [hw]; exact HP26.2); have hp_ : Kd.R (Kd.int .i64) 3 w27 w.heap.size (fun k_ => some k_ ≠ (v115 : Value).ownBlock) (.slice (some ⟨go23, 0, none⟩) x4_2.length co25) y118 := (by rw [hw, Ny118.out]; exact HP26.1); clear HP26; have n0_ := Aside0.mk (Kd.S_after (v := (.slice (some ⟨go23, 0, none⟩) x4_2.length co25)) (v1 := (.slice (some ⟨go23, 0, none⟩) x4_2.length co25)) (ok := (fun k_ => some k_ ≠ (v115 : Value).ownBlock)) tc29_ hg (.inl rfl)); have n1_ := Aside0.mk (hp_); have n2_ := Aside0.mk (Kd.R_after (v := (.slice (some ⟨go23, 0, none⟩) x4_2.length co25)) (v1 := (.slice (some ⟨go23, 0, none⟩) x4_2.length co25)) (ok := (fun _ => True)) (by (with_reducible repeat (first | apply Kd.R_alloc | apply Kd.R_drewN | apply Kd.R_drew)); exact Kd.R_mono HO116.out (fun _ hk => ⟨trivial, hk⟩)) hg (.inl rfl)); have n3_ := Aside0.mk ((by rw [hw]; exact below_set (HB.out) GB23.out : Below w.heap.size w w27)); clear HO_3; clear HO_4; clear HO116; clear HB; have HO_3 := n0_; have HO_4 := n1_; have HO116 := n2_; have HB := n3_; clear n0_ n1_ n2_ n3_; clear hg hw hp_))
                 go_roundg k2
                 case measure => have := HK1.out; have := HK2.out; omega
                 case rel => exact ⟨(y118), (y114), (wrap64 (x8_2 + (rd (rd_L3 l0 x16_1) x22_2))), (wrap64 (x22_2 + 1)), tc4_, tc4_, H', ⟨by have := HK1.out; have := HK2.out; omega⟩, ⟨by (with_reducible repeat (first | apply Kd.S_alloc | apply Kd.S_drewN | apply Kd.S_drew)); exact Kd.S_mono HO_3.out (fun _ hk => ⟨hk.2, hk.1⟩)⟩, ⟨by (with_reducible repeat (first | apply Kd.R_alloc | apply Kd.R_drewN | apply Kd.R_drew)); exact HO_4.out⟩, ⟨by (with_reducible repeat (first | apply Kd.R_alloc | apply Kd.R_drewN | apply Kd.R_drew)); exact Kd.R_mono HO116.out (fun _ hk => hk.2)⟩, ⟨by repeat (first | (with_reducible first | exact HB.out | apply below_alloc | apply pw_below_drewN | apply below_drew1) | exact HB.out)⟩⟩
                ·rw [if_neg c22] at H
                 exact absurd H (by simp)
               ·rw [if_neg c21] at H
                exact absurd H (by simp)
              ·rw [if_neg c20] at H
               have c20b0 : ((rd (rd_L3 l0 x16_1) x22_2) == (-1)) = false := beq_eq_false_iff_ne.mpr c20
               have c20b1 : ((rd (rd_L3 l0 x16_1) x22_2) != (-1)) = true := bne_iff_ne.mpr c20
               by_cases c28 : x22_2 < (x4_2.length : Int)
               ·rw [if_pos c28] at H
                have c28b0 : decide (x22_2 < (x4_2.length : Int)) = true := decide_eq_true c28
                clear c28
                by_cases c29 : x7_2.length < 17592186044416
                ·rw [if_pos c29] at H
                 have LMc29 := Aside0.mk c29
                 clear c29
                 obtain ⟨y120, hy120⟩ : ∃ y_ : List Int, y_ = (x7_2 ++ [wrap64 ((wrap64 (2 * x8_2)) + (rd x4_2 x22_2))]) := ⟨_, rfl⟩
                 replace H : (spec_weKinds.l1 k2 x3_1 (x4_2.set (x22_2 : Int).toNat (wrap64 ((rd x4_2 x22_2) + (rd (rd_L3 l0 x16_1) x22_2)))) y120 (wrap64 (x8_2 + (rd (rd_L3 l0 x16_1) x22_2))) l0 (l0.length : Int) x16_1 (rd_L3 l0 x16_1) ((rd_L3 l0 x16_1).length : Int) (wrap64 (x22_2 + 1))) = some r := by first | (rw [hy120]; with_reducible exact H) | (have H2_ := (Option.bind_some _ _).symm.trans H; rw [hy120]; with_reducible exact H2_) | (have H2_ := (Option.bind_some _ _).symm.trans H; with_reducible exact H2_) | with_reducible exact H | (rw [hy120]; exact H) | exact H
                 have Ny120 := Aside0.mk hy120
                 clear hy120
                 obtain ⟨y124, hy124⟩ : ∃ y_ : List Int, y_ = (x4_2.set (x22_2 : Int).toNat (wrap64 ((rd x4_2 x22_2) + (rd (rd_L3 l0 x16_1) x22_2)))) := ⟨_, rfl⟩
                 replace H : (spec_weKinds.l1 k2 x3_1 y124 y120 (wrap64 (x8_2 + (rd (rd_L3 l0 x16_1) x22_2))) l0 (l0.length : Int) x16_1 (rd_L3 l0 x16_1) ((rd_L3 l0 x16_1).length : Int) (wrap64 (x22_2 + 1))) = some r := by first | (rw [hy124]; with_reducible exact H) | (have H2_ := (Option.bind_some _ _).symm.trans H; rw [hy124]; with_reducible exact H2_) | (have H2_ := (Option.bind_some _ _).symm.trans H; with_reducible exact H2_) | with_reducible exact H | (rw [hy124]; exact H) | exact H
                 have Ny124 := Aside0.mk hy124
                 clear hy124
                 have H' := Aside0.mk H
                 clear H
                 have p108 : 0 ≤ (x22_2 : Int) := of_decide_eq_true tc2_
                 have q108 : x22_2 < ((rd_L3 l0 x16_1).length : Int) := of_decide_eq_true tc2_
                 obtain ⟨ad108, e108, hx108_0⟩ := Kd.at_int HR104_0.out x22_2 p108 q108
                 cases e108
                 replace hx108_0 := (HB.out.cell (World.block_lt_of_cell? w _ hx108_0)).trans hx108_0
                 replace p108 := eq_true p108
                 replace q108 := eq_true q108
                 obtain ⟨Ao31, co31, eo31⟩ := Kd.R_slice HO_4.out
                 subst eo31
                 have p119 : 0 ≤ (x22_2 : Int) := of_decide_eq_true tc2_
                 have q119 : x22_2 < (x4_2.length : Int) := of_decide_eq_true tc2_
                 obtain ⟨ad119, e119, hx119_0⟩ := Kd.at_int (Kd.R_reads' HO_4.out).2.2 x22_2 p119 q119
                 cases e119
                 replace p119 := eq_true p119
                 replace q119 := eq_true q119
                 go_wp2_with (first | ((with_reducible refine gate_builtin (b := .append) (xs := #[.tmp 28, .tmp 36]) rfl ?_); at_builtin; refine Kd.R_append (Kd.int .i64) (w0 := w) w.heap.size rfl (.tmp 28) (.tmp 36) 40 3 (.int .i64 0) 8 rfl Try.underlying40 info3 rfl (by decide) (by omega) u7 x7_2 (wrap64 ((wrap64 (2 * x8_2)) + (rd x4_2 x22_2))) [.int .i64 (wrap64 ((wrap64 (2 * x8_2)) + (rd x4_2 x22_2)))] (fun k_ => some k_ ≠ (.slice (some ad119) x4_2.length co31 : Value).ownBlock) (fun _ => False) rfl rfl ?aP (fun _ hk => hk.elim) ?aF ?aO ?aB ?aS ?aL ?_; (case aP => exact rfl); (case aB => exact tc0_); (case aF => exact (fun k_ hk => Kd.fresh' (Kd.R_lt tc22_) k_ hk)); (case aO => exact tc36_); (case aS => exact (below_size tc0_)); (case aL => have := LMc29.out; omega); intro v121 w32 ho hb hg hat; rw [← Ny120.out] at ho; have n0_ := Aside0.mk (Kd.S_after (ok := (fun k_ => some k_ ≠ (.slice (some ad119) x4_2.length co31 : Value).ownBlock)) tc23_ hg hat); have n1_ := Aside0.mk (Kd.R_after (ok := (fun _ => True)) tc28_ hg hat); have n2_ := Aside0.mk (hb); have n3_ := Aside0.mk (ho); clear HO_3; clear HO_4; clear HB; clear HO_7; have HO_3 := n0_; have HO_4 := n1_; have HB := n2_; have HO122 := n3_; clear n0_ n1_ n2_ n3_; clear ho hb hg hat; have p123 : 0 ≤ (x22_2 : Int) := of_decide_eq_true tc2_; have q123 : x22_2 < (x4_2.length : Int) := of_decide_eq_true tc2_; obtain ⟨ad123, e123, hx123_0⟩ := Kd.at_int (Kd.R_reads' HO_4.out).2.2 x22_2 p123 q123; obtain rfl : ad119 = ad123 := (by injection e123); replace p123 := eq_true p123; replace q123 := eq_true q123; have p30 : 0 ≤ (x22_2 : Int) := of_decide_eq_true tc2_; have q30 : (x22_2 : Int) < ((x4_2.length : Int) : Int) := of_decide_eq_true tc2_; obtain ⟨go30, co30, eo30, gb30, gl30, cl30, HG30⟩ := Kd.R_form HO_4.out (by omega); (first | cases eo30 | (injection eo30 with ea_ en_ ec_; (first | subst ea_ | (injection ea_ with ea_; subst ea_)); subst ec_; clear en_)); have GB30 := Aside0.mk gb30; have GG30 := Aside0.mk HG30; clear gb30 gl30 HG30; (first | simp only [add_plain] at hx119_0 | skip); (first | simp only [add_plain] at hx123_0 | skip); obtain ⟨hx30_0, hf30_0⟩ := Kd.R_celln 0 HO_4.out (x22_2 : Int) p30 q30; replace p30 := eq_true p30; replace q30 := eq_true q30; have n_ := Aside0.mk (Kd.R_mono (ok' := (fun k_ => some k_ ≠ (v121 : Value).ownBlock)) HO_4.out (fun k_ hk => hk.2)); clear HO_4; have HO_4 := n_; clear n_; obtain ⟨hy33_, hz33_⟩ := Kd.R_celln 0 HO_4.out (x22_2 : Int) (of_decide_eq_true tc2_) (of_decide_eq_true tc2_); have HP33 := Kd.R_putg HO_4.out (x22_2 : Int) (wrap64 ((rd x4_2 x22_2) + (rd (rd_L3 l0 x16_1) x22_2)))) | ((with_reducible refine gate_store (t := 3) (p := 57) rfl ?_); refine store_event (t := 3) (p := 57) (v := ?vo_w34) (w1 := (w32.setCell ⟨go30, (x22_2 : Int).toNat, none⟩ (.int .i64 (wrap64 ((rd x4_2 x22_2) + (rd (rd_L3 l0 x16_1) x22_2)))))) ?hg ?ho ?hn ?hr ?_; (case ho => rfl); (case hg => rfl); (case hn => rfl); (case hr => first | (go_simp; done) | (go_simp; rfl)); intro w34 hw; have hg : w32.grownBy w34 (some go30) := (by rw [hw]; exact HP33.2); have hp_ : Kd.R (Kd.int .i64) 3 w34 w.heap.size (fun k_ => some k_ ≠ (v121 : Value).ownBlock) (.slice (some ⟨go30, 0, none⟩) x4_2.length co31) y124 := (by rw [hw, Ny124.out]; exact HP33.1); clear HP33; have n0_ := Aside0.mk (Kd.S_after (v := (.slice (some ⟨go30, 0, none⟩) x4_2.length co31)) (v1 := (.slice (some ⟨go30, 0, none⟩) x4_2.length co31)) (ok := (fun k_ => some k_ ≠ (v121 : Value).ownBlock)) tc29_ hg (.inl rfl)); have n1_ := Aside0.mk (hp_); have n2_ := Aside0.mk (Kd.R_after (v := (.slice (some ⟨go30, 0, none⟩) x4_2.length co31)) (v1 := (.slice (some ⟨go30, 0, none⟩) x4_2.length co31)) (ok := (fun _ => True)) (by (with_reducible repeat (first | apply Kd.R_alloc | apply Kd.R_drewN | apply Kd.R_drew)); exact Kd.R_mono HO122.out (fun _ hk => ⟨trivial, hk⟩)) hg (.inl rfl)); have n3_ := Aside0.mk ((by rw [hw]; exact below_set (HB.out) GB30.out : Below w.heap.size w w34)); clear HO_3; clear HO_4; clear HO122; clear HB; have HO_3 := n0_; have HO_4 := n1_; have HO122 := n2_; have HB := n3_; clear n0_ n1_ n2_ n3_; clear hg hw hp_))
                 go_roundg k2
                 case measure => have := HK1.out; have := HK2.out; omega
                 case rel => exact ⟨(y124), (y120), (wrap64 (x8_2 + (rd (rd_L3 l0 x16_1) x22_2))), (wrap64 (x22_2 + 1)), tc4_, tc4_, H', ⟨by have := HK1.out; have := HK2.out; omega⟩, ⟨by (with_reducible repeat (first | apply Kd.S_alloc | apply Kd.S_drewN | apply Kd.S_drew)); exact Kd.S_mono HO_3.out (fun _ hk => ⟨hk.2, hk.1⟩)⟩, ⟨by (with_reducible repeat (first | apply Kd.R_alloc | apply Kd.R_drewN | apply Kd.R_drew)); exact HO_4.out⟩, ⟨by (with_reducible repeat (first | apply Kd.R_alloc | apply Kd.R_drewN | apply Kd.R_drew)); exact Kd.R_mono HO122.out (fun _ hk => hk.2)⟩, ⟨by repeat (first | (with_reducible first | exact HB.out | apply below_alloc | apply pw_below_drewN | apply below_drew1) | exact HB.out)⟩⟩
                ·rw [if_neg c29] at H
                 exact absurd H (by simp)
               ·rw [if_neg c28] at H
                exact absurd H (by simp)
            ·rw [if_neg c11] at H
             exact absurd H (by simp)
           ·rw [if_neg c10] at H
            exact absurd H (by simp)
          ·rw [if_neg c9] at H
           have c9b0 : decide (x22_2 < ((rd_L3 l0 x16_1).length : Int)) = false := decide_eq_false c9
           clear c9
           by_cases c35 : x3_1.length < 5864062014805
           ·rw [if_pos c35] at H
            have LMc35 := Aside0.mk c35
            clear c35
            obtain ⟨y105, hy105⟩ : ∃ y_ : List (List Int), y_ = (x3_1 ++ [x7_2]) := ⟨_, rfl⟩
            replace H : (spec_weKinds.l0 k2 y105 x4_2 l0 (l0.length : Int) (wrap64 (x16_1 + 1))) = some r := by first | (rw [hy105]; with_reducible exact H) | (have H2_ := (Option.bind_some _ _).symm.trans H; rw [hy105]; with_reducible exact H2_) | (have H2_ := (Option.bind_some _ _).symm.trans H; with_reducible exact H2_) | with_reducible exact H | (rw [hy105]; exact H) | exact H
            have Ny105 := Aside0.mk hy105
            clear hy105
            have H' := Aside0.mk H
            clear H
            obtain ⟨Ao37, co37, eo37⟩ := Kd.R_slice HO_7.out
            subst eo37
            go_wp2_with (first | ((with_reducible refine gate_builtin (b := .append) (xs := #[.tmp 59, .tmp 61]) rfl ?_); at_builtin; refine Kd.S_append (Kd.slice 3 (Kd.int .i64)) (w0 := w) w.heap.size rfl (.tmp 59) (.tmp 61) 28 40 (.slice none 0 0) 24 rfl Try.underlying28 info40 rfl (by decide) (by omega) u3 x3_1 x7_2 [.slice Ao37 x7_2.length co37] (fun k_ => some k_ ≠ (v102 : Value).ownBlock) (fun k_ => some k_ = (.slice Ao37 x7_2.length co37 : Value).ownBlock) rfl rfl ?aP (fun k_ hk_ => ((Kd.R_mono (ok' := fun k_ => ((fun k_ => some k_ ≠ (v102 : Value).ownBlock)) k_ ∧ some k_ ≠ (u3 : Value).ownBlock) (Kd.R_apart' (HO_7.out) (Kd.S_typed HO_3.out) (by decide)) (fun k_ hk => ⟨hk.1, hk.2⟩))).1 k_ hk_.symm) ?aF ?aO ?aB ?aS ?aL ?_; (case aP => exact Kd.M_row (Kd.R_mono (Kd.R_tight rfl (Kd.R_mono (ok' := fun k_ => ((fun k_ => some k_ ≠ (v102 : Value).ownBlock)) k_ ∧ some k_ ≠ (u3 : Value).ownBlock) (Kd.R_apart' (HO_7.out) (Kd.S_typed HO_3.out) (by decide)) (fun k_ hk => ⟨hk.1, hk.2⟩))) (fun _ h_ => h_))); (case aB => exact tc0_); (case aF => exact (fun k_ hk => Kd.fresh' (Kd.R_lt tc22_) k_ hk)); (case aO => exact (by (with_reducible repeat (first | apply Kd.S_alloc | apply Kd.S_drewN | apply Kd.S_drew)); exact Kd.S_mono HO_3.out (fun k_ hk => ⟨hk.1, fun e_ => hk.2 e_⟩))); (case aS => exact (below_size tc0_)); (case aL => have := LMc35.out; omega); intro v106 w36 ho hb hg hat; rw [← Ny105.out] at ho; have n0_ := Aside0.mk (Kd.R_over' tc22_ (Kd.S_typed tc23_) (by decide) hg); have n1_ := Aside0.mk (hb); have n2_ := Aside0.mk (ho); clear HO_4; clear HB; clear HO_3; clear HO_7; have HO_4 := n0_; have HB := n1_; have HO107 := n2_; clear n0_ n1_ n2_; clear ho hb hg hat))
            go_roundg k2
            case measure => have := HK1.out; have := HK2.out; omega
            case rel => exact ⟨(y105), (x4_2), (wrap64 (x16_1 + 1)), tc4_, H', ⟨by have := HK1.out; have := HK2.out; omega⟩, ⟨by (with_reducible repeat (first | apply Kd.S_alloc | apply Kd.S_drewN | apply Kd.S_drew)); exact HO107.out⟩, ⟨by (with_reducible repeat (first | apply Kd.R_alloc | apply Kd.R_drewN | apply Kd.R_drew)); exact Kd.R_mono HO_4.out (fun _ hk => trivial)⟩, ⟨by repeat (first | (with_reducible first | exact HB.out | apply below_alloc | apply pw_below_drewN | apply below_drew1) | exact HB.out)⟩⟩
           ·rw [if_neg c35] at H
            exact absurd H (by simp)
       ·rw [if_neg c8] at H
        exact absurd H (by simp)
      ·rw [if_neg c7] at H
       exact absurd H (by simp)
     ·rw [if_neg c6] at H
      have c6b0 : decide (x16_1 < (l0.length : Int)) = false := decide_eq_false c6
      clear c6
      obtain rfl := Option.some.inj H
      go_wp2
      go_ret
      exact ⟨_, by first | rfl | (simp [errW_none, errW_some] <;> rfl) | (simp [*, errW_none, errW_some] <;> rfl), by (with_reducible repeat (first | apply Kd.S_alloc | apply Kd.S_drewN | apply Kd.S_drew)); exact Kd.S_mono HO_3.out (fun _ hk => trivial), by repeat (first | (with_reducible first | exact HB.out | apply below_alloc | apply pw_below_drewN | apply below_drew1) | exact HB.out)⟩
  ·rw [if_neg c3] at H
   exact absurd H (by simp)
 ·rw [if_neg c2] at H
  exact absurd H (by simp)

end Go.Proofs.Ytjibpmlmohjfcaa.X
