-- Written by a program of this session (wip/xprint.py) that drives the kit's print; the contracts of what it does not take are this session's own.
import Derived.Test.YthpnfjdpomadaaaCFnExactListSymmetricx0
import Derived.Test.YthpnfjdpomadaaaCFnExactListSymmetricx1
namespace Go.Proofs.Ythpnfjdpomadaaa.X
open Go.RowKit Go.Proofs.YthpnfjdpomadaaaW.PrintWords Go.Proofs.YthpnfjdpomadaaaW.PrintLast Go.Proofs.YthpnfjdpomadaaaW.PrintMore
attribute [local go_sem] max2_int min2_int max_two min_two max_three min_three max_four min_four   -- for this text's walks alone
set_option linter.unusedVariables false
set_option linter.unusedSimpArgs false

/-! ### slices_Clone_int_int: function 112 (by hand) -/
def slices_Clone_int_int.f (l0 : List Int) : Option (List Int) := if l0.length < 17592186044416 then some l0 else none
set_option maxHeartbeats 1000000 in
set_option maxRecDepth 100000 in
theorem slices_Clone_int_int.calls (A0 : Option Addr) (c0 : Nat) (l0 : List Int) (r : List Int) (w : World) (hr0 : Kd.C (Kd.int .i64) w A0 l0.length l0) (hc0 : l0.length ≤ c0) (h : slices_Clone_int_int.f l0 = some r) :
    Calls Try.prog 112 #[.slice A0 l0.length c0] w fun e w' => ∃ v0_ : Value, e = .returned (v0_) ∧ Kd.R (Kd.int .i64) 3 w' w.heap.size (fun _ => True) v0_ r ∧ Below w.heap.size w w' := by
  have hlt : l0.length < 17592186044416 := by
    unfold slices_Clone_int_int.f at h
    split at h
    · assumption
    · cases h
  unfold slices_Clone_int_int.f at h
  rw [if_pos hlt] at h
  obtain rfl := Option.some.inj h
  have LMc2 := Aside0.mk (show ([] : List Int).length + l0.length < 17592186044416 by simpa using hlt)
  clear h hlt
  have HR0 := Aside0.mk hr0
  have HC0 := Aside0.mk hc0
  clear hr0 hc0
  have HB := Aside0.mk (Below.refl w.heap.size w)
  cases A0 with
  | none =>
    have hl : l0 = [] := by
      have h1 := HR0.out.2.2
      cases l0 with
      | nil => rfl
      | cons x xs =>
        obtain ⟨ad, e, _⟩ := h1 (by simp)
        cases e
    subst hl
    have hq := fun W : World => Lib.run_eql_slice_nil (P := Try.prog) W 34 3 none ([] : List Int).length c0 0 0 Try.underlying34
    simp only [Option.isNone_none, List.length_nil] at hq
    go_enter Try.func112, Try.ntmps112
    go_wp2
    go_ret
    exact ⟨_, rfl, Kd.R_nil _ _ _ _ _, Below.refl _ _⟩
  | some ad =>
    have hq := fun W : World => Lib.run_eql_slice_nil (P := Try.prog) W 34 3 (some ad) l0.length c0 0 0 Try.underlying34
    simp only [Option.isNone_some] at hq
    obtain ⟨y101, hy101⟩ : ∃ y_ : List Int, y_ = (([] : List Int)) := ⟨_, rfl⟩
    rw [← hy101] at LMc2
    have Ny101 := Aside0.mk hy101
    clear hy101
    obtain ⟨y104, hy104⟩ : ∃ y_ : List Int, y_ = (y101 ++ l0) := ⟨_, rfl⟩
    have Ny104 := Aside0.mk hy104
    clear hy104
    go_enter Try.func112, Try.ntmps112
    go_wp2_with (first | ((with_reducible refine gate_dst (N := 5) rfl ?_); refine Kd.R_lit (Kd.int .i64) _ 3 ?hg (N := 5) ?hd (xs := ([] : List Int)) (inner := []) (ok := fun _ => True) (okp := fun _ => True) ?hr ?hp (fun _ hk => hk) trivial (Below.refl _ _) (Nat.le_refl _) (by simp) ?_; (case hd => rfl); (case hg => rfl); (case hr => first | (go_simp; done) | (go_simp; rfl)); (case hp => exact (Reps.none _ _)); intro v102 w3 ho4 hb hg_ hnew_; clear hg_ hnew_; (first | rw [← Ny101.out] at ho4 | (simp only [Int.reduceToNat] at ho4; rw [← Ny101.out] at ho4)); have n0_ := Aside0.mk (Kd.R_lower ho4 (below_size (by repeat (first | (with_reducible first | exact HB.out | apply below_alloc | apply pw_below_drewN | apply below_drew1) | exact HB.out)))); have n1_ := Aside0.mk (below_step (by repeat (first | (with_reducible first | exact HB.out | apply below_alloc | apply pw_below_drewN | apply below_drew1) | exact HB.out)) hb); clear HB; have HO103 := n0_; have HB := n1_; clear n0_ n1_; clear hb ho4) | ((with_reducible refine gate_builtin (b := .append) (xs := #[.tmp 5, .tmp 6]) rfl ?_); at_builtin; refine Kd.R_append_rows (Kd.int .i64) (w0 := w) w.heap.size rfl (.tmp 5) (.tmp 6) 34 3 (.int .i64 0) 8 rfl Try.underlying34 info3 rfl (by decide) (by omega) v102 y101 l0 _ _ _ (fun _ => True) (fun _ => False) rfl rfl ?aO ?aR (fun _ _ h => h) (fun _ h => h.elim) ?aF ?aB ?aS ?aL ?_; (case aR => repeat (first | exact (Kd.C_below HR0.out HB.out) | (with_reducible refine Kd.C_alloc ?_ _) | (with_reducible refine Kd.C_drewN ?_ _) | (with_reducible refine Kd.C_drew ?_))); (case aB => exact (by repeat (first | (with_reducible first | exact HB.out | apply below_alloc | apply pw_below_drewN | apply below_drew1) | exact HB.out))); (case aF => exact (fun _ _ => trivial)); (case aO => exact (by (with_reducible repeat (first | apply Kd.R_alloc | apply Kd.R_drewN | apply Kd.R_drew)); exact HO103.out)); (case aS => exact (below_size (by repeat (first | (with_reducible first | exact HB.out | apply below_alloc | apply pw_below_drewN | apply below_drew1) | exact HB.out)))); (case aL => have := LMc2.out; omega); intro v105 w5 ho hb hg hat; rw [← Ny104.out] at ho; have n0_ := Aside0.mk (hb); have n1_ := Aside0.mk (ho); clear HB; clear HO103; have HB := n0_; have HO106 := n1_; clear n0_ n1_; clear ho hb hg hat))
    go_ret
    have he : y104 = l0 := by rw [Ny104.out, Ny101.out]; rfl
    exact ⟨_, rfl, he ▸ HO106.out, by repeat (first | (with_reducible first | exact HB.out | apply below_alloc | apply pw_below_drewN | apply below_drew1) | exact HB.out)⟩

/-! ### impl_signRows_1: function 139 (by hand) -/
structure impl_signRows_1.St (w0 : World) (n : Int) (B2 B3 B4 T4 : Nat) (w : World) (u : Value) (out : List (List Int)) : Prop where
  b2 : w.heap[B2]? = some (.cells #[.int .i64 n] 3 (0, 0))
  b3 : w.heap[B3]? = some (.cells #[u] 27 (0, 0))
  b4 : w.heap[B4]? = some (.cells #[.func (.func 139) #[] #[.pointer (some ⟨B2, 0, none⟩), .pointer (some ⟨B3, 0, none⟩), .pointer (some ⟨B4, 0, none⟩)]] T4 (0, 0))
  ho : Kd.R (Kd.slice 3 (Kd.int .i64)) 34 w w0.heap.size (fun _ => True) u out
  hb : Below w0.heap.size w0 w
  ge : w0.heap.size ≤ B3
theorem impl_signRows_1.St.below {w0 : World} {n : Int} {B2 B3 B4 T4 : Nat} {w w1 : World} {u : Value} {out : List (List Int)} (h : impl_signRows_1.St w0 n B2 B3 B4 T4 w u out) (hb : Below w.heap.size w w1) : impl_signRows_1.St w0 n B2 B3 B4 T4 w1 u out :=
  ⟨blk_below h.b2 hb, blk_below h.b3 hb, blk_below h.b4 hb, Kd.R_below h.ho hb, below_step h.hb hb, h.ge⟩
theorem impl_signRows_1.St.drew {w0 : World} {n : Int} {B2 B3 B4 T4 : Nat} {w : World} {u : Value} {out : List (List Int)} (h : impl_signRows_1.St w0 n B2 B3 B4 T4 w u out) : impl_signRows_1.St w0 n B2 B3 B4 T4 w.drew u out :=
  h.below (below_drew (Below.refl _ _))
theorem impl_signRows_1.St.push {w0 : World} {n : Int} {B2 B3 B4 T4 : Nat} (hT4 : T4 ≠ 27 ∧ T4 ≠ 34) {w w5 : World} {u v : Value} {out : List (List Int)} {x : List Int} (h : impl_signRows_1.St w0 n B2 B3 B4 T4 w u out)
    (ho : Kd.R (Kd.slice 3 (Kd.int .i64)) 34 w5 w0.heap.size (fun _ => True) v (out ++ [x])) (hb : Below w0.heap.size w0 w5) (hg : w.grownBy w5 u.ownBlock) :
    impl_signRows_1.St w0 n B2 B3 B4 T4 (w5.setCell ⟨B3, 0, none⟩ v) v (out ++ [x]) ∧ Kept w (w5.setCell ⟨B3, 0, none⟩ v) (fun k => k = B3 ∨ some k = u.ownBlock) := by
  have n32 := blk_ne h.b3 h.b2 (by decide)
  have n34 := blk_ne h.b3 h.b4 (Ne.symm hT4.1)
  have b3 := blk_grown h.b3 hg (Kd.R_ne h.ho h.b3 (by decide))
  exact ⟨⟨blk_far (blk_grown h.b2 hg (Kd.R_ne h.ho h.b2 (by decide))) (Ne.symm n32) v, blk_set b3 0 v, blk_far (blk_grown h.b4 hg (Kd.R_ne h.ho h.b4 (Ne.symm hT4.2))) (Ne.symm n34) v, Kd.R_set ho b3 (by decide) 0 v, below_set hb h.ge, h.ge⟩,
    Kept.setCell (Kept.of_grown hg (Kept.refl _ _) (fun k hk => .inl (.inr hk.symm))) (.inl (.inl rfl)) v⟩
mutual
def impl_signRows_1.l0 : Nat → Int → List Int → Int → Int → Option (List (List Int))
  | 0, _, _, _, _ => none
  | k + 1, n, l, s, x => if x ≤ 1 - s then (if -1 ≤ x then (if l.length < 1000000 then ((impl_signRows_1.f k n (l ++ [x]) (s + x)).bind fun a => (impl_signRows_1.l0 k n l s (x + 1)).bind fun b => some (a ++ b)) else none) else none) else some []
def impl_signRows_1.f : Nat → Int → List Int → Int → Option (List (List Int))
  | 0, _, _, _ => none
  | k + 1, n, l, s => if (l.length : Int) = n then (if s = 1 then some [l] else some []) else (if 0 ≤ s then (if s ≤ 1 then impl_signRows_1.l0 k n l s (-s) else none) else none)
end
theorem impl_signRows_1.mono_l : ∀ k, (∀ y0 y1 y2, LeO (impl_signRows_1.f k y0 y1 y2) (impl_signRows_1.f (k + 1) y0 y1 y2)) ∧ (∀ y0 y1 y2 y3, LeO (impl_signRows_1.l0 k y0 y1 y2 y3) (impl_signRows_1.l0 (k + 1) y0 y1 y2 y3))
  | 0 => ⟨fun _ _ _ r h => by simp [impl_signRows_1.f] at h, fun _ _ _ _ r h => by simp [impl_signRows_1.l0] at h⟩
  | k + 1 => by
    obtain ⟨ih0, ih1⟩ := impl_signRows_1.mono_l k
    refine ⟨?_, ?_⟩
    · intro y0 y1 y2
      unfold impl_signRows_1.f
      repeat' first
      | (with_reducible exact ih1 _ _ _ _)
      | (with_reducible exact LeO.refl _)
      | (with_reducible refine LeO.ite ?_ ?_)
    · intro y0 y1 y2 y3
      unfold impl_signRows_1.l0
      repeat' first
      | (with_reducible exact ih0 _ _ _)
      | (with_reducible exact ih1 _ _ _ _)
      | (with_reducible exact LeO.refl _)
      | (with_reducible refine LeO.ite ?_ ?_)
      | (with_reducible refine LeO.bind ?_ (fun _ => ?_))
theorem impl_signRows_1.mono : ∀ a0 a1 a2 k, LeO (impl_signRows_1.f k a0 a1 a2) (impl_signRows_1.f (k + 1) a0 a1 a2) := fun a0 a1 a2 k => (impl_signRows_1.mono_l k).1 a0 a1 a2
set_option maxHeartbeats 4000000 in
set_option maxRecDepth 100000 in
theorem impl_signRows_1.calls (k : Nat) : ∀ (A0 : Option Addr) (c0 : Nat) (l0 : List Int) (a1 n : Int) (B2 B3 B4 T4 : Nat) (hT4 : T4 ≠ 27 ∧ T4 ≠ 34) (u : Value) (out r : List (List Int)) (w0 w : World)
    (hs : impl_signRows_1.St w0 n B2 B3 B4 T4 w u out) (hl : Kd.R (Kd.int .i64) 3 w w0.heap.size (fun _ => True) (.slice A0 l0.length c0) l0) (hn : out.length + r.length < 5864062014805) (h : impl_signRows_1.f k n l0 a1 = some r),
    Calls Try.prog 139 (#[.slice A0 l0.length c0, .int .i64 a1] ++ #[.pointer (some ⟨B2, 0, none⟩), .pointer (some ⟨B3, 0, none⟩), .pointer (some ⟨B4, 0, none⟩)]) w fun e w' => e = .returned (.tuple #[]) ∧ ∃ u', impl_signRows_1.St w0 n B2 B3 B4 T4 w' u' (out ++ r) ∧ Kept w w' (fun k => k = B3 ∨ some k = u.ownBlock) ∧ (u'.ownBlock = u.ownBlock ∨ ∃ b, u'.ownBlock = some b ∧ w.heap.size ≤ b) := by
  induction k using Nat.strongRecOn with
  | _ k ih =>
  intro A0 c0 l0 a1 n B2 B3 B4 T4 hT4 u out r w0 w hs hl hn h
  cases k with
  | zero => exact absurd h (by simp [impl_signRows_1.f])
  | succ k =>
  simp only [impl_signRows_1.f] at h
  have HS := Aside0.mk hs
  have HL := Aside0.mk hl
  have HN := Aside0.mk hn
  have HC := Aside0.mk (Kd.R_reads' hl).2.1
  have n32 := blk_ne hs.b3 hs.b2 (by decide)
  have n34 := blk_ne hs.b3 hs.b4 (Ne.symm hT4.1)
  have hz0 : l0.length ≤ 9223372036854775807 := (Kd.R_reads' hl).2.2.2.1
  clear hs hl hn
  by_cases c1 : (l0.length : Int) = n
  · rw [if_pos c1] at h
    have c1b : ((l0.length : Int) == n) = true := beq_iff_eq.mpr c1
    clear c1
    by_cases c2 : a1 = 1
    · rw [if_pos c2] at h
      have c2b : (a1 == 1) = true := beq_iff_eq.mpr c2
      clear c2
      obtain rfl := Option.some.inj h
      clear h
      have hc2 : w.cell? ⟨B2, 0, none⟩ = some (.int .i64 n) := (blk_cell HS.out.b2 0).trans rfl
      have hc3 : w.cell? ⟨B3, 0, none⟩ = some u := (blk_cell HS.out.b3 0).trans rfl
      have hf3 := blk_frozen HS.out.b3 0
      go_enter Try.func139, Try.ntmps139
      go_wp2_with (first | ((with_reducible refine gate_builtin (b := .append) (xs := #[.tmp 14, .tmp 16]) rfl ?_); at_builtin; refine Kd.R_append (Kd.slice 3 (Kd.int .i64)) (w0 := w0) w0.heap.size rfl (.tmp 14) (.tmp 16) 27 34 (.slice none 0 0) 24 rfl Try.underlying27 info34 rfl (by decide) (by omega) u out l0 [.slice A0 l0.length c0] (fun _ => True) (fun k => True ∧ some k ≠ u.ownBlock) rfl rfl ⟨_, rfl, Kd.R_apart' HL.out (Kd.R_typed HS.out.ho) (by decide)⟩ (fun _ hk => hk) (fun _ _ => trivial) HS.out.ho HS.out.hb (below_size HS.out.hb) (by have := HN.out; simp at this; omega) ?_; intro v5 w5 ho5 hb5 hg5 hat5; have HO5 := Aside0.mk ho5; have HB5 := Aside0.mk hb5; have HG5 := Aside0.mk hg5; have HA5 := Aside0.mk hat5; clear ho5 hb5 hg5 hat5; obtain ⟨A5, k5, e5⟩ := Kd.R_slice HO5.out; subst e5; have hc35 : w5.cell? ⟨B3, 0, none⟩ = some u := (blk_cell (blk_grown HS.out.b3 HG5.out (Kd.R_ne HS.out.ho HS.out.b3 (by decide))) 0).trans rfl; have hf35 := blk_frozen (blk_grown HS.out.b3 HG5.out (Kd.R_ne HS.out.ho HS.out.b3 (by decide))) 0))
      obtain ⟨q1, q2⟩ := impl_signRows_1.St.push hT4 HS.out HO5.out HB5.out HG5.out
      rw [show (out ++ [l0]).length = out.length + 1 by simp] at q1 q2
      first | go_end0 | ((try simp only [Exit.inBlock, Exit.then]); refine bodyPost_ret (results_none rfl _ _ _) rfl ?_)
      exact ⟨rfl, _, q1, q2, by have := HA5.out; rwa [show (out ++ [l0]).length = out.length + 1 by simp] at this⟩
    · rw [if_neg c2] at h
      have c2b : (a1 == 1) = false := beq_eq_false_iff_ne.mpr c2
      clear c2
      obtain rfl := Option.some.inj h
      clear h
      have hc2 : w.cell? ⟨B2, 0, none⟩ = some (.int .i64 n) := (blk_cell HS.out.b2 0).trans rfl
      go_enter Try.func139, Try.ntmps139
      go_wp2
      first | go_end0 | ((try simp only [Exit.inBlock, Exit.then]); refine bodyPost_ret (results_none rfl _ _ _) rfl ?_)
      exact ⟨rfl, u, by simpa using HS.out, Kept.refl _ _, .inl rfl⟩
  · rw [if_neg c1] at h
    have c1b : ((l0.length : Int) == n) = false := beq_eq_false_iff_ne.mpr c1
    clear c1
    by_cases c3 : 0 ≤ a1
    · rw [if_pos c3] at h
      by_cases c4 : a1 ≤ 1
      · rw [if_pos c4] at h
        have HF := Aside0.mk h
        clear h
        have hc2 : w.cell? ⟨B2, 0, none⟩ = some (.int .i64 n) := (blk_cell HS.out.b2 0).trans rfl
        go_enter Try.func139, Try.ntmps139
        go_wp2
        go_loopg [7] k (fun kq v7 w' => ∃ (x7 : Int) (u' : Value) (acc rest : List (List Int)), v7 = .int .i64 x7 ∧ Aside0 (r = acc ++ rest) ∧ Aside0 (impl_signRows_1.l0 kq n l0 a1 x7 = some rest) ∧ Aside0 (kq ≤ k) ∧ Aside0 (impl_signRows_1.St w0 n B2 B3 B4 T4 w' u' (out ++ acc)) ∧ Aside0 (Kd.R (Kd.int .i64) 3 w' w0.heap.size (fun _ => True) (.slice A0 l0.length c0) l0) ∧ Aside0 (Kept w w' (fun k => k = B3 ∨ some k = u.ownBlock)) ∧ Aside0 (u'.ownBlock = u.ownBlock ∨ ∃ b, u'.ownBlock = some b ∧ w.heap.size ≤ b))
        case atStart => exact ⟨-a1, u, [], r, rfl, ⟨rfl⟩, HF, ⟨Nat.le_refl _⟩, ⟨by simpa using HS.out⟩, HL, ⟨Kept.refl _ _⟩, ⟨.inl rfl⟩⟩
        case round =>
          clear HF
          obtain ⟨x7, u2, acc, rest, rfl, HE, HF, HK, HS2, HL2, HKp, HA⟩ := hrel
          cases gk with
          | zero => exact absurd HF.out (by simp [impl_signRows_1.l0])
          | succ k1 =>
            have H := HF.out
            clear HF
            simp only [impl_signRows_1.l0] at H
            by_cases c5 : x7 ≤ 1 - a1
            · rw [if_pos c5] at H
              by_cases c6 : -1 ≤ x7
              · rw [if_pos c6] at H
                by_cases c7 : l0.length < 1000000
                · rw [if_pos c7] at H
                  have LM := Aside0.mk c7
                  obtain ⟨ra, ha, H⟩ := Option.bind_eq_some_iff.mp H
                  obtain ⟨rb, hb, H⟩ := Option.bind_eq_some_iff.mp H
                  have HR2 := Aside0.mk (Option.some.inj H).symm
                  have HFa := Aside0.mk (show impl_signRows_1.f k1 n (l0 ++ [x7]) (wrap64 (a1 + x7)) = some ra by rw [show wrap64 (a1 + x7) = a1 + x7 by unfold wrap64; omega]; exact ha)
                  have HFb := Aside0.mk hb
                  clear H ha hb c7
                  go_wp2_with fail
                  have HS3 := Aside0.mk HS2.out.drew
                  have HL3 := Aside0.mk (Kd.R_drew HL2.out)
                  have HR := Aside0.mk (Kd.R_reads' HL3.out).2.2
                  have HKp3 := Aside0.mk (HKp.out.drew)
                  have HC4 := Aside0.mk ((blk_cell HS3.out.b4 0).trans rfl : wr.drew.cell? ⟨B4, 0, none⟩ = some (.func (.func 139) #[] #[.pointer (some ⟨B2, 0, none⟩), .pointer (some ⟨B3, 0, none⟩), .pointer (some ⟨B4, 0, none⟩)]))
                  clear HS2 HL2 HKp
                  refine start_ (n := 10) (S := fun w' => w'.cell? ⟨B4, 0, none⟩ = some (.func (.func 139) #[] #[.pointer (some ⟨B2, 0, none⟩), .pointer (some ⟨B3, 0, none⟩), .pointer (some ⟨B4, 0, none⟩)])) (ds := []) #[false, false, false, false, false, false, false, false, false, false] (by kernel_rfl) rfl rfl (HC4.out) (fun hHeld => ?_)
                  generalize hW_ : wr.drew = W at HS3 HL3 HR HKp3 HC4 hHeld ⊢
                  clear hW_
                  refine pure_ (i := 1) (N := some 27) (v := ?_) (a' := ?_) #[false, true, false, false, false, false, false, false, false, false] rfl rfl (by kernel_rfl) (fun _ _ _ h => h) (Or.inl ⟨by rfl, ?_⟩) ?_ ?_
                  rotate_left
                  · intro w'
                    go_simp
                    with_reducible rfl
                  rotate_left
                  · simp only [Act.put, List.setIfInBounds_toArray, List.set_cons_zero, List.set_cons_succ, i64_w, i32_w]
                    rfl
                  refine pure_ (i := 3) (N := some 29) (v := ?_) (a' := ?_) #[false, true, false, true, false, false, false, false, false, false] rfl rfl (by kernel_rfl) (fun _ _ _ h => h) (Or.inl ⟨by rfl, ?_⟩) ?_ ?_
                  rotate_left
                  · intro w'
                    go_simp
                    with_reducible rfl
                  rotate_left
                  · simp only [Act.put, List.setIfInBounds_toArray, List.set_cons_zero, List.set_cons_succ, i64_w, i32_w]
                    rfl
                  refine pure_ (i := 6) (N := some 32) (v := ?_) (a' := ?_) #[false, true, false, true, false, false, true, false, false, false] rfl rfl (by kernel_rfl) (fun _ _ _ h => h) (Or.inl ⟨by rfl, ?_⟩) ?_ ?_
                  rotate_left
                  · intro w'
                    go_simp
                    with_reducible rfl
                  rotate_left
                  · simp only [Act.put, List.setIfInBounds_toArray, List.set_cons_zero, List.set_cons_succ, i64_w, i32_w]
                    rfl
                  refine pure_ (i := 7) (N := some 33) (v := ?_) (a' := ?_) #[false, true, false, true, false, false, true, true, false, false] rfl rfl (by kernel_rfl) (fun _ _ _ h => h) (Or.inl ⟨by rfl, ?_⟩) ?_ ?_
                  rotate_left
                  · intro w'
                    go_simp
                    with_reducible rfl
                  rotate_left
                  · simp only [Act.put, List.setIfInBounds_toArray, List.set_cons_zero, List.set_cons_succ, i64_w, i32_w]
                    rfl
                  refine pure_ (i := 8) (N := some 34) (v := ?_) (a' := ?_) #[false, true, false, true, false, false, true, true, true, false] rfl rfl (by kernel_rfl) (fun _ _ _ h => h) (Or.inl ⟨by rfl, ?_⟩) ?_ ?_
                  rotate_left
                  · intro w'
                    go_simp
                    with_reducible rfl
                  rotate_left
                  · simp only [Act.put, List.setIfInBounds_toArray, List.set_cons_zero, List.set_cons_succ, i64_w, i32_w]
                    rfl
                  refine take_ (i := 0) (N := some 26) (v := ?_) (a' := ?_) #[true, true, false, true, false, false, true, true, true, false] rfl rfl (by kernel_rfl) (fun _ _ _ h => h) (Or.inl ⟨by rfl, ?_⟩) hHeld ?_ ?_
                  rotate_left
                  · intro w' s0
                    go_simp
                    with_reducible rfl
                  rotate_left
                  · simp only [Act.put, List.setIfInBounds_toArray, List.set_cons_zero, List.set_cons_succ, i64_w, i32_w]
                    rfl
                  refine join_ (σ := Value × Addr) 2 #[true, true, true, true, true, false, true, true, true, false] (fun s_ => [(28, s_.1), (30, .slice (some s_.2) 1 1)]) (fun s_ w' => Below W.heap.size W w' ∧ Kd.R (Kd.int .i64) 3 w' W.heap.size (fun _ => True) s_.1 l0 ∧ Kd.C (Kd.int .i64) w' (some s_.2) 1 [x7]) ?_ ?_
                  rotate_left
                  · intro hCont
                    refine two_ (i := 2) (j := 4) (Ni := some 28) (Nj := some 30) #[true, true, true, true, false, false, true, true, true, false] #[true, true, false, true, true, false, true, true, true, false] rfl rfl rfl rfl (by kernel_rfl) (by decide) (by decide) (fun K hK => ?_) (fun K hK => ?_)
                    · skip
                      refine goes_ Try.func112 (by kernel_rfl) rfl #[.slice A0 l0.length c0] (by rfl) rfl rfl (by (try simp only [List.map_toArray, List.map_cons, List.map_nil]); first | done | rfl) ?_
                      refine (slices_Clone_int_int.calls A0 c0 l0 l0 _ ?sc1 HC.out (if_pos (by have := LM.out; omega))).mono ?_
                      (case sc1 => exact (Kd.C_below HR.out (Below.refl _ _)))
                      rintro e w2 ⟨v28, rfl, ho, hb⟩
                      refine ⟨_, rfl, ?_⟩
                      have HB2 := Aside0.mk (below_step (Below.refl _ _) hb)
                      have HO2 := Aside0.mk (Kd.R_lower ho (below_size (Below.refl _ _)))
                      have hb2_ := Aside0.mk hb
                      clear ho hb
                      refine hK.out _ _ (cell_of_below HB2.out HC4.out) (fun hHeld => ?_)
                      clear hK K
                      refine norm_ (a' := ?_) ?_ ?_
                      rotate_left
                      · show Act.put _ (some 28) _ = _
                        simp only [Act.put, List.setIfInBounds_toArray, List.set_cons_zero, List.set_cons_succ, i64_w, i32_w]
                        rfl
                      refine one_ (i := 4) (N := some 30) #[true, true, true, true, true, false, true, true, true, false] rfl rfl (by kernel_rfl) (by decide) (fun K hK => ?_)
                      refine value_ (w1 := ?_) (v := ?_) (by rfl) rfl ?_ ?_
                      rotate_left 2
                      · go_simp
                        constructor
                        · rfl
                        · rfl
                      refine hK.out _ _ (cell_of_below (below_alloc HB2.out _) HC4.out) (fun hHeld => ?_)
                      clear hK K
                      refine norm_ (a' := ?_) ?_ ?_
                      rotate_left
                      · show Act.put _ (some 30) _ = _
                        simp only [Act.put, List.setIfInBounds_toArray, List.set_cons_zero, List.set_cons_succ, i64_w, i32_w]
                        rfl
                      exact norm_ (by simp only [putAll, Act.put, List.setIfInBounds_toArray, List.set_cons_zero, List.set_cons_succ]) (hCont (v28, ⟨w2.heap.size, 0, none⟩) _ ⟨below_alloc HB2.out _, Kd.R_alloc HO2.out _, C_box rfl rfl _⟩)
                    · skip
                      refine value_ (w1 := ?_) (v := ?_) (by rfl) rfl ?_ ?_
                      rotate_left 2
                      · go_simp
                        constructor
                        · rfl
                        · rfl
                      refine hK.out _ _ (cell_of_below (below_alloc (Below.refl _ _) _) HC4.out) (fun hHeld => ?_)
                      clear hK K
                      refine norm_ (a' := ?_) ?_ ?_
                      rotate_left
                      · show Act.put _ (some 30) _ = _
                        simp only [Act.put, List.setIfInBounds_toArray, List.set_cons_zero, List.set_cons_succ, i64_w, i32_w]
                        rfl
                      refine one_ (i := 2) (N := some 28) #[true, true, true, true, true, false, true, true, true, false] rfl rfl (by kernel_rfl) (by decide) (fun K hK => ?_)
                      refine goes_ Try.func112 (by kernel_rfl) rfl #[.slice A0 l0.length c0] (by rfl) rfl rfl (by (try simp only [List.map_toArray, List.map_cons, List.map_nil]); first | done | rfl) ?_
                      refine (slices_Clone_int_int.calls A0 c0 l0 l0 _ ?sc1 HC.out (if_pos (by have := LM.out; omega))).mono ?_
                      (case sc1 => exact (Kd.C_below HR.out (below_alloc (Below.refl _ _) _)))
                      rintro e w2 ⟨v28, rfl, ho, hb⟩
                      refine ⟨_, rfl, ?_⟩
                      have HB2 := Aside0.mk (below_step (below_alloc (Below.refl _ _) _) hb)
                      have HO2 := Aside0.mk (Kd.R_lower ho (below_size (below_alloc (Below.refl _ _) _)))
                      have hb2_ := Aside0.mk hb
                      clear ho hb
                      refine hK.out _ _ (cell_of_below HB2.out HC4.out) (fun hHeld => ?_)
                      clear hK K
                      refine norm_ (a' := ?_) ?_ ?_
                      rotate_left
                      · show Act.put _ (some 28) _ = _
                        simp only [Act.put, List.setIfInBounds_toArray, List.set_cons_zero, List.set_cons_succ, i64_w, i32_w]
                        rfl
                      exact norm_ (by simp only [putAll, Act.put, List.setIfInBounds_toArray, List.set_cons_zero, List.set_cons_succ]) (hCont (v28, ⟨W.heap.size, 0, none⟩) _ ⟨HB2.out, HO2.out, Kd.C_below (C_box rfl rfl _) hb2_.out⟩)
                  rintro ⟨v28, ad30⟩ w4 ⟨hb4_, ho4_, hc4_⟩
                  have hHeld : w4.cell? ⟨B4, 0, none⟩ = some (.func (.func 139) #[] #[.pointer (some ⟨B2, 0, none⟩), .pointer (some ⟨B3, 0, none⟩), .pointer (some ⟨B4, 0, none⟩)]) := cell_of_below hb4_ HC4.out
                  have HB4 := Aside0.mk hb4_
                  have HO4 := Aside0.mk ho4_
                  have HV4 := Aside0.mk hc4_
                  clear hb4_ ho4_ hc4_
                  refine norm_ (a' := ?_) ?_ ?_
                  rotate_left
                  · simp only [putAll, Act.put, List.setIfInBounds_toArray, List.set_cons_zero, List.set_cons_succ]
                    rfl
                  refine one_ (i := 5) (N := some 31) #[true, true, true, true, true, true, true, true, true, false] rfl rfl (by kernel_rfl) (by decide) (fun K hK => ?_)
                  refine Kd.R_append_rows_step (Kd.int .i64) (w0 := W) W.heap.size (by rfl) (.tmp 28) (.tmp 30) 34 3 (.int .i64 0) 8 rfl Try.underlying34 info3 rfl (by decide) (by omega) v28 l0 [x7] _ _ _ (fun _ => True) (fun _ => False) rfl rfl HO4.out HV4.out (fun _ _ h => h) (fun _ h => h.elim) (fun _ _ => trivial) HB4.out (below_size HB4.out) (by have := LM.out; omega) ?_
                  intro v31 w5 ho5 hb5 hg5 hat5
                  clear hg5 hat5
                  have HB5 := Aside0.mk hb5
                  have HO5 := Aside0.mk ho5
                  obtain ⟨A31, c31, e31⟩ := Kd.R_slice HO5.out
                  subst e31
                  clear ho5 hb5 HB4 HO4 HV4
                  refine hK.out _ _ (cell_of_below HB5.out HC4.out) (fun hHeld => ?_)
                  clear hK K
                  refine norm_ (a' := ?_) ?_ ?_
                  rotate_left
                  · show Act.put _ (some 31) _ = _
                    simp only [Act.put, List.setIfInBounds_toArray, List.set_cons_zero, List.set_cons_succ, i64_w, i32_w]
                    rfl
                  refine one_ (i := 9) (N := some 35) #[true, true, true, true, true, true, true, true, true, true] rfl rfl (by kernel_rfl) (by decide) (fun K hK => ?_)
                  refine goesF_ (enters_of Try.func139 (by kernel_rfl) rfl) #[.slice A31 (l0 ++ [x7]).length c31, .int .i64 (wrap64 (a1 + x7))] (by rfl) rfl rfl (by first | rfl | (simp [Act.eval]; done)) (by (try simp only [List.map_toArray, List.map_cons, List.map_nil]); first | done | rfl) ?_
                  refine (ih k1 (by have := HK.out; omega) A31 c31 (l0 ++ [x7]) (wrap64 (a1 + x7)) n B2 B3 B4 T4 hT4 u2 (out ++ acc) ra w0 w5 (HS3.out.below HB5.out) (Kd.R_lower HO5.out (below_size HS3.out.hb)) (by have := HN.out; rw [HE.out, HR2.out] at this; simp only [List.length_append] at this ⊢; omega) HFa.out).mono ?_
                  rintro e w6 ⟨rfl, u3, hs6, hk6, hat6⟩
                  refine ⟨_, rfl, ?_⟩
                  have HS6 := Aside0.mk hs6
                  have HK6 := Aside0.mk hk6
                  have HT6 := Aside0.mk hat6
                  clear hs6 hk6 hat6
                  refine hK.out _ _ ((blk_cell HS6.out.b4 0).trans rfl) (fun hHeld => ?_)
                  clear hK K
                  refine norm_ (a' := ?_) ?_ ?_
                  rotate_left
                  · show Act.put _ (some 35) _ = _
                    simp only [Act.put, List.setIfInBounds_toArray, List.set_cons_zero, List.set_cons_succ, i64_w, i32_w]
                    rfl
                  refine done_ (by kernel_rfl) ?_
                  have HL6 := Aside0.mk (Kd.R_mono (Kd.R_kept (Kd.R_apart' (Kd.R_types (Kd.R_below HL3.out HB5.out) (HS3.out.below HB5.out).b3 (by decide)) (Kd.R_typed (HS3.out.below HB5.out).ho) (by decide)) HK6.out (fun k_ hk hS => hS.elim hk.1.2 hk.2)) (fun _ _ => trivial))
                  have HKp6 := Aside0.mk ((HKp3.out.below HB5.out).then_ HK6.out (fun k_ hS => hS.elim (fun e => .inl (.inl e)) (fun e => HA.out.elim (fun ha => .inl (.inr (e.trans ha))) (fun ⟨b, hb, hle⟩ => .inr (by rw [hb] at e; injection e with e; omega)))))
                  have HA6 : Aside0 (u3.ownBlock = u.ownBlock ∨ ∃ b, u3.ownBlock = some b ∧ w.heap.size ≤ b) := ⟨HT6.out.elim (fun h1 => HA.out.elim (fun h2 => .inl (h1.trans h2)) (fun ⟨b, h2, h3⟩ => .inr ⟨b, h1.trans h2, h3⟩)) (fun ⟨b, h2, h3⟩ => .inr ⟨b, h2, Nat.le_trans HKp3.out.1 (Nat.le_trans (below_size HB5.out) h3)⟩)⟩
                  go_wp2
                  go_roundg k1
                  case measure => have := HK.out; omega
                  case rel => exact ⟨x7 + 1, u3, acc ++ ra, rb, by go_num, ⟨by rw [HE.out, HR2.out, List.append_assoc]⟩, HFb, ⟨by have := HK.out; omega⟩, ⟨by rw [← List.append_assoc]; exact HS6.out⟩, HL6, HKp6, HA6⟩
                · rw [if_neg c7] at H
                  exact absurd H (by simp)
              · rw [if_neg c6] at H
                exact absurd H (by simp)
            · rw [if_neg c5] at H
              obtain rfl := Option.some.inj H
              clear H
              go_wp2
              first | go_end0 | ((try simp only [Exit.inBlock, Exit.then]); refine bodyPost_ret (results_none rfl _ _ _) rfl ?_)
              exact ⟨rfl, u2, by have := HS2.out; rw [HE.out, List.append_nil]; exact this, HKp.out, HA.out⟩
      · rw [if_neg c4] at h
        exact absurd h (by simp)
    · rw [if_neg c3] at h
      exact absurd h (by simp)

/-! ### impl_signRows: function 126 (by hand) -/
def impl_signRows.f (k : Nat) (a0 : Int) : Option (List (List Int)) := (impl_signRows_1.f k a0 [] 0).bind fun r => if r.length < 1000000 then some r else none
theorem impl_signRows.mono : ∀ a0 k, LeO (impl_signRows.f k a0) (impl_signRows.f (k + 1) a0) := fun a0 k => by
  unfold impl_signRows.f
  exact LeO.bind (impl_signRows_1.mono _ _ _ _) (fun _ => LeO.refl _)
set_option maxHeartbeats 4000000 in
set_option maxRecDepth 100000 in
theorem impl_signRows.calls (k : Nat) (a0 : Int) (r : List (List Int)) (w : World) (h : impl_signRows.f k a0 = some r) :
    Calls Try.prog 126 #[.int .i64 a0] w fun e w' => ∃ v0_ : Value, e = .returned v0_ ∧ Kd.R (Kd.slice 3 (Kd.int .i64)) 34 w' w.heap.size (fun _ => True) v0_ r ∧ Below w.heap.size w w' := by
  obtain ⟨r', h1, h2⟩ := Option.bind_eq_some_iff.mp h
  have hr : r'.length < 1000000 := by
    split at h2
    · assumption
    · cases h2
  rw [if_pos hr] at h2
  obtain rfl := Option.some.inj h2
  have HF := Aside0.mk h1
  have HL := Aside0.mk hr
  clear h h1 h2 hr
  have HB := Aside0.mk (Below.refl w.heap.size w)
  go_enter Try.func126, Try.ntmps126
  go_wp2_with fail
  refine (impl_signRows_1.calls k none 0 [] 0 a0 w.heap.size (w.heap.size + 1 + 1) (w.heap.size + 1 + 1 + 1) 91 (by decide) (.slice (some ⟨w.heap.size + 1, 0, none⟩) 0 0) [] r' w _ ⟨?b2, ?b3, ?b4, ?ho, ?hb, by omega⟩ (Kd.R_nil _ _ _ _ _) (by have := HL.out; simp; omega) HF.out).mono ?_
  case b2 => exact blk_alloc (blk_alloc (blk_alloc (blk_new _ _) _) _) _
  case b3 => exact blk_alloc (blk_new' (by simp)) _
  case b4 => exact blk_new' (by simp)
  case ho => exact R_empty (blk_alloc (blk_alloc (blk_new' (by simp)) _) _) (by omega)
  case hb => exact below_alloc (below_alloc (below_alloc (below_alloc (Below.refl _ _) _) _) _) _
  rintro e w2 ⟨rfl, u2, hs2, _, _⟩
  have HS := Aside0.mk hs2
  clear hs2
  obtain ⟨A2, c2, e2⟩ := Kd.R_slice HS.out.ho
  subst e2
  have hc3 : w2.cell? ⟨w.heap.size + 1 + 1, 0, none⟩ = _ := (blk_cell HS.out.b3 0).trans rfl
  go_wp2
  go_ret
  exact ⟨_, rfl, HS.out.ho, HS.out.hb⟩

/-! ### impl_fitsSums: function 128 -/
def impl_fitsSums.l0 : Nat → List Int → Bool → List Int → Int → Int → Option (Bool)
  | 0, _, _, _, _, _ => none
  | k + 1, x0, x2, x10, x11, x12 => if x12 < x11 then (if 0 ≤ x12 then (if x12 < (x10.length : Int) then (if x12 < (x0.length : Int) then ((impl_within.f (wrap64 ((rd x0 x12) + (rd x10 x12))) 0 1).bind fun t103 => (if t103 = true then (if x2 = true then (if (wrap64 ((rd x0 x12) + (rd x10 x12))) = 1 then (impl_fitsSums.l0 k x0 x2 x10 x11 (wrap64 (x12 + 1))) else (some false)) else (impl_fitsSums.l0 k x0 x2 x10 x11 (wrap64 (x12 + 1)))) else (some false))) else (none)) else (none)) else (none)) else (some true)
def impl_fitsSums.f (k : Nat) (l0 : List Int) (l1 : List Int) (a2 : Bool) : Option (Bool) := impl_fitsSums.l0 k l0 a2 l1 (l1.length : Int) 0
theorem impl_fitsSums.mono_l : ∀ k, (∀ y0 y1 y2 y3 y4, LeO (impl_fitsSums.l0 k y0 y1 y2 y3 y4) (impl_fitsSums.l0 (k + 1) y0 y1 y2 y3 y4))
  | 0 => fun _ _ _ _ _ r h => by simp [impl_fitsSums.l0] at h
  | k + 1 => by
    have ih0 := impl_fitsSums.mono_l k
    · intro y0 y1 y2 y3 y4
      unfold impl_fitsSums.l0
      repeat' first
      | (with_reducible exact ih0 _ _ _ _ _)
      | (with_reducible exact LeO.refl _)
      | (with_reducible exact LeO.none _)
      | (with_reducible refine LeO.ite ?_ ?_)
      | (with_reducible refine LeO.bind ?_ (fun _ => ?_))
      | exact ih0 _ _ _ _ _
      | exact LeO.none _
      | refine LeO.ite ?_ ?_
      | refine LeO.bind ?_ (fun _ => ?_)
theorem impl_fitsSums.mono : ∀ a0 a1 a2  k, LeO (impl_fitsSums.f k a0 a1 a2) (impl_fitsSums.f (k + 1) a0 a1 a2) := by
  intro a0 a1 a2 k
  have ih0 := impl_fitsSums.mono_l k
  unfold impl_fitsSums.f
  repeat' first
      | (with_reducible exact ih0 _ _ _ _ _)
      | (with_reducible exact LeO.refl _)
      | (with_reducible exact LeO.none _)
      | (with_reducible refine LeO.ite ?_ ?_)
      | (with_reducible refine LeO.bind ?_ (fun _ => ?_))
      | exact ih0 _ _ _ _ _
      | exact LeO.none _
      | refine LeO.ite ?_ ?_
      | refine LeO.bind ?_ (fun _ => ?_)
set_option maxHeartbeats 8000000 in
set_option maxRecDepth 100000 in
theorem impl_fitsSums.calls (k : Nat) (A0 : Option Addr) (c0 : Nat) (l0 : List Int) (A1 : Option Addr) (c1 : Nat) (l1 : List Int) (a2 : Bool) (r : Bool) (w : World) (hr0 : Kd.C (Kd.int .i64) w A0 l0.length l0) (hc0 : l0.length ≤ c0) (hr1 : Kd.C (Kd.int .i64) w A1 l1.length l1) (hc1 : l1.length ≤ c1) (h : impl_fitsSums.f k l0 l1 a2 = some r) :
    Calls Try.prog 128 #[.slice A0 l0.length c0, .slice A1 l1.length c1, .bool a2] w fun e w' => e = .returned (.bool r) ∧ Drawn0 w w' := by
  have HR0 := Aside0.mk hr0
  have HC0 := Aside0.mk hc0
  clear hr0 hc0
  have HR1 := Aside0.mk hr1
  have HC1 := Aside0.mk hc1
  clear hr1 hc1
  have H : (impl_fitsSums.l0 k l0 a2 l1 (l1.length : Int) 0) = some r := h
  clear h
  have H' := Aside0.mk H
  clear H
  go_enter Try.func128, Try.ntmps128
  go_wp2
  go_loopg [12] k (fun kq v12 w' => ∃ (x12_1 : Int), v12 = .int .i64 x12_1 ∧ Aside0 (impl_fitsSums.l0 kq l0 a2 l1 (l1.length : Int) x12_1 = some r) ∧ Aside0 (kq ≤ k) ∧ Drawn0 w w')
  case atStart => exact ⟨(0), (by first | rfl | (simp; done) | (simp [*]; done)), H', ⟨Nat.le_refl _⟩, by repeat (first | exact Drawn0.refl _ | apply Drawn0.step)⟩
  case round =>
    clear H'
    try clear c1
    try clear p2
    obtain ⟨x12_1, rfl, HA, HK1, ⟨m1, rfl⟩⟩ := hrel
    cases gk with
    | zero => exact absurd HA.out (by simp [impl_fitsSums.l0])
    | succ k1 =>
      have H := HA.out
      clear HA
      simp only [impl_fitsSums.l0] at H
      by_cases c4 : x12_1 < (l1.length : Int)
      · rw [if_pos c4] at H
        have c4b0 : decide (x12_1 < (l1.length : Int)) = true := decide_eq_true c4
        clear c4
        by_cases c5 : 0 ≤ x12_1
        · rw [if_pos c5] at H
          have c5b0 : decide (0 ≤ x12_1) = true := decide_eq_true c5
          clear c5
          by_cases c6 : x12_1 < (l1.length : Int)
          · rw [if_pos c6] at H
            have c6b0 : decide (x12_1 < (l1.length : Int)) = true := decide_eq_true c6
            clear c6
            by_cases c7 : x12_1 < (l0.length : Int)
            · rw [if_pos c7] at H
              have c7b0 : decide (x12_1 < (l0.length : Int)) = true := decide_eq_true c7
              clear c7
              replace H := Option.bind_eq_some_iff.mp H
              obtain ⟨t103, A80, H⟩ := H
              replace H : (if t103 = true then (if a2 = true then (if (wrap64 ((rd l0 x12_1) + (rd l1 x12_1))) = 1 then (impl_fitsSums.l0 k1 l0 a2 l1 (l1.length : Int) (wrap64 (x12_1 + 1))) else (some false)) else (impl_fitsSums.l0 k1 l0 a2 l1 (l1.length : Int) (wrap64 (x12_1 + 1)))) else (some false)) = some r := H
              have A8 := Aside0.mk A80
              clear A80
              by_cases c9 : t103 = true
              · subst c9
                have H1 : (if a2 = true then (if (wrap64 ((rd l0 x12_1) + (rd l1 x12_1))) = 1 then (impl_fitsSums.l0 k1 l0 a2 l1 (l1.length : Int) (wrap64 (x12_1 + 1))) else (some false)) else (impl_fitsSums.l0 k1 l0 a2 l1 (l1.length : Int) (wrap64 (x12_1 + 1)))) = some r := by rw [if_pos rfl] at H; exact H
                clear H
                have H := H1
                clear H1
                by_cases c10 : a2 = true
                · subst c10
                  have H1 : (if (wrap64 ((rd l0 x12_1) + (rd l1 x12_1))) = 1 then (impl_fitsSums.l0 k1 l0 true l1 (l1.length : Int) (wrap64 (x12_1 + 1))) else (some false)) = some r := by rw [if_pos rfl] at H; exact H
                  clear H
                  have H := H1
                  clear H1
                  by_cases c11 : (wrap64 ((rd l0 x12_1) + (rd l1 x12_1))) = 1
                  · rw [if_pos c11] at H
                    have c11b0 : ((wrap64 ((rd l0 x12_1) + (rd l1 x12_1))) == 1) = true := beq_iff_eq.mpr c11
                    have c11b1 : ((wrap64 ((rd l0 x12_1) + (rd l1 x12_1))) != 1) = false := bne_eq_false_iff_eq.mpr c11
                    clear c11
                    have H' := Aside0.mk H
                    clear H
                    have p101 : 0 ≤ (x12_1 : Int) := of_decide_eq_true (by first | (with_reducible assumption) | assumption)
                    have q101 : x12_1 < (l1.length : Int) := of_decide_eq_true (by first | (with_reducible assumption) | assumption)
                    obtain ⟨ad101, e101, hx101_0⟩ := Kd.at_int HR1.out x12_1 p101 q101
                    cases e101
                    replace p101 := eq_true p101
                    replace q101 := eq_true q101
                    have p102 : 0 ≤ (x12_1 : Int) := of_decide_eq_true (by first | (with_reducible assumption) | assumption)
                    have q102 : x12_1 < (l0.length : Int) := of_decide_eq_true (by first | (with_reducible assumption) | assumption)
                    obtain ⟨ad102, e102, hx102_0⟩ := Kd.at_int HR0.out x12_1 p102 q102
                    cases e102
                    replace p102 := eq_true p102
                    replace q102 := eq_true q102
                    go_wp2_with (first | ((with_reducible refine gate_callee (f := 56) rfl ?_); refine goesL_ (some 24) rfl rfl Try.func56 (by kernel_rfl) rfl #[.int .i64 (wrap64 ((rd l0 x12_1) + (rd l1 x12_1))), .int .i64 0, .int .i64 1] rfl (by (try simp only [List.map_toArray, List.map_cons, List.map_nil]); first | done | rfl | (simp only [List.length_drop, List.length_take]; rfl)) ?_; (with_reducible refine (impl_within.calls (wrap64 ((rd l0 x12_1) + (rd l1 x12_1))) 0 1 true _ A8.out).mono ?_); rintro e w' ⟨rfl, ⟨nd, rfl⟩⟩; refine ⟨_, rfl, ?_⟩))
                    go_roundg k1
                    case measure => have := HK1.out; omega
                    case rel => exact ⟨(wrap64 (x12_1 + 1)), (by first | rfl | (simp; done) | (simp [*]; done)), H', ⟨by have := HK1.out; omega⟩, by repeat (first | exact Drawn0.refl _ | apply Drawn0.step)⟩
                  · rw [if_neg c11] at H
                    have c11b0 : ((wrap64 ((rd l0 x12_1) + (rd l1 x12_1))) == 1) = false := beq_eq_false_iff_ne.mpr c11
                    have c11b1 : ((wrap64 ((rd l0 x12_1) + (rd l1 x12_1))) != 1) = true := bne_iff_ne.mpr c11
                    obtain rfl := Option.some.inj H
                    have p101 : 0 ≤ (x12_1 : Int) := of_decide_eq_true (by first | (with_reducible assumption) | assumption)
                    have q101 : x12_1 < (l1.length : Int) := of_decide_eq_true (by first | (with_reducible assumption) | assumption)
                    obtain ⟨ad101, e101, hx101_0⟩ := Kd.at_int HR1.out x12_1 p101 q101
                    cases e101
                    replace p101 := eq_true p101
                    replace q101 := eq_true q101
                    have p102 : 0 ≤ (x12_1 : Int) := of_decide_eq_true (by first | (with_reducible assumption) | assumption)
                    have q102 : x12_1 < (l0.length : Int) := of_decide_eq_true (by first | (with_reducible assumption) | assumption)
                    obtain ⟨ad102, e102, hx102_0⟩ := Kd.at_int HR0.out x12_1 p102 q102
                    cases e102
                    replace p102 := eq_true p102
                    replace q102 := eq_true q102
                    go_wp2_with (first | ((with_reducible refine gate_callee (f := 56) rfl ?_); refine goesL_ (some 24) rfl rfl Try.func56 (by kernel_rfl) rfl #[.int .i64 (wrap64 ((rd l0 x12_1) + (rd l1 x12_1))), .int .i64 0, .int .i64 1] rfl (by (try simp only [List.map_toArray, List.map_cons, List.map_nil]); first | done | rfl | (simp only [List.length_drop, List.length_take]; rfl)) ?_; (with_reducible refine (impl_within.calls (wrap64 ((rd l0 x12_1) + (rd l1 x12_1))) 0 1 true _ A8.out).mono ?_); rintro e w' ⟨rfl, ⟨nd, rfl⟩⟩; refine ⟨_, rfl, ?_⟩))
                    go_ret
                    exact ⟨by first | rfl | (simp; done) | (simp [*]; done), by repeat (first | exact Drawn0.refl _ | apply Drawn0.step)⟩
                · replace c10 := Bool.eq_false_iff.mpr c10
                  subst c10
                  have H1 : (impl_fitsSums.l0 k1 l0 false l1 (l1.length : Int) (wrap64 (x12_1 + 1))) = some r := by rw [if_neg (show ¬ (false = true) by decide)] at H; exact H
                  clear H
                  have H := H1
                  clear H1
                  have H' := Aside0.mk H
                  clear H
                  have p101 : 0 ≤ (x12_1 : Int) := of_decide_eq_true (by first | (with_reducible assumption) | assumption)
                  have q101 : x12_1 < (l1.length : Int) := of_decide_eq_true (by first | (with_reducible assumption) | assumption)
                  obtain ⟨ad101, e101, hx101_0⟩ := Kd.at_int HR1.out x12_1 p101 q101
                  cases e101
                  replace p101 := eq_true p101
                  replace q101 := eq_true q101
                  have p102 : 0 ≤ (x12_1 : Int) := of_decide_eq_true (by first | (with_reducible assumption) | assumption)
                  have q102 : x12_1 < (l0.length : Int) := of_decide_eq_true (by first | (with_reducible assumption) | assumption)
                  obtain ⟨ad102, e102, hx102_0⟩ := Kd.at_int HR0.out x12_1 p102 q102
                  cases e102
                  replace p102 := eq_true p102
                  replace q102 := eq_true q102
                  go_wp2_with (first | ((with_reducible refine gate_callee (f := 56) rfl ?_); refine goesL_ (some 24) rfl rfl Try.func56 (by kernel_rfl) rfl #[.int .i64 (wrap64 ((rd l0 x12_1) + (rd l1 x12_1))), .int .i64 0, .int .i64 1] rfl (by (try simp only [List.map_toArray, List.map_cons, List.map_nil]); first | done | rfl | (simp only [List.length_drop, List.length_take]; rfl)) ?_; (with_reducible refine (impl_within.calls (wrap64 ((rd l0 x12_1) + (rd l1 x12_1))) 0 1 true _ A8.out).mono ?_); rintro e w' ⟨rfl, ⟨nd, rfl⟩⟩; refine ⟨_, rfl, ?_⟩))
                  go_roundg k1
                  case measure => have := HK1.out; omega
                  case rel => exact ⟨(wrap64 (x12_1 + 1)), (by first | rfl | (simp; done) | (simp [*]; done)), H', ⟨by have := HK1.out; omega⟩, by repeat (first | exact Drawn0.refl _ | apply Drawn0.step)⟩
              · replace c9 := Bool.eq_false_iff.mpr c9
                subst c9
                have H1 : (some false) = some r := by rw [if_neg (show ¬ (false = true) by decide)] at H; exact H
                clear H
                have H := H1
                clear H1
                obtain rfl := Option.some.inj H
                have p101 : 0 ≤ (x12_1 : Int) := of_decide_eq_true (by first | (with_reducible assumption) | assumption)
                have q101 : x12_1 < (l1.length : Int) := of_decide_eq_true (by first | (with_reducible assumption) | assumption)
                obtain ⟨ad101, e101, hx101_0⟩ := Kd.at_int HR1.out x12_1 p101 q101
                cases e101
                replace p101 := eq_true p101
                replace q101 := eq_true q101
                have p102 : 0 ≤ (x12_1 : Int) := of_decide_eq_true (by first | (with_reducible assumption) | assumption)
                have q102 : x12_1 < (l0.length : Int) := of_decide_eq_true (by first | (with_reducible assumption) | assumption)
                obtain ⟨ad102, e102, hx102_0⟩ := Kd.at_int HR0.out x12_1 p102 q102
                cases e102
                replace p102 := eq_true p102
                replace q102 := eq_true q102
                go_wp2_with (first | ((with_reducible refine gate_callee (f := 56) rfl ?_); refine goesL_ (some 24) rfl rfl Try.func56 (by kernel_rfl) rfl #[.int .i64 (wrap64 ((rd l0 x12_1) + (rd l1 x12_1))), .int .i64 0, .int .i64 1] rfl (by (try simp only [List.map_toArray, List.map_cons, List.map_nil]); first | done | rfl | (simp only [List.length_drop, List.length_take]; rfl)) ?_; (with_reducible refine (impl_within.calls (wrap64 ((rd l0 x12_1) + (rd l1 x12_1))) 0 1 false _ A8.out).mono ?_); rintro e w' ⟨rfl, ⟨nd, rfl⟩⟩; refine ⟨_, rfl, ?_⟩))
                go_ret
                exact ⟨by first | rfl | (simp; done) | (simp [*]; done), by repeat (first | exact Drawn0.refl _ | apply Drawn0.step)⟩
            · rw [if_neg c7] at H
              exact absurd H (by simp)
          · rw [if_neg c6] at H
            exact absurd H (by simp)
        · rw [if_neg c5] at H
          exact absurd H (by simp)
      · rw [if_neg c4] at H
        have c4b0 : decide (x12_1 < (l1.length : Int)) = false := decide_eq_false c4
        clear c4
        obtain rfl := Option.some.inj H
        go_wp2
        go_ret
        exact ⟨by first | rfl | (simp; done) | (simp [*]; done), by repeat (first | exact Drawn0.refl _ | apply Drawn0.step)⟩

/-! ### impl_eachSigns_1: function 127 (by hand) -/
structure impl_eachSigns_1.Fr (n : Int) (ge : Nat) (be : Array Value) (Ar : Option Addr) (cr : Nat) (rows : List (List Int)) (B1 B2 B3 B4 B5 T2 T5 gs : Nat) (S : Nat → Prop) (w : World) (sums : List Int) : Prop where
  b1 : w.heap[B1]? = some (.cells #[.int .i64 n] 3 (0, 0))
  b2 : w.heap[B2]? = some (.cells #[.func (.func ge) #[] be] T2 (0, 0))
  b3 : w.heap[B3]? = some (.cells #[.slice Ar rows.length cr] 27 (0, 0))
  b4 : w.heap[B4]? = some (.cells #[.slice (some ⟨gs, 0, none⟩) sums.length sums.length] 34 (0, 0))
  b5 : w.heap[B5]? = some (.cells #[.func (.func 127) #[] #[.pointer (some ⟨B1, 0, none⟩), .pointer (some ⟨B2, 0, none⟩), .pointer (some ⟨B3, 0, none⟩), .pointer (some ⟨B4, 0, none⟩), .pointer (some ⟨B5, 0, none⟩)]] T5 (0, 0))
  bs : w.heap[gs]? = some (.cells (nums .i64 sums).toArray 3 (0, 0))
  vr : Kd.V (Kd.slice 3 (Kd.int .i64)) 34 w 0 (fun k => ¬ S k ∧ k ≠ gs) (.slice Ar rows.length cr) rows
  s1 : ¬ S B1
  s2 : ¬ S B2
  s3 : ¬ S B3
  s4 : ¬ S B4
  s5 : ¬ S B5
  ss : ¬ S gs
  n1 : B1 ≠ gs
  t2 : T2 ≠ 3
  t5 : T5 ≠ 3
  sz : sums.length ≤ 9223372036854775807
section
variable {n : Int} {ge : Nat} {be : Array Value} {Ar : Option Addr} {cr : Nat} {rows : List (List Int)} {B1 B2 B3 B4 B5 T2 T5 gs : Nat} {S S' : Nat → Prop} {w w1 : World} {sums : List Int}
theorem impl_eachSigns_1.Fr.below (h : impl_eachSigns_1.Fr n ge be Ar cr rows B1 B2 B3 B4 B5 T2 T5 gs S w sums) (hb : Below w.heap.size w w1) : impl_eachSigns_1.Fr n ge be Ar cr rows B1 B2 B3 B4 B5 T2 T5 gs S w1 sums :=
  { h with b1 := blk_below h.b1 hb, b2 := blk_below h.b2 hb, b3 := blk_below h.b3 hb, b4 := blk_below h.b4 hb, b5 := blk_below h.b5 hb, bs := blk_below h.bs hb, vr := Kd.V_below h.vr hb }
theorem impl_eachSigns_1.Fr.kept (h : impl_eachSigns_1.Fr n ge be Ar cr rows B1 B2 B3 B4 B5 T2 T5 gs S w sums) (hk : Kp w w1 S) (hs : ∀ k, S' k → S k ∨ w.heap.size ≤ k) : impl_eachSigns_1.Fr n ge be Ar cr rows B1 B2 B3 B4 B5 T2 T5 gs S' w1 sums := by
  have no : ∀ k, ¬ S k → k < w.heap.size → ¬ S' k := fun k h1 h2 h3 => (hs k h3).elim h1 (fun h4 => by omega)
  exact ⟨blk_kept h.b1 hk.1 h.s1, blk_kept h.b2 hk.1 h.s2, blk_kept h.b3 hk.1 h.s3, blk_kept h.b4 hk.1 h.s4, blk_kept h.b5 hk.1 h.s5, blk_kept h.bs hk.1 h.ss, V_kept_to h.vr hk hs,
    no _ h.s1 (blk_lt h.b1), no _ h.s2 (blk_lt h.b2), no _ h.s3 (blk_lt h.b3), no _ h.s4 (blk_lt h.b4), no _ h.s5 (blk_lt h.b5), no _ h.ss (blk_lt h.bs), h.n1, h.t2, h.t5, h.sz⟩
theorem impl_eachSigns_1.Fr.store (h : impl_eachSigns_1.Fr n ge be Ar cr rows B1 B2 B3 B4 B5 T2 T5 gs S w sums) (i : Nat) (v : Int) : impl_eachSigns_1.Fr n ge be Ar cr rows B1 B2 B3 B4 B5 T2 T5 gs S (w.setCell ⟨gs, i, none⟩ (.int .i64 v)) (sums.set i v) :=
  { h with b1 := blk_far h.b1 h.n1 _, b2 := blk_far h.b2 (blk_ne h.b2 h.bs h.t2) _, b3 := blk_far h.b3 (blk_ne h.b3 h.bs (by decide)) _, b4 := by rw [List.length_set]; exact blk_far h.b4 (blk_ne h.b4 h.bs (by decide)) _,
           b5 := blk_far h.b5 (blk_ne h.b5 h.bs h.t5) _, bs := by have := blk_set h.bs i (.int .i64 v); rwa [nums_set] at this, vr := Kd.V_far h.vr (fun _ hk => hk.2) _, sz := by rw [List.length_set]; exact h.sz }
end
def impl_eachSigns_1.okRow (sums row : List Int) : Bool := decide (sums.length = row.length) && sums.all (fun s => decide (0 ≤ s) && decide (s ≤ 1)) && row.all (fun s => decide (-1 ≤ s) && decide (s ≤ 1))
mutual
def impl_eachSigns_1.l0 {σ : Type} : Nat → (σ → List (List Int) → Option (σ × Bool)) → Int → List (List Int) → List Int → List (List Int) → σ → Int → Option (σ × Bool)
  | 0, _, _, _, _, _, _, _ => none
  | k + 1, p, n, rows, sums, m, s, i => if i < (rows.length : Int) then (if 0 ≤ i then ((impl_fitsSums.f k sums (rows.getD i.toNat []) ((m.length : Int) == n - 1)).bind fun t =>
      (if t = true then (if impl_eachSigns_1.okRow sums (rows.getD i.toNat []) = true then ((impl_eachSigns_1.f k p n rows (List.zipWith (· + ·) sums (rows.getD i.toNat [])) (m ++ [rows.getD i.toNat []]) s).bind fun q => (if q.2 = true then impl_eachSigns_1.l0 k p n rows sums m q.1 (i + 1) else some (q.1, false))) else none)
      else impl_eachSigns_1.l0 k p n rows sums m s (i + 1))) else none) else some (s, true)
def impl_eachSigns_1.f {σ : Type} : Nat → (σ → List (List Int) → Option (σ × Bool)) → Int → List (List Int) → List Int → List (List Int) → σ → Option (σ × Bool)
  | 0, _, _, _, _, _, _ => none
  | k + 1, p, n, rows, sums, m, s => if (m.length : Int) = n then p s m else (if m.length < 1000 then impl_eachSigns_1.l0 k p n rows sums m s 0 else none)
end
theorem impl_eachSigns_1.mono_l {σ : Type} : ∀ k, (∀ (p p' : σ → List (List Int) → Option (σ × Bool)) (hp : ∀ s m, LeO (p s m) (p' s m)) y0 y1 y2 y3 y4, LeO (impl_eachSigns_1.f k p y0 y1 y2 y3 y4) (impl_eachSigns_1.f (k + 1) p' y0 y1 y2 y3 y4)) ∧ (∀ (p p' : σ → List (List Int) → Option (σ × Bool)) (hp : ∀ s m, LeO (p s m) (p' s m)) y0 y1 y2 y3 y4 y5, LeO (impl_eachSigns_1.l0 k p y0 y1 y2 y3 y4 y5) (impl_eachSigns_1.l0 (k + 1) p' y0 y1 y2 y3 y4 y5))
  | 0 => ⟨fun _ _ _ _ _ _ _ _ r h => by simp [impl_eachSigns_1.f] at h, fun _ _ _ _ _ _ _ _ _ r h => by simp [impl_eachSigns_1.l0] at h⟩
  | k + 1 => by
    obtain ⟨ih0, ih1⟩ := impl_eachSigns_1.mono_l (σ := σ) k
    refine ⟨?_, ?_⟩
    · intro p p' hp y0 y1 y2 y3 y4
      unfold impl_eachSigns_1.f
      repeat' first
      | (with_reducible exact hp _ _)
      | (with_reducible exact ih1 _ _ hp _ _ _ _ _ _)
      | (with_reducible exact LeO.refl _)
      | (with_reducible refine LeO.ite ?_ ?_)
    · intro p p' hp y0 y1 y2 y3 y4 y5
      unfold impl_eachSigns_1.l0
      repeat' first
      | (with_reducible exact ih0 _ _ hp _ _ _ _ _)
      | (with_reducible exact ih1 _ _ hp _ _ _ _ _ _)
      | (with_reducible exact impl_fitsSums.mono _ _ _ _)
      | (with_reducible exact LeO.refl _)
      | (with_reducible refine LeO.ite ?_ ?_)
      | (with_reducible refine LeO.bind ?_ (fun _ => ?_))
theorem impl_eachSigns_1.zip_len {sums row : List Int} (h : impl_eachSigns_1.okRow sums row = true) : sums.length = row.length ∧ (List.zipWith (· + ·) sums row).length = row.length := by
  simp only [impl_eachSigns_1.okRow, Bool.and_eq_true, decide_eq_true_eq] at h
  exact ⟨h.1.1, by rw [List.length_zipWith, h.1.1, Nat.min_self]⟩
theorem impl_eachSigns_1.ok_at {sums row : List Int} (h : impl_eachSigns_1.okRow sums row = true) (j : Nat) (hj : j < row.length) : 0 ≤ sums.getD j 0 ∧ sums.getD j 0 ≤ 1 ∧ -1 ≤ row.getD j 0 ∧ row.getD j 0 ≤ 1 ∧ (List.zipWith (· + ·) sums row).getD j 0 = sums.getD j 0 + row.getD j 0 := by
  have hl := (impl_eachSigns_1.zip_len h).1
  simp only [impl_eachSigns_1.okRow, Bool.and_eq_true, List.all_eq_true, decide_eq_true_eq] at h
  have h1 := h.1.2 (sums.getD j 0) (by rw [List.getD_eq_getElem?_getD, List.getElem?_eq_getElem (by omega)]; exact List.getElem_mem _)
  have h2 := h.2 (row.getD j 0) (by rw [List.getD_eq_getElem?_getD, List.getElem?_eq_getElem hj]; exact List.getElem_mem _)
  refine ⟨h1.1, h1.2, h2.1, h2.2, ?_⟩
  simp [List.getD_eq_getElem?_getD, List.getElem?_zipWith, List.getElem?_eq_getElem hj, List.getElem?_eq_getElem (show j < sums.length by omega)]
/-- The first j numbers of one row, the others of the other one. -/
def impl_eachSigns_1.mid (a b : List Int) (j : Nat) : List Int := a.take j ++ b.drop j
theorem impl_eachSigns_1.mid_len {a b : List Int} (h : a.length = b.length) (j : Nat) : (impl_eachSigns_1.mid a b j).length = b.length := by
  simp [impl_eachSigns_1.mid]; omega
theorem impl_eachSigns_1.mid_at {a b : List Int} (h : a.length = b.length) (j : Nat) (hj : j < b.length) : (impl_eachSigns_1.mid a b j).getD j 0 = b.getD j 0 := by
  simp only [impl_eachSigns_1.mid, List.getD_eq_getElem?_getD]
  rw [List.getElem?_append_right (by simp; omega)]
  simp only [List.length_take, List.getElem?_drop]
  rw [show j + (j - min j a.length) = j by omega]
theorem impl_eachSigns_1.mid_set {a b : List Int} (h : a.length = b.length) (j : Nat) (hj : j < b.length) : (impl_eachSigns_1.mid a b j).set j (a.getD j 0) = impl_eachSigns_1.mid a b (j + 1) := by
  refine List.ext_getElem (by rw [List.length_set, impl_eachSigns_1.mid_len h, impl_eachSigns_1.mid_len h]) fun i h1 h2 => ?_
  rw [List.length_set, impl_eachSigns_1.mid_len h] at h1
  simp only [impl_eachSigns_1.mid, List.getElem_set, List.getElem_append, List.length_take, List.getElem_take, List.getElem_drop]
  by_cases e : j = i
  · subst e
    rw [if_pos rfl, dif_pos (by omega), List.getD_eq_getElem?_getD, List.getElem?_eq_getElem (by omega)]; rfl
  · rw [if_neg e]
    by_cases e2 : i < j
    · rw [dif_pos (by omega), dif_pos (by omega)]
    · rw [dif_neg (by omega), dif_neg (by omega)]
      congr 1
      omega
theorem impl_eachSigns_1.mid_zero {a b : List Int} : impl_eachSigns_1.mid a b 0 = b := by simp [impl_eachSigns_1.mid]
theorem impl_eachSigns_1.mid_all {a b : List Int} {j : Nat} (h : a.length = b.length) (hj : j = b.length) : impl_eachSigns_1.mid a b j = a := by
  subst hj
  simp only [impl_eachSigns_1.mid]
  rw [← h]
  simp
  omega
set_option maxHeartbeats 4000000 in
set_option maxRecDepth 100000 in
theorem impl_eachSigns_1.calls {σ : Type} (p : σ → List (List Int) → Option (σ × Bool)) (Inv : σ → World → (Nat → Prop) → Prop) (n : Int) (hn0 : 0 ≤ n) (hn1 : n ≤ 1000) (ge : Nat) (be : Array Value) (hf : FnS (Kd.slice 34 (Kd.slice 3 (Kd.int .i64))) Value.bool Try.prog ge be p Inv) (Ar : Option Addr) (cr : Nat) (rows : List (List Int)) (B1 B2 B3 B4 B5 T2 T5 gs : Nat) (k : Nat) :
    ∀ (sums : List Int) (m : List (List Int)) (A0 : Option Addr) (c0 : Nat) (s s' : σ) (b : Bool) (S : Nat → Prop) (w : World)
    (hF : impl_eachSigns_1.Fr n ge be Ar cr rows B1 B2 B3 B4 B5 T2 T5 gs S w sums) (hI : Inv s w S) (hm : Kd.V (Kd.slice 3 (Kd.int .i64)) 34 w 0 (fun k => ¬ S k ∧ k ≠ gs) (.slice A0 m.length c0) m) (h : impl_eachSigns_1.f k p n rows sums m s = some (s', b)),
    Calls Try.prog 127 (#[.slice A0 m.length c0] ++ #[.pointer (some ⟨B1, 0, none⟩), .pointer (some ⟨B2, 0, none⟩), .pointer (some ⟨B3, 0, none⟩), .pointer (some ⟨B4, 0, none⟩), .pointer (some ⟨B5, 0, none⟩)]) w fun e w' => e = .returned (.bool b) ∧ ∃ S', Inv s' w' S' ∧ Kp w w' S ∧ ∀ k, S' k → S k ∨ w.heap.size ≤ k := by
  have HFS := Aside0.mk hf
  have eg := hf.eg
  clear hf
  induction k using Nat.strongRecOn with
  | _ k ih =>
  intro sums m A0 c0 s s' b S w hF hI hm h
  cases k with
  | zero => exact absurd h (by simp [impl_eachSigns_1.f])
  | succ k =>
  simp only [impl_eachSigns_1.f] at h
  have HF := Aside0.mk hF
  have HI := Aside0.mk hI
  have HM := Aside0.mk hm
  have hz0 : m.length ≤ 9223372036854775807 := (Kd.V_reads' hm).2.2.2.1
  have hz1 : m.length ≤ c0 := (Kd.V_reads' hm).2.1
  clear hF hI hm
  have hc1 : w.cell? ⟨B1, 0, none⟩ = some (.int .i64 n) := (blk_cell HF.out.b1 0).trans rfl
  by_cases c1 : (m.length : Int) = n
  · rw [if_pos c1] at h
    have c1b : ((m.length : Int) == n) = true := beq_iff_eq.mpr c1
    clear c1
    have HP := Aside0.mk h
    clear h
    have hc2 : w.cell? ⟨B2, 0, none⟩ = some (.func (.func ge) #[] be) := (blk_cell HF.out.b2 0).trans rfl
    go_enter Try.func127, Try.ntmps127
    go_wp2_with (go_at_fn ge; (refine (HFS.out.cl s w S HI.out m _ (K_slice (Kd.V_reads' HM.out).2.1 (Kd.V_reads' HM.out).2.2) s' b HP.out).mono ?_); rintro e w2 ⟨rfl, q2⟩; have HQ := Aside0.mk q2; clear q2)
    go_ret
    exact ⟨rfl, HQ.out⟩
  · rw [if_neg c1] at h
    have c1b : ((m.length : Int) == n) = false := beq_eq_false_iff_ne.mpr c1
    clear c1
    by_cases c2 : m.length < 1000
    · rw [if_pos c2] at h
      have LM := Aside0.mk c2
      have HL := Aside0.mk h
      clear h c2
      have hc3 : w.cell? ⟨B3, 0, none⟩ = some (.slice Ar rows.length cr) := (blk_cell HF.out.b3 0).trans rfl
      go_enter Try.func127, Try.ntmps127
      go_wp2
      go_loopg [24] k (fun kq v24 w' => ∃ (i : Int) (s1 : σ) (S1 : Nat → Prop), v24 = .int .i64 i ∧ Aside0 (impl_eachSigns_1.l0 kq p n rows sums m s1 i = some (s', b)) ∧ Aside0 (kq ≤ k) ∧ Aside0 (impl_eachSigns_1.Fr n ge be Ar cr rows B1 B2 B3 B4 B5 T2 T5 gs S1 w' sums) ∧ Aside0 (Inv s1 w' S1) ∧ Aside0 (Kd.V (Kd.slice 3 (Kd.int .i64)) 34 w' 0 (fun k => ¬ S1 k ∧ k ≠ gs) (.slice A0 m.length c0) m) ∧ Aside0 (Kp w w' S) ∧ Aside0 (∀ k, S1 k → S k ∨ w.heap.size ≤ k))
      case atStart => exact ⟨0, s, S, rfl, HL, ⟨Nat.le_refl _⟩, HF, HI, HM, ⟨Kp.refl _ _⟩, ⟨fun _ h => .inl h⟩⟩
      case round =>
        clear HL HF HI HM hc1 hc3
        obtain ⟨wo, rfl⟩ : ∃ wo : World, wo = wr := ⟨_, rfl⟩
        obtain ⟨i, s1, S1, rfl, HL, HK, HF, HI, HVm, HKp, HS⟩ := hrel
        cases gk with
        | zero => exact absurd HL.out (by simp [impl_eachSigns_1.l0])
        | succ k1 =>
          have H := HL.out
          clear HL
          simp only [impl_eachSigns_1.l0] at H
          by_cases c3 : i < (rows.length : Int)
          · rw [if_pos c3] at H
            by_cases c4 : 0 ≤ i
            · rw [if_pos c4] at H
              obtain ⟨t, hT, H⟩ := Option.bind_eq_some_iff.mp H
              obtain ⟨ad, Aw, cw, eA, hxw, hVw⟩ := V_row (b' := 0) HF.out.vr i c4 c3
              obtain ⟨row, hrow⟩ : ∃ row : List Int, rows.getD i.toNat [] = row := ⟨_, rfl⟩
              rw [hrow] at hT H hxw hVw
              clear hrow
              subst eA
              have HVw := Aside0.mk hVw
              have HT := Aside0.mk hT
              have hz4 : rows.length ≤ 9223372036854775807 := (Kd.V_reads' HF.out.vr).2.2.2.1
              have hz3 : row.length ≤ 9223372036854775807 := (Kd.V_reads' hVw).2.2.2.1
              clear hVw hT
              have hb1 : wo.cell? ⟨B1, 0, none⟩ = some (.int .i64 n) := (blk_cell HF.out.b1 0).trans rfl
              have hb4 : wo.cell? ⟨B4, 0, none⟩ = some (.slice (some ⟨gs, 0, none⟩) sums.length sums.length) := (blk_cell HF.out.b4 0).trans rfl
              have hd3 : decide (i < (rows.length : Int)) = true := decide_eq_true c3
              have hd4 : decide (0 ≤ i) = true := decide_eq_true c4
              have HSZ := Aside0.mk (show sums.length ≤ 9223372036854775807 from HF.out.sz)
              cases t with
              | false =>
                rw [if_neg (by simp)] at H
                have HL4 := Aside0.mk H
                clear H
                go_wp2_with (go_at_call 128; (refine (impl_fitsSums.calls k1 _ _ sums _ _ row ((m.length : Int) == n - 1) false _ (C_nums HF.out.bs HSZ.out) (Nat.le_refl _) (Kd.V_reads' HVw.out).2.2 (Kd.V_reads' HVw.out).2.1 HT.out).mono ?_); rintro e w' ⟨rfl, ⟨nd, rfl⟩⟩)
                go_roundg k1
                case measure => have := HK.out; omega
                case rel => exact ⟨i + 1, s1, S1, by go_num, HL4, ⟨by have := HK.out; omega⟩, ⟨HF.out.below (pw_below_drewN (Below.refl _ _) _)⟩, ⟨HFS.out.st _ _ _ _ HI.out ((pw_below_drewN (Below.refl wo.heap.size wo) _).mono (Nat.zero_le _)) (fun _ _ => rfl)⟩, ⟨Kd.V_drewN HVm.out _⟩, ⟨HKp.out.drewN _⟩, HS⟩
              | true =>
                rw [if_pos rfl] at H
                by_cases c5 : impl_eachSigns_1.okRow sums row = true
                · rw [if_pos c5] at H
                  obtain ⟨q, hq, H⟩ := Option.bind_eq_some_iff.mp H
                  have HO := Aside0.mk c5
                  obtain ⟨sums2, he2⟩ : ∃ x : List Int, List.zipWith (· + ·) sums row = x := ⟨_, rfl⟩
                  rw [he2] at hq
                  have HZ := Aside0.mk (impl_eachSigns_1.zip_len c5)
                  rw [he2] at HZ
                  have HE2 := Aside0.mk he2
                  have HQ := Aside0.mk hq
                  clear c5 he2 hq
                  go_wp2_with (go_at_call 128; (refine (impl_fitsSums.calls k1 _ _ sums _ _ row ((m.length : Int) == n - 1) true _ (C_nums HF.out.bs HSZ.out) (Nat.le_refl _) (Kd.V_reads' HVw.out).2.2 (Kd.V_reads' HVw.out).2.1 HT.out).mono ?_); rintro e w' ⟨rfl, ⟨nd, rfl⟩⟩)
                  replace HF := Aside0.mk (HF.out.below (pw_below_drewN (Below.refl _ _) nd))
                  replace HI := Aside0.mk (HFS.out.st _ _ _ (wo.drewN nd) HI.out ((pw_below_drewN (Below.refl wo.heap.size wo) nd).mono (Nat.zero_le _)) (fun _ _ => rfl))
                  replace HVm := Aside0.mk (Kd.V_drewN HVm.out nd)
                  replace HVw := Aside0.mk (Kd.V_drewN HVw.out nd)
                  replace HKp := Aside0.mk (HKp.out.drewN nd)
                  clear hb1 hb4 hxw
                  generalize wo.drewN nd = wo2 at *
                  go_loopg [39] row.length (fun gj v39 w' => ∃ j : Nat, v39 = .int .i64 (j : Int) ∧ Aside0 (j + gj = row.length) ∧ Aside0 (impl_eachSigns_1.Fr n ge be (some ad) cr rows B1 B2 B3 B4 B5 T2 T5 gs S1 w' (impl_eachSigns_1.mid sums2 sums j)) ∧ Aside0 (Kd.V (Kd.slice 3 (Kd.int .i64)) 34 w' 0 (fun k => ¬ S1 k ∧ k ≠ gs) (.slice A0 m.length c0) m) ∧ Aside0 (Kd.V (Kd.int .i64) 3 w' 0 (fun k => ¬ S1 k ∧ k ≠ gs) (.slice Aw row.length cw) row) ∧ Aside0 (Kp wo2 w' (fun k => k = gs)))
                  case atStart => exact ⟨0, rfl, ⟨by omega⟩, ⟨by rw [impl_eachSigns_1.mid_zero]; exact HF.out⟩, HVm, HVw, ⟨Kp.refl _ _⟩⟩
                  case round =>
                    obtain ⟨w39, rfl⟩ : ∃ w_ : World, w_ = wr := ⟨_, rfl⟩
                    obtain ⟨j, rfl, HJ, HFj, HVmj, HVwj, HKj⟩ := hrel
                    have HLb := Aside0.mk (impl_eachSigns_1.mid_len (a := sums2) (b := sums) (HZ.out.2.trans HZ.out.1.symm) j)
                    by_cases hj : j < row.length
                    · obtain ⟨g1, rfl⟩ : ∃ g1, gk = g1 + 1 := ⟨gk - 1, by have := HJ.out; omega⟩
                      obtain ⟨adw, eAw, hcw⟩ := Kd.at_int (Kd.V_reads' HVwj.out).2.2 (j : Int) (by omega) (by omega)
                      subst eAw
                      obtain ⟨o1, o2, o3, o4, o5⟩ := impl_eachSigns_1.ok_at HO.out j hj
                      have hcs : w39.cell? ⟨gs, j, none⟩ = some (.int .i64 (sums.getD j 0)) := by
                        rw [blk_cell HFj.out.bs j]
                        have := impl_eachSigns_1.mid_at (a := sums2) (b := sums) (HZ.out.2.trans HZ.out.1.symm) j (by have := HZ.out; omega)
                        rw [← this]
                        have hlt : j < (impl_eachSigns_1.mid sums2 sums j).length := by have := HLb.out; have := HZ.out; omega
                        simp [nums, List.getElem?_eq_getElem hlt]
                      have hfs := blk_frozen HFj.out.bs j
                      have hb4 : w39.cell? ⟨B4, 0, none⟩ = some (.slice (some ⟨gs, 0, none⟩) row.length row.length) := by
                        rw [(blk_cell HFj.out.b4 0).trans rfl, HLb.out, HZ.out.1]; rfl
                      rw [show rd row (j : Int) = row.getD j 0 from rfl] at hcw
                      rw [Int.toNat_natCast] at hcw
                      have HST := Aside0.mk (impl_eachSigns_1.Fr.store HFj.out j (sums2.getD j 0))
                      have HMS := Aside0.mk (impl_eachSigns_1.mid_set (a := sums2) (b := sums) (HZ.out.2.trans HZ.out.1.symm) j (by have := HZ.out; omega))
                      have HVE := Aside0.mk (show sums2.getD j 0 = sums.getD j 0 + row.getD j 0 by rw [← HE2.out] at *; omega)
                      have hd1 : decide ((j : Int) < (row.length : Int)) = true := decide_eq_true (by omega)
                      have hd2 : decide (j < row.length) = true := decide_eq_true hj
                      rw [HE2.out] at o5
                      have o6 : -1 ≤ sums2.getD j 0 := by omega
                      have o7 : sums2.getD j 0 ≤ 2 := by omega
                      clear o5
                      generalize sums.getD j 0 = x at *
                      generalize row.getD j 0 = y at *
                      go_wp2
                      go_roundg g1
                      case measure => omega
                      case rel =>
                        refine ⟨j + 1, by go_num, ⟨by have := HJ.out; omega⟩, ⟨?_⟩, ⟨Kd.V_far HVmj.out (fun _ hk => hk.2) _⟩, ⟨Kd.V_far HVwj.out (fun _ hk => hk.2) _⟩, ⟨Kp.setCell HKj.out (.inl rfl) _⟩⟩
                        have := HST.out
                        rw [HMS.out] at this
                        rwa [HVE.out] at this
                    · have ej : j = row.length := by have := HJ.out; omega
                      subst ej
                      have hd1 : decide ((row.length : Int) < (row.length : Int)) = false := decide_eq_false (by omega)
                      have hd2 : decide (row.length < row.length) = false := decide_eq_false (by omega)
                      have HFe := Aside0.mk HFj.out
                      rw [impl_eachSigns_1.mid_all (HZ.out.2.trans HZ.out.1.symm) (HZ.out.1.symm)] at HFe
                      clear HFj HJ HLb hj
                      have HF3 := Aside0.mk (HFe.out.below (below_drew (Below.refl _ _)))
                      have HVm := Aside0.mk (Kd.V_drew HVmj.out)
                      have HVw := Aside0.mk (Kd.V_drew HVwj.out)
                      have HKp3 := Aside0.mk (HKj.out.drew)
                      have HI3 := Aside0.mk (HFS.out.st _ _ _ _ HI.out HKp3.out.2 (fun k hk => HKp3.out.at k (HFS.out.bd _ _ _ HI.out k hk) (fun e => HF.out.ss (e ▸ hk))))
                      have HC5 := Aside0.mk ((blk_cell HF3.out.b5 0).trans rfl : w39.drew.cell? ⟨B5, 0, none⟩ = some (.func (.func 127) #[] #[.pointer (some ⟨B1, 0, none⟩), .pointer (some ⟨B2, 0, none⟩), .pointer (some ⟨B3, 0, none⟩), .pointer (some ⟨B4, 0, none⟩), .pointer (some ⟨B5, 0, none⟩)]))
                      clear HVmj HVwj HKj HFe
                      go_wp2_with fail
                      refine start_ (n := 12) (S := fun w' => w'.cell? ⟨B5, 0, none⟩ = some (.func (.func 127) #[] #[.pointer (some ⟨B1, 0, none⟩), .pointer (some ⟨B2, 0, none⟩), .pointer (some ⟨B3, 0, none⟩), .pointer (some ⟨B4, 0, none⟩), .pointer (some ⟨B5, 0, none⟩)])) (ds := []) #[false, false, false, false, false, false, false, false, false, false, false, false] (by kernel_rfl) rfl rfl (HC5.out) (fun hHeld => ?_)
                      generalize hW_ : w39.drew = W at HF3 HVm HVw HI3 HKp3 HC5 hHeld ⊢
                      clear hW_
                      refine pure_ (i := 1) (N := some 53) (v := ?_) (a' := ?_) #[false, true, false, false, false, false, false, false, false, false, false, false] rfl rfl (by kernel_rfl) (fun _ _ _ h => h) (Or.inl ⟨by rfl, ?_⟩) ?_ ?_
                      rotate_left
                      · intro w'
                        go_simp
                        with_reducible rfl
                      rotate_left
                      · simp only [Act.put, List.setIfInBounds_toArray, List.set_cons_zero, List.set_cons_succ, i64_w, i32_w]
                        rfl
                      refine pure_ (i := 2) (N := some 54) (v := ?_) (a' := ?_) #[false, true, true, false, false, false, false, false, false, false, false, false] rfl rfl (by kernel_rfl) (fun _ _ _ h => h) (Or.inl ⟨by rfl, ?_⟩) ?_ ?_
                      rotate_left
                      · intro w'
                        go_simp
                        with_reducible rfl
                      rotate_left
                      · simp only [Act.put, List.setIfInBounds_toArray, List.set_cons_zero, List.set_cons_succ, i64_w, i32_w]
                        rfl
                      refine pure_ (i := 3) (N := some 55) (v := ?_) (a' := ?_) #[false, true, true, true, false, false, false, false, false, false, false, false] rfl rfl (by kernel_rfl) (fun _ _ _ h => h) (Or.inl ⟨by rfl, ?_⟩) ?_ ?_
                      rotate_left
                      · intro w'
                        go_simp
                        with_reducible rfl
                      rotate_left
                      · simp only [Act.put, List.setIfInBounds_toArray, List.set_cons_zero, List.set_cons_succ, i64_w, i32_w]
                        rfl
                      refine pure_ (i := 4) (N := some 56) (v := ?_) (a' := ?_) #[false, true, true, true, true, false, false, false, false, false, false, false] rfl rfl (by kernel_rfl) (fun _ _ _ h => h) (Or.inl ⟨by rfl, ?_⟩) ?_ ?_
                      rotate_left
                      · intro w'
                        go_simp
                        with_reducible rfl
                      rotate_left
                      · simp only [Act.put, List.setIfInBounds_toArray, List.set_cons_zero, List.set_cons_succ, i64_w, i32_w]
                        rfl
                      refine pure_ (i := 5) (N := some 57) (v := ?_) (a' := ?_) #[false, true, true, true, true, true, false, false, false, false, false, false] rfl rfl (by kernel_rfl) (fun _ _ _ h => h) (Or.inl ⟨by rfl, ?_⟩) ?_ ?_
                      rotate_left
                      · intro w'
                        go_simp
                        with_reducible rfl
                      rotate_left
                      · simp only [Act.put, List.setIfInBounds_toArray, List.set_cons_zero, List.set_cons_succ, i64_w, i32_w]
                        rfl
                      refine pure_ (i := 6) (N := some 58) (v := ?_) (a' := ?_) #[false, true, true, true, true, true, true, false, false, false, false, false] rfl rfl (by kernel_rfl) (fun _ _ _ h => h) (Or.inl ⟨by rfl, ?_⟩) ?_ ?_
                      rotate_left
                      · intro w'
                        go_simp
                        with_reducible rfl
                      rotate_left
                      · simp only [Act.put, List.setIfInBounds_toArray, List.set_cons_zero, List.set_cons_succ, i64_w, i32_w]
                        rfl
                      refine pure_ (i := 7) (N := some 59) (v := ?_) (a' := ?_) #[false, true, true, true, true, true, true, true, false, false, false, false] rfl rfl (by kernel_rfl) (fun _ _ _ h => h) (Or.inl ⟨by rfl, ?_⟩) ?_ ?_
                      rotate_left
                      · intro w'
                        go_simp
                        with_reducible rfl
                      rotate_left
                      · simp only [Act.put, List.setIfInBounds_toArray, List.set_cons_zero, List.set_cons_succ, i64_w, i32_w]
                        rfl
                      refine take_ (i := 0) (N := some 52) (v := ?_) (a' := ?_) #[true, true, true, true, true, true, true, true, false, false, false, false] rfl rfl (by kernel_rfl) (fun _ _ _ h => h) (Or.inl ⟨by rfl, ?_⟩) hHeld ?_ ?_
                      rotate_left
                      · intro w' s0
                        go_simp
                        with_reducible rfl
                      rotate_left
                      · simp only [Act.put, List.setIfInBounds_toArray, List.set_cons_zero, List.set_cons_succ, i64_w, i32_w]
                        rfl
                      refine one_ (i := 8) (N := some 60) #[true, true, true, true, true, true, true, true, true, false, false, false] rfl rfl (by kernel_rfl) (by decide) (fun K hK => ?_)
                      refine value_ (w1 := ?_) (v := ?_) (by rfl) rfl ?_ ?_
                      rotate_left 2
                      · go_simp
                        constructor
                        · rfl
                        · rfl
                      refine hK.out _ _ (cell_of_below (below_alloc (Below.refl _ _) _) HC5.out) (fun hHeld => ?_)
                      clear hK K
                      refine norm_ (a' := ?_) ?_ ?_
                      rotate_left
                      · show Act.put _ (some 60) _ = _
                        simp only [Act.put, List.setIfInBounds_toArray, List.set_cons_zero, List.set_cons_succ, i64_w, i32_w]
                        rfl
                      refine one_ (i := 9) (N := some 61) #[true, true, true, true, true, true, true, true, true, true, false, false] rfl rfl (by kernel_rfl) (by decide) (fun K hK => ?_)
                      refine V_push_step (d := Kd.slice 3 (Kd.int .i64)) (e := 34) (ok := fun k => ¬ S1 k ∧ k ≠ gs) rfl (.tmp 58) (.tmp 60) 27 rfl (.slice none 0 0) 24 Try.underlying27 info34 rfl rfl (xs := m) (y := row) (ad := ⟨W.heap.size, 0, none⟩) rfl (Kd.F_alloc (Kd.V_F HVm.out) _) rfl (Kd.FK_below (Kd.FK_slice_mk (Kd.V_reads' HVw.out).2.1 (Kd.V_F HVw.out)) (below_alloc (Below.refl _ _) _)) ((blk_cell (blk_new W _) 0).trans rfl) (by have := LM.out; omega) (by have := LM.out; omega) ?_
                      intro v61 w9 hN9 hb9
                      have HB9 := Aside0.mk (below_step (below_alloc (Below.refl _ _) _) hb9)
                      have HN9 := Aside0.mk hN9
                      clear hN9 hb9
                      obtain ⟨A61, c61, e61⟩ := Kd.N_slice HN9.out
                      subst e61
                      refine hK.out _ _ (cell_of_below HB9.out HC5.out) (fun hHeld => ?_)
                      clear hK K
                      refine norm_ (a' := ?_) ?_ ?_
                      rotate_left
                      · show Act.put _ (some 61) _ = _
                        simp only [Act.put, List.setIfInBounds_toArray, List.set_cons_zero, List.set_cons_succ, i64_w, i32_w]
                        rfl
                      refine one_ (i := 10) (N := some 62) #[true, true, true, true, true, true, true, true, true, true, true, false] rfl rfl (by kernel_rfl) (by decide) (fun K hK => ?_)
                      refine goesF_ (enters_of Try.func127 (by kernel_rfl) rfl) #[.slice A61 (m ++ [row]).length c61] (by rfl) rfl rfl (by first | rfl | (simp [Act.eval]; done)) (by (try simp only [List.map_toArray, List.map_cons, List.map_nil]); first | done | rfl) ?_
                      refine (ih k1 (by have := HK.out; omega) (sums2) (m ++ [row]) A61 c61 s1 q.1 q.2 S1 w9 (HF3.out.below HB9.out) (HFS.out.st _ _ _ _ HI3.out (HB9.out.mono (Nat.zero_le _)) (fun k hk => HB9.out.block k (HFS.out.bd _ _ _ HI3.out k hk))) (Kd.V_mono (Kd.N_V HN9.out) (fun k hk => hk.elim (fun h => h) (fun h => ⟨fun hs => by have := HFS.out.bd _ _ _ HI3.out k hs; simp at h; omega, fun e => by have := blk_lt HF3.out.bs; simp at h; omega⟩))) HQ.out).mono ?_
                      rintro e w10 ⟨rfl, S2, hI10, hK10, hS10⟩
                      refine ⟨_, rfl, ?_⟩
                      have HI10 := Aside0.mk hI10
                      have HK10 := Aside0.mk hK10
                      have HS10 := Aside0.mk hS10
                      clear hI10 hK10 hS10
                      have HF10 := Aside0.mk ((HF3.out.below HB9.out).kept HK10.out HS10.out)
                      refine hK.out _ _ ((blk_cell HF10.out.b5 0).trans rfl) (fun hHeld => ?_)
                      clear hK K
                      refine norm_ (a' := ?_) ?_ ?_
                      rotate_left
                      · show Act.put _ (some 62) _ = _
                        simp only [Act.put, List.setIfInBounds_toArray, List.set_cons_zero, List.set_cons_succ, i64_w, i32_w]
                        rfl
                      refine pure_ (i := 11) (N := some 12) (v := ?_) (a' := ?_) #[true, true, true, true, true, true, true, true, true, true, true, true] rfl rfl (by kernel_rfl) (fun _ _ _ h => h) (Or.inl ⟨by rfl, ?_⟩) ?_ ?_
                      rotate_left
                      · intro w'
                        go_simp
                        with_reducible rfl
                      rotate_left
                      · simp only [Act.put, List.setIfInBounds_toArray, List.set_cons_zero, List.set_cons_succ, i64_w, i32_w]
                        rfl
                      refine done_ (by kernel_rfl) ?_
                      have HKr := Aside0.mk ((HKp3.out.mono (S' := fun k => S1 k ∨ k = gs) (fun k h => .inr h)).below HB9.out |>.then_ HK10.out (fun k h => .inl (.inl h)))
                      have HW9 := Aside0.mk (Nat.le_trans HKp3.out.sz (below_size HB9.out))
                      have HVm3 := Aside0.mk (V_kept_to (Kd.V_below HVm.out HB9.out) HK10.out HS10.out)
                      have HVw3 := Aside0.mk (V_kept_to (Kd.V_below HVw.out HB9.out) HK10.out HS10.out)
                      clear HVm HVw HKp3 HI3 HC5 HF3 HN9 HB9 HK10
                      go_wp2
                      go_loopg [65] row.length (fun gj v65 w' => ∃ j : Nat, v65 = .int .i64 (j : Int) ∧ Aside0 (j + gj = row.length) ∧ Aside0 (impl_eachSigns_1.Fr n ge be (some ad) cr rows B1 B2 B3 B4 B5 T2 T5 gs S2 w' (impl_eachSigns_1.mid sums sums2 j)) ∧ Aside0 (Kd.V (Kd.slice 3 (Kd.int .i64)) 34 w' 0 (fun k => ¬ S2 k ∧ k ≠ gs) (.slice A0 m.length c0) m) ∧ Aside0 (Kd.V (Kd.int .i64) 3 w' 0 (fun k => ¬ S2 k ∧ k ≠ gs) (.slice Aw row.length cw) row) ∧ Aside0 (Kp w10 w' (fun k => k = gs)))
                      case atStart => exact ⟨0, rfl, ⟨by omega⟩, ⟨by rw [impl_eachSigns_1.mid_zero]; exact HF10.out⟩, HVm3, HVw3, ⟨Kp.refl _ _⟩⟩
                      case round =>
                        obtain ⟨w65, rfl⟩ : ∃ w_ : World, w_ = wr := ⟨_, rfl⟩
                        obtain ⟨j, rfl, HJ, HFj, HVmj, HVwj, HKj⟩ := hrel
                        have HLb := Aside0.mk (impl_eachSigns_1.mid_len (a := sums) (b := sums2) (HZ.out.1.trans HZ.out.2.symm) j)
                        by_cases hj : j < row.length
                        · obtain ⟨g1, rfl⟩ : ∃ g1, gk = g1 + 1 := ⟨gk - 1, by have := HJ.out; omega⟩
                          obtain ⟨adw, eAw, hcw⟩ := Kd.at_int (Kd.V_reads' HVwj.out).2.2 (j : Int) (by omega) (by omega)
                          subst eAw
                          obtain ⟨o1, o2, o3, o4, o5⟩ := impl_eachSigns_1.ok_at HO.out j hj
                          have hcs : w65.cell? ⟨gs, j, none⟩ = some (.int .i64 (sums2.getD j 0)) := by
                            rw [blk_cell HFj.out.bs j]
                            have := impl_eachSigns_1.mid_at (a := sums) (b := sums2) (HZ.out.1.trans HZ.out.2.symm) j (by have := HZ.out; omega)
                            rw [← this]
                            have hlt : j < (impl_eachSigns_1.mid sums sums2 j).length := by have := HLb.out; have := HZ.out; omega
                            simp [nums, List.getElem?_eq_getElem hlt]
                          have hfs := blk_frozen HFj.out.bs j
                          have hb4 : w65.cell? ⟨B4, 0, none⟩ = some (.slice (some ⟨gs, 0, none⟩) row.length row.length) := by
                            rw [(blk_cell HFj.out.b4 0).trans rfl, HLb.out, HZ.out.2]; rfl
                          rw [show rd row (j : Int) = row.getD j 0 from rfl] at hcw
                          rw [Int.toNat_natCast] at hcw
                          have HST := Aside0.mk (impl_eachSigns_1.Fr.store HFj.out j (sums.getD j 0))
                          have HMS := Aside0.mk (impl_eachSigns_1.mid_set (a := sums) (b := sums2) (HZ.out.1.trans HZ.out.2.symm) j (by have := HZ.out; omega))
                          have HVE := Aside0.mk (show sums.getD j 0 = sums2.getD j 0 - row.getD j 0 by rw [← HE2.out] at *; omega)
                          have hd1 : decide ((j : Int) < (row.length : Int)) = true := decide_eq_true (by omega)
                          have hd2 : decide (j < row.length) = true := decide_eq_true hj
                          rw [HE2.out] at o5
                          have o6 : -1 ≤ sums2.getD j 0 := by omega
                          have o7 : sums2.getD j 0 ≤ 2 := by omega
                          clear o5
                          generalize sums2.getD j 0 = x at *
                          generalize row.getD j 0 = y at *
                          go_wp2
                          go_roundg g1
                          case measure => omega
                          case rel =>
                            refine ⟨j + 1, by go_num, ⟨by have := HJ.out; omega⟩, ⟨?_⟩, ⟨Kd.V_far HVmj.out (fun _ hk => hk.2) _⟩, ⟨Kd.V_far HVwj.out (fun _ hk => hk.2) _⟩, ⟨Kp.setCell HKj.out (.inl rfl) _⟩⟩
                            have := HST.out
                            rw [HMS.out] at this
                            rwa [HVE.out] at this
                        · have ej : j = row.length := by have := HJ.out; omega
                          subst ej
                          have hd1 : decide ((row.length : Int) < (row.length : Int)) = false := decide_eq_false (by omega)
                          have hd2 : decide (row.length < row.length) = false := decide_eq_false (by omega)
                          have HFe := Aside0.mk HFj.out
                          rw [impl_eachSigns_1.mid_all (HZ.out.1.trans HZ.out.2.symm) (HZ.out.2.symm)] at HFe
                          clear HFj HJ HLb hj
                          have HB3 := Aside0.mk (Kp.back ((HKr.out.then_ (S2 := fun k => k = gs) HKj.out (fun k h => .inl (.inr h)))) HF.out.bs HFe.out.bs)
                          have HKp4 := Aside0.mk (HKp.out.then_ HB3.out HS.out)
                          have HS4 := Aside0.mk (show ∀ k, S2 k → S k ∨ w.heap.size ≤ k from fun k h => (HS10.out k h).elim (fun h => HS.out k h) (fun h => .inr (Nat.le_trans HKp.out.sz (Nat.le_trans HW9.out h))))
                          have HI4 := Aside0.mk (HFS.out.st _ _ _ _ HI10.out HKj.out.2 (fun k hk => HKj.out.at k (HFS.out.bd _ _ _ HI10.out k hk) (fun e => HF10.out.ss (e ▸ hk))))
                          by_cases cq : q.2 = true
                          · rw [if_pos cq] at H
                            have HL4 := Aside0.mk H
                            clear H
                            rw [cq]
                            go_wp2
                            go_roundg k1
                            case measure => have := HK.out; omega
                            case rel => exact ⟨i + 1, q.1, S2, by go_num, HL4, ⟨by have := HK.out; omega⟩, HFe, HI4, HVmj, HKp4, HS4⟩
                          · rw [if_neg cq] at H
                            have e1 := Prod.mk.inj (Option.some.inj H)
                            have cq2 : q.2 = false := by simpa using cq
                            obtain ⟨e1, e2⟩ := e1
                            subst e2
                            clear H cq
                            rw [cq2]
                            go_wp2
                            go_ret
                            exact ⟨rfl, S2, e1 ▸ HI4.out, HKp4.out, HS4.out⟩
                · rw [if_neg c5] at H
                  exact absurd H (by simp)
            · rw [if_neg c4] at H
              exact absurd H (by simp)
          · rw [if_neg c3] at H
            have hd3 : decide (i < (rows.length : Int)) = false := decide_eq_false c3
            have e1 := Prod.mk.inj (Option.some.inj H)
            obtain ⟨e1, e2⟩ := e1
            subst e2
            clear H
            go_wp2
            go_ret
            exact ⟨rfl, S1, e1 ▸ HI.out, HKp.out, HS.out⟩
    · rw [if_neg c2] at h
      exact absurd h (by simp)

/-! ### impl_eachSigns: function 98 (by hand) -/
def impl_eachSigns.f {σ : Type} (k : Nat) (a0 : Int) (p : σ → List (List Int) → Option (σ × Bool)) (s : σ) : Option σ :=
  if 0 ≤ a0 then (if a0 ≤ 1000 then ((impl_signRows.f k a0).bind fun rows => (impl_eachSigns_1.f k p a0 rows (List.replicate a0.toNat 0) [] s).bind fun q => some q.1) else none) else none
theorem impl_eachSigns.mono {σ : Type} : ∀ (p p' : σ → List (List Int) → Option (σ × Bool)) (hp : ∀ s m, LeO (p s m) (p' s m)) a0 s k, LeO (impl_eachSigns.f k a0 p s) (impl_eachSigns.f (k + 1) a0 p' s) := by
  intro p p' hp a0 s k
  unfold impl_eachSigns.f
  repeat' first
    | (with_reducible exact (impl_eachSigns_1.mono_l k).1 _ _ hp _ _ _ _ _)
    | (with_reducible exact impl_signRows.mono _ _)
    | (with_reducible exact LeO.refl _)
    | (with_reducible refine LeO.ite ?_ ?_)
    | (with_reducible refine LeO.bind ?_ (fun _ => ?_))
def impl_eachSigns.T1 : Bool × List (List Nat × List Nat) := (true, [([], []), ([0], [0]), ([], []), ([2, 2], [2]), ([], []), ([], []), ([4, 1, 1, 0, 1, 4, 5], [1, 4]), ([5, 3, 6, 0, 1, 2, 3, 4, 5, 6], [3, 5])])
def impl_eachSigns.B1 : List Nat := [0, 1, 0, 4, 0, 0, 51, 127]
theorem impl_eachSigns.tab1 : rtab .any (opsOf Try.f98 1) = impl_eachSigns.T1 := by kernel_rfl
theorem impl_eachSigns.bits1 : waitsOk impl_eachSigns.T1.2 impl_eachSigns.B1 = true := by kernel_rfl
set_option maxHeartbeats 4000000 in
set_option maxRecDepth 100000 in
theorem impl_eachSigns.calls {σ : Type} (k : Nat) (a0 : Int) (ge : Nat) (be : Array Value) (p : σ → List (List Int) → Option (σ × Bool)) (Inv : σ → World → (Nat → Prop) → Prop) (hf : FnS (Kd.slice 34 (Kd.slice 3 (Kd.int .i64))) Value.bool Try.prog ge be p Inv)
    (s s' : σ) (S : Nat → Prop) (w : World) (hI : Inv s w S) (h : impl_eachSigns.f k a0 p s = some s') :
    Calls Try.prog 98 #[.int .i64 a0, .func (.func ge) #[] be] w fun e w' => e = .returned (.tuple #[]) ∧ ∃ S', Inv s' w' S' ∧ Kp w w' S ∧ ∀ k, S' k → S k ∨ w.heap.size ≤ k := by
  unfold impl_eachSigns.f at h
  by_cases c1 : 0 ≤ a0
  · rw [if_pos c1] at h
    by_cases c2 : a0 ≤ 1000
    · rw [if_pos c2] at h
      obtain ⟨rows, h1, h⟩ := Option.bind_eq_some_iff.mp h
      obtain ⟨q, h2, h⟩ := Option.bind_eq_some_iff.mp h
      obtain rfl := Option.some.inj h
      have HFS := Aside0.mk hf
      have HI := Aside0.mk hI
      have HR := Aside0.mk h1
      have HQ := Aside0.mk h2
      clear hf hI h1 h2 h
      go_enter Try.func98, Try.ntmps98
      go_wp2
      obtain ⟨B1, hB1⟩ : ∃ B1, B1 = w.heap.size := ⟨_, rfl⟩
      obtain ⟨B2, hB2⟩ : ∃ B2, B2 = B1 + 1 := ⟨_, rfl⟩
      have HA0 := Aside0.mk c1
      have HA1 := Aside0.mk c2
      have HB1 := Aside0.mk (show (((w.alloc (Obj.cells #[Value.int IntKind.i64 a0] 3)).alloc (Obj.cells #[Value.func (Fn.func ge) #[] be] 39)).drew).heap[B1]? = some (.cells #[.int .i64 a0] 3 (0, 0)) from blk_drew (blk_alloc (blk_new' hB1.symm) _))
      have HB2 := Aside0.mk (show (((w.alloc (Obj.cells #[Value.int IntKind.i64 a0] 3)).alloc (Obj.cells #[Value.func (Fn.func ge) #[] be] 39)).drew).heap[B2]? = some (.cells #[.func (.func ge) #[] be] 39 (0, 0)) from blk_drew (blk_new' (by simp; omega)))
      have HC1 := Aside0.mk ((blk_cell HB1.out 0).trans rfl : (((w.alloc (Obj.cells #[Value.int IntKind.i64 a0] 3)).alloc (Obj.cells #[Value.func (Fn.func ge) #[] be] 39)).drew).cell? ⟨B1, 0, none⟩ = some (.int .i64 a0))
      have HBW := Aside0.mk (show Below w.heap.size w (((w.alloc (Obj.cells #[Value.int IntKind.i64 a0] 3)).alloc (Obj.cells #[Value.func (Fn.func ge) #[] be] 39)).drew) from below_drew1 (below_alloc (below_alloc (Below.refl _ _) _) _))
      have HP0 := Aside0.mk (show 0 < (((w.alloc (Obj.cells #[Value.int IntKind.i64 a0] 3)).alloc (Obj.cells #[Value.func (Fn.func ge) #[] be] 39)).drew).heap.size from Nat.lt_of_le_of_lt (Nat.zero_le _) (blk_lt HB1.out))
      rw [← hB1]
      rw [← hB2]
      have EB1 := Aside0.mk hB1
      have EB2 := Aside0.mk hB2
      clear hB1 hB2
      refine start_ (n := 8) (S := fun w' => True) (ds := []) #[false, false, false, false, false, false, false, false] (by kernel_rfl) rfl rfl trivial (fun hHeld => ?_)
      refine with_tabW impl_eachSigns.tab1 impl_eachSigns.bits1 (fun HT_ HW_ => ?_)
      generalize hW_ : World.drew _ = W at HB1 HB2 HBW HC1 HP0 ⊢
      clear hW_
      have FB := (show Below W.heap.size W W ∧ 0 < W.heap.size ∧ 0 < W.heap.size from ⟨Below.refl _ _, HP0.out, HP0.out⟩)
      refine inv_at [0, 1, 2, 3, 4, 5, 6, 7] (fun a0_ b a w' => ∃ (v8 : Value) (g10 : Nat) (g4 : Nat) (g5 : Nat) (m3_ : Value) (m4_ : Value) (m5_ : Value), a = putSel a0_ b [(0, 7, .int .i64 a0), (1, 8, v8), (2, 9, .int .i64 a0), (3, 10, m3_), (4, 4, m4_), (5, 5, m5_)] ∧ (Below W.heap.size W w' ∧ g10 < w'.heap.size ∧ g5 < w'.heap.size) ∧ (b 1 = true → Kd.R (Kd.slice 3 (Kd.int .i64)) 34 w' W.heap.size (fun k => k ≠ g10 ∧ k ≠ g5) v8 rows) ∧ (b 3 = true → w'.heap[g10]? = some (.cells (nums .i64 (List.replicate a0.toNat 0)).toArray 3 (0, 0)) ∧ W.heap.size ≤ g10) ∧ (b 4 = true → b 6 = false → w'.heap[g4]? = some (.cells #[.slice none 0 0] 27 (0, 0)) ∧ W.heap.size ≤ g4) ∧ (b 6 = true → w'.heap[g4]? = some (.cells #[v8] 27 (0, 0)) ∧ W.heap.size ≤ g4) ∧ (b 5 = true → b 7 = false → w'.heap[g5]? = some (.cells #[.slice none 0 0] 34 (0, 0)) ∧ W.heap.size ≤ g5) ∧ (b 7 = true → w'.heap[g5]? = some (.cells #[.slice (some ⟨g10, 0, none⟩) a0.toNat a0.toNat] 34 (0, 0)) ∧ W.heap.size ≤ g5) ∧ (b 3 = true → (m3_ : Value) = .slice (some ⟨g10, 0, none⟩) a0.toNat a0.toNat) ∧ (b 4 = true → (m4_ : Value) = .pointer (some ⟨g4, 0, none⟩)) ∧ (b 5 = true → (m5_ : Value) = .pointer (some ⟨g5, 0, none⟩))) HT_.out HW_.out (by kernel_rfl) (by kernel_rfl) ?_ ?_ ?_
      · exact ⟨.bool false, 0, 0, 0, .bool false, .bool false, .bool false, by simp only [putSel, Bool.false_eq_true, if_false], FB, fun h_ => absurd h_ (by decide), fun h_ => absurd h_ (by decide), fun h_ => absurd h_ (by decide), fun h_ => absurd h_ (by decide), fun h_ => absurd h_ (by decide), fun h_ => absurd h_ (by decide), fun h_ => absurd h_ (by decide), fun h_ => absurd h_ (by decide), fun h_ => absurd h_ (by decide)⟩
      · skip
        clear FB
        refine steps_cons ?_ ?_
        · rintro b a w' ⟨v8, g10, g4, g5, m3_, m4_, m5_, ha, Q_FB, Q_FR, Q_FS, Q_F4, Q_G4, Q_F5, Q_G5, Q_X3_, Q_X4_, Q_X5_⟩ hb_ hon hoff
          refine ⟨_, rfl, fun K hK => ?_⟩
          have e2 : a.tmps[2]? = some (.pointer (some ⟨B1, 0, none⟩)) := by rw [ha]; exact (putSel_off rfl).trans rfl
          replace ha := Aside0.mk ha
          have FB := Aside0.mk Q_FB
          have hc_ : w'.cell? ⟨B1, 0, none⟩ = some (.int .i64 a0) := cell_of_below FB.out.1 HC1.out
          refine value_ (w1 := w') (v := .int .i64 a0) (by rfl) rfl ?_ ?_
          · go_simp
            (try simp only [i64_w])
            try rfl
          refine hK.out _ _ ⟨v8, g10, g4, g5, m3_, m4_, m5_, (by rw [ha.out]; exact putSel_upk 0 hb_ rfl rfl rfl), Q_FB, fun h0_ => absurd ((hoff 1 (by kernel_rfl)).symm.trans h0_) (by decide), Q_FS, Q_F4, fun h0_ => absurd ((hoff 6 (by kernel_rfl)).symm.trans h0_) (by decide), Q_F5, fun h0_ => absurd ((hoff 7 (by kernel_rfl)).symm.trans h0_) (by decide), Q_X3_, Q_X4_, Q_X5_⟩
        refine steps_cons ?_ ?_
        · rintro b a w' ⟨v8, g10, g4, g5, m3_, m4_, m5_, ha, Q_FB, Q_FR, Q_FS, Q_F4, Q_G4, Q_F5, Q_G5, Q_X3_, Q_X4_, Q_X5_⟩ hb_ hon hoff
          refine ⟨_, rfl, fun K hK => ?_⟩
          have e7 : a.tmps[7]? = some (.int .i64 a0) := by rw [ha]; exact putSel_on (e := (0, 7, .int .i64 a0)) 0 rfl rfl (hon 0 (by kernel_rfl)) rfl
          replace ha := Aside0.mk ha
          have FB := Aside0.mk Q_FB
          refine goes_ Try.func126 (by kernel_rfl) rfl #[.int .i64 a0] (by rfl) rfl rfl (by first | (simp only [List.map_toArray, List.map_cons, List.map_nil, Act.eval, Array.getD_eq_getD_getElem?, Option.getD_some, e7]; done) | (simp only [List.map_toArray, List.map_cons, List.map_nil, Act.eval, Array.getD_eq_getD_getElem?, Option.getD_some, e7]; rfl)) ?_
          refine (impl_signRows.calls k a0 rows w' HR.out).mono ?_
          rintro e w3 ⟨v3, rfl, ho, hb⟩
          refine ⟨_, rfl, ?_⟩
          have hsz := below_size hb
          refine hK.out _ _ ⟨v3, g10, g4, g5, m3_, m4_, m5_, (by rw [ha.out]; exact putSel_upk 1 hb_ rfl rfl rfl), ⟨below_step FB.out.1 hb, Nat.lt_of_lt_of_le FB.out.2.1 hsz, Nat.lt_of_lt_of_le FB.out.2.2 hsz⟩, fun _ => Kd.R_lower (Kd.R_mono (Kd.R_bound ho) (fun k hk => ⟨by have := hk.2.1; have := FB.out.2; omega, by have := hk.2.1; have := FB.out.2; omega⟩)) (below_size FB.out.1), fun h0_ => ⟨blk_below (Q_FS h0_).1 hb, (Q_FS h0_).2⟩, fun h0_ h1_ => ⟨blk_below (Q_F4 h0_ h1_).1 hb, (Q_F4 h0_ h1_).2⟩, fun h0_ => absurd ((hoff 6 (by kernel_rfl)).symm.trans h0_) (by decide), fun h0_ h1_ => ⟨blk_below (Q_F5 h0_ h1_).1 hb, (Q_F5 h0_ h1_).2⟩, fun h0_ => absurd ((hoff 7 (by kernel_rfl)).symm.trans h0_) (by decide), Q_X3_, Q_X4_, Q_X5_⟩
        refine steps_cons ?_ ?_
        · rintro b a w' ⟨v8, g10, g4, g5, m3_, m4_, m5_, ha, Q_FB, Q_FR, Q_FS, Q_F4, Q_G4, Q_F5, Q_G5, Q_X3_, Q_X4_, Q_X5_⟩ hb_ hon hoff
          refine ⟨_, rfl, fun K hK => ?_⟩
          have e2 : a.tmps[2]? = some (.pointer (some ⟨B1, 0, none⟩)) := by rw [ha]; exact (putSel_off rfl).trans rfl
          replace ha := Aside0.mk ha
          have FB := Aside0.mk Q_FB
          have hc_ : w'.cell? ⟨B1, 0, none⟩ = some (.int .i64 a0) := cell_of_below FB.out.1 HC1.out
          refine value_ (w1 := w') (v := .int .i64 a0) (by rfl) rfl ?_ ?_
          · go_simp
            (try simp only [i64_w])
            try rfl
          refine hK.out _ _ ⟨v8, g10, g4, g5, m3_, m4_, m5_, (by rw [ha.out]; exact putSel_upk 2 hb_ rfl rfl rfl), Q_FB, Q_FR, fun h0_ => absurd ((hoff 3 (by kernel_rfl)).symm.trans h0_) (by decide), Q_F4, Q_G4, Q_F5, fun h0_ => absurd ((hoff 7 (by kernel_rfl)).symm.trans h0_) (by decide), fun h0_ => absurd ((hoff 3 (by kernel_rfl)).symm.trans h0_) (by decide), Q_X4_, Q_X5_⟩
        refine steps_cons ?_ ?_
        · rintro b a w' ⟨v8, g10, g4, g5, m3_, m4_, m5_, ha, Q_FB, Q_FR, Q_FS, Q_F4, Q_G4, Q_F5, Q_G5, Q_X3_, Q_X4_, Q_X5_⟩ hb_ hon hoff
          refine ⟨_, rfl, fun K hK => ?_⟩
          have e9 : a.tmps[9]? = some (.int .i64 a0) := by rw [ha]; exact putSel_on (e := (2, 9, .int .i64 a0)) 2 rfl rfl (hon 2 (by kernel_rfl)) rfl
          replace ha := Aside0.mk ha
          have FB := Aside0.mk Q_FB
          refine value_ (w1 := w'.alloc (.cells (nums .i64 (List.replicate a0.toNat 0)).toArray 3 (0, 0))) (v := .slice (some ⟨w'.heap.size, 0, none⟩) a0.toNat a0.toNat) (by rfl) rfl ?_ ?_
          · exact make_zeros (x := .tmp 9) rfl a0 (eval_of e9) Try.underlying34 info3 HA0.out (Int.le_trans HA1.out (by decide)) w'
          refine hK.out _ _ ⟨v8, w'.heap.size, g4, g5, (.slice (some ⟨w'.heap.size, 0, none⟩) a0.toNat a0.toNat), m4_, m5_, (by rw [ha.out]; exact putSel_upk 3 hb_ rfl rfl rfl), ⟨below_alloc FB.out.1 _, by simp, by simp; have := FB.out.2; omega⟩, fun h0_ => Kd.R_mono (Kd.R_bound (Q_FR h0_) |> fun h => Kd.R_alloc h _) (fun k hk => ⟨by have := hk.2.2.1; omega, hk.1.2⟩), fun _ => ⟨blk_new _ _, below_size FB.out.1⟩, fun h0_ h1_ => ⟨blk_alloc (Q_F4 h0_ h1_).1 _, (Q_F4 h0_ h1_).2⟩, fun h0_ => ⟨blk_alloc (Q_G4 h0_).1 _, (Q_G4 h0_).2⟩, fun h0_ h1_ => ⟨blk_alloc (Q_F5 h0_ h1_).1 _, (Q_F5 h0_ h1_).2⟩, fun h0_ => absurd ((hoff 7 (by kernel_rfl)).symm.trans h0_) (by decide), fun _ => rfl, Q_X4_, Q_X5_⟩
        refine steps_cons ?_ ?_
        · rintro b a w' ⟨v8, g10, g4, g5, m3_, m4_, m5_, ha, Q_FB, Q_FR, Q_FS, Q_F4, Q_G4, Q_F5, Q_G5, Q_X3_, Q_X4_, Q_X5_⟩ hb_ hon hoff
          refine ⟨_, rfl, fun K hK => ?_⟩
          replace ha := Aside0.mk ha
          have FB := Aside0.mk Q_FB
          refine value_ (w1 := ?_) (v := ?_) (by rfl) rfl ?_ ?_
          rotate_left 2
          · go_simp
            constructor
            · rfl
            · rfl
          refine hK.out _ _ ⟨v8, g10, w'.heap.size, g5, m3_, (.pointer (some ⟨w'.heap.size, 0, none⟩)), m5_, (by rw [ha.out]; exact putSel_upk 4 hb_ rfl rfl rfl), ⟨below_alloc FB.out.1 _, by simp; have := FB.out.2; omega, by simp; have := FB.out.2; omega⟩, fun h0_ => Kd.R_alloc (Q_FR h0_) _, fun h0_ => ⟨blk_alloc (Q_FS h0_).1 _, (Q_FS h0_).2⟩, fun _ _ => ⟨blk_new _ _, below_size FB.out.1⟩, fun h0_ => absurd ((hoff 6 (by kernel_rfl)).symm.trans h0_) (by decide), fun h0_ h1_ => ⟨blk_alloc (Q_F5 h0_ h1_).1 _, (Q_F5 h0_ h1_).2⟩, fun h0_ => absurd ((hoff 7 (by kernel_rfl)).symm.trans h0_) (by decide), Q_X3_, fun _ => rfl, Q_X5_⟩
        refine steps_cons ?_ ?_
        · rintro b a w' ⟨v8, g10, g4, g5, m3_, m4_, m5_, ha, Q_FB, Q_FR, Q_FS, Q_F4, Q_G4, Q_F5, Q_G5, Q_X3_, Q_X4_, Q_X5_⟩ hb_ hon hoff
          refine ⟨_, rfl, fun K hK => ?_⟩
          replace ha := Aside0.mk ha
          have FB := Aside0.mk Q_FB
          refine value_ (w1 := ?_) (v := ?_) (by rfl) rfl ?_ ?_
          rotate_left 2
          · go_simp
            constructor
            · rfl
            · rfl
          refine hK.out _ _ ⟨v8, g10, g4, w'.heap.size, m3_, m4_, (.pointer (some ⟨w'.heap.size, 0, none⟩)), (by rw [ha.out]; exact putSel_upk 5 hb_ rfl rfl rfl), ⟨below_alloc FB.out.1 _, by simp; have := FB.out.2; omega, by simp⟩, fun h0_ => Kd.R_mono (Kd.R_bound (Q_FR h0_) |> fun h => Kd.R_alloc h _) (fun k hk => ⟨hk.1.1, by have := hk.2.2.1; omega⟩), fun h0_ => ⟨blk_alloc (Q_FS h0_).1 _, (Q_FS h0_).2⟩, fun h0_ h1_ => ⟨blk_alloc (Q_F4 h0_ h1_).1 _, (Q_F4 h0_ h1_).2⟩, fun h0_ => absurd ((hoff 6 (by kernel_rfl)).symm.trans h0_) (by decide), fun _ _ => ⟨blk_new _ _, below_size FB.out.1⟩, fun h0_ => absurd ((hoff 7 (by kernel_rfl)).symm.trans h0_) (by decide), Q_X3_, Q_X4_, fun _ => rfl⟩
        refine steps_cons ?_ ?_
        · rintro b a w' ⟨v8, g10, g4, g5, m3_, m4_, m5_, ha, Q_FB, Q_FR, Q_FS, Q_F4, Q_G4, Q_F5, Q_G5, Q_X3_, Q_X4_, Q_X5_⟩ hb_ hon hoff
          refine ⟨_, rfl, fun K hK => ?_⟩
          have e4 : a.tmps[4]? = some (m4_) := by rw [ha]; exact putSel_on (e := (4, 4, m4_)) 4 rfl rfl (hon 4 (by kernel_rfl)) rfl
          rw [Q_X4_ (hon 4 (by kernel_rfl))] at e4
          have e8 : a.tmps[8]? = some (v8) := by rw [ha]; exact putSel_on (e := (1, 8, v8)) 1 rfl rfl (hon 1 (by kernel_rfl)) rfl
          replace ha := Aside0.mk ha
          have FB := Aside0.mk Q_FB
          have FR := Aside0.mk (Q_FR (hon 1 (by kernel_rfl)))
          have F4 := Aside0.mk (Q_F4 (hon 4 (by kernel_rfl)) hb_)
          have F5 := Aside0.mk (Q_F5 (hon 5 (by kernel_rfl)) (hoff 7 (by kernel_rfl)))
          obtain ⟨A8, c8, q8⟩ := Kd.R_slice FR.out
          subst q8
          have hc_ : w'.cell? ⟨g4, 0, none⟩ = some (.slice none 0 0) := (blk_cell F4.out.1 0).trans rfl
          have hf_ := blk_frozen F4.out.1 0
          refine skip_ (w1 := ?_) (by rfl) rfl ?_ ?_
          rotate_left
          · go_simp
            rfl
          refine hK.out _ _ ⟨(.slice A8 rows.length c8), g10, g4, g5, m3_, m4_, m5_, (by rw [ha.out]; exact putSel_none (v := undef) rfl), ⟨below_set FB.out.1 F4.out.2, by simp [World.setCell]; exact FB.out.2.1, by simp [World.setCell]; exact FB.out.2.2⟩, fun _ => Kd.R_set FR.out F4.out.1 (by decide) 0 _, fun h0_ => ⟨blk_far (Q_FS h0_).1 (blk_ne (Q_FS h0_).1 F4.out.1 (by decide)) _, (Q_FS h0_).2⟩, fun _ h1_ => absurd ((up_self b 6).symm.trans h1_) (by decide), fun _ => ⟨blk_set F4.out.1 0 _, F4.out.2⟩, fun _ _ => ⟨blk_far F5.out.1 (blk_ne F5.out.1 F4.out.1 (by decide)) _, F5.out.2⟩, fun h0_ => absurd ((hoff 7 (by kernel_rfl)).symm.trans h0_) (by decide), Q_X3_, Q_X4_, Q_X5_⟩
        refine steps_cons ?_ ?_
        · rintro b a w' ⟨v8, g10, g4, g5, m3_, m4_, m5_, ha, Q_FB, Q_FR, Q_FS, Q_F4, Q_G4, Q_F5, Q_G5, Q_X3_, Q_X4_, Q_X5_⟩ hb_ hon hoff
          refine ⟨_, rfl, fun K hK => ?_⟩
          have e5 : a.tmps[5]? = some (m5_) := by rw [ha]; exact putSel_on (e := (5, 5, m5_)) 5 rfl rfl (hon 5 (by kernel_rfl)) rfl
          rw [Q_X5_ (hon 5 (by kernel_rfl))] at e5
          have e10 : a.tmps[10]? = some (m3_) := by rw [ha]; exact putSel_on (e := (3, 10, m3_)) 3 rfl rfl (hon 3 (by kernel_rfl)) rfl
          rw [Q_X3_ (hon 3 (by kernel_rfl))] at e10
          replace ha := Aside0.mk ha
          have FB := Aside0.mk Q_FB
          have FR := Aside0.mk (Q_FR (hon 1 (by kernel_rfl)))
          have FS := Aside0.mk (Q_FS (hon 3 (by kernel_rfl)))
          have G4 := Aside0.mk (Q_G4 (hon 6 (by kernel_rfl)))
          have F5 := Aside0.mk (Q_F5 (hon 5 (by kernel_rfl)) hb_)
          have hc_ : w'.cell? ⟨g5, 0, none⟩ = some (.slice none 0 0) := (blk_cell F5.out.1 0).trans rfl
          have hf_ := blk_frozen F5.out.1 0
          refine skip_ (w1 := ?_) (by rfl) rfl ?_ ?_
          rotate_left
          · go_simp
            rfl
          refine hK.out _ _ ⟨v8, g10, g4, g5, m3_, m4_, m5_, (by rw [ha.out]; exact putSel_none (v := undef) rfl), ⟨below_set FB.out.1 F5.out.2, by simp [World.setCell]; exact FB.out.2.1, by simp [World.setCell]; exact FB.out.2.2⟩, fun _ => Kd.R_far (p := ⟨g5, 0, none⟩) FR.out (fun _ hk => hk.2) _, fun _ => ⟨blk_far FS.out.1 (blk_ne FS.out.1 F5.out.1 (by decide)) _, FS.out.2⟩, fun _ h1_ => absurd ((hon 6 (by kernel_rfl)).symm.trans h1_) (by decide), fun _ => ⟨blk_far G4.out.1 (blk_ne G4.out.1 F5.out.1 (by decide)) _, G4.out.2⟩, fun _ h1_ => absurd ((up_self b 7).symm.trans h1_) (by decide), fun _ => ⟨blk_set F5.out.1 0 _, F5.out.2⟩, Q_X3_, Q_X4_, Q_X5_⟩
        exact steps_nil
      · rintro b a w' hall ⟨v8, g10, g4, g5, m3_, m4_, m5_, ha, Q_FB, Q_FR, Q_FS, Q_F4, Q_G4, Q_F5, Q_G5, Q_X3_, Q_X4_, Q_X5_⟩
        clear FB
        have hb0_ := hall 0 (by kernel_rfl)
        have hb1_ := hall 1 (by kernel_rfl)
        have hb2_ := hall 2 (by kernel_rfl)
        have hb3_ := hall 3 (by kernel_rfl)
        have hb4_ := hall 4 (by kernel_rfl)
        have hb5_ := hall 5 (by kernel_rfl)
        have hb6_ := hall 6 (by kernel_rfl)
        have hb7_ := hall 7 (by kernel_rfl)
        subst ha
        obtain rfl := Q_X3_ hb3_
        obtain rfl := Q_X4_ hb4_
        obtain rfl := Q_X5_ hb5_
        simp only [putSel, hb0_, hb1_, hb2_, hb3_, hb4_, hb5_, hb6_, hb7_, if_true, Act.put, List.setIfInBounds_toArray, List.set_cons_zero, List.set_cons_succ]
        have FB := Aside0.mk Q_FB
        clear Q_FB
        have FR := Aside0.mk (Q_FR hb1_)
        clear Q_FR
        have FS := Aside0.mk (Q_FS hb3_)
        clear Q_FS
        clear Q_F4
        have G4 := Aside0.mk (Q_G4 hb6_)
        clear Q_G4
        clear Q_F5
        have G5 := Aside0.mk (Q_G5 hb7_)
        clear Q_G5
        clear hall hb0_ hb1_ hb2_ hb3_ hb4_ hb5_ hb6_ hb7_
        have n45 := blk_ne G4.out.1 G5.out.1 (by decide)
        have HSZ := below_size FB.out.1
        have hn1 := blk_lt HB1.out
        have hn2 := blk_lt HB2.out
        have HW1 := Aside0.mk (blk_below HB1.out FB.out.1)
        have HW2 := Aside0.mk (blk_below HB2.out FB.out.1)
        obtain ⟨A8, c8, q8⟩ := Kd.R_slice FR.out
        subst q8
        go_wp2_with fail
        have HWW := Aside0.mk (below_size HBW.out)
        have HBL := Aside0.mk (below_alloc (below_step HBW.out FB.out.1) (Obj.cells #[.func (.func 127) #[] #[.pointer (some ⟨B1, 0, none⟩), .pointer (some ⟨B2, 0, none⟩), .pointer (some ⟨g4, 0, none⟩), .pointer (some ⟨g5, 0, none⟩), .pointer (some ⟨w'.heap.size, 0, none⟩)]] 39))
        have HNS := Aside0.mk (fun (k : Nat) (hk : S k) => (HFS.out.bd _ _ _ HI.out k hk : k < w.heap.size))
        have hno : ∀ k, w.heap.size ≤ k → ¬ S k := fun k h1 h2 => by have := HNS.out k h2; omega
        refine (impl_eachSigns_1.calls p Inv a0 HA0.out HA1.out ge be HFS.out A8 c8 rows B1 B2 g4 g5 w'.heap.size 39 39 g10 k (List.replicate a0.toNat 0) [] none 0 s q.1 q.2 S _ ⟨?b1, ?b2, ?b3, ?b4, ?b5, ?bs, ?vr, ?s1, ?s2, ?s3, ?s4, ?s5, ?ss, ?n1, by decide, by decide, ?sz⟩ ?hI (Kd.V_nil _ _ _ _ _) HQ.out).mono ?_
        case b1 => exact blk_alloc HW1.out _
        case b2 => exact blk_alloc HW2.out _
        case b3 => exact blk_alloc G4.out.1 _
        case b4 => rw [List.length_replicate]; exact blk_alloc G5.out.1 _
        case b5 => exact blk_new _ _
        case bs => exact blk_alloc FS.out.1 _
        case vr => exact Kd.R_V (Kd.R_alloc (Kd.R_mono (Kd.R_bound FR.out) (fun k hk => ⟨hno k (Nat.le_trans HWW.out hk.2.1), hk.1.1⟩)) _)
        case s1 => exact hno _ (by have := EB1.out; omega)
        case s2 => exact hno _ (by have := EB1.out; have := EB2.out; omega)
        case s3 => exact hno _ (Nat.le_trans HWW.out G4.out.2)
        case s4 => exact hno _ (Nat.le_trans HWW.out G5.out.2)
        case s5 => exact hno _ (Nat.le_trans HWW.out HSZ)
        case ss => exact hno _ (Nat.le_trans HWW.out FS.out.2)
        case n1 => have := FS.out.2; omega
        case sz => rw [List.length_replicate]; have := HA0.out; have := HA1.out; omega
        case hI => exact HFS.out.st _ _ _ _ HI.out (HBL.out.mono (Nat.zero_le _)) (fun k hk => HBL.out.block k (HNS.out k hk))
        rintro e w3 ⟨rfl, S', h1, h2, h3⟩
        have H1 := Aside0.mk h1
        have H2 := Aside0.mk h2
        have H3 := Aside0.mk h3
        clear h1 h2 h3
        go_wp2
        first | go_end0 | ((try simp only [Exit.inBlock, Exit.then]); refine bodyPost_ret (results_none rfl _ _ _) rfl ?_)
        exact ⟨rfl, S', H1.out, (Kp.of_below HBL.out S).then_ H2.out (fun k h => .inl h), fun k h => (H3.out k h).elim .inl (fun h => .inr (Nat.le_trans (below_size HBL.out) h))⟩
    · rw [if_neg c2] at h
      exact absurd h (by simp)
  · rw [if_neg c1] at h
    exact absurd h (by simp)

/-! ### impl_copyTable: function 79 -/
def impl_copyTable.l0 : Nat → List (List Int) → List (List Int) → Int → Int → Option ((List (List Int)))
  | 0, _, _, _, _ => none
  | k + 1, x3, x7, x8, x9 => if x9 < x8 then (if 0 ≤ x9 then (if x9 < (x7.length : Int) then ((slices_Clone_int_int.f (rd_L1 x7 x9)).bind fun t105 => (if x3.length < 5864062014805 then (impl_copyTable.l0 k (x3 ++ [t105]) x7 x8 (wrap64 (x9 + 1))) else (none))) else (none)) else (none)) else (some x3)
def impl_copyTable.f (k : Nat) (l0 : List (List Int)) : Option ((List (List Int))) := impl_copyTable.l0 k (([] : List (List Int))) l0 (l0.length : Int) 0
theorem impl_copyTable.mono_l : ∀ k, (∀ y0 y1 y2 y3, LeO (impl_copyTable.l0 k y0 y1 y2 y3) (impl_copyTable.l0 (k + 1) y0 y1 y2 y3))
  | 0 => fun _ _ _ _ r h => by simp [impl_copyTable.l0] at h
  | k + 1 => by
    have ih0 := impl_copyTable.mono_l k
    · intro y0 y1 y2 y3
      unfold impl_copyTable.l0
      repeat' first
      | (with_reducible exact ih0 _ _ _ _)
      | (with_reducible exact LeO.refl _)
      | (with_reducible exact LeO.none _)
      | (with_reducible refine LeO.ite ?_ ?_)
      | (with_reducible refine LeO.bind ?_ (fun _ => ?_))
      | exact ih0 _ _ _ _
      | exact LeO.none _
      | refine LeO.ite ?_ ?_
      | refine LeO.bind ?_ (fun _ => ?_)
theorem impl_copyTable.mono : ∀ a0  k, LeO (impl_copyTable.f k a0) (impl_copyTable.f (k + 1) a0) := by
  intro a0 k
  have ih0 := impl_copyTable.mono_l k
  unfold impl_copyTable.f
  repeat' first
      | (with_reducible exact ih0 _ _ _ _)
      | (with_reducible exact LeO.refl _)
      | (with_reducible exact LeO.none _)
      | (with_reducible refine LeO.ite ?_ ?_)
      | (with_reducible refine LeO.bind ?_ (fun _ => ?_))
      | exact ih0 _ _ _ _
      | exact LeO.none _
      | refine LeO.ite ?_ ?_
      | refine LeO.bind ?_ (fun _ => ?_)
set_option maxHeartbeats 8000000 in
set_option maxRecDepth 100000 in
theorem impl_copyTable.calls (k : Nat) (A0 : Option Addr) (c0 : Nat) (l0 : List (List Int)) (r : List (List Int)) (w : World) (hr0 : Kd.C (Kd.slice 3 (Kd.int .i64)) w A0 l0.length l0) (hc0 : l0.length ≤ c0) (h : impl_copyTable.f k l0 = some r) :
    Calls Try.prog 79 #[.slice A0 l0.length c0] w fun e w' => ∃ v0_ : Value, e = .returned (v0_) ∧ Kd.S (Kd.slice 3 (Kd.int .i64)) 34 w' w.heap.size (fun _ => True) v0_ r ∧ Below w.heap.size w w' := by
  have HR0 := Aside0.mk hr0
  have HC0 := Aside0.mk hc0
  clear hr0 hc0
  have HB := Aside0.mk (Below.refl w.heap.size w)
  have H : (impl_copyTable.l0 k (([] : List (List Int))) l0 (l0.length : Int) 0) = some r := h
  clear h
  obtain ⟨y101, hy101⟩ : ∃ y_ : List (List Int), y_ = (([] : List (List Int))) := ⟨_, rfl⟩
  replace H : (impl_copyTable.l0 k y101 l0 (l0.length : Int) 0) = some r := by first | (rw [hy101]; with_reducible exact H) | (have H2_ := (Option.bind_some _ _).symm.trans H; rw [hy101]; with_reducible exact H2_) | (have H2_ := (Option.bind_some _ _).symm.trans H; with_reducible exact H2_) | with_reducible exact H | (rw [hy101]; exact H) | exact H
  have Ny101 := Aside0.mk hy101
  clear hy101
  have H' := Aside0.mk H
  clear H
  go_enter Try.func79, Try.ntmps79
  go_wp2_with (first | ((with_reducible refine gate_dst (N := 6) rfl ?_); refine Kd.S_lit (Kd.slice 3 (Kd.int .i64)) _ 34 ?hg (N := 6) ?hd (xs := ([] : List (List Int))) (inner := []) (ok := fun _ => True) (okp := fun _ => True) ?hr ?hp (fun _ hk => hk) trivial (Below.refl _ _) (Nat.le_refl _) (by simp) ?_; (case hd => rfl); (case hg => rfl); (case hr => first | (go_simp; done) | (go_simp; rfl)); (case hp => exact (Reps.none _ _)); intro v102 w2 ho3 hb hg_ hnew_; clear hg_ hnew_; (first | rw [← Ny101.out] at ho3 | (simp only [Int.reduceToNat] at ho3; rw [← Ny101.out] at ho3)); have n0_ := Aside0.mk (Kd.S_lower ho3 (below_size (by repeat (first | (with_reducible first | exact HB.out | apply below_alloc | apply pw_below_drewN | apply below_drew1) | exact HB.out)))); have n1_ := Aside0.mk (below_step (by repeat (first | (with_reducible first | exact HB.out | apply below_alloc | apply pw_below_drewN | apply below_drew1) | exact HB.out)) hb); clear HB; have HO103 := n0_; have HB := n1_; clear n0_ n1_; clear hb ho3))
  go_loopg [3, 9] k (fun kq v3 v9 w' => ∃ (x3_1 : List (List Int)) (x9_1 : Int), v9 = .int .i64 x9_1 ∧ Aside0 (impl_copyTable.l0 kq x3_1 l0 (l0.length : Int) x9_1 = some r) ∧ Aside0 (kq ≤ k) ∧ Aside0 (Kd.S (Kd.slice 3 (Kd.int .i64)) 34 w' w.heap.size (fun _ => True) v3 x3_1) ∧ Aside0 (Below w.heap.size w w'))
  case atStart => exact ⟨(y101), (0), (by first | rfl | (simp; done) | (simp [*]; done)), H', ⟨Nat.le_refl _⟩, ⟨by (with_reducible repeat (first | apply Kd.S_alloc | apply Kd.S_drewN | apply Kd.S_drew)); exact HO103.out⟩, ⟨by repeat (first | (with_reducible first | exact HB.out | apply below_alloc | apply pw_below_drewN | apply below_drew1) | exact HB.out)⟩⟩
  case round =>
    clear H'
    try clear p2
    obtain ⟨x3_1, x9_1, rfl, HA, HK1, HO_3, HB⟩ := hrel
    cases gk with
    | zero => exact absurd HA.out (by simp [impl_copyTable.l0])
    | succ k1 =>
      have H := HA.out
      clear HA
      simp only [impl_copyTable.l0] at H
      by_cases c4 : x9_1 < (l0.length : Int)
      · rw [if_pos c4] at H
        have c4b0 : decide (x9_1 < (l0.length : Int)) = true := decide_eq_true c4
        clear c4
        by_cases c5 : 0 ≤ x9_1
        · rw [if_pos c5] at H
          have c5b0 : decide (0 ≤ x9_1) = true := decide_eq_true c5
          clear c5
          by_cases c6 : x9_1 < (l0.length : Int)
          · rw [if_pos c6] at H
            have c6b0 : decide (x9_1 < (l0.length : Int)) = true := decide_eq_true c6
            clear c6
            replace H := Option.bind_eq_some_iff.mp H
            obtain ⟨t105, A70, H⟩ := H
            replace H : (if x3_1.length < 5864062014805 then (impl_copyTable.l0 k1 (x3_1 ++ [t105]) l0 (l0.length : Int) (wrap64 (x9_1 + 1))) else (none)) = some r := H
            have A7 := Aside0.mk A70
            clear A70
            by_cases c8 : x3_1.length < 5864062014805
            · rw [if_pos c8] at H
              have LMc8 := Aside0.mk c8
              clear c8
              obtain ⟨y108, hy108⟩ : ∃ y_ : List (List Int), y_ = (x3_1 ++ [t105]) := ⟨_, rfl⟩
              replace H : (impl_copyTable.l0 k1 y108 l0 (l0.length : Int) (wrap64 (x9_1 + 1))) = some r := by first | (rw [hy108]; with_reducible exact H) | (have H2_ := (Option.bind_some _ _).symm.trans H; rw [hy108]; with_reducible exact H2_) | (have H2_ := (Option.bind_some _ _).symm.trans H; with_reducible exact H2_) | with_reducible exact H | (rw [hy108]; exact H) | exact H
              have Ny108 := Aside0.mk hy108
              clear hy108
              have H' := Aside0.mk H
              clear H
              have p104 : 0 ≤ (x9_1 : Int) := of_decide_eq_true (by first | (with_reducible assumption) | assumption)
              have q104 : x9_1 < (l0.length : Int) := of_decide_eq_true (by first | (with_reducible assumption) | assumption)
              obtain ⟨ad104, A104_0, c104_0, e104, hx104_0, hl104_0, hi104_0⟩ := at_L1 HR0.out x9_1 p104 q104
              cases e104
              replace hx104_0 := (HB.out.cell (World.block_lt_of_cell? w _ hx104_0)).trans hx104_0
              have HR104_0 := Aside0.mk hi104_0
              have HC104_0 := Aside0.mk hl104_0
              clear hi104_0 hl104_0
              replace p104 := eq_true p104
              replace q104 := eq_true q104
              go_wp2_with (first | ((with_reducible refine gate_callee (f := 112) rfl ?_); refine goesL_ (some 15) rfl rfl Try.func112 (by kernel_rfl) rfl #[.slice A104_0 (rd_L1 l0 x9_1).length c104_0] rfl (by (try simp only [List.map_toArray, List.map_cons, List.map_nil]); first | done | rfl | (simp only [List.length_drop, List.length_take]; rfl)) ?_; (with_reducible refine (slices_Clone_int_int.calls _ _ (rd_L1 l0 x9_1) t105 _ ?side1 ?side2 A7.out).mono ?_); (case side1 => repeat (first | exact (Kd.C_below HR104_0.out HB.out) | (with_reducible refine Kd.C_alloc ?_ _) | (with_reducible refine Kd.C_drewN ?_ _) | (with_reducible refine Kd.C_drew ?_))); (case side2 => exact HC104_0.out); rintro e w9 ⟨v106, rfl, ho0, hb⟩; refine ⟨_, rfl, ?_⟩; have n0_ := Aside0.mk (Kd.S_elder' (by (with_reducible repeat (first | apply Kd.S_alloc | apply Kd.S_drewN | apply Kd.S_drew)); exact HO_3.out) (Kd.R_base ho0) hb); have n1_ := Aside0.mk (Kd.R_lower ho0 (below_size (by repeat (first | (with_reducible first | exact HB.out | apply below_alloc | apply pw_below_drewN | apply below_drew1) | exact HB.out)))); have n2_ := Aside0.mk (below_step (by repeat (first | (with_reducible first | exact HB.out | apply below_alloc | apply pw_below_drewN | apply below_drew1) | exact HB.out)) hb); clear HO_3; clear HB; have HO_3 := n0_; have HO107 := n1_; have HB := n2_; clear n0_ n1_ n2_; (try clear hb); (try clear hb2); (try clear hk); (try clear hi); (try clear ho0); obtain ⟨Ao11, co11, eo11⟩ := Kd.R_slice HO107.out; subst eo11) | ((with_reducible refine gate_builtin (b := .append) (xs := #[.tmp 13, .tmp 16]) rfl ?_); at_builtin; refine Kd.S_append (Kd.slice 3 (Kd.int .i64)) (w0 := w) w.heap.size rfl (.tmp 13) (.tmp 16) 27 34 (.slice none 0 0) 24 rfl Try.underlying27 info34 rfl (by decide) (by omega) u3 x3_1 t105 [.slice Ao11 t105.length co11] (fun _ => True) (fun k_ => some k_ = (.slice Ao11 t105.length co11 : Value).ownBlock) rfl rfl ?aP (fun k_ hk_ => ((Kd.R_mono (ok' := fun k_ => ((fun _ => True)) k_ ∧ some k_ ≠ (u3 : Value).ownBlock) (Kd.R_apart' (HO107.out) (Kd.S_typed HO_3.out) (by decide)) (fun k_ hk => ⟨trivial, hk.2⟩))).1 k_ hk_.symm) ?aF ?aO ?aB ?aS ?aL ?_; (case aP => exact Kd.M_row (Kd.R_mono (Kd.R_tight rfl (Kd.R_mono (ok' := fun k_ => ((fun _ => True)) k_ ∧ some k_ ≠ (u3 : Value).ownBlock) (Kd.R_apart' (HO107.out) (Kd.S_typed HO_3.out) (by decide)) (fun k_ hk => ⟨trivial, hk.2⟩))) (fun _ h_ => h_))); (case aB => exact (by repeat (first | (with_reducible first | exact HB.out | apply below_alloc | apply pw_below_drewN | apply below_drew1) | exact HB.out))); (case aF => exact (fun _ _ => trivial)); (case aO => exact (by (with_reducible repeat (first | apply Kd.S_alloc | apply Kd.S_drewN | apply Kd.S_drew)); exact Kd.S_mono HO_3.out (fun k_ hk => ⟨trivial, fun e_ => hk.2 e_⟩))); (case aS => exact (below_size (by repeat (first | (with_reducible first | exact HB.out | apply below_alloc | apply pw_below_drewN | apply below_drew1) | exact HB.out)))); (case aL => have := LMc8.out; omega); intro v109 w10 ho hb hg hat; rw [← Ny108.out] at ho; have n0_ := Aside0.mk (hb); have n1_ := Aside0.mk (ho); clear HB; clear HO_3; clear HO107; have HB := n0_; have HO110 := n1_; clear n0_ n1_; clear ho hb hg hat))
              go_roundg k1
              case measure => have := HK1.out; omega
              case rel => exact ⟨(y108), (wrap64 (x9_1 + 1)), (by first | rfl | (simp; done) | (simp [*]; done)), H', ⟨by have := HK1.out; omega⟩, ⟨by (with_reducible repeat (first | apply Kd.S_alloc | apply Kd.S_drewN | apply Kd.S_drew)); exact HO110.out⟩, ⟨by repeat (first | (with_reducible first | exact HB.out | apply below_alloc | apply pw_below_drewN | apply below_drew1) | exact HB.out)⟩⟩
            · rw [if_neg c8] at H
              exact absurd H (by simp)
          · rw [if_neg c6] at H
            exact absurd H (by simp)
        · rw [if_neg c5] at H
          exact absurd H (by simp)
      · rw [if_neg c4] at H
        have c4b0 : decide (x9_1 < (l0.length : Int)) = false := decide_eq_false c4
        clear c4
        obtain rfl := Option.some.inj H
        go_wp2
        go_ret
        exact ⟨_, by first | rfl | (simp [errW_none, errW_some] <;> rfl) | (simp [*, errW_none, errW_some] <;> rfl), by (with_reducible repeat (first | apply Kd.S_alloc | apply Kd.S_drewN | apply Kd.S_drew)); exact HO_3.out, by repeat (first | (with_reducible first | exact HB.out | apply below_alloc | apply pw_below_drewN | apply below_drew1) | exact HB.out)⟩

/-! ### impl_allSigns_1: function 113 (by hand) -/
def impl_allSigns_1.step (k : Nat) (p : List (List Int) → Option Bool) (out : List (List (List Int))) (m : List (List Int)) : Option (List (List (List Int)) × Bool) :=
  (p m).bind fun b => if b = true then ((impl_copyTable.f k m).bind fun m' => if out.length < 1000000 then some (out ++ [m'], true) else none) else some (out, true)
set_option maxHeartbeats 4000000 in
set_option maxRecDepth 100000 in
theorem impl_allSigns_1.calls (k : Nat) (A0 : Option Addr) (c0 : Nat) (l0 : List (List Int)) (B1 B2 T1 : Nat) (hT1 : T1 ≠ 42 ∧ T1 ≠ 27) (g : Nat) (b : Array Value) (p : List (List Int) → Option Bool) (u : Value) (out out' : List (List (List Int))) (r : Bool) (base : Nat) (okS : Nat → Prop) (w : World) (hbase : base ≤ w.heap.size)
    (hr0 : Kd.C (Kd.slice 3 (Kd.int .i64)) w A0 l0.length l0) (hc0 : l0.length ≤ c0) (hb1 : w.heap[B1]? = some (.cells #[.func (.func g) #[] b] T1 (0, 0))) (hb2 : w.heap[B2]? = some (.cells #[u] 42 (0, 0)))
    (ho : Kd.S (sliceS 34 (Kd.slice 3 (Kd.int .i64))) 27 w base okS u out) (hf : Fn1 (Kd.slice 34 (Kd.slice 3 (Kd.int .i64))) Value.bool Try.prog g b p w) (h : impl_allSigns_1.step k p out l0 = some (out', r)) :
    Calls Try.prog 113 #[.slice A0 l0.length c0, .pointer (some ⟨B1, 0, none⟩), .pointer (some ⟨B2, 0, none⟩)] w fun e w' => e = .returned (.bool r) ∧ ∃ u', w'.heap[B1]? = some (.cells #[.func (.func g) #[] b] T1 (0, 0)) ∧ w'.heap[B2]? = some (.cells #[u'] 42 (0, 0)) ∧ Kd.S (sliceS 34 (Kd.slice 3 (Kd.int .i64))) 27 w' base (fun k_ => okS k_ ∨ w.heap.size ≤ k_) u' out' ∧ Kp w w' (fun k_ => k_ = B2 ∨ okS k_) := by
  obtain ⟨acc, hacc, h⟩ := Option.bind_eq_some_iff.mp h
  have HR := Aside0.mk hr0
  have HC := Aside0.mk hc0
  have H1 := Aside0.mk hb1
  have H2 := Aside0.mk hb2
  have HO := Aside0.mk ho
  have HF := Aside0.mk hf.cl
  have eg := hf.eg
  have HA := Aside0.mk hacc
  have HBS := Aside0.mk hbase
  have n12 := blk_ne hb1 hb2 hT1.1
  have HS := Aside0.mk (show ∀ k_, u.ownBlock = some k_ → okS k_ from (Kd.S_R ho).1)
  clear hr0 hc0 hb1 hb2 ho hf hacc hbase
  have hcB1 : w.cell? ⟨B1, 0, none⟩ = some (.func (.func g) #[] b) := (blk_cell H1.out 0).trans rfl
  cases acc with
  | false =>
    rw [if_neg (by simp)] at h
    obtain ⟨rfl, rfl⟩ := Prod.mk.inj (Option.some.inj h)
    clear h
    go_enter Try.func113, Try.ntmps113
    go_wp2_with fail
    refine (HF.out w (Below.refl _ _) l0 _ (K_slice HC.out HR.out) false HA.out).mono ?_
    rintro e w6 ⟨rfl, hb⟩
    have HB := Aside0.mk hb
    clear hb
    go_wp2
    go_ret
    exact ⟨rfl, u, blk_below H1.out HB.out, blk_below H2.out HB.out, Kd.S_mono (Kd.S_below HO.out HB.out) (fun _ hk => .inl hk), Kp.of_below HB.out _⟩
  | true =>
    rw [if_pos rfl] at h
    obtain ⟨m', hm', h⟩ := Option.bind_eq_some_iff.mp h
    by_cases c1 : out.length < 1000000
    case neg => rw [if_neg c1] at h; cases h
    rw [if_pos c1] at h
    obtain ⟨rfl, rfl⟩ := Prod.mk.inj (Option.some.inj h)
    have HM := Aside0.mk hm'
    have HL := Aside0.mk c1
    clear h hm' c1
    go_enter Try.func113, Try.ntmps113
    go_wp2_with fail
    refine (HF.out w (Below.refl _ _) l0 _ (K_slice HC.out HR.out) true HA.out).mono ?_
    rintro e w6 ⟨rfl, hb⟩
    have HB := Aside0.mk (below_step hb (below_drew (Below.refl _ _)))
    clear hb
    go_wp2_with fail
    refine start_ (n := 6) (S := fun w' => w'.cell? ⟨B2, 0, none⟩ = some u) (ds := [5]) #[false, false, false, false, false, false] (by kernel_rfl) rfl rfl (cell_of_below HB.out ((blk_cell H2.out 0).trans rfl)) (fun hHeld => ?_)
    generalize hW_ : w6.drew = W at HB hHeld ⊢
    clear hW_
    have hcB2 : w.cell? ⟨B2, 0, none⟩ = some u := (blk_cell H2.out 0).trans rfl
    refine pure_ (i := 1) (N := some 9) (v := ?_) (a' := ?_) #[false, true, false, false, false, false] rfl rfl (by kernel_rfl) (fun _ _ _ h => h) (Or.inl ⟨by rfl, ?_⟩) ?_ ?_
    rotate_left
    · intro w'
      go_simp
      with_reducible rfl
    rotate_left
    · simp only [Act.put, List.setIfInBounds_toArray, List.set_cons_zero, List.set_cons_succ, i64_w, i32_w]
      rfl
    refine take_ (i := 0) (N := some 8) (v := ?_) (a' := ?_) #[true, true, false, false, false, false] rfl rfl (by kernel_rfl) (fun _ _ _ h => h) (Or.inl ⟨by rfl, ?_⟩) hHeld ?_ ?_
    rotate_left
    · intro w' s0
      go_simp
      with_reducible rfl
    rotate_left
    · simp only [Act.put, List.setIfInBounds_toArray, List.set_cons_zero, List.set_cons_succ, i64_w, i32_w]
      rfl
    refine one_ (i := 2) (N := some 10) #[true, true, true, false, false, false] rfl rfl (by kernel_rfl) (by decide) (fun K hK => ?_)
    refine goes_ Try.func79 (by kernel_rfl) rfl #[.slice A0 l0.length c0] (by rfl) rfl rfl (by (try simp only [List.map_toArray, List.map_cons, List.map_nil]); first | done | rfl) ?_
    refine (impl_copyTable.calls k A0 c0 l0 m' W (Kd.C_below HR.out HB.out) HC.out HM.out).mono ?_
    rintro e w7 ⟨v10, rfl, ho7, hb7⟩
    refine ⟨_, rfl, ?_⟩
    have HB7 := Aside0.mk (below_step HB.out hb7)
    have HM7 := Aside0.mk (Kd.S_lower (Kd.S_mono (Kd.S_bound ho7) (fun k_ hk => hk.2.1)) (Nat.le_trans HBS.out (below_size HB.out)))
    have HO7 := Aside0.mk (Kd.S_below (Kd.S_mono (Kd.S_bound HO.out) (fun k_ hk => And.intro hk.1 hk.2.2.1)) HB7.out)
    have HZ := Aside0.mk (below_size HB.out)
    clear ho7 hb7
    obtain ⟨A10, c10, e10⟩ := Kd.S_slice HM7.out
    subst e10
    refine hK.out _ _ (cell_of_below HB7.out hcB2) (fun hHeld => ?_)
    clear hK K
    refine norm_ (a' := ?_) ?_ ?_
    rotate_left
    · show Act.put _ (some 10) _ = _
      simp only [Act.put, List.setIfInBounds_toArray, List.set_cons_zero, List.set_cons_succ, i64_w, i32_w]
      rfl
    refine one_ (i := 3) (N := some 11) #[true, true, true, true, false, false] rfl rfl (by kernel_rfl) (by decide) (fun K hK => ?_)
    refine value_ (w1 := ?_) (v := ?_) (by rfl) rfl ?_ ?_
    rotate_left 2
    · go_simp
      constructor
      · rfl
      · rfl
    refine hK.out _ _ (cell_of_below (below_alloc HB7.out _) hcB2) (fun hHeld => ?_)
    clear hK K
    refine norm_ (a' := ?_) ?_ ?_
    rotate_left
    · show Act.put _ (some 11) _ = _
      simp only [Act.put, List.setIfInBounds_toArray, List.set_cons_zero, List.set_cons_succ, i64_w, i32_w]
      rfl
    refine one_ (i := 4) (N := some 12) #[true, true, true, true, true, false] rfl rfl (by kernel_rfl) (by decide) (fun K hK => ?_)
    refine Kd.S_append_step (sliceS 34 (Kd.slice 3 (Kd.int .i64))) (w0 := w7) base (by rfl) (.tmp 8) (.tmp 11) 42 27 (.slice none 0 0) 24 rfl Try.underlying42 info27 rfl (by decide) (by omega) u out m' [.slice A10 m'.length c10] (fun k_ => okS k_ ∨ w.heap.size ≤ k_) (fun k_ => W.heap.size ≤ k_) rfl rfl ⟨_, rfl, HM7.out⟩ (fun k_ hk => ⟨.inr (Nat.le_trans HZ.out hk), fun e => by have := Kd.S_lt HO.out k_ e.symm; have := HZ.out; omega⟩) (fun k_ hk => .inr (Nat.le_trans (below_size HB7.out) hk)) (Kd.S_mono HO7.out (fun k_ hk => ⟨.inl hk.1, fun h9 => by have := hk.2; have := HZ.out; omega⟩)) (Below.refl _ _) (Nat.le_trans HBS.out (below_size HB7.out)) (by have := HL.out; omega) ?_
    intro v12 w9 ho9 hb9 hg9 hat9
    have HO9 := Aside0.mk ho9
    obtain ⟨A12, c12, e12⟩ := Kd.S_slice HO9.out
    subst e12
    have HB19 := Aside0.mk (blk_grown (blk_below H1.out HB7.out) hg9 (Kd.S_ne HO.out H1.out (Ne.symm hT1.2)))
    have HB29 := Aside0.mk (blk_grown (blk_below H2.out HB7.out) hg9 (Kd.S_ne HO.out H2.out (by decide)))
    have HK9 := Aside0.mk ((Kp.of_below HB7.out (fun k_ => k_ = B2 ∨ okS k_)).then_ (S2 := fun k_ => k_ = B2 ∨ okS k_) ⟨Kept.of_grown hg9 (Kept.refl _ _) (fun k_ hk => .inl (.inr (HS.out k_ hk))), hb9.mono (Nat.zero_le _)⟩ (fun _ hk => .inl hk))
    clear ho9 hb9 hg9 hat9
    refine hK.out _ _ ((blk_cell HB29.out 0).trans rfl) (fun hHeld => ?_)
    clear hK K
    refine norm_ (a' := ?_) ?_ ?_
    rotate_left
    · show Act.put _ (some 12) _ = _
      simp only [Act.put, List.setIfInBounds_toArray, List.set_cons_zero, List.set_cons_succ, i64_w, i32_w]
      rfl
    refine last_ (i := 5) (N := none) #[true, true, true, true, true, true] rfl rfl (by kernel_rfl) (by decide) (fun K hK => ?_)
    have hs9 : w9.cell? ⟨B2, 0, none⟩ = some u := (blk_cell HB29.out 0).trans rfl
    have hf9 := blk_frozen HB29.out 0
    refine skip_ (w1 := ?_) (by rfl) rfl ?_ ?_
    rotate_left
    · go_simp
      rfl
    refine hK.out _ _ ?_
    clear hK K
    refine done_ (by kernel_rfl) ?_
    go_wp2
    go_ret
    have ho9 := HO9.out
    rw [show (out ++ [m']).length = out.length + 1 by simp] at ho9
    exact ⟨rfl, _, blk_far HB19.out n12 _, blk_set HB29.out 0 _, Kd.S_set ho9 HB29.out (by decide) 0 _, HK9.out.setCell (.inl (.inl rfl)) _⟩

/-! ### impl_allSigns: function 80 (by hand) -/
def impl_allSigns.f (k : Nat) (a0 : Int) (a1 : List (List Int) → Option Bool) : Option (List (List (List Int))) := impl_eachSigns.f k a0 (impl_allSigns_1.step k a1) []
theorem impl_allSigns.mono : ∀ a0 a1 a1' (ha1 : ∀ z0, LeO (a1 z0) (a1' z0)) k, LeO (impl_allSigns.f k a0 a1) (impl_allSigns.f (k + 1) a0 a1') := fun a0 a1 a1' ha1 k =>
  impl_eachSigns.mono _ _ (fun s m => LeO.bind (ha1 m) (fun _ => LeO.ite (LeO.bind (impl_copyTable.mono _ _) (fun _ => LeO.refl _)) (LeO.refl _))) _ _ _
def impl_allSigns.Inv (w : World) (B1 B2 g : Nat) (b : Array Value) (out : List (List (List Int))) (W : World) (S : Nat → Prop) : Prop :=
  ∃ (u : Value) (okS : Nat → Prop), Below w.heap.size w W ∧ W.heap[B1]? = some (.cells #[.func (.func g) #[] b] 39 (0, 0)) ∧ W.heap[B2]? = some (.cells #[u] 42 (0, 0)) ∧ Kd.S (sliceS 34 (Kd.slice 3 (Kd.int .i64))) 27 W w.heap.size okS u out ∧ (∀ k, okS k → w.heap.size ≤ k ∧ k < W.heap.size) ∧ S = fun k => k < w.heap.size ∨ k = B1 ∨ k = B2 ∨ okS k
theorem impl_allSigns.fns (k : Nat) {w : World} {B1 B2 g : Nat} {b : Array Value} {p : List (List Int) → Option Bool} (h2 : w.heap.size ≤ B2) (hf : Fn1 (Kd.slice 34 (Kd.slice 3 (Kd.int .i64))) Value.bool Try.prog g b p w) :
    FnS (Kd.slice 34 (Kd.slice 3 (Kd.int .i64))) Value.bool Try.prog 113 #[.pointer (some ⟨B1, 0, none⟩), .pointer (some ⟨B2, 0, none⟩)] (impl_allSigns_1.step k p) (impl_allSigns.Inv w B1 B2 g b) where
  eg := enters_of Try.func113 (by kernel_rfl) rfl
  bd := by
    rintro s W S ⟨u, okS, hb, b1, b2, ho, hk, rfl⟩ k hk1
    rcases hk1 with hk1 | rfl | rfl | hk1
    · exact Nat.lt_of_lt_of_le hk1 hb.size
    · exact blk_lt b1
    · exact blk_lt b2
    · exact (hk k hk1).2
  st := by
    rintro s W S W' ⟨u, okS, hb, b1, b2, ho, hk, rfl⟩ h0 hs
    exact ⟨u, okS, ⟨h0.os.trans hb.os, h0.tape.trans hb.tape, h0.output.trans hb.output, Nat.le_trans hb.size h0.size, fun k hk => (hs k (.inl hk)).trans (hb.block k hk)⟩, (hs _ (.inr (.inl rfl))).trans b1, (hs _ (.inr (.inr (.inl rfl)))).trans b2, Kd.S_move ho (fun k hk => hs k (.inr (.inr (.inr hk)))), fun k h => ⟨(hk k h).1, Nat.lt_of_lt_of_le (hk k h).2 h0.size⟩, rfl⟩
  cl := by
    rintro s W S ⟨u, okS, hb, b1, b2, ho, hk, rfl⟩ x v hv s' r hp
    obtain ⟨A0, c0, e0, hc0, hr0⟩ := hv
    obtain rfl : v = .slice A0 x.length c0 := by simpa using e0
    refine (impl_allSigns_1.calls k A0 c0 x B1 B2 _ (by decide) g b p u s s' r w.heap.size okS W hb.size hr0 hc0 b1 b2 ho (hf.later hb) hp).mono ?_
    rintro e W' ⟨rfl, u', q1, q2, q3, q4⟩
    refine ⟨rfl, fun k => k < w.heap.size ∨ k = B1 ∨ k = B2 ∨ ((okS k ∨ W.heap.size ≤ k) ∧ w.heap.size ≤ k ∧ k < W'.heap.size), ⟨u', _, ?_, q1, q2, Kd.S_mono (Kd.S_bound q3) (fun k h => ⟨h.1, h.2.1, h.2.2.1⟩), fun k h => h.2, rfl⟩, q4.mono (fun k h => h.elim (fun h => .inr (.inr (.inl h))) (fun h => .inr (.inr (.inr h)))), fun k h => ?_⟩
    · exact hb.trans (q4.to_below hb.size (fun k h => h.elim (fun h => h ▸ h2) (fun h => (hk k h).1)))
    · rcases h with h | h | h | ⟨h | h, _⟩
      · exact .inl (.inl h)
      · exact .inl (.inr (.inl h))
      · exact .inl (.inr (.inr (.inl h)))
      · exact .inl (.inr (.inr (.inr h)))
      · exact .inr h
set_option maxHeartbeats 4000000 in
set_option maxRecDepth 100000 in
theorem impl_allSigns.calls (k : Nat) (a0 : Int) (g1 : Nat) (b1 : Array Value) (a1 : List (List Int) → Option Bool) (r : List (List (List Int))) (w : World) (hf1 : Fn1 (Kd.slice 34 (Kd.slice 3 (Kd.int .i64))) Value.bool Try.prog g1 b1 a1 w) (h : impl_allSigns.f k a0 a1 = some r) :
    Calls Try.prog 80 #[.int .i64 a0, .func (.func g1) #[] b1] w fun e w' => ∃ v0_ : Value, e = .returned v0_ ∧ Kd.S (sliceS 34 (Kd.slice 3 (Kd.int .i64))) 27 w' w.heap.size (fun _ => True) v0_ r ∧ Below w.heap.size w w' := by
  have HF := Aside0.mk (impl_allSigns.fns k (w := w) (B1 := w.heap.size) (B2 := w.heap.size + 1 + 1) (by omega) hf1)
  have HO := Aside0.mk h
  clear h hf1
  go_enter Try.func80, Try.ntmps80
  go_wp2_with fail
  refine (impl_eachSigns.calls k a0 _ _ _ _ HF.out [] r _ _ ⟨.slice (some ⟨w.heap.size + 1, 0, none⟩) 0 0, fun k => k = w.heap.size + 1, below_alloc (below_alloc (below_alloc (Below.refl _ _) _) _) _, blk_alloc (blk_alloc (blk_new _ _) _) _, blk_new' (by simp), ⟨fun _ => 0, R_empty (blk_alloc (blk_new' (by simp)) _) (by omega) rfl⟩, fun k hk => ⟨by omega, by simp; omega⟩, rfl⟩ HO.out).mono ?_
  rintro e w3 ⟨rfl, S', ⟨u, okS, h1, h2, h3, h4, h5, h6⟩, _, _⟩
  have H1 := Aside0.mk h1
  have H4 := Aside0.mk h4
  obtain ⟨A3, c3, e3⟩ := Kd.S_slice h4
  subst e3
  have hc1 : w3.cell? ⟨w.heap.size + 1 + 1, 0, none⟩ = some (.slice A3 r.length c3) := (blk_cell h3 0).trans rfl
  clear h1 h2 h3 h4 h5 h6
  go_wp2
  go_ret
  exact ⟨_, rfl, Kd.S_mono H4.out (fun _ _ => trivial), H1.out⟩

/-! ### impl_table: function 76 -/
mutual
def impl_table.l0 : Nat → Int → (Int → Int → Option Int) → List (List Int) → Int → Int → Option ((List (List Int)))
  | 0, _, _, _, _, _ => none
  | k + 1, x1, x2, x7, x13, x14 => if x14 < x13 then (if 0 ≤ x1 then (if (x1 : Int).toNat ≤ 35184372088832 then (if 0 ≤ x14 then (if x14 < (x7.length : Int) then ((some (x7.set (x14 : Int).toNat (List.replicate (x1 : Int).toNat 0) : List (List Int))).bind fun y107 => (impl_table.l1 k x1 x2 y107 x14 x13 x14 ((rd_L1 y107 x14).length : Int) 0)) else (none)) else (none)) else (none)) else (none)) else (some x7)
def impl_table.l1 : Nat → Int → (Int → Int → Option Int) → List (List Int) → Int → Int → Int → Int → Int → Option ((List (List Int)))
  | 0, _, _, _, _, _, _, _, _ => none
  | k + 1, x1, x2, x7, x8, x13, x14, x26, x27 => if x27 < x26 then (if 0 ≤ x8 then (if x8 < (x7.length : Int) then ((x2 x8 x27).bind fun t110 => (if 0 ≤ x27 then (if x27 < ((rd_L1 x7 x8).length : Int) then (impl_table.l1 k x1 x2 (x7.set (x8 : Int).toNat ((rd_L1 x7 x8).set (x27 : Int).toNat t110)) x8 x13 x14 x26 (wrap64 (x27 + 1))) else (none)) else (none))) else (none)) else (none)) else (impl_table.l0 k x1 x2 x7 x13 (wrap64 (x14 + 1)))
end
def impl_table.f (k : Nat) (a0 : Int) (a1 : Int) (a2 : (Int → Int → Option Int)) : Option ((List (List Int))) := if 0 ≤ a0 then (if (a0 : Int).toNat ≤ 11728124029610 then ((some (List.replicate (a0 : Int).toNat [] : List (List Int))).bind fun y101 => (impl_table.l0 k a1 a2 y101 (y101.length : Int) 0)) else (none)) else (none)
theorem impl_table.mono_l : ∀ k, (∀ y0 y1 y1' y2 y3 y4 (hy1 : ∀ z0 z1, LeO (y1 z0 z1) (y1' z0 z1)), LeO (impl_table.l0 k y0 y1 y2 y3 y4) (impl_table.l0 (k + 1) y0 y1' y2 y3 y4)) ∧ (∀ y0 y1 y1' y2 y3 y4 y5 y6 y7 (hy1 : ∀ z0 z1, LeO (y1 z0 z1) (y1' z0 z1)), LeO (impl_table.l1 k y0 y1 y2 y3 y4 y5 y6 y7) (impl_table.l1 (k + 1) y0 y1' y2 y3 y4 y5 y6 y7))
  | 0 => ⟨fun _ _ _ _ _ _ _ r h => by simp [impl_table.l0] at h, fun _ _ _ _ _ _ _ _ _ _ r h => by simp [impl_table.l1] at h⟩
  | k + 1 => by
    obtain ⟨ih0, ih1⟩ := impl_table.mono_l k
    refine ⟨?_, ?_⟩
    · intro y0 y1 y1' y2 y3 y4 hy1
      unfold impl_table.l0
      repeat' first
      | (with_reducible exact ih0 _ _ _ _ _ _ hy1)
      | (with_reducible exact ih1 _ _ _ _ _ _ _ _ _ hy1)
      | (with_reducible exact hy1 _ _)
      | (with_reducible exact LeO.refl _)
      | (with_reducible exact LeO.none _)
      | (with_reducible refine LeO.ite ?_ ?_)
      | (with_reducible refine LeO.bind ?_ (fun _ => ?_))
      | exact ih0 _ _ _ _ _ _ hy1
      | exact ih1 _ _ _ _ _ _ _ _ _ hy1
      | exact hy1 _ _
      | exact LeO.none _
      | refine LeO.ite ?_ ?_
      | refine LeO.bind ?_ (fun _ => ?_)
    · intro y0 y1 y1' y2 y3 y4 y5 y6 y7 hy1
      unfold impl_table.l1
      repeat' first
      | (with_reducible exact ih0 _ _ _ _ _ _ hy1)
      | (with_reducible exact ih1 _ _ _ _ _ _ _ _ _ hy1)
      | (with_reducible exact hy1 _ _)
      | (with_reducible exact LeO.refl _)
      | (with_reducible exact LeO.none _)
      | (with_reducible refine LeO.ite ?_ ?_)
      | (with_reducible refine LeO.bind ?_ (fun _ => ?_))
      | exact ih0 _ _ _ _ _ _ hy1
      | exact ih1 _ _ _ _ _ _ _ _ _ hy1
      | exact hy1 _ _
      | exact LeO.none _
      | refine LeO.ite ?_ ?_
      | refine LeO.bind ?_ (fun _ => ?_)
theorem impl_table.mono : ∀ a0 a1 a2 a2' (ha2 : ∀ z0 z1, LeO (a2 z0 z1) (a2' z0 z1)) k, LeO (impl_table.f k a0 a1 a2) (impl_table.f (k + 1) a0 a1 a2') := by
  intro a0 a1 a2 a2' ha2 k
  obtain ⟨ih0, ih1⟩ := impl_table.mono_l k
  unfold impl_table.f
  repeat' first
      | (with_reducible exact ih0 _ _ _ _ _ _ ha2)
      | (with_reducible exact ih1 _ _ _ _ _ _ _ _ _ ha2)
      | (with_reducible exact ha2 _ _)
      | (with_reducible exact LeO.refl _)
      | (with_reducible exact LeO.none _)
      | (with_reducible refine LeO.ite ?_ ?_)
      | (with_reducible refine LeO.bind ?_ (fun _ => ?_))
      | exact ih0 _ _ _ _ _ _ ha2
      | exact ih1 _ _ _ _ _ _ _ _ _ ha2
      | exact ha2 _ _
      | exact LeO.none _
      | refine LeO.ite ?_ ?_
      | refine LeO.bind ?_ (fun _ => ?_)
def impl_table.T9 : Bool × List (List Nat × List Nat) := (true, [([], []), ([], []), ([0, 1], [0, 1]), ([2], [2]), ([], []), ([], []), ([], []), ([], []), ([5, 6, 7], [5, 6, 7]), ([3, 4, 0, 1, 2, 3, 4, 5, 6, 7, 8], [3, 4]), ([9, 8, 8, 0, 1, 2, 3, 4, 5, 6, 7, 8], [8, 9])])
def impl_table.B9 : List Nat := [0, 0, 3, 7, 0, 0, 0, 0, 224, 511, 1023]
theorem impl_table.tab9 : rtab .any (opsOf Try.f76 9) = impl_table.T9 := by kernel_rfl
theorem impl_table.bits9 : waitsOk impl_table.T9.2 impl_table.B9 = true := by kernel_rfl
set_option maxHeartbeats 8000000 in
set_option maxRecDepth 100000 in
theorem impl_table.calls (k : Nat) (a0 : Int) (a1 : Int) (g2 : Nat) (b2 : Array Value) (a2 : (Int → Int → Option Int)) (r : List (List Int)) (w : World) (hf2 : Fn2 (Kd.int .i64) (Kd.int .i64) (Value.int .i64) Try.prog g2 b2 a2 w) (h : impl_table.f k a0 a1 a2 = some r) :
    Calls Try.prog 76 #[.int .i64 a0, .int .i64 a1, .func (.func g2) #[] b2] w fun e w' => ∃ v0_ : Value, e = .returned (v0_) ∧ Kd.S (Kd.slice 3 (Kd.int .i64)) 34 w' w.heap.size (fun _ => True) v0_ r ∧ Below w.heap.size w w' := by
  have HF2 := Aside0.mk hf2.cl
  have eg2 := hf2.eg
  clear hf2
  have HB := Aside0.mk (Below.refl w.heap.size w)
  have H : (if 0 ≤ a0 then (if (a0 : Int).toNat ≤ 11728124029610 then ((some (List.replicate (a0 : Int).toNat [] : List (List Int))).bind fun y101 => (impl_table.l0 k a1 a2 y101 (y101.length : Int) 0)) else (none)) else (none)) = some r := h
  clear h
  by_cases c4 : 0 ≤ a0
  · rw [if_pos c4] at H
    have c4b0 := eq_true c4
    have c4b1 : decide (0 ≤ a0) = true := decide_eq_true c4
    clear c4
    by_cases c5 : (a0 : Int).toNat ≤ 11728124029610
    · rw [if_pos c5] at H
      have c5b0 := eq_true c5
      have c5b1 : decide ((a0 : Int).toNat ≤ 11728124029610) = true := decide_eq_true c5
      clear c5
      obtain ⟨y101, hy101⟩ : ∃ y_ : List (List Int), y_ = (List.replicate (a0 : Int).toNat []) := ⟨_, rfl⟩
      replace H : (impl_table.l0 k a1 a2 y101 (y101.length : Int) 0) = some r := by first | (rw [hy101]; with_reducible exact H) | (have H2_ := (Option.bind_some _ _).symm.trans H; rw [hy101]; with_reducible exact H2_) | (have H2_ := (Option.bind_some _ _).symm.trans H; with_reducible exact H2_) | with_reducible exact H | (rw [hy101]; exact H) | exact H
      have Ny101 := Aside0.mk hy101
      clear hy101
      have H' := Aside0.mk H
      clear H
      go_enter Try.func76, Try.ntmps76
      go_wp2_with (first | ((with_reducible refine gate_dst (N := 11) rfl ?_); refine Kd.S_make (Kd.slice 3 (Kd.int .i64)) _ 34 rfl (N := 11) rfl 27 _ _ rfl a0 rfl rfl Try.underlying27 (.slice none 0 0) 24 info34 rfl (by decide) (by omega) [] (ok := fun _ => True) (okp := fun _ => True) ⟨_, rfl, Kd.R_nil _ _ _ _ _⟩ (fun _ hk => hk) trivial (of_decide_eq_true (by first | (with_reducible assumption) | assumption)) (Nat.le_trans (Nat.mul_le_mul_right _ (of_decide_eq_true (by first | (with_reducible assumption) | assumption) : a0.toNat ≤ 11728124029610)) (by omega)) (Below.refl _ _) (Nat.le_refl _) ?_; intro v102 w6 ho7 hb hg_ hnew_; clear hg_ hnew_; (first | rw [← Ny101.out] at ho7 | (simp only [Int.reduceToNat] at ho7; rw [← Ny101.out] at ho7)); have n0_ := Aside0.mk (Kd.S_lower ho7 (below_size (by repeat (first | (with_reducible first | exact HB.out | apply below_alloc | apply pw_below_drewN | apply below_drew1) | exact HB.out)))); have n1_ := Aside0.mk (below_step (by repeat (first | (with_reducible first | exact HB.out | apply below_alloc | apply pw_below_drewN | apply below_drew1) | exact HB.out)) hb); clear HB; have HO103 := n0_; have HB := n1_; clear n0_ n1_; clear hb ho7; obtain ⟨Ao8, co8, eo8⟩ := Kd.S_slice HO103.out; subst eo8))
      go_loopg [14] k (fun kq v14 w' => ∃ (x7_1 : List (List Int)) (x14_1 : Int), v14 = .int .i64 x14_1 ∧ Aside0 (impl_table.l0 kq a1 a2 x7_1 (y101.length : Int) x14_1 = some r) ∧ Aside0 (kq ≤ k) ∧ Aside0 (Kd.S (Kd.slice 3 (Kd.int .i64)) 34 w' w.heap.size (fun _ => True) (.slice Ao8 y101.length co8) x7_1) ∧ Aside0 (Below w.heap.size w w'))
      case atStart => exact ⟨(y101), (0), (by first | rfl | (simp; done) | (simp [*]; done)), H', ⟨Nat.le_refl _⟩, ⟨by (with_reducible repeat (first | apply Kd.S_alloc | apply Kd.S_drewN | apply Kd.S_drew)); exact HO103.out⟩, ⟨by repeat (first | (with_reducible first | exact HB.out | apply below_alloc | apply pw_below_drewN | apply below_drew1) | exact HB.out)⟩⟩
      case round =>
        clear H'
        try clear p2
        try clear c4
        try clear c4b0
        try clear c4b1
        try clear c5
        try clear c5b0
        try clear c5b1
        try clear c7
        obtain ⟨x7_1, x14_1, rfl, HA, HK1, HO_7, HB⟩ := hrel
        have hl7_1 := (Kd.S_reads' HO_7.out).1
        rw [hl7_1] at HO_7
        (try simp only [hl7_1])
        cases gk with
        | zero => exact absurd HA.out (by simp [impl_table.l0])
        | succ k1 =>
          have H := HA.out
          clear HA
          simp only [impl_table.l0] at H
          by_cases c9 : x14_1 < (y101.length : Int)
          · rw [if_pos c9] at H
            have c9b0 : decide (x14_1 < (y101.length : Int)) = true := decide_eq_true c9
            (try simp only [hl7_1] at c9b0)
            clear c9
            by_cases c10 : 0 ≤ a1
            · rw [if_pos c10] at H
              have c10b0 := eq_true c10
              have c10b1 : decide (0 ≤ a1) = true := decide_eq_true c10
              clear c10
              by_cases c11 : (a1 : Int).toNat ≤ 35184372088832
              · rw [if_pos c11] at H
                have c11b0 := eq_true c11
                have c11b1 : decide ((a1 : Int).toNat ≤ 35184372088832) = true := decide_eq_true c11
                clear c11
                obtain ⟨y104, hy104⟩ : ∃ y_ : List Int, y_ = (List.replicate (a1 : Int).toNat 0) := ⟨_, rfl⟩
                replace H : (if 0 ≤ x14_1 then (if x14_1 < (x7_1.length : Int) then ((some (x7_1.set (x14_1 : Int).toNat y104 : List (List Int))).bind fun y107 => (impl_table.l1 k1 a1 a2 y107 x14_1 (y101.length : Int) x14_1 ((rd_L1 y107 x14_1).length : Int) 0)) else (none)) else (none)) = some r := by first | (rw [hy104]; with_reducible exact H) | (have H2_ := (Option.bind_some _ _).symm.trans H; rw [hy104]; with_reducible exact H2_) | (have H2_ := (Option.bind_some _ _).symm.trans H; with_reducible exact H2_) | with_reducible exact H | (rw [hy104]; exact H) | exact H
                have Ny104 := Aside0.mk hy104
                clear hy104
                by_cases c12 : 0 ≤ x14_1
                · rw [if_pos c12] at H
                  have c12b0 : decide (0 ≤ x14_1) = true := decide_eq_true c12
                  clear c12
                  by_cases c13 : x14_1 < (x7_1.length : Int)
                  · rw [if_pos c13] at H
                    have c13b0 : decide (x14_1 < (x7_1.length : Int)) = true := decide_eq_true c13
                    (try simp only [hl7_1] at c13b0)
                    clear c13
                    obtain ⟨y107, hy107⟩ : ∃ y_ : List (List Int), y_ = (x7_1.set (x14_1 : Int).toNat y104) := ⟨_, rfl⟩
                    replace H : (impl_table.l1 k1 a1 a2 y107 x14_1 (y101.length : Int) x14_1 ((rd_L1 y107 x14_1).length : Int) 0) = some r := by first | (rw [hy107]; with_reducible exact H) | (have H2_ := (Option.bind_some _ _).symm.trans H; rw [hy107]; with_reducible exact H2_) | (have H2_ := (Option.bind_some _ _).symm.trans H; with_reducible exact H2_) | with_reducible exact H | (rw [hy107]; exact H) | exact H
                    have Ny107 := Aside0.mk hy107
                    clear hy107
                    have H' := Aside0.mk H
                    clear H
                    go_wp2_with (first | ((with_reducible refine gate_dst (N := 20) rfl ?_); refine Kd.R_make (Kd.int .i64) _ 3 rfl (N := 20) rfl 34 _ _ rfl a1 rfl rfl Try.underlying34 (.int .i64 0) 8 info3 rfl (by decide) (by omega) 0 (ok := fun _ => True) (okp := fun _ => True) rfl (fun _ hk => hk) trivial (of_decide_eq_true (by first | (with_reducible assumption) | assumption)) (Nat.le_trans (Nat.mul_le_mul_right _ (of_decide_eq_true (by first | (with_reducible assumption) | assumption) : a1.toNat ≤ 35184372088832)) (by omega)) (Below.refl _ _) (Nat.le_refl _) ?_; intro v105 w15 ho16 hb hg_ hnew_; clear hg_ hnew_; (first | rw [← Ny104.out] at ho16 | (simp only [Int.reduceToNat] at ho16; rw [← Ny104.out] at ho16)); have n0_ := Aside0.mk (Kd.S_elder' (by (with_reducible repeat (first | apply Kd.S_alloc | apply Kd.S_drewN | apply Kd.S_drew)); exact HO_7.out) (Kd.R_base ho16) hb); have n1_ := Aside0.mk (Kd.R_lower ho16 (below_size (by repeat (first | (with_reducible first | exact HB.out | apply below_alloc | apply pw_below_drewN | apply below_drew1) | exact HB.out)))); have n2_ := Aside0.mk (below_step (by repeat (first | (with_reducible first | exact HB.out | apply below_alloc | apply pw_below_drewN | apply below_drew1) | exact HB.out)) hb); clear HO_7; clear HB; have HO_7 := n0_; have HO106 := n1_; have HB := n2_; clear n0_ n1_ n2_; clear hb ho16; have p14 : 0 ≤ (x14_1 : Int) := of_decide_eq_true (by first | (with_reducible assumption) | assumption); have q14 : (x14_1 : Int) < ((x7_1.length : Int) : Int) := of_decide_eq_true (by first | (with_reducible assumption) | assumption); obtain ⟨go14, co14, eo14, gb14, gl14, cl14, HG14⟩ := Kd.S_form HO_7.out (by omega); (first | cases eo14 | (injection eo14 with ea_ en_ ec_; (first | subst ea_ | (injection ea_ with ea_; subst ea_)); subst ec_; clear en_)); have GB14 := Aside0.mk gb14; have GG14 := Aside0.mk HG14; clear gb14 gl14 HG14; obtain ⟨_, ce14, hcl14, hM14, hcc14, hfr14, _, _⟩ := Kd.S_elem HO_7.out [] (x14_1 : Int) p14 q14; obtain ⟨ve14_0, rfl, ge14_0⟩ := hM14; have hx14_0 := hcc14 0 _ rfl; have hf14_0 := hfr14 0; (try simp only [show ((Kd.slice 3 (Kd.int .i64))).sz = 1 from rfl, Nat.mul_one, Nat.add_zero] at hx14_0); (try simp only [show ((Kd.slice 3 (Kd.int .i64))).sz = 1 from rfl, Nat.mul_one, Nat.add_zero] at hf14_0); (try clear hcl14); (try clear hcc14); (try clear hfr14); (try clear hM14); replace p14 := eq_true p14; replace q14 := eq_true q14; obtain ⟨Ao19, co19, eo19⟩ := Kd.R_slice HO106.out; subst eo19; have n_ := Aside0.mk (Kd.S_mono (ok' := (fun k_ => some k_ ≠ (.slice Ao19 y104.length co19 : Value).ownBlock)) HO_7.out (fun k_ hk => hk.2)); clear HO_7; have HO_7 := n_; clear n_; have HX17 := Aside0.mk (show Kd.S (Kd.slice 3 (Kd.int .i64)) 34 w15 w.heap.size (fun k_ => ((fun _ => True)) k_ ∧ ¬ ((fun k_ => some k_ = (.slice Ao19 y104.length co19 : Value).ownBlock)) k_) (.slice (some ⟨go14, 0, none⟩) x7_1.length co8) x7_1 from (by (with_reducible repeat (first | apply Kd.S_alloc | apply Kd.S_drewN | apply Kd.S_drew)); exact Kd.S_mono HO_7.out (fun k_ hk => ⟨trivial, fun e_ => hk e_⟩))); obtain ⟨oki17, ce17, hcl17, hM17, hcc17, hfr17, hoki17, hH17⟩ := Kd.S_elem HX17.out [] (x14_1 : Int) (of_decide_eq_true (by first | (with_reducible assumption) | assumption)) (by have h_ : (x14_1 : Int) < ((x7_1.length : Int) : Int) := of_decide_eq_true (by first | (with_reducible assumption) | assumption); first | exact h_ | (have e_ := (Kd.S_reads' HO_7.out).1; omega) | simpa using h_); obtain ⟨ve17_0, rfl, ge17_0⟩ := hM17; have HP17 := Kd.S_seg hH17 (of_decide_eq_true (by first | (with_reducible assumption) | assumption)) (by have h_ : (x14_1 : Int) < ((x7_1.length : Int) : Int) := of_decide_eq_true (by first | (with_reducible assumption) | assumption); first | exact h_ | (have e_ := (Kd.S_reads' HO_7.out).1; omega) | simpa using h_) (seg := [.slice Ao19 y104.length co19]) (j := 0) (show 1 ≤ 1 from by decide) (x' := y104) (Kd.M_row (Kd.R_mono (Kd.R_tight rfl (Kd.R_mono (ok' := fun k_ => ((fun _ => True)) k_ ∧ k_ ≠ go14) (Kd.R_apart' (HO106.out) (Kd.S_typed HO_7.out) (by decide)) (fun k_ hk => ⟨trivial, fun e_ => (hk.2) (by rw [e_]; rfl)⟩))) (fun _ h_ => Or.inr (h_)))) (fun _ hk => hk) (fun k_ hk_ => ((Kd.R_mono (ok' := fun k_ => ((fun _ => True)) k_ ∧ k_ ≠ go14) (Kd.R_apart' (HO106.out) (Kd.S_typed HO_7.out) (by decide)) (fun k_ hk => ⟨trivial, fun e_ => (hk.2) (by rw [e_]; rfl)⟩))).1 k_ hk_.symm); have hx17_0 := hcc17 0 _ rfl; (try simp only [show ((Kd.slice 3 (Kd.int .i64))).sz = 1 from rfl, Nat.mul_one, Nat.add_zero] at hx17_0); have hf17_0 := hfr17 0; (try simp only [show ((Kd.slice 3 (Kd.int .i64))).sz = 1 from rfl, Nat.mul_one, Nat.add_zero] at hf17_0); (try clear hcl17); (try clear hcc17); (try clear hfr17); (try clear hM17); (try clear hoki17); (try clear hH17); (try simp only [show ((Kd.slice 3 (Kd.int .i64))).sz = 1 from rfl, Nat.mul_one, Nat.add_zero] at HP17)) | ((with_reducible refine gate_store (t := 34) (p := 21) rfl ?_); refine store_event (t := 34) (p := 21) (v := ?vo_w18) (w1 := (w15.setCell ⟨go14, (x14_1 : Int).toNat, none⟩ (.slice Ao19 y104.length co19))) ?hg ?ho ?hn ?hr ?_; (case ho => rfl); (case hg => rfl); (case hn => rfl); (case hr => first | (go_simp; done) | (go_simp; rfl)); intro w18 hw; have hg : w15.grownBy w18 (some go14) := (by rw [hw]; exact HP17.2); have hp_ : Kd.S (Kd.slice 3 (Kd.int .i64)) 34 w18 w.heap.size (fun _ => True) (.slice (some ⟨go14, 0, none⟩) x7_1.length co8) y107 := (by rw [hw, Ny107.out]; exact HP17.1); clear HP17; have n0_ := Aside0.mk (hp_); have n1_ := Aside0.mk ((by rw [hw]; exact below_set (HB.out) GB14.out : Below w.heap.size w w18)); clear HO_7; clear HB; clear HO106; have HO_7 := n0_; have HB := n1_; clear n0_ n1_; clear hg hw hp_; have p108 : 0 ≤ (x14_1 : Int) := of_decide_eq_true (by first | (with_reducible assumption) | assumption); have q108 : x14_1 < (y107.length : Int) := (by have h_ : (x14_1 : Int) < ((x7_1.length : Int) : Int) := of_decide_eq_true (by first | (with_reducible assumption) | assumption); first | (have e_ := (Kd.S_reads' HO_7.out).1; omega) | simpa only [Ny107.out, List.length_set] using h_); have ql108 : ((x14_1 : Int) < ((x7_1.length : Int) : Int)) = True := eq_true (of_decide_eq_true (by first | (with_reducible assumption) | assumption)); obtain ⟨ad108, A108_0, c108_0, e108, hx108_0, hl108_0, hi108_0⟩ := at_L1 (Kd.S_reads' HO_7.out).2.2 x14_1 p108 q108; obtain rfl : (⟨go14, 0, none⟩ : Addr) = ad108 := (by injection e108); obtain ⟨ce108, hce108, hMe108, hcc108⟩ := Kd.S_get HO_7.out [] x14_1 p108 (by first | exact q108 | exact of_decide_eq_true (by first | (with_reducible assumption) | assumption) | (have e_ := (Kd.S_reads' HO_7.out).1; omega)); obtain ⟨ve108_0, rfl, ge108_0⟩ := hMe108; have hv108_0 := hcc108 0 _ rfl; rw [Nat.add_zero, show ((Kd.slice 3 (Kd.int .i64))).sz = 1 from rfl, Nat.mul_one] at hv108_0; replace hv108_0 := Option.some.inj (hv108_0.symm.trans hx108_0); rw [hv108_0] at ge108_0; have HL108_0 := Aside0.mk (show Kd.R (Kd.int .i64) 3 _ _ _ _ (rd_L1 y107 x14_1) from ge108_0); clear hv108_0 ge108_0; have HX108_0 := Aside0.mk hx108_0; clear hcc108 hce108; (first | simp only [add_plain] at hx108_0 | simp only [add_at] at hx108_0 | simp only [Addr.add, Nat.zero_add] at hx108_0 | skip); have HR108_0 := Aside0.mk hi108_0; have HC108_0 := Aside0.mk hl108_0; clear hi108_0 hl108_0; replace p108 := eq_true p108; replace q108 := eq_true q108))
                    go_loopg [27] k1 (fun kq v27 w' => ∃ (x7_2 : List (List Int)) (x27_2 : Int), v27 = .int .i64 x27_2 ∧ Aside0 (impl_table.l1 kq a1 a2 x7_2 x14_1 (y101.length : Int) x14_1 ((rd_L1 y107 x14_1).length : Int) x27_2 = some r) ∧ Aside0 (kq ≤ k1) ∧ Aside0 (Kd.S (Kd.slice 3 (Kd.int .i64)) 34 w' w.heap.size (fun _ => True) (.slice (some ⟨go14, 0, none⟩) x7_1.length co8) x7_2) ∧ Aside0 (Below w.heap.size w w'))
                    case atStart => exact ⟨(y107), (0), (by first | rfl | (simp; done) | (simp [*]; done)), H', ⟨Nat.le_refl _⟩, ⟨by (try simp only [hl7_1]); (with_reducible repeat (first | apply Kd.S_alloc | apply Kd.S_drewN | apply Kd.S_drew)); exact HO_7.out⟩, ⟨by repeat (first | (with_reducible first | exact HB.out | apply below_alloc | apply pw_below_drewN | apply below_drew1) | exact HB.out)⟩⟩
                    case round =>
                      clear H'
                      try clear c1
                      try clear p1
                      try clear q1
                      try clear hx1
                      try clear p2
                      try clear c4
                      try clear c4b0
                      try clear c4b1
                      try clear c5
                      try clear c5b0
                      try clear c5b1
                      try clear c7
                      try clear c9
                      try clear c9b0
                      try clear c10
                      try clear c10b0
                      try clear c10b1
                      try clear p10
                      try clear q10
                      try clear hx10
                      try clear c11
                      try clear c11b0
                      try clear c11b1
                      try clear c12
                      try clear c12b0
                      try clear c13
                      try clear c13b0
                      try clear c14
                      try clear p14
                      try clear q14
                      try clear hx14
                      try clear hf14
                      try clear c17
                      try clear hx17
                      try clear hf17
                      try clear hx108_0
                      try clear hx14_0
                      try clear hx17_0
                      try clear p108
                      try clear p14
                      try clear p2
                      try clear q108
                      try clear q14
                      obtain ⟨x7_2, x27_2, rfl, HA, HK2, HO_7, HB⟩ := hrel
                      have hl7_2 := (Kd.S_reads' HO_7.out).1
                      rw [hl7_2] at HO_7
                      (try simp only [hl7_2])
                      cases gk with
                      | zero => exact absurd HA.out (by simp [impl_table.l1])
                      | succ k2 =>
                        have H := HA.out
                        clear HA
                        simp only [impl_table.l1] at H
                        by_cases c20 : x27_2 < ((rd_L1 y107 x14_1).length : Int)
                        · rw [if_pos c20] at H
                          have c20b0 : decide (x27_2 < ((rd_L1 y107 x14_1).length : Int)) = true := decide_eq_true c20
                          (try simp only [hl7_1, hl7_2] at c20b0)
                          clear c20
                          by_cases c21 : 0 ≤ x14_1
                          · rw [if_pos c21] at H
                            have c21b0 : decide (0 ≤ x14_1) = true := decide_eq_true c21
                            clear c21
                            by_cases c22 : x14_1 < (x7_2.length : Int)
                            · rw [if_pos c22] at H
                              have c22b0 : decide (x14_1 < (x7_2.length : Int)) = true := decide_eq_true c22
                              (try simp only [hl7_1, hl7_2] at c22b0)
                              clear c22
                              replace H := Option.bind_eq_some_iff.mp H
                              obtain ⟨t110, A230, H⟩ := H
                              replace H : (if 0 ≤ x27_2 then (if x27_2 < ((rd_L1 x7_2 x14_1).length : Int) then (impl_table.l1 k2 a1 a2 (x7_2.set (x14_1 : Int).toNat ((rd_L1 x7_2 x14_1).set (x27_2 : Int).toNat t110)) x14_1 (y101.length : Int) x14_1 ((rd_L1 y107 x14_1).length : Int) (wrap64 (x27_2 + 1))) else (none)) else (none)) = some r := H
                              have A23 := Aside0.mk A230
                              clear A230
                              by_cases c24 : 0 ≤ x27_2
                              · rw [if_pos c24] at H
                                have c24b0 : decide (0 ≤ x27_2) = true := decide_eq_true c24
                                clear c24
                                by_cases c25 : x27_2 < ((rd_L1 x7_2 x14_1).length : Int)
                                · rw [if_pos c25] at H
                                  have c25b0 : decide (x27_2 < ((rd_L1 x7_2 x14_1).length : Int)) = true := decide_eq_true c25
                                  (try simp only [hl7_1, hl7_2] at c25b0)
                                  clear c25
                                  obtain ⟨y111, hy111⟩ : ∃ y_ : List Int, y_ = ((rd_L1 x7_2 x14_1).set (x27_2 : Int).toNat t110) := ⟨_, rfl⟩
                                  replace H : (impl_table.l1 k2 a1 a2 (x7_2.set (x14_1 : Int).toNat y111) x14_1 (y101.length : Int) x14_1 ((rd_L1 y107 x14_1).length : Int) (wrap64 (x27_2 + 1))) = some r := by first | (rw [hy111]; with_reducible exact H) | (have H2_ := (Option.bind_some _ _).symm.trans H; rw [hy111]; with_reducible exact H2_) | (have H2_ := (Option.bind_some _ _).symm.trans H; with_reducible exact H2_) | with_reducible exact H | (rw [hy111]; exact H) | exact H
                                  have Ny111 := Aside0.mk hy111
                                  clear hy111
                                  obtain ⟨y113, hy113⟩ : ∃ y_ : List (List Int), y_ = (x7_2.set (x14_1 : Int).toNat y111) := ⟨_, rfl⟩
                                  replace H : (impl_table.l1 k2 a1 a2 y113 x14_1 (y101.length : Int) x14_1 ((rd_L1 y107 x14_1).length : Int) (wrap64 (x27_2 + 1))) = some r := by first | (rw [hy113]; with_reducible exact H) | (have H2_ := (Option.bind_some _ _).symm.trans H; rw [hy113]; with_reducible exact H2_) | (have H2_ := (Option.bind_some _ _).symm.trans H; with_reducible exact H2_) | with_reducible exact H | (rw [hy113]; exact H) | exact H
                                  have Ny113 := Aside0.mk hy113
                                  clear hy113
                                  have H' := Aside0.mk H
                                  clear H
                                  try go_wp2
                                  have n0_ := Aside0.mk (Kd.S_drew HO_7.out)
                                  have n1_ := Aside0.mk (below_drew1 HB.out)
                                  clear HO_7
                                  clear HB
                                  have HO_7 := n0_
                                  have HB := n1_
                                  clear n0_ n1_
                                  have p109 : 0 ≤ (x14_1 : Int) := of_decide_eq_true (by first | (with_reducible assumption) | assumption)
                                  have q109 : x14_1 < (x7_2.length : Int) := of_decide_eq_true (by first | (with_reducible assumption) | assumption)
                                  obtain ⟨ad109, A109_0, c109_0, e109, hx109_0, hl109_0, hi109_0⟩ := at_L1 (Kd.S_reads' HO_7.out).2.2 x14_1 p109 q109
                                  obtain rfl : (⟨go14, 0, none⟩ : Addr) = ad109 := (by injection e109)
                                  obtain ⟨ce109, hce109, hMe109, hcc109⟩ := Kd.S_get HO_7.out [] x14_1 p109 (by first | exact q109 | exact of_decide_eq_true (by first | (with_reducible assumption) | assumption) | (have e_ := (Kd.S_reads' HO_7.out).1; omega))
                                  obtain ⟨ve109_0, rfl, ge109_0⟩ := hMe109
                                  have hv109_0 := hcc109 0 _ rfl
                                  rw [Nat.add_zero, show ((Kd.slice 3 (Kd.int .i64))).sz = 1 from rfl, Nat.mul_one] at hv109_0
                                  replace hv109_0 := Option.some.inj (hv109_0.symm.trans hx109_0)
                                  rw [hv109_0] at ge109_0
                                  have HL109_0 := Aside0.mk (show Kd.R (Kd.int .i64) 3 _ _ _ _ (rd_L1 x7_2 x14_1) from ge109_0)
                                  clear hv109_0 ge109_0
                                  have HX109_0 := Aside0.mk hx109_0
                                  clear hcc109 hce109
                                  (first | simp only [add_plain] at hx109_0 | simp only [add_at] at hx109_0 | simp only [Addr.add, Nat.zero_add] at hx109_0 | skip)
                                  have HR109_0 := Aside0.mk hi109_0
                                  have HC109_0 := Aside0.mk hl109_0
                                  clear hi109_0 hl109_0
                                  replace p109 := eq_true p109
                                  replace q109 := eq_true q109
                                  refine start_ (n := 11) (S := fun w' => w'.cell? ⟨go14, (x14_1).toNat, none⟩ = some (.slice A109_0 (rd_L1 x7_2 x14_1).length c109_0)) (ds := [10]) #[false, false, false, false, false, false, false, false, false, false, false] (by kernel_rfl) rfl rfl (hx109_0) (fun hHeld => ?_); refine with_tabW impl_table.tab9 impl_table.bits9 (fun HT_ HW_ => ?_)
                                  generalize wr.drew = w27 at HO_7 HB HL109_0 HR109_0 HX109_0 hx109_0 hHeld ⊢
                                  refine pure_ (i := 0) (N := some 30) (v := ?_) (a' := ?_) #[true, false, false, false, false, false, false, false, false, false, false] rfl rfl (any_of HT_.out (by kernel_rfl)) (fun _ _ _ h => h) (Or.inl ⟨by rfl, ?_⟩) ?_ ?_
                                  rotate_left
                                  · intro w'
                                    go_simp
                                    with_reducible rfl
                                  rotate_left
                                  · simp only [Act.put, List.setIfInBounds_toArray, List.set_cons_zero, List.set_cons_succ, i64_w, i32_w]
                                    rfl
                                  refine pure_ (i := 1) (N := some 31) (v := ?_) (a' := ?_) #[true, true, false, false, false, false, false, false, false, false, false] rfl rfl (any_of HT_.out (by kernel_rfl)) (fun _ _ _ h => h) (Or.inl ⟨by rfl, ?_⟩) ?_ ?_
                                  rotate_left
                                  · intro w'
                                    go_simp
                                    with_reducible rfl
                                  rotate_left
                                  · simp only [Act.put, List.setIfInBounds_toArray, List.set_cons_zero, List.set_cons_succ, i64_w, i32_w]
                                    rfl
                                  refine pure_ (i := 2) (N := some 32) (v := ?_) (a' := ?_) #[true, true, true, false, false, false, false, false, false, false, false] rfl rfl (any_of HT_.out (by kernel_rfl)) (fun _ _ _ h => h) (Or.inl ⟨by rfl, ?_⟩) ?_ ?_
                                  rotate_left
                                  · intro w'
                                    go_simp
                                    with_reducible rfl
                                  rotate_left
                                  · simp only [Act.put, List.setIfInBounds_toArray, List.set_cons_zero, List.set_cons_succ, i64_w, i32_w]
                                    rfl
                                  refine pure_ (i := 4) (N := some 34) (v := ?_) (a' := ?_) #[true, true, true, false, true, false, false, false, false, false, false] rfl rfl (any_of HT_.out (by kernel_rfl)) (fun _ _ _ h => h) (Or.inl ⟨by rfl, ?_⟩) ?_ ?_
                                  rotate_left
                                  · intro w'
                                    go_simp
                                    with_reducible rfl
                                  rotate_left
                                  · simp only [Act.put, List.setIfInBounds_toArray, List.set_cons_zero, List.set_cons_succ, i64_w, i32_w]
                                    rfl
                                  refine pure_ (i := 5) (N := some 35) (v := ?_) (a' := ?_) #[true, true, true, false, true, true, false, false, false, false, false] rfl rfl (any_of HT_.out (by kernel_rfl)) (fun _ _ _ h => h) (Or.inl ⟨by rfl, ?_⟩) ?_ ?_
                                  rotate_left
                                  · intro w'
                                    go_simp
                                    with_reducible rfl
                                  rotate_left
                                  · simp only [Act.put, List.setIfInBounds_toArray, List.set_cons_zero, List.set_cons_succ, i64_w, i32_w]
                                    rfl
                                  refine pure_ (i := 6) (N := some 36) (v := ?_) (a' := ?_) #[true, true, true, false, true, true, true, false, false, false, false] rfl rfl (any_of HT_.out (by kernel_rfl)) (fun _ _ _ h => h) (Or.inl ⟨by rfl, ?_⟩) ?_ ?_
                                  rotate_left
                                  · intro w'
                                    go_simp
                                    with_reducible rfl
                                  rotate_left
                                  · simp only [Act.put, List.setIfInBounds_toArray, List.set_cons_zero, List.set_cons_succ, i64_w, i32_w]
                                    rfl
                                  refine pure_ (i := 7) (N := some 37) (v := ?_) (a' := ?_) #[true, true, true, false, true, true, true, true, false, false, false] rfl rfl (any_of HT_.out (by kernel_rfl)) (fun _ _ _ h => h) (Or.inl ⟨by rfl, ?_⟩) ?_ ?_
                                  rotate_left
                                  · intro w'
                                    go_simp
                                    with_reducible rfl
                                  rotate_left
                                  · simp only [Act.put, List.setIfInBounds_toArray, List.set_cons_zero, List.set_cons_succ, i64_w, i32_w]
                                    rfl
                                  refine take_ (i := 3) (N := some 33) (v := ?_) (a' := ?_) #[true, true, true, true, true, true, true, true, false, false, false] rfl rfl (take_ofW HT_.out HW_.out (by kernel_rfl)) (fun _ _ _ h => h) (Or.inl ⟨by rfl, ?_⟩) hHeld ?_ ?_
                                  rotate_left
                                  · intro w' s0
                                    go_simp
                                    with_reducible rfl
                                  rotate_left
                                  · simp only [Act.put, List.setIfInBounds_toArray, List.set_cons_zero, List.set_cons_succ, i64_w, i32_w]
                                    rfl
                                  refine one_ (i := 8) (N := some 38) #[true, true, true, true, true, true, true, true, true, false, false] rfl rfl (one_of HT_.out (by kernel_rfl)) (by decide) (fun K hK => ?_)
                                  refine goesF_ eg2 #[.int .i64 x14_1, .int .i64 x27_2] (by rfl) rfl rfl (by first | rfl | (simp [Act.eval]; done)) (by (try simp only [List.map_toArray, List.map_cons, List.map_nil]); first | done | rfl) ?_
                                  refine (HF2.out _ ?side1 x14_1 _ K_int x27_2 _ K_int t110 A23.out).mono ?_
                                  (case side1 => exact (by repeat (first | (with_reducible first | exact HB.out | apply below_alloc | apply pw_below_drewN | apply below_drew1) | exact HB.out)))
                                  rintro e w28 ⟨rfl, hb⟩
                                  have HS0_ := (hb.cell (World.block_lt_of_cell? _ _ (hHeld))).trans (hHeld)
                                  refine ⟨_, rfl, ?_⟩
                                  have n0_ := Aside0.mk (Kd.S_below (by (with_reducible repeat (first | apply Kd.S_alloc | apply Kd.S_drewN | apply Kd.S_drew)); exact HO_7.out) hb)
                                  have n1_ := Aside0.mk (Kd.R_below (by (with_reducible repeat (first | apply Kd.R_alloc | apply Kd.R_drewN | apply Kd.R_drew)); exact HL109_0.out) hb)
                                  have n2_ := Aside0.mk (Kd.C_below (by repeat (first | (with_reducible exact HR109_0.out) | (with_reducible refine Kd.C_alloc ?_ _) | (with_reducible refine Kd.C_drewN ?_ _) | (with_reducible refine Kd.C_drew ?_) | exact HR109_0.out)) hb)
                                  have n3_ := Aside0.mk (pw_cell_below hb HX109_0.out)
                                  have n4_ := Aside0.mk (below_step (by repeat (first | (with_reducible first | exact HB.out | apply below_alloc | apply pw_below_drewN | apply below_drew1) | exact HB.out)) hb)
                                  clear HO_7
                                  clear HL109_0
                                  clear HR109_0
                                  clear HX109_0
                                  clear HB
                                  have HO_7 := n0_
                                  have HL109_0 := n1_
                                  have HR109_0 := n2_
                                  have HX109_0 := n3_
                                  have HB := n4_
                                  clear n0_ n1_ n2_ n3_ n4_
                                  (try clear hb)
                                  (try clear hb2)
                                  (try clear hk)
                                  (try clear hi)
                                  have p26 : 0 ≤ (x27_2 : Int) := of_decide_eq_true (by first | (with_reducible assumption) | assumption)
                                  have q26 : (x27_2 : Int) < (((rd_L1 x7_2 x14_1).length : Int) : Int) := of_decide_eq_true (by first | (with_reducible assumption) | assumption)
                                  obtain ⟨go26, co26, eo26, gb26, gl26, cl26, HG26⟩ := Kd.R_form HL109_0.out (by omega)
                                  (first | cases eo26 | (injection eo26 with ea_ en_ ec_; (first | subst ea_ | (injection ea_ with ea_; subst ea_)); subst ec_; clear en_))
                                  have GB26 := Aside0.mk gb26
                                  have GG26 := Aside0.mk HG26
                                  clear gb26 gl26 HG26
                                  obtain ⟨hx26_0, hf26_0⟩ := Kd.R_celln 0 HL109_0.out (x27_2 : Int) p26 q26
                                  replace p26 := eq_true p26
                                  replace q26 := eq_true q26
                                  have hq29 : (x14_1 : Int) < (x7_2.length : Int) := (by have h_ : (x14_1 : Int) < ((x7_2.length : Int) : Int) := of_decide_eq_true (by first | (with_reducible assumption) | assumption); first | exact h_ | (have e_ := (Kd.S_reads' HO_7.out).1; omega) | simpa only [List.length_set, List.length_set] using h_)
                                  obtain ⟨oki29, ce29, hcl29, hM29, hcc29, hok29, hbk29⟩ := Kd.S_borrow HO_7.out [] (x14_1 : Int) (of_decide_eq_true (by first | (with_reducible assumption) | assumption)) hq29
                                  obtain ⟨ve29_0, rfl, ge29_0⟩ := hM29
                                  have hv29 := hcc29 0 _ rfl
                                  rw [Nat.add_zero, show ((Kd.slice 3 (Kd.int .i64))).sz = 1 from rfl, Nat.mul_one] at hv29
                                  replace hv29 := Option.some.inj (hv29.symm.trans HX109_0.out)
                                  subst hv29
                                  clear hcc29 hcl29
                                  replace ge29_0 := (show Kd.R (Kd.int .i64) 3 _ _ _ _ (rd_L1 x7_2 x14_1) from ge29_0)
                                  have HP29 := Kd.R_putg ge29_0 (x27_2 : Int) t110
                                  rw [← Ny111.out] at HP29
                                  have HS29 := hbk29 HP29.2 (fun k_ e_ => by injection e_ with e_; subst e_; exact ge29_0.1 _ rfl) (x' := y111) (Kd.M_row HP29.1)
                                  rw [← Ny113.out] at HS29
                                  have HQ29 := Aside0.mk HS29
                                  clear HP29 HS29 hbk29 hok29
                                  refine hK.out _ _ (HS0_) (fun hHeld => ?_)
                                  clear hK K
                                  refine norm_ (a' := ?_) ?_ ?_
                                  rotate_left
                                  · show Act.put _ (some 38) _ = _
                                    simp only [Act.put, List.setIfInBounds_toArray, List.set_cons_zero, List.set_cons_succ, i64_w, i32_w]
                                    rfl
                                  refine pure_ (i := 9) (N := some 39) (v := ?_) (a' := ?_) #[true, true, true, true, true, true, true, true, true, true, false] rfl rfl (any_of HT_.out (by kernel_rfl)) (fun _ _ _ h => h) (Or.inl ⟨by rfl, ?_⟩) ?_ ?_
                                  rotate_left
                                  · intro w'
                                    go_simp
                                    with_reducible rfl
                                  rotate_left
                                  · simp only [Act.put, List.setIfInBounds_toArray, List.set_cons_zero, List.set_cons_succ, i64_w, i32_w]
                                    rfl
                                  refine last_ (i := 10) (N := none) #[true, true, true, true, true, true, true, true, true, true, true] rfl rfl (one_of HT_.out (by kernel_rfl)) (by decide) (fun K hK => ?_)
                                  refine skip_ (w1 := ?_) (by rfl) rfl ?_ ?_
                                  rotate_left
                                  · go_simp
                                    rfl
                                  refine hK.out _ _ ?_
                                  clear hK K
                                  refine done_ (done_of HT_.out (by kernel_rfl)) ?_
                                  try go_wp2
                                  (try simp only [← hl7_2])
                                  go_roundg k2
                                  case measure => have := HK1.out; have := HK2.out; omega
                                  case rel => exact ⟨(y113), (wrap64 (x27_2 + 1)), (by first | rfl | (simp; done) | (simp [*]; done)), H', ⟨by have := HK1.out; have := HK2.out; omega⟩, ⟨by (try simp only [hl7_1]); (try simp only [hl7_2]); (with_reducible repeat (first | apply Kd.S_alloc | apply Kd.S_drewN | apply Kd.S_drew)); exact HQ29.out⟩, ⟨by repeat (first | (with_reducible first | exact HB.out | apply below_alloc | apply pw_below_drewN | apply below_drew1 | refine below_set ?_ GB26.out) | exact HB.out)⟩⟩
                                · rw [if_neg c25] at H
                                  exact absurd H (by simp)
                              · rw [if_neg c24] at H
                                exact absurd H (by simp)
                            · rw [if_neg c22] at H
                              exact absurd H (by simp)
                          · rw [if_neg c21] at H
                            exact absurd H (by simp)
                        · rw [if_neg c20] at H
                          have c20b0 : decide (x27_2 < ((rd_L1 y107 x14_1).length : Int)) = false := decide_eq_false c20
                          (try simp only [hl7_1, hl7_2] at c20b0)
                          clear c20
                          have H' := Aside0.mk H
                          clear H
                          go_wp2
                          (try simp only [← hl7_1, ← hl7_2])
                          go_roundg k2
                          case measure => have := HK1.out; have := HK2.out; omega
                          case rel => exact ⟨(x7_2), (wrap64 (x14_1 + 1)), (by first | rfl | (simp; done) | (simp [*]; done)), H', ⟨by have := HK1.out; have := HK2.out; omega⟩, ⟨by (try simp only [hl7_1]); (try simp only [hl7_2]); (with_reducible repeat (first | apply Kd.S_alloc | apply Kd.S_drewN | apply Kd.S_drew)); exact HO_7.out⟩, ⟨by repeat (first | (with_reducible first | exact HB.out | apply below_alloc | apply pw_below_drewN | apply below_drew1) | exact HB.out)⟩⟩
                  · rw [if_neg c13] at H
                    exact absurd H (by simp)
                · rw [if_neg c12] at H
                  exact absurd H (by simp)
              · rw [if_neg c11] at H
                exact absurd H (by simp)
            · rw [if_neg c10] at H
              exact absurd H (by simp)
          · rw [if_neg c9] at H
            have c9b0 : decide (x14_1 < (y101.length : Int)) = false := decide_eq_false c9
            (try simp only [hl7_1] at c9b0)
            clear c9
            obtain rfl := Option.some.inj H
            go_wp2
            go_ret
            exact ⟨_, by first | rfl | (simp [errW_none, errW_some] <;> rfl) | (simp [*, errW_none, errW_some] <;> rfl), by (with_reducible repeat (first | apply Kd.S_alloc | apply Kd.S_drewN | apply Kd.S_drew)); exact HO_7.out, by repeat (first | (with_reducible first | exact HB.out | apply below_alloc | apply pw_below_drewN | apply below_drew1) | exact HB.out)⟩
    · rw [if_neg c5] at H
      exact absurd H (by simp)
  · rw [if_neg c4] at H
    exact absurd H (by simp)

/-! ### impl_turned_1: function 130 -/
def impl_turned_1.f (a0 : Int) (a1 : Int) (l2_0 : List (List Int)) (a3_0 : Int) : Option (Int) := if 0 ≤ (wrap64 ((wrap64 (a3_0 - 1)) - a1)) then (if (wrap64 ((wrap64 (a3_0 - 1)) - a1)) < (l2_0.length : Int) then (if 0 ≤ a0 then (if a0 < ((rd_L1 l2_0 (wrap64 ((wrap64 (a3_0 - 1)) - a1))).length : Int) then (some (rd (rd_L1 l2_0 (wrap64 ((wrap64 (a3_0 - 1)) - a1))) a0)) else (none)) else (none)) else (none)) else (none)
set_option maxHeartbeats 8000000 in
set_option maxRecDepth 100000 in
theorem impl_turned_1.calls (a0 : Int) (a1 : Int) (B2 : Nat) (A2_0 : Option Addr) (c2_0 : Nat) (l2_0 : List (List Int)) (B3 : Nat) (a3_0 : Int) (r : Int) (w : World) (hb2 : w.heap[B2]? = some (.cells #[.slice A2_0 l2_0.length c2_0] 27 (0, 0))) (hr2_0 : Kd.C (Kd.slice 3 (Kd.int .i64)) w A2_0 l2_0.length l2_0) (hc2_0 : l2_0.length ≤ c2_0) (hb3 : w.heap[B3]? = some (.cells #[.int .i64 a3_0] 3 (0, 0))) (h : impl_turned_1.f a0 a1 l2_0 a3_0 = some r) :
    Calls Try.prog 130 #[.int .i64 a0, .int .i64 a1, .pointer (some ⟨B2, 0, none⟩), .pointer (some ⟨B3, 0, none⟩)] w fun e w' => e = .returned (.int .i64 r) ∧ Drawn0 w w' := by
  have HR2_0 := Aside0.mk hr2_0
  have HC2_0 := Aside0.mk hc2_0
  clear hr2_0 hc2_0
  have BK62 := Aside0.mk hb2
  clear hb2
  have BK63 := Aside0.mk hb3
  clear hb3
  have H : (if 0 ≤ (wrap64 ((wrap64 (a3_0 - 1)) - a1)) then (if (wrap64 ((wrap64 (a3_0 - 1)) - a1)) < (l2_0.length : Int) then (if 0 ≤ a0 then (if a0 < ((rd_L1 l2_0 (wrap64 ((wrap64 (a3_0 - 1)) - a1))).length : Int) then (some (rd (rd_L1 l2_0 (wrap64 ((wrap64 (a3_0 - 1)) - a1))) a0)) else (none)) else (none)) else (none)) else (none)) = some r := h
  clear h
  obtain ⟨ji5, hji5⟩ : ∃ j_ : Int, (wrap64 ((wrap64 (a3_0 - 1)) - a1)) = j_ := ⟨_, rfl⟩
  replace H : (if 0 ≤ (ji5) then (if (ji5) < (l2_0.length : Int) then (if 0 ≤ a0 then (if a0 < ((rd_L1 l2_0 (ji5)).length : Int) then (some (rd (rd_L1 l2_0 (ji5)) a0)) else (none)) else (none)) else (none)) else (none)) = some r := by first | (rw [hji5] at H; exact H) | (simp only [hji5] at H ⊢; exact H)
  have hji5w : (IntKind.i64.wrap ((wrap64 (a3_0 - 1)) - a1)) = ji5 := (i64_w _).trans hji5
  by_cases c6 : 0 ≤ (ji5)
  · rw [if_pos c6] at H
    have c6b0 : decide (0 ≤ (ji5)) = true := decide_eq_true c6
    clear c6
    by_cases c7 : (ji5) < (l2_0.length : Int)
    · rw [if_pos c7] at H
      have c7b0 : decide ((ji5) < (l2_0.length : Int)) = true := decide_eq_true c7
      clear c7
      by_cases c8 : 0 ≤ a0
      · rw [if_pos c8] at H
        have c8b0 : decide (0 ≤ a0) = true := decide_eq_true c8
        clear c8
        by_cases c9 : a0 < ((rd_L1 l2_0 (ji5)).length : Int)
        · rw [if_pos c9] at H
          have c9b0 : decide (a0 < ((rd_L1 l2_0 (ji5)).length : Int)) = true := decide_eq_true c9
          clear c9
          obtain rfl := Option.some.inj H
          have hcz10_0 : w.cell? ⟨B2, 0, none⟩ = some (.slice A2_0 l2_0.length c2_0) := (blk_cell BK62.out 0).trans rfl
          have hfz10_0 := blk_frozen BK62.out 0
          have hcz11_0 : w.cell? ⟨B3, 0, none⟩ = some (.int .i64 a3_0) := (blk_cell BK63.out 0).trans rfl
          have hfz11_0 := blk_frozen BK63.out 0
          have p101 : 0 ≤ ((ji5) : Int) := of_decide_eq_true (by first | (with_reducible assumption) | assumption)
          have q101 : (ji5) < (l2_0.length : Int) := of_decide_eq_true (by first | (with_reducible assumption) | assumption)
          obtain ⟨ad101, A101_0, c101_0, e101, hx101_0, hl101_0, hi101_0⟩ := at_L1 HR2_0.out (ji5) p101 q101
          cases e101
          have HR101_0 := Aside0.mk hi101_0
          have HC101_0 := Aside0.mk hl101_0
          clear hi101_0 hl101_0
          replace p101 := eq_true p101
          replace q101 := eq_true q101
          have p102 : 0 ≤ (a0 : Int) := of_decide_eq_true (by first | (with_reducible assumption) | assumption)
          have q102 : a0 < ((rd_L1 l2_0 (ji5)).length : Int) := of_decide_eq_true (by first | (with_reducible assumption) | assumption)
          obtain ⟨ad102, e102, hx102_0⟩ := Kd.at_int HR101_0.out a0 p102 q102
          cases e102
          replace p102 := eq_true p102
          replace q102 := eq_true q102
          go_enter Try.func130, Try.ntmps130
          go_wp2
          go_ret
          exact ⟨by first | rfl | (simp; done) | (simp only [← hji5] <;> (first | rfl | simp)) | (simp [*]; done), by repeat (first | exact Drawn0.refl _ | apply Drawn0.step)⟩
        · rw [if_neg c9] at H
          exact absurd H (by simp)
      · rw [if_neg c8] at H
        exact absurd H (by simp)
    · rw [if_neg c7] at H
      exact absurd H (by simp)
  · rw [if_neg c6] at H
    exact absurd H (by simp)

/-! ### impl_turned: function 103 -/
def impl_turned.f (k : Nat) (l0 : List (List Int)) : Option ((List (List Int))) := (impl_table.f k (l0.length : Int) (l0.length : Int) (fun x0_ x1_ => impl_turned_1.f x0_ x1_ l0 (l0.length : Int))).bind fun t103 => (some t103)
theorem impl_turned.mono : ∀ a0  k, LeO (impl_turned.f k a0) (impl_turned.f (k + 1) a0) := by
  intro a0 k
  unfold impl_turned.f
  repeat' first
      | (with_reducible refine impl_table.mono _ _ _ _ (fun _ _ => ?_) _)
      | (with_reducible exact LeO.refl _)
      | (with_reducible exact LeO.none _)
      | (with_reducible refine LeO.ite ?_ ?_)
      | (with_reducible refine LeO.bind ?_ (fun _ => ?_))
      | exact LeO.none _
      | refine LeO.ite ?_ ?_
      | refine LeO.bind ?_ (fun _ => ?_)
set_option maxHeartbeats 8000000 in
set_option maxRecDepth 100000 in
theorem impl_turned.calls (k : Nat) (A0 : Option Addr) (c0 : Nat) (l0 : List (List Int)) (r : List (List Int)) (w : World) (hr0 : Kd.C (Kd.slice 3 (Kd.int .i64)) w A0 l0.length l0) (hc0 : l0.length ≤ c0) (h : impl_turned.f k l0 = some r) :
    Calls Try.prog 103 #[.slice A0 l0.length c0] w fun e w' => ∃ v0_ : Value, e = .returned (v0_) ∧ Kd.S (Kd.slice 3 (Kd.int .i64)) 34 w' w.heap.size (fun _ => True) v0_ r ∧ Below w.heap.size w w' := by
  have HR0 := Aside0.mk hr0
  have HC0 := Aside0.mk hc0
  clear hr0 hc0
  have HB := Aside0.mk (Below.refl w.heap.size w)
  have H : ((impl_table.f k (l0.length : Int) (l0.length : Int) (fun x0_ x1_ => impl_turned_1.f x0_ x1_ l0 (l0.length : Int))).bind fun t103 => (some t103)) = some r := h
  clear h
  replace H := Option.bind_eq_some_iff.mp H
  obtain ⟨t103, A20, H⟩ := H
  replace H : (some t103) = some r := H
  have A2 := Aside0.mk A20
  clear A20
  obtain rfl := Option.some.inj H
  go_enter Try.func103, Try.ntmps103
  go_wp2_with (first | ((with_reducible refine gate_dst (N := 1) rfl ?_); refine box_event ?hg (N := 1) ?hd (cs := #[.slice A0 l0.length c0]) (t := 27) ?hr ?_; (case hd => rfl); (case hg => rfl); (case hr => first | (go_simp; done) | (go_simp; rfl)); intro gb101 hg w3 hbox hb; have n0_ := Aside0.mk (below_step (by repeat (first | (with_reducible first | exact HB.out | apply below_alloc | apply pw_below_drewN | apply below_drew1) | exact HB.out)) hb); have n1_ := Aside0.mk (hbox); have n2_ := Aside0.mk ((by rw [hg]; exact (below_size (by repeat (first | (with_reducible first | exact HB.out | apply below_alloc | apply pw_below_drewN | apply below_drew1) | exact HB.out))) : w.heap.size ≤ gb101)); have n3_ := Aside0.mk ((by rw [hg]; exact (below_size (by repeat (first | (with_reducible first | exact HB.out | apply below_alloc | apply pw_below_drewN | apply below_drew1) | exact HB.out))) : w.heap.size ≤ gb101)); clear HB; have HB := n0_; have BK101 := n1_; have GW101 := n2_; have GE101 := n3_; clear n0_ n1_ n2_ n3_; clear hb hbox hg; have hcz4_0 : w3.cell? ⟨gb101, 0, none⟩ = some (.slice A0 l0.length c0) := (blk_cell BK101.out 0).trans rfl; have hfz4_0 := blk_frozen BK101.out 0) | ((with_reducible refine gate_dst (N := 3) rfl ?_); refine box_event ?hg (N := 3) ?hd (cs := #[.int .i64 0]) (t := 3) ?hr ?_; (case hd => rfl); (case hg => rfl); (case hr => first | (go_simp; done) | (go_simp; rfl)); intro gb102 hg w5 hbox hb; have n0_ := Aside0.mk (blk_below (g := gb101) (o := .cells #[.slice A0 l0.length c0] 27 (0, 0)) (by (with_reducible repeat (first | refine blk_drewN ?_ _ | refine blk_drew ?_ | refine blk_alloc ?_ _)); exact BK101.out) hb); have n1_ := Aside0.mk (below_step (by repeat (first | (with_reducible first | exact HB.out | apply below_alloc | apply pw_below_drewN | apply below_drew1 | refine below_set ?_ GE101.out) | exact HB.out)) hb); have n2_ := Aside0.mk (hbox); have n3_ := Aside0.mk ((by rw [hg]; exact (below_size (by repeat (first | (with_reducible first | exact HB.out | apply below_alloc | apply pw_below_drewN | apply below_drew1 | refine below_set ?_ GE101.out) | exact HB.out))) : w.heap.size ≤ gb102)); have n4_ := Aside0.mk ((by rw [hg]; exact (below_size (by repeat (first | (with_reducible first | exact HB.out | apply below_alloc | apply pw_below_drewN | apply below_drew1 | refine below_set ?_ GE101.out) | exact HB.out))) : w.heap.size ≤ gb102)); have n5_ := Aside0.mk ((by rw [hg]; exact Nat.ne_of_lt (blk_lt (g := gb101) (o := .cells #[.slice A0 l0.length c0] 27 (0, 0)) (by (with_reducible repeat (first | refine blk_drewN ?_ _ | refine blk_drew ?_ | refine blk_alloc ?_ _)); exact BK101.out)) : gb101 ≠ gb102)); have n6_ := Aside0.mk ((by rw [hg]; exact Nat.ne_of_gt (blk_lt (g := gb101) (o := .cells #[.slice A0 l0.length c0] 27 (0, 0)) (by (with_reducible repeat (first | refine blk_drewN ?_ _ | refine blk_drew ?_ | refine blk_alloc ?_ _)); exact BK101.out)) : gb102 ≠ gb101)); clear BK101; clear HB; have BK101 := n0_; have HB := n1_; have BK102 := n2_; have GW102 := n3_; have GE102 := n4_; have NB101_102 := n5_; have NB102_101 := n6_; clear n0_ n1_ n2_ n3_ n4_ n5_ n6_; clear hb hbox hg; have hnb6 := NB102_101.out; have hnc6 := NB101_102.out; have hcz7_0 : w5.cell? ⟨gb102, 0, none⟩ = some (.int .i64 0) := (blk_cell BK102.out 0).trans rfl; have hfz7_0 := blk_frozen BK102.out 0) | ((with_reducible refine gate_callee (f := 76) rfl ?_); refine goesL_ (some 9) rfl rfl Try.func76 (by kernel_rfl) rfl #[.int .i64 (l0.length : Int), .int .i64 (l0.length : Int), .func (.func 130) #[] #[.pointer (some ⟨gb101, 0, none⟩), .pointer (some ⟨gb102, 0, none⟩)]] rfl (by (try simp only [List.map_toArray, List.map_cons, List.map_nil]); first | done | rfl | (simp only [List.length_drop, List.length_take]; rfl)) ?_; (with_reducible refine (impl_table.calls k (l0.length : Int) (l0.length : Int) _ _ (fun x0_ x1_ => impl_turned_1.f x0_ x1_ l0 (l0.length : Int)) t103 _ ?side1 A2.out).mono ?_); (case side1 => refine ⟨enters_of Try.func130 (by kernel_rfl) rfl, fun W_ hW_ x0_ v0_ hK0_ x1_ v1_ hK1_ r_ hr_ => ?_⟩; cases (show v0_ = .int .i64 x0_ from by simpa [Kd.int, Kd.bool, Kd.string, Kd.scalar] using hK0_); cases (show v1_ = .int .i64 x1_ from by simpa [Kd.int, Kd.bool, Kd.string, Kd.scalar] using hK1_); refine (impl_turned_1.calls x0_ x1_ _ A0 c0 l0 _ (l0.length : Int) r_ W_ ?cb1 ?cb2 ?cb3 ?cb4 hr_).mono ?_; (case cb1 => exact blk_below (by (with_reducible repeat (first | refine blk_drewN ?_ _ | refine blk_drew ?_ | refine blk_alloc ?_ _)); refine blk_far ?_ NB101_102.out _; (with_reducible repeat (first | refine blk_drewN ?_ _ | refine blk_drew ?_ | refine blk_alloc ?_ _)); exact BK101.out) hW_); (case cb2 => refine Kd.C_below ?_ hW_; exact Kd.C_below HR0.out (by repeat (first | (with_reducible first | exact HB.out | apply below_alloc | apply pw_below_drewN | apply below_drew1 | refine below_set ?_ GE101.out | refine below_set ?_ GE102.out) | exact HB.out))); (case cb3 => exact HC0.out); (case cb4 => exact blk_below (by (with_reducible repeat (first | refine blk_drewN ?_ _ | refine blk_drew ?_ | refine blk_alloc ?_ _)); refine blk_put (cs := #[.int .i64 0]) ?_ 0 _ rfl; (with_reducible repeat (first | refine blk_drewN ?_ _ | refine blk_drew ?_ | refine blk_alloc ?_ _)); exact BK102.out) hW_); exact fun _ _ h_ => ⟨h_.1, h_.2.below⟩); rintro e w8 ⟨v104, rfl, ho0, hb⟩; refine ⟨_, rfl, ?_⟩; have n0_ := Aside0.mk (Kd.S_lower (Kd.S_newB ho0 (g := gb102) (o := .cells #[.int .i64 (l0.length : Int)] 3 (0, 0)) (by (with_reducible repeat (first | refine blk_drewN ?_ _ | refine blk_drew ?_ | refine blk_alloc ?_ _)); refine blk_put (cs := #[.int .i64 0]) ?_ 0 _ rfl; (with_reducible repeat (first | refine blk_drewN ?_ _ | refine blk_drew ?_ | refine blk_alloc ?_ _)); exact BK102.out)) (below_size (by repeat (first | (with_reducible first | exact HB.out | apply below_alloc | apply pw_below_drewN | apply below_drew1 | refine below_set ?_ GE101.out | refine below_set ?_ GE102.out) | exact HB.out)))); have n1_ := Aside0.mk (blk_below (g := gb101) (o := .cells #[.slice A0 l0.length c0] 27 (0, 0)) (by (with_reducible repeat (first | refine blk_drewN ?_ _ | refine blk_drew ?_ | refine blk_alloc ?_ _)); refine blk_far ?_ NB101_102.out _; (with_reducible repeat (first | refine blk_drewN ?_ _ | refine blk_drew ?_ | refine blk_alloc ?_ _)); exact BK101.out) hb); have n2_ := Aside0.mk (blk_below (g := gb102) (o := .cells #[.int .i64 (l0.length : Int)] 3 (0, 0)) (by (with_reducible repeat (first | refine blk_drewN ?_ _ | refine blk_drew ?_ | refine blk_alloc ?_ _)); refine blk_put (cs := #[.int .i64 0]) ?_ 0 _ rfl; (with_reducible repeat (first | refine blk_drewN ?_ _ | refine blk_drew ?_ | refine blk_alloc ?_ _)); exact BK102.out) hb); have n3_ := Aside0.mk (below_step (by repeat (first | (with_reducible first | exact HB.out | apply below_alloc | apply pw_below_drewN | apply below_drew1 | refine below_set ?_ GE101.out | refine below_set ?_ GE102.out) | exact HB.out)) hb); clear BK101; clear BK102; clear HB; have HO105 := n0_; have BK101 := n1_; have BK102 := n2_; have HB := n3_; clear n0_ n1_ n2_ n3_; (try clear hb); (try clear hb2); (try clear hk); (try clear hi); (try clear ho0)))
  go_ret
  exact ⟨_, by first | rfl | (simp [errW_none, errW_some] <;> rfl) | (simp [*, errW_none, errW_some] <;> rfl), by (with_reducible repeat (first | apply Kd.S_alloc | apply Kd.S_drewN | apply Kd.S_drew)); exact Kd.S_mono HO105.out (fun _ hk => trivial), by repeat (first | (with_reducible first | exact HB.out | apply below_alloc | apply pw_below_drewN | apply below_drew1 | refine below_set ?_ GE101.out | refine below_set ?_ GE102.out) | exact HB.out)⟩

/-! ### impl_mirrored_1: function 131 -/
def impl_mirrored_1.f (a0 : Int) (a1 : Int) (l2_0 : List (List Int)) (a3_0 : Int) : Option (Int) := if 0 ≤ a0 then (if a0 < (l2_0.length : Int) then (if 0 ≤ (wrap64 ((wrap64 (a3_0 - 1)) - a1)) then (if (wrap64 ((wrap64 (a3_0 - 1)) - a1)) < ((rd_L1 l2_0 a0).length : Int) then (some (rd (rd_L1 l2_0 a0) (wrap64 ((wrap64 (a3_0 - 1)) - a1)))) else (none)) else (none)) else (none)) else (none)
set_option maxHeartbeats 8000000 in
set_option maxRecDepth 100000 in
theorem impl_mirrored_1.calls (a0 : Int) (a1 : Int) (B2 : Nat) (A2_0 : Option Addr) (c2_0 : Nat) (l2_0 : List (List Int)) (B3 : Nat) (a3_0 : Int) (r : Int) (w : World) (hb2 : w.heap[B2]? = some (.cells #[.slice A2_0 l2_0.length c2_0] 27 (0, 0))) (hr2_0 : Kd.C (Kd.slice 3 (Kd.int .i64)) w A2_0 l2_0.length l2_0) (hc2_0 : l2_0.length ≤ c2_0) (hb3 : w.heap[B3]? = some (.cells #[.int .i64 a3_0] 3 (0, 0))) (h : impl_mirrored_1.f a0 a1 l2_0 a3_0 = some r) :
    Calls Try.prog 131 #[.int .i64 a0, .int .i64 a1, .pointer (some ⟨B2, 0, none⟩), .pointer (some ⟨B3, 0, none⟩)] w fun e w' => e = .returned (.int .i64 r) ∧ Drawn0 w w' := by
  have HR2_0 := Aside0.mk hr2_0
  have HC2_0 := Aside0.mk hc2_0
  clear hr2_0 hc2_0
  have BK62 := Aside0.mk hb2
  clear hb2
  have BK63 := Aside0.mk hb3
  clear hb3
  have H : (if 0 ≤ a0 then (if a0 < (l2_0.length : Int) then (if 0 ≤ (wrap64 ((wrap64 (a3_0 - 1)) - a1)) then (if (wrap64 ((wrap64 (a3_0 - 1)) - a1)) < ((rd_L1 l2_0 a0).length : Int) then (some (rd (rd_L1 l2_0 a0) (wrap64 ((wrap64 (a3_0 - 1)) - a1)))) else (none)) else (none)) else (none)) else (none)) = some r := h
  clear h
  by_cases c5 : 0 ≤ a0
  · rw [if_pos c5] at H
    have c5b0 : decide (0 ≤ a0) = true := decide_eq_true c5
    clear c5
    by_cases c6 : a0 < (l2_0.length : Int)
    · rw [if_pos c6] at H
      have c6b0 : decide (a0 < (l2_0.length : Int)) = true := decide_eq_true c6
      clear c6
      obtain ⟨ji7, hji7⟩ : ∃ j_ : Int, (wrap64 ((wrap64 (a3_0 - 1)) - a1)) = j_ := ⟨_, rfl⟩
      replace H : (if 0 ≤ (ji7) then (if (ji7) < ((rd_L1 l2_0 a0).length : Int) then (some (rd (rd_L1 l2_0 a0) (ji7))) else (none)) else (none)) = some r := by first | (rw [hji7] at H; exact H) | (simp only [hji7] at H ⊢; exact H)
      have hji7w : (IntKind.i64.wrap ((wrap64 (a3_0 - 1)) - a1)) = ji7 := (i64_w _).trans hji7
      by_cases c8 : 0 ≤ (ji7)
      · rw [if_pos c8] at H
        have c8b0 : decide (0 ≤ (ji7)) = true := decide_eq_true c8
        clear c8
        by_cases c9 : (ji7) < ((rd_L1 l2_0 a0).length : Int)
        · rw [if_pos c9] at H
          have c9b0 : decide ((ji7) < ((rd_L1 l2_0 a0).length : Int)) = true := decide_eq_true c9
          clear c9
          obtain rfl := Option.some.inj H
          have hcz10_0 : w.cell? ⟨B2, 0, none⟩ = some (.slice A2_0 l2_0.length c2_0) := (blk_cell BK62.out 0).trans rfl
          have hfz10_0 := blk_frozen BK62.out 0
          have p101 : 0 ≤ (a0 : Int) := of_decide_eq_true (by first | (with_reducible assumption) | assumption)
          have q101 : a0 < (l2_0.length : Int) := of_decide_eq_true (by first | (with_reducible assumption) | assumption)
          obtain ⟨ad101, A101_0, c101_0, e101, hx101_0, hl101_0, hi101_0⟩ := at_L1 HR2_0.out a0 p101 q101
          cases e101
          have HR101_0 := Aside0.mk hi101_0
          have HC101_0 := Aside0.mk hl101_0
          clear hi101_0 hl101_0
          replace p101 := eq_true p101
          replace q101 := eq_true q101
          have hcz11_0 : w.cell? ⟨B3, 0, none⟩ = some (.int .i64 a3_0) := (blk_cell BK63.out 0).trans rfl
          have hfz11_0 := blk_frozen BK63.out 0
          have p102 : 0 ≤ ((ji7) : Int) := of_decide_eq_true (by first | (with_reducible assumption) | assumption)
          have q102 : (ji7) < ((rd_L1 l2_0 a0).length : Int) := of_decide_eq_true (by first | (with_reducible assumption) | assumption)
          obtain ⟨ad102, e102, hx102_0⟩ := Kd.at_int HR101_0.out (ji7) p102 q102
          cases e102
          replace p102 := eq_true p102
          replace q102 := eq_true q102
          go_enter Try.func131, Try.ntmps131
          go_wp2
          repeat (go_quiet (fail); try go_wp2)
          go_ret
          exact ⟨by first | rfl | (simp; done) | (simp only [← hji7] <;> (first | rfl | simp)) | (simp [*]; done), by repeat (first | exact Drawn0.refl _ | apply Drawn0.step)⟩
        · rw [if_neg c9] at H
          exact absurd H (by simp)
      · rw [if_neg c8] at H
        exact absurd H (by simp)
    · rw [if_neg c6] at H
      exact absurd H (by simp)
  · rw [if_neg c5] at H
    exact absurd H (by simp)

/-! ### impl_mirrored: function 104 -/
def impl_mirrored.f (k : Nat) (l0 : List (List Int)) : Option ((List (List Int))) := (impl_table.f k (l0.length : Int) (l0.length : Int) (fun x0_ x1_ => impl_mirrored_1.f x0_ x1_ l0 (l0.length : Int))).bind fun t103 => (some t103)
theorem impl_mirrored.mono : ∀ a0  k, LeO (impl_mirrored.f k a0) (impl_mirrored.f (k + 1) a0) := by
  intro a0 k
  unfold impl_mirrored.f
  repeat' first
      | (with_reducible refine impl_table.mono _ _ _ _ (fun _ _ => ?_) _)
      | (with_reducible exact LeO.refl _)
      | (with_reducible exact LeO.none _)
      | (with_reducible refine LeO.ite ?_ ?_)
      | (with_reducible refine LeO.bind ?_ (fun _ => ?_))
      | exact LeO.none _
      | refine LeO.ite ?_ ?_
      | refine LeO.bind ?_ (fun _ => ?_)
set_option maxHeartbeats 8000000 in
set_option maxRecDepth 100000 in
theorem impl_mirrored.calls (k : Nat) (A0 : Option Addr) (c0 : Nat) (l0 : List (List Int)) (r : List (List Int)) (w : World) (hr0 : Kd.C (Kd.slice 3 (Kd.int .i64)) w A0 l0.length l0) (hc0 : l0.length ≤ c0) (h : impl_mirrored.f k l0 = some r) :
    Calls Try.prog 104 #[.slice A0 l0.length c0] w fun e w' => ∃ v0_ : Value, e = .returned (v0_) ∧ Kd.S (Kd.slice 3 (Kd.int .i64)) 34 w' w.heap.size (fun _ => True) v0_ r ∧ Below w.heap.size w w' := by
  have HR0 := Aside0.mk hr0
  have HC0 := Aside0.mk hc0
  clear hr0 hc0
  have HB := Aside0.mk (Below.refl w.heap.size w)
  have H : ((impl_table.f k (l0.length : Int) (l0.length : Int) (fun x0_ x1_ => impl_mirrored_1.f x0_ x1_ l0 (l0.length : Int))).bind fun t103 => (some t103)) = some r := h
  clear h
  replace H := Option.bind_eq_some_iff.mp H
  obtain ⟨t103, A20, H⟩ := H
  replace H : (some t103) = some r := H
  have A2 := Aside0.mk A20
  clear A20
  obtain rfl := Option.some.inj H
  go_enter Try.func104, Try.ntmps104
  go_wp2_with (first | ((with_reducible refine gate_dst (N := 1) rfl ?_); refine box_event ?hg (N := 1) ?hd (cs := #[.slice A0 l0.length c0]) (t := 27) ?hr ?_; (case hd => rfl); (case hg => rfl); (case hr => first | (go_simp; done) | (go_simp; rfl)); intro gb101 hg w3 hbox hb; have n0_ := Aside0.mk (below_step (by repeat (first | (with_reducible first | exact HB.out | apply below_alloc | apply pw_below_drewN | apply below_drew1) | exact HB.out)) hb); have n1_ := Aside0.mk (hbox); have n2_ := Aside0.mk ((by rw [hg]; exact (below_size (by repeat (first | (with_reducible first | exact HB.out | apply below_alloc | apply pw_below_drewN | apply below_drew1) | exact HB.out))) : w.heap.size ≤ gb101)); have n3_ := Aside0.mk ((by rw [hg]; exact (below_size (by repeat (first | (with_reducible first | exact HB.out | apply below_alloc | apply pw_below_drewN | apply below_drew1) | exact HB.out))) : w.heap.size ≤ gb101)); clear HB; have HB := n0_; have BK101 := n1_; have GW101 := n2_; have GE101 := n3_; clear n0_ n1_ n2_ n3_; clear hb hbox hg; have hcz4_0 : w3.cell? ⟨gb101, 0, none⟩ = some (.slice A0 l0.length c0) := (blk_cell BK101.out 0).trans rfl; have hfz4_0 := blk_frozen BK101.out 0) | ((with_reducible refine gate_dst (N := 3) rfl ?_); refine box_event ?hg (N := 3) ?hd (cs := #[.int .i64 0]) (t := 3) ?hr ?_; (case hd => rfl); (case hg => rfl); (case hr => first | (go_simp; done) | (go_simp; rfl)); intro gb102 hg w5 hbox hb; have n0_ := Aside0.mk (blk_below (g := gb101) (o := .cells #[.slice A0 l0.length c0] 27 (0, 0)) (by (with_reducible repeat (first | refine blk_drewN ?_ _ | refine blk_drew ?_ | refine blk_alloc ?_ _)); exact BK101.out) hb); have n1_ := Aside0.mk (below_step (by repeat (first | (with_reducible first | exact HB.out | apply below_alloc | apply pw_below_drewN | apply below_drew1 | refine below_set ?_ GE101.out) | exact HB.out)) hb); have n2_ := Aside0.mk (hbox); have n3_ := Aside0.mk ((by rw [hg]; exact (below_size (by repeat (first | (with_reducible first | exact HB.out | apply below_alloc | apply pw_below_drewN | apply below_drew1 | refine below_set ?_ GE101.out) | exact HB.out))) : w.heap.size ≤ gb102)); have n4_ := Aside0.mk ((by rw [hg]; exact (below_size (by repeat (first | (with_reducible first | exact HB.out | apply below_alloc | apply pw_below_drewN | apply below_drew1 | refine below_set ?_ GE101.out) | exact HB.out))) : w.heap.size ≤ gb102)); have n5_ := Aside0.mk ((by rw [hg]; exact Nat.ne_of_lt (blk_lt (g := gb101) (o := .cells #[.slice A0 l0.length c0] 27 (0, 0)) (by (with_reducible repeat (first | refine blk_drewN ?_ _ | refine blk_drew ?_ | refine blk_alloc ?_ _)); exact BK101.out)) : gb101 ≠ gb102)); have n6_ := Aside0.mk ((by rw [hg]; exact Nat.ne_of_gt (blk_lt (g := gb101) (o := .cells #[.slice A0 l0.length c0] 27 (0, 0)) (by (with_reducible repeat (first | refine blk_drewN ?_ _ | refine blk_drew ?_ | refine blk_alloc ?_ _)); exact BK101.out)) : gb102 ≠ gb101)); clear BK101; clear HB; have BK101 := n0_; have HB := n1_; have BK102 := n2_; have GW102 := n3_; have GE102 := n4_; have NB101_102 := n5_; have NB102_101 := n6_; clear n0_ n1_ n2_ n3_ n4_ n5_ n6_; clear hb hbox hg; have hnb6 := NB102_101.out; have hnc6 := NB101_102.out; have hcz7_0 : w5.cell? ⟨gb102, 0, none⟩ = some (.int .i64 0) := (blk_cell BK102.out 0).trans rfl; have hfz7_0 := blk_frozen BK102.out 0) | ((with_reducible refine gate_callee (f := 76) rfl ?_); refine goesL_ (some 9) rfl rfl Try.func76 (by kernel_rfl) rfl #[.int .i64 (l0.length : Int), .int .i64 (l0.length : Int), .func (.func 131) #[] #[.pointer (some ⟨gb101, 0, none⟩), .pointer (some ⟨gb102, 0, none⟩)]] rfl (by (try simp only [List.map_toArray, List.map_cons, List.map_nil]); first | done | rfl | (simp only [List.length_drop, List.length_take]; rfl)) ?_; (with_reducible refine (impl_table.calls k (l0.length : Int) (l0.length : Int) _ _ (fun x0_ x1_ => impl_mirrored_1.f x0_ x1_ l0 (l0.length : Int)) t103 _ ?side1 A2.out).mono ?_); (case side1 => refine ⟨enters_of Try.func131 (by kernel_rfl) rfl, fun W_ hW_ x0_ v0_ hK0_ x1_ v1_ hK1_ r_ hr_ => ?_⟩; cases (show v0_ = .int .i64 x0_ from by simpa [Kd.int, Kd.bool, Kd.string, Kd.scalar] using hK0_); cases (show v1_ = .int .i64 x1_ from by simpa [Kd.int, Kd.bool, Kd.string, Kd.scalar] using hK1_); refine (impl_mirrored_1.calls x0_ x1_ _ A0 c0 l0 _ (l0.length : Int) r_ W_ ?cb1 ?cb2 ?cb3 ?cb4 hr_).mono ?_; (case cb1 => exact blk_below (by (with_reducible repeat (first | refine blk_drewN ?_ _ | refine blk_drew ?_ | refine blk_alloc ?_ _)); refine blk_far ?_ NB101_102.out _; (with_reducible repeat (first | refine blk_drewN ?_ _ | refine blk_drew ?_ | refine blk_alloc ?_ _)); exact BK101.out) hW_); (case cb2 => refine Kd.C_below ?_ hW_; exact Kd.C_below HR0.out (by repeat (first | (with_reducible first | exact HB.out | apply below_alloc | apply pw_below_drewN | apply below_drew1 | refine below_set ?_ GE101.out | refine below_set ?_ GE102.out) | exact HB.out))); (case cb3 => exact HC0.out); (case cb4 => exact blk_below (by (with_reducible repeat (first | refine blk_drewN ?_ _ | refine blk_drew ?_ | refine blk_alloc ?_ _)); refine blk_put (cs := #[.int .i64 0]) ?_ 0 _ rfl; (with_reducible repeat (first | refine blk_drewN ?_ _ | refine blk_drew ?_ | refine blk_alloc ?_ _)); exact BK102.out) hW_); exact fun _ _ h_ => ⟨h_.1, h_.2.below⟩); rintro e w8 ⟨v104, rfl, ho0, hb⟩; refine ⟨_, rfl, ?_⟩; have n0_ := Aside0.mk (Kd.S_lower (Kd.S_newB ho0 (g := gb102) (o := .cells #[.int .i64 (l0.length : Int)] 3 (0, 0)) (by (with_reducible repeat (first | refine blk_drewN ?_ _ | refine blk_drew ?_ | refine blk_alloc ?_ _)); refine blk_put (cs := #[.int .i64 0]) ?_ 0 _ rfl; (with_reducible repeat (first | refine blk_drewN ?_ _ | refine blk_drew ?_ | refine blk_alloc ?_ _)); exact BK102.out)) (below_size (by repeat (first | (with_reducible first | exact HB.out | apply below_alloc | apply pw_below_drewN | apply below_drew1 | refine below_set ?_ GE101.out | refine below_set ?_ GE102.out) | exact HB.out)))); have n1_ := Aside0.mk (blk_below (g := gb101) (o := .cells #[.slice A0 l0.length c0] 27 (0, 0)) (by (with_reducible repeat (first | refine blk_drewN ?_ _ | refine blk_drew ?_ | refine blk_alloc ?_ _)); refine blk_far ?_ NB101_102.out _; (with_reducible repeat (first | refine blk_drewN ?_ _ | refine blk_drew ?_ | refine blk_alloc ?_ _)); exact BK101.out) hb); have n2_ := Aside0.mk (blk_below (g := gb102) (o := .cells #[.int .i64 (l0.length : Int)] 3 (0, 0)) (by (with_reducible repeat (first | refine blk_drewN ?_ _ | refine blk_drew ?_ | refine blk_alloc ?_ _)); refine blk_put (cs := #[.int .i64 0]) ?_ 0 _ rfl; (with_reducible repeat (first | refine blk_drewN ?_ _ | refine blk_drew ?_ | refine blk_alloc ?_ _)); exact BK102.out) hb); have n3_ := Aside0.mk (below_step (by repeat (first | (with_reducible first | exact HB.out | apply below_alloc | apply pw_below_drewN | apply below_drew1 | refine below_set ?_ GE101.out | refine below_set ?_ GE102.out) | exact HB.out)) hb); clear BK101; clear BK102; clear HB; have HO105 := n0_; have BK101 := n1_; have BK102 := n2_; have HB := n3_; clear n0_ n1_ n2_ n3_; (try clear hb); (try clear hb2); (try clear hk); (try clear hi); (try clear ho0)))
  go_ret
  exact ⟨_, by first | rfl | (simp [errW_none, errW_some] <;> rfl) | (simp [*, errW_none, errW_some] <;> rfl), by (with_reducible repeat (first | apply Kd.S_alloc | apply Kd.S_drewN | apply Kd.S_drew)); exact Kd.S_mono HO105.out (fun _ hk => trivial), by repeat (first | (with_reducible first | exact HB.out | apply below_alloc | apply pw_below_drewN | apply below_drew1 | refine below_set ?_ GE101.out | refine below_set ?_ GE102.out) | exact HB.out)⟩

/-! ### impl_eight: function 62 -/
mutual
def impl_eight.l0 : Nat → List (List Int) → List (List (List Int)) → Int → Option ((List (List (List Int))))
  | 0, _, _, _ => none
  | k + 1, x0, x3, x6 => if x6 < 4 then (if x3.length < 5864062014805 then ((impl_turned.f k x0).bind fun t107 => (impl_eight.l0 k t107 (x3 ++ [x0]) (wrap64 (x6 + 1)))) else (none)) else (impl_eight.l1 k x3 0)
def impl_eight.l1 : Nat → List (List (List Int)) → Int → Option ((List (List (List Int))))
  | 0, _, _ => none
  | k + 1, x3, x15 => if x15 < 4 then (if 0 ≤ x15 then (if x15 < (x3.length : Int) then ((impl_mirrored.f k (rd_L2 x3 x15)).bind fun t111 => (if x3.length < 5864062014805 then (impl_eight.l1 k (x3 ++ [t111]) (wrap64 (x15 + 1))) else (none))) else (none)) else (none)) else (some x3)
end
def impl_eight.f (k : Nat) (l0 : List (List Int)) : Option ((List (List (List Int)))) := impl_eight.l0 k l0 (([] : List (List (List Int)))) 0
theorem impl_eight.mono_l : ∀ k, (∀ y0 y1 y2, LeO (impl_eight.l0 k y0 y1 y2) (impl_eight.l0 (k + 1) y0 y1 y2)) ∧ (∀ y0 y1, LeO (impl_eight.l1 k y0 y1) (impl_eight.l1 (k + 1) y0 y1))
  | 0 => ⟨fun _ _ _ r h => by simp [impl_eight.l0] at h, fun _ _ r h => by simp [impl_eight.l1] at h⟩
  | k + 1 => by
    obtain ⟨ih0, ih1⟩ := impl_eight.mono_l k
    refine ⟨?_, ?_⟩
    · intro y0 y1 y2
      unfold impl_eight.l0
      repeat' first
      | (with_reducible exact ih0 _ _ _)
      | (with_reducible exact ih1 _ _)
      | (with_reducible exact impl_mirrored.mono _ _)
      | (with_reducible exact impl_turned.mono _ _)
      | (with_reducible exact LeO.refl _)
      | (with_reducible exact LeO.none _)
      | (with_reducible refine LeO.ite ?_ ?_)
      | (with_reducible refine LeO.bind ?_ (fun _ => ?_))
      | exact ih0 _ _ _
      | exact ih1 _ _
      | exact impl_mirrored.mono _ _
      | exact impl_turned.mono _ _
      | exact LeO.none _
      | refine LeO.ite ?_ ?_
      | refine LeO.bind ?_ (fun _ => ?_)
    · intro y0 y1
      unfold impl_eight.l1
      repeat' first
      | (with_reducible exact ih0 _ _ _)
      | (with_reducible exact ih1 _ _)
      | (with_reducible exact impl_mirrored.mono _ _)
      | (with_reducible exact impl_turned.mono _ _)
      | (with_reducible exact LeO.refl _)
      | (with_reducible exact LeO.none _)
      | (with_reducible refine LeO.ite ?_ ?_)
      | (with_reducible refine LeO.bind ?_ (fun _ => ?_))
      | exact ih0 _ _ _
      | exact ih1 _ _
      | exact impl_mirrored.mono _ _
      | exact impl_turned.mono _ _
      | exact LeO.none _
      | refine LeO.ite ?_ ?_
      | refine LeO.bind ?_ (fun _ => ?_)
theorem impl_eight.mono : ∀ a0  k, LeO (impl_eight.f k a0) (impl_eight.f (k + 1) a0) := by
  intro a0 k
  obtain ⟨ih0, ih1⟩ := impl_eight.mono_l k
  unfold impl_eight.f
  repeat' first
      | (with_reducible exact ih0 _ _ _)
      | (with_reducible exact ih1 _ _)
      | (with_reducible exact impl_mirrored.mono _ _)
      | (with_reducible exact impl_turned.mono _ _)
      | (with_reducible exact LeO.refl _)
      | (with_reducible exact LeO.none _)
      | (with_reducible refine LeO.ite ?_ ?_)
      | (with_reducible refine LeO.bind ?_ (fun _ => ?_))
      | exact ih0 _ _ _
      | exact ih1 _ _
      | exact impl_mirrored.mono _ _
      | exact impl_turned.mono _ _
      | exact LeO.none _
      | refine LeO.ite ?_ ?_
      | refine LeO.bind ?_ (fun _ => ?_)
set_option maxHeartbeats 8000000 in
set_option maxRecDepth 100000 in
theorem impl_eight.calls (k : Nat) (P0_ : Nat → Prop) (A0 : Option Addr) (c0 : Nat) (l0 : List (List Int)) (r : List (List (List Int))) (w : World) (hs0 : Kd.V (Kd.slice 3 (Kd.int .i64)) 34 w w.heap.size (fun k_ => P0_ k_) (.slice A0 l0.length c0) l0) (h : impl_eight.f k l0 = some r) :
    Calls Try.prog 62 #[.slice A0 l0.length c0] w fun e w' => ∃ v0_ : Value, e = .returned (v0_) ∧ Kd.N (Kd.slice 34 (Kd.slice 3 (Kd.int .i64))) 27 w' w.heap.size (fun k_ => (P0_ k_ ∨ w.heap.size ≤ k_)) v0_ r ∧ Below w.heap.size w w' := by
  have HO0 := Aside0.mk (show Kd.V (Kd.slice 3 (Kd.int .i64)) 34 w w.heap.size (fun k_ => (P0_ k_ ∨ w.heap.size ≤ k_)) (.slice A0 l0.length c0) l0 from Kd.V_mono hs0 (fun k_ hk => .inl hk))
  have HB := Aside0.mk (Below.refl w.heap.size w)
  have H : (impl_eight.l0 k l0 (([] : List (List (List Int)))) 0) = some r := h
  clear h
  obtain ⟨y101, hy101⟩ : ∃ y_ : List (List (List Int)), y_ = (([] : List (List (List Int)))) := ⟨_, rfl⟩
  replace H : (impl_eight.l0 k l0 y101 0) = some r := by first | (rw [hy101]; with_reducible exact H) | (have H2_ := (Option.bind_some _ _).symm.trans H; rw [hy101]; with_reducible exact H2_) | (have H2_ := (Option.bind_some _ _).symm.trans H; with_reducible exact H2_) | with_reducible exact H | (rw [hy101]; exact H) | exact H
  have Ny101 := Aside0.mk hy101
  clear hy101
  have H' := Aside0.mk H
  clear H
  go_enter Try.func62, Try.ntmps62
  go_wp2_with (first | ((with_reducible refine gate_dst (N := 5) rfl ?_); refine Kd.N_lit (Kd.slice 34 (Kd.slice 3 (Kd.int .i64))) _ 27 ?hg (N' := 5) ?hd (xs := ([] : List (List (List Int)))) (inner := []) (ok := (fun k_ => (P0_ k_ ∨ w.heap.size ≤ k_))) (okp := (fun k_ => (P0_ k_ ∨ w.heap.size ≤ k_))) ?hr ?hp (fun _ hk => hk) ((show ∀ k_, w.heap.size ≤ k_ → (fun k_ => (P0_ k_ ∨ w.heap.size ≤ k_)) k_ from fun k_ hk => (.inr (Nat.le_trans (below_size (by repeat (first | (with_reducible first | exact HB.out | apply below_alloc | apply pw_below_drewN | apply below_drew1) | exact HB.out))) hk))) _ (Nat.le_refl _)) (Below.refl _ _) (Nat.le_refl _) (by simp) ?_; (case hd => rfl); (case hg => rfl); (case hr => first | (go_simp; done) | (go_simp; rfl)); (case hp => exact (Reps.none _ _)); intro v102 w2 ho3 hb hg_ hnew_; clear hg_ hnew_; (first | rw [← Ny101.out] at ho3 | (simp only [Int.reduceToNat] at ho3; rw [← Ny101.out] at ho3)); have n0_ := Aside0.mk (Kd.V_elder' (by (with_reducible repeat (first | apply Kd.V_alloc | apply Kd.V_drewN | apply Kd.V_drew)); exact HO0.out) (Kd.N_base ho3) hb); have n1_ := Aside0.mk (Kd.N_lower ho3 (below_size (by repeat (first | (with_reducible first | exact HB.out | apply below_alloc | apply pw_below_drewN | apply below_drew1) | exact HB.out)))); have n2_ := Aside0.mk (below_step (by repeat (first | (with_reducible first | exact HB.out | apply below_alloc | apply pw_below_drewN | apply below_drew1) | exact HB.out)) hb); clear HO0; clear HB; have HO0 := n0_; have HO103 := n1_; have HB := n2_; clear n0_ n1_ n2_; clear hb ho3))
  go_loopg [0, 3, 6] k (fun kq v0 v3 v6 w' => ∃ (x0_1 : List (List Int)) (x3_1 : List (List (List Int))) (x6_1 : Int), v6 = .int .i64 x6_1 ∧ Aside0 (impl_eight.l0 kq x0_1 x3_1 x6_1 = some r) ∧ Aside0 (kq ≤ k) ∧ Aside0 (Kd.V (Kd.slice 3 (Kd.int .i64)) 34 w' w.heap.size (fun k_ => (P0_ k_ ∨ w.heap.size ≤ k_) ∧ some k_ ≠ (v3 : Value).ownBlock) v0 x0_1) ∧ Aside0 (Kd.N (Kd.slice 34 (Kd.slice 3 (Kd.int .i64))) 27 w' w.heap.size (fun k_ => (P0_ k_ ∨ w.heap.size ≤ k_)) v3 x3_1) ∧ Aside0 (Below w.heap.size w w'))
  case atStart => exact ⟨(l0), (y101), (0), (by first | rfl | (simp; done) | (simp [*]; done)), H', ⟨Nat.le_refl _⟩, ⟨by (with_reducible repeat (first | apply Kd.V_alloc | apply Kd.V_drewN | apply Kd.V_drew)); exact HO0.out⟩, ⟨by (with_reducible repeat (first | apply Kd.N_alloc | apply Kd.N_drewN | apply Kd.N_drew)); exact HO103.out⟩, ⟨by repeat (first | (with_reducible first | exact HB.out | apply below_alloc | apply pw_below_drewN | apply below_drew1) | exact HB.out)⟩⟩
  case round =>
    clear H'
    try clear p2
    obtain ⟨x0_1, x3_1, x6_1, rfl, HA, HK1, HO_0, HO_3, HB⟩ := hrel
    cases gk with
    | zero => exact absurd HA.out (by simp [impl_eight.l0])
    | succ k1 =>
      have H := HA.out
      clear HA
      simp only [impl_eight.l0] at H
      by_cases c4 : x6_1 < 4
      · rw [if_pos c4] at H
        have c4b0 : decide (x6_1 < 4) = true := decide_eq_true c4
        clear c4
        by_cases c5 : x3_1.length < 5864062014805
        · rw [if_pos c5] at H
          have LMc5 := Aside0.mk c5
          clear c5
          obtain ⟨y104, hy104⟩ : ∃ y_ : List (List (List Int)), y_ = (x3_1 ++ [x0_1]) := ⟨_, rfl⟩
          replace H : ((impl_turned.f k1 x0_1).bind fun t107 => (impl_eight.l0 k1 t107 y104 (wrap64 (x6_1 + 1)))) = some r := by first | (rw [hy104]; with_reducible exact H) | (have H2_ := (Option.bind_some _ _).symm.trans H; rw [hy104]; with_reducible exact H2_) | (have H2_ := (Option.bind_some _ _).symm.trans H; with_reducible exact H2_) | with_reducible exact H | (rw [hy104]; exact H) | exact H
          have Ny104 := Aside0.mk hy104
          clear hy104
          replace H := Option.bind_eq_some_iff.mp H
          obtain ⟨t107, A60, H⟩ := H
          replace H : (impl_eight.l0 k1 t107 y104 (wrap64 (x6_1 + 1))) = some r := H
          have A6 := Aside0.mk A60
          clear A60
          have H' := Aside0.mk H
          clear H
          obtain ⟨Ao8, co8, eo8⟩ := Kd.V_slice HO_0.out
          subst eo8
          go_wp2_with (first | ((with_reducible refine gate_builtin (b := .append) (xs := #[.tmp 8, .tmp 10]) rfl ?_); at_builtin; refine Kd.N_append (Kd.slice 34 (Kd.slice 3 (Kd.int .i64))) (w0 := w) w.heap.size rfl (.tmp 8) (.tmp 10) 42 27 (.slice none 0 0) 24 rfl Try.underlying42 info27 rfl (by decide) (by omega) u3 x3_1 x0_1 [.slice Ao8 x0_1.length co8] (fun k_ => (P0_ k_ ∨ w.heap.size ≤ k_)) (fun k_ => ((fun k_ => (P0_ k_ ∨ w.heap.size ≤ k_))) k_ ∧ some k_ ≠ (u3 : Value).ownBlock) rfl rfl ?aP (fun _ hk => hk) ?aF ?aO ?aB ?aS ?aL ?_; (case aP => exact (Kd.FK_slice_mk (Kd.V_reads' (Kd.V_mono (ok' := (fun k_ => ((fun k_ => (P0_ k_ ∨ w.heap.size ≤ k_))) k_ ∧ some k_ ≠ (u3 : Value).ownBlock)) (HO_0.out) (fun k_ hk => ⟨hk.1, hk.2⟩))).2.1 (Kd.V_F (Kd.V_mono (ok' := (fun k_ => ((fun k_ => (P0_ k_ ∨ w.heap.size ≤ k_))) k_ ∧ some k_ ≠ (u3 : Value).ownBlock)) (HO_0.out) (fun k_ hk => ⟨hk.1, hk.2⟩))))); (case aB => exact (by repeat (first | (with_reducible first | exact HB.out | apply below_alloc | apply pw_below_drewN | apply below_drew1) | exact HB.out))); (case aF => exact (fun k_ hk => (.inr (Nat.le_trans (below_size (by repeat (first | (with_reducible first | exact HB.out | apply below_alloc | apply pw_below_drewN | apply below_drew1) | exact HB.out))) hk)))); (case aO => exact (by (with_reducible repeat (first | apply Kd.N_alloc | apply Kd.N_drewN | apply Kd.N_drew)); exact HO_3.out)); (case aS => exact (below_size (by repeat (first | (with_reducible first | exact HB.out | apply below_alloc | apply pw_below_drewN | apply below_drew1) | exact HB.out)))); (case aL => have := LMc5.out; omega); intro v105 w7 ho hb hg hat; rw [← Ny104.out] at ho; have n0_ := Aside0.mk (Kd.V_afterv (ok := (fun k_ => (P0_ k_ ∨ w.heap.size ≤ k_))) (by (with_reducible repeat (first | apply Kd.V_alloc | apply Kd.V_drewN | apply Kd.V_drew)); exact HO_0.out) hg hat); have n1_ := Aside0.mk (hb); have n2_ := Aside0.mk (ho); clear HO_0; clear HB; clear HO_3; have HO_0 := n0_; have HB := n1_; have HO106 := n2_; clear n0_ n1_ n2_; clear ho hb hg hat) | ((with_reducible refine gate_callee (f := 103) rfl ?_); refine goesL_ (some 13) rfl rfl Try.func103 (by kernel_rfl) rfl #[.slice Ao8 x0_1.length co8] rfl (by (try simp only [List.map_toArray, List.map_cons, List.map_nil]); first | done | rfl | (simp only [List.length_drop, List.length_take]; rfl)) ?_; (with_reducible refine (impl_turned.calls k1 _ _ x0_1 t107 _ ?side1 ?side2 A6.out).mono ?_); (case side1 => repeat (first | exact (Kd.V_reads' HO_0.out).2.2 | (with_reducible refine Kd.C_alloc ?_ _) | (with_reducible refine Kd.C_drewN ?_ _) | (with_reducible refine Kd.C_drew ?_))); (case side2 => exact (Kd.V_reads' HO_0.out).2.1); rintro e w9 ⟨v108, rfl, ho0, hb⟩; refine ⟨_, rfl, ?_⟩; have n0_ := Aside0.mk (Kd.V_elder' (by (with_reducible repeat (first | apply Kd.V_alloc | apply Kd.V_drewN | apply Kd.V_drew)); exact HO_0.out) (Kd.S_base ho0) hb); have n1_ := Aside0.mk (Kd.N_elder' (by (with_reducible repeat (first | apply Kd.N_alloc | apply Kd.N_drewN | apply Kd.N_drew)); exact HO106.out) (Kd.S_base ho0) hb); have n2_ := Aside0.mk (Kd.N_lower (Kd.N_mono (ok' := fun k_ => (P0_ k_ ∨ w.heap.size ≤ k_) ∧ some k_ ≠ (v105 : Value).ownBlock) (Kd.S_N (Kd.S_bound ho0)) (fun k_ hk_ => ⟨(.inr (Nat.le_trans (below_size (by repeat (first | (with_reducible first | exact HB.out | apply below_alloc | apply pw_below_drewN | apply below_drew1) | exact HB.out))) hk_.2.1)), (Kd.fresh' (Kd.N_lt (by (with_reducible repeat (first | apply Kd.N_alloc | apply Kd.N_drewN | apply Kd.N_drew)); exact HO106.out)) k_ hk_.2.1)⟩)) (below_size (by repeat (first | (with_reducible first | exact HB.out | apply below_alloc | apply pw_below_drewN | apply below_drew1) | exact HB.out)))); have n3_ := Aside0.mk (below_step (by repeat (first | (with_reducible first | exact HB.out | apply below_alloc | apply pw_below_drewN | apply below_drew1) | exact HB.out)) hb); clear HO_0; clear HO106; clear HB; have HO_0 := n0_; have HO106 := n1_; have HO109 := n2_; have HB := n3_; clear n0_ n1_ n2_ n3_; (try clear hb); (try clear hb2); (try clear hk); (try clear hi); (try clear ho0)))
          go_roundg k1
          case measure => have := HK1.out; omega
          case rel => exact ⟨(t107), (y104), (wrap64 (x6_1 + 1)), (by first | rfl | (simp; done) | (simp [*]; done)), H', ⟨by have := HK1.out; omega⟩, ⟨Kd.N_V (by (with_reducible repeat (first | apply Kd.N_alloc | apply Kd.N_drewN | apply Kd.N_drew)); exact HO109.out)⟩, ⟨by (with_reducible repeat (first | apply Kd.N_alloc | apply Kd.N_drewN | apply Kd.N_drew)); exact Kd.N_mono HO106.out (fun _ hk => hk.1)⟩, ⟨by repeat (first | (with_reducible first | exact HB.out | apply below_alloc | apply pw_below_drewN | apply below_drew1) | exact HB.out)⟩⟩
        · rw [if_neg c5] at H
          exact absurd H (by simp)
      · rw [if_neg c4] at H
        have c4b0 : decide (x6_1 < 4) = false := decide_eq_false c4
        clear c4
        have H' := Aside0.mk H
        clear H
        go_wp2
        go_loopg [3, 15] k1 (fun kq v3 v15 w' => ∃ (x3_2 : List (List (List Int))) (x15_2 : Int), v15 = .int .i64 x15_2 ∧ Aside0 (impl_eight.l1 kq x3_2 x15_2 = some r) ∧ Aside0 (kq ≤ k1) ∧ Aside0 (Kd.N (Kd.slice 34 (Kd.slice 3 (Kd.int .i64))) 27 w' w.heap.size (fun k_ => (P0_ k_ ∨ w.heap.size ≤ k_)) v3 x3_2) ∧ Aside0 (Below w.heap.size w w'))
        case atStart => exact ⟨(x3_1), (0), (by first | rfl | (simp; done) | (simp [*]; done)), H', ⟨Nat.le_refl _⟩, ⟨by (with_reducible repeat (first | apply Kd.N_alloc | apply Kd.N_drewN | apply Kd.N_drew)); exact HO_3.out⟩, ⟨by repeat (first | (with_reducible first | exact HB.out | apply below_alloc | apply pw_below_drewN | apply below_drew1) | exact HB.out)⟩⟩
        case round =>
          clear H'
          try clear c1
          try clear p2
          try clear c4
          try clear c4b0
          try clear c5
          try clear c6
          try clear p6
          try clear p2
          obtain ⟨x3_2, x15_2, rfl, HA, HK2, HO_3, HB⟩ := hrel
          cases gk with
          | zero => exact absurd HA.out (by simp [impl_eight.l1])
          | succ k2 =>
            have H := HA.out
            clear HA
            simp only [impl_eight.l1] at H
            by_cases c10 : x15_2 < 4
            · rw [if_pos c10] at H
              have c10b0 : decide (x15_2 < 4) = true := decide_eq_true c10
              clear c10
              by_cases c11 : 0 ≤ x15_2
              · rw [if_pos c11] at H
                have c11b0 : decide (0 ≤ x15_2) = true := decide_eq_true c11
                clear c11
                by_cases c12 : x15_2 < (x3_2.length : Int)
                · rw [if_pos c12] at H
                  have c12b0 : decide (x15_2 < (x3_2.length : Int)) = true := decide_eq_true c12
                  clear c12
                  replace H := Option.bind_eq_some_iff.mp H
                  obtain ⟨t111, A130, H⟩ := H
                  replace H : (if x3_2.length < 5864062014805 then (impl_eight.l1 k2 (x3_2 ++ [t111]) (wrap64 (x15_2 + 1))) else (none)) = some r := H
                  have A13 := Aside0.mk A130
                  clear A130
                  by_cases c14 : x3_2.length < 5864062014805
                  · rw [if_pos c14] at H
                    have LMc14 := Aside0.mk c14
                    clear c14
                    obtain ⟨y114, hy114⟩ : ∃ y_ : List (List (List Int)), y_ = (x3_2 ++ [t111]) := ⟨_, rfl⟩
                    replace H : (impl_eight.l1 k2 y114 (wrap64 (x15_2 + 1))) = some r := by first | (rw [hy114]; with_reducible exact H) | (have H2_ := (Option.bind_some _ _).symm.trans H; rw [hy114]; with_reducible exact H2_) | (have H2_ := (Option.bind_some _ _).symm.trans H; with_reducible exact H2_) | with_reducible exact H | (rw [hy114]; exact H) | exact H
                    have Ny114 := Aside0.mk hy114
                    clear hy114
                    have H' := Aside0.mk H
                    clear H
                    obtain ⟨Ao15, co15, eo15⟩ := Kd.N_slice HO_3.out
                    subst eo15
                    have p110 : 0 ≤ (x15_2 : Int) := of_decide_eq_true (by first | (with_reducible assumption) | assumption)
                    have q110 : x15_2 < (x3_2.length : Int) := of_decide_eq_true (by first | (with_reducible assumption) | assumption)
                    obtain ⟨ad110, A110_0, c110_0, e110, hx110_0, hl110_0, hi110_0⟩ := at_L2 (Kd.N_reads' HO_3.out).2.2 x15_2 p110 q110
                    cases e110
                    obtain ⟨ce110, hce110, hMe110, hcc110⟩ := Kd.N_get HO_3.out [] x15_2 p110 (by first | exact q110 | exact of_decide_eq_true (by first | (with_reducible assumption) | assumption) | (have e_ := (Kd.N_reads' HO_3.out).1; omega))
                    obtain ⟨ua110_0, uc110_0, rfl, ul110_0, ge110_0⟩ := Kd.FK_slice_open hMe110
                    have hv110_0 := hcc110 0 _ rfl
                    rw [Nat.add_zero, show ((Kd.slice 34 (Kd.slice 3 (Kd.int .i64)))).sz = 1 from rfl, Nat.mul_one] at hv110_0
                    replace hv110_0 := Option.some.inj (hv110_0.symm.trans hx110_0)
                    injection hv110_0 with hva_ hvn_ hvc_
                    rw [hva_] at ge110_0
                    rw [hvc_] at ul110_0
                    have HL110_0 := Aside0.mk (show Kd.V (Kd.slice 3 (Kd.int .i64)) 34 _ w.heap.size _ _ (rd_L2 x3_2 x15_2) from Kd.V_mk ul110_0 ge110_0)
                    clear hva_ hvn_ hvc_ ge110_0 ul110_0
                    clear hcc110 hce110
                    have HR110_0 := Aside0.mk hi110_0
                    have HC110_0 := Aside0.mk hl110_0
                    clear hi110_0 hl110_0
                    replace p110 := eq_true p110
                    replace q110 := eq_true q110
                    go_wp2_with (first | ((with_reducible refine gate_callee (f := 104) rfl ?_); refine goesL_ (some 23) rfl rfl Try.func104 (by kernel_rfl) rfl #[.slice A110_0 (rd_L2 x3_2 x15_2).length c110_0] rfl (by (try simp only [List.map_toArray, List.map_cons, List.map_nil]); first | done | rfl | (simp only [List.length_drop, List.length_take]; rfl)) ?_; (with_reducible refine (impl_mirrored.calls k2 _ _ (rd_L2 x3_2 x15_2) t111 _ ?side1 ?side2 A13.out).mono ?_); (case side1 => repeat (first | exact (by repeat (first | (with_reducible exact HR110_0.out) | (with_reducible refine Kd.C_alloc ?_ _) | (with_reducible refine Kd.C_drewN ?_ _) | (with_reducible refine Kd.C_drew ?_) | exact HR110_0.out)) | (with_reducible refine Kd.C_alloc ?_ _) | (with_reducible refine Kd.C_drewN ?_ _) | (with_reducible refine Kd.C_drew ?_))); (case side2 => exact HC110_0.out); rintro e w16 ⟨v112, rfl, ho0, hb⟩; refine ⟨_, rfl, ?_⟩; have n0_ := Aside0.mk (Kd.N_elder' (by (with_reducible repeat (first | apply Kd.N_alloc | apply Kd.N_drewN | apply Kd.N_drew)); exact HO_3.out) (Kd.S_base ho0) hb); have n1_ := Aside0.mk (Kd.V_elder' (by (with_reducible repeat (first | apply Kd.V_alloc | apply Kd.V_drewN | apply Kd.V_drew)); exact HL110_0.out) (Kd.S_base ho0) hb); have n2_ := Aside0.mk (Kd.N_lower (Kd.N_mono (ok' := fun k_ => (P0_ k_ ∨ w.heap.size ≤ k_) ∧ some k_ ≠ (.slice (some ad110) x3_2.length co15 : Value).ownBlock) (Kd.S_N (Kd.S_bound ho0)) (fun k_ hk_ => ⟨(.inr (Nat.le_trans (below_size (by repeat (first | (with_reducible first | exact HB.out | apply below_alloc | apply pw_below_drewN | apply below_drew1) | exact HB.out))) hk_.2.1)), (Kd.fresh' (Kd.N_lt (by (with_reducible repeat (first | apply Kd.N_alloc | apply Kd.N_drewN | apply Kd.N_drew)); exact HO_3.out)) k_ hk_.2.1)⟩)) (below_size (by repeat (first | (with_reducible first | exact HB.out | apply below_alloc | apply pw_below_drewN | apply below_drew1) | exact HB.out)))); have n3_ := Aside0.mk (Kd.C_below (by repeat (first | (with_reducible exact HR110_0.out) | (with_reducible refine Kd.C_alloc ?_ _) | (with_reducible refine Kd.C_drewN ?_ _) | (with_reducible refine Kd.C_drew ?_) | exact HR110_0.out)) hb); have n4_ := Aside0.mk (below_step (by repeat (first | (with_reducible first | exact HB.out | apply below_alloc | apply pw_below_drewN | apply below_drew1) | exact HB.out)) hb); clear HO_3; clear HL110_0; clear HR110_0; clear HB; have HO_3 := n0_; have HL110_0 := n1_; have HO113 := n2_; have HR110_0 := n3_; have HB := n4_; clear n0_ n1_ n2_ n3_ n4_; (try clear hb); (try clear hb2); (try clear hk); (try clear hi); (try clear ho0); obtain ⟨Ao18, co18, eo18⟩ := Kd.N_slice HO113.out; subst eo18) | ((with_reducible refine gate_builtin (b := .append) (xs := #[.tmp 18, .tmp 24]) rfl ?_); at_builtin; refine Kd.N_append (Kd.slice 34 (Kd.slice 3 (Kd.int .i64))) (w0 := w) w.heap.size rfl (.tmp 18) (.tmp 24) 42 27 (.slice none 0 0) 24 rfl Try.underlying42 info27 rfl (by decide) (by omega) (.slice (some ad110) x3_2.length co15) x3_2 t111 [.slice Ao18 t111.length co18] (fun k_ => (P0_ k_ ∨ w.heap.size ≤ k_)) (fun k_ => ((fun k_ => (P0_ k_ ∨ w.heap.size ≤ k_))) k_ ∧ some k_ ≠ (.slice (some ad110) x3_2.length co15 : Value).ownBlock) rfl rfl ?aP (fun _ hk => hk) ?aF ?aO ?aB ?aS ?aL ?_; (case aP => exact (Kd.FK_slice_mk (Kd.N_reads' (Kd.N_mono (ok' := (fun k_ => ((fun k_ => (P0_ k_ ∨ w.heap.size ≤ k_))) k_ ∧ some k_ ≠ (.slice (some ad110) x3_2.length co15 : Value).ownBlock)) (HO113.out) (fun k_ hk => ⟨hk.1, hk.2⟩))).2.1 (Kd.N_F (Kd.N_mono (ok' := (fun k_ => ((fun k_ => (P0_ k_ ∨ w.heap.size ≤ k_))) k_ ∧ some k_ ≠ (.slice (some ad110) x3_2.length co15 : Value).ownBlock)) (HO113.out) (fun k_ hk => ⟨hk.1, hk.2⟩))))); (case aB => exact (by repeat (first | (with_reducible first | exact HB.out | apply below_alloc | apply pw_below_drewN | apply below_drew1) | exact HB.out))); (case aF => exact (fun k_ hk => (.inr (Nat.le_trans (below_size (by repeat (first | (with_reducible first | exact HB.out | apply below_alloc | apply pw_below_drewN | apply below_drew1) | exact HB.out))) hk)))); (case aO => exact (by (with_reducible repeat (first | apply Kd.N_alloc | apply Kd.N_drewN | apply Kd.N_drew)); exact Kd.N_mono HO_3.out (fun _ hk => hk.1))); (case aS => exact (below_size (by repeat (first | (with_reducible first | exact HB.out | apply below_alloc | apply pw_below_drewN | apply below_drew1) | exact HB.out)))); (case aL => have := LMc14.out; omega); intro v115 w17 ho hb hg hat; rw [← Ny114.out] at ho; have n0_ := Aside0.mk (Kd.V_afterv (ok := (fun k_ => (P0_ k_ ∨ w.heap.size ≤ k_) ∧ some k_ ≠ (.slice Ao18 t111.length co18 : Value).ownBlock)) (by (with_reducible repeat (first | apply Kd.V_alloc | apply Kd.V_drewN | apply Kd.V_drew)); exact Kd.V_mono HL110_0.out (fun _ hk => ⟨⟨hk.1.1, hk.2⟩, hk.1.2⟩)) hg hat); have n1_ := Aside0.mk (hb); have n2_ := Aside0.mk (ho); clear HL110_0; clear HB; clear HO_3; clear HO113; have HL110_0 := n0_; have HB := n1_; have HO116 := n2_; clear n0_ n1_ n2_; clear ho hb hg hat))
                    go_roundg k2
                    case measure => have := HK1.out; have := HK2.out; omega
                    case rel => exact ⟨(y114), (wrap64 (x15_2 + 1)), (by first | rfl | (simp; done) | (simp [*]; done)), H', ⟨by have := HK1.out; have := HK2.out; omega⟩, ⟨by (with_reducible repeat (first | apply Kd.N_alloc | apply Kd.N_drewN | apply Kd.N_drew)); exact HO116.out⟩, ⟨by repeat (first | (with_reducible first | exact HB.out | apply below_alloc | apply pw_below_drewN | apply below_drew1) | exact HB.out)⟩⟩
                  · rw [if_neg c14] at H
                    exact absurd H (by simp)
                · rw [if_neg c12] at H
                  exact absurd H (by simp)
              · rw [if_neg c11] at H
                exact absurd H (by simp)
            · rw [if_neg c10] at H
              have c10b0 : decide (x15_2 < 4) = false := decide_eq_false c10
              clear c10
              obtain rfl := Option.some.inj H
              go_wp2
              go_ret
              exact ⟨_, by first | rfl | (simp [errW_none, errW_some] <;> rfl) | (simp [*, errW_none, errW_some] <;> rfl), by (with_reducible repeat (first | apply Kd.N_alloc | apply Kd.N_drewN | apply Kd.N_drew)); exact HO_3.out, by repeat (first | (with_reducible first | exact HB.out | apply below_alloc | apply pw_below_drewN | apply below_drew1) | exact HB.out)⟩

/-! ### slices_CompareFunc_int_int_int_int: function 100 -/
def slices_CompareFunc_int_int_int_int.l0 : Nat → List (List Int) → List (List Int) → ((List Int) → (List Int) → Option Int) → List (List Int) → Int → Int → Option (Int)
  | 0, _, _, _, _, _, _ => none
  | k + 1, x0, x1, x2, x11, x12, x13 => if x13 < x12 then (if 0 ≤ x13 then (if x13 < (x11.length : Int) then (if x13 ≥ (x1.length : Int) then (some 1) else (if x13 < (x1.length : Int) then ((x2 (rd_L1 x11 x13) (rd_L1 x1 x13)).bind fun t103 => (if t103 = 0 then (slices_CompareFunc_int_int_int_int.l0 k x0 x1 x2 x11 x12 (wrap64 (x13 + 1))) else (some t103))) else (none))) else (none)) else (none)) else (if (x0.length : Int) < (x1.length : Int) then (some (-1)) else (some 0))
def slices_CompareFunc_int_int_int_int.f (k : Nat) (l0 : List (List Int)) (l1 : List (List Int)) (a2 : ((List Int) → (List Int) → Option Int)) : Option (Int) := slices_CompareFunc_int_int_int_int.l0 k l0 l1 a2 l0 (l0.length : Int) 0
theorem slices_CompareFunc_int_int_int_int.mono_l : ∀ k, (∀ y0 y1 y2 y2' y3 y4 y5 (hy2 : ∀ z0 z1, LeO (y2 z0 z1) (y2' z0 z1)), LeO (slices_CompareFunc_int_int_int_int.l0 k y0 y1 y2 y3 y4 y5) (slices_CompareFunc_int_int_int_int.l0 (k + 1) y0 y1 y2' y3 y4 y5))
  | 0 => fun _ _ _ _ _ _ _ _ r h => by simp [slices_CompareFunc_int_int_int_int.l0] at h
  | k + 1 => by
    have ih0 := slices_CompareFunc_int_int_int_int.mono_l k
    · intro y0 y1 y2 y2' y3 y4 y5 hy2
      unfold slices_CompareFunc_int_int_int_int.l0
      repeat' first
      | (with_reducible exact ih0 _ _ _ _ _ _ _ hy2)
      | (with_reducible exact hy2 _ _)
      | (with_reducible exact LeO.refl _)
      | (with_reducible exact LeO.none _)
      | (with_reducible refine LeO.ite ?_ ?_)
      | (with_reducible refine LeO.bind ?_ (fun _ => ?_))
      | exact ih0 _ _ _ _ _ _ _ hy2
      | exact hy2 _ _
      | exact LeO.none _
      | refine LeO.ite ?_ ?_
      | refine LeO.bind ?_ (fun _ => ?_)
theorem slices_CompareFunc_int_int_int_int.mono : ∀ a0 a1 a2 a2' (ha2 : ∀ z0 z1, LeO (a2 z0 z1) (a2' z0 z1)) k, LeO (slices_CompareFunc_int_int_int_int.f k a0 a1 a2) (slices_CompareFunc_int_int_int_int.f (k + 1) a0 a1 a2') := by
  intro a0 a1 a2 a2' ha2 k
  have ih0 := slices_CompareFunc_int_int_int_int.mono_l k
  unfold slices_CompareFunc_int_int_int_int.f
  repeat' first
      | (with_reducible exact ih0 _ _ _ _ _ _ _ ha2)
      | (with_reducible exact ha2 _ _)
      | (with_reducible exact LeO.refl _)
      | (with_reducible exact LeO.none _)
      | (with_reducible refine LeO.ite ?_ ?_)
      | (with_reducible refine LeO.bind ?_ (fun _ => ?_))
      | exact ih0 _ _ _ _ _ _ _ ha2
      | exact ha2 _ _
      | exact LeO.none _
      | refine LeO.ite ?_ ?_
      | refine LeO.bind ?_ (fun _ => ?_)
set_option maxHeartbeats 8000000 in
set_option maxRecDepth 100000 in
theorem slices_CompareFunc_int_int_int_int.calls (k : Nat) (A0 : Option Addr) (c0 : Nat) (l0 : List (List Int)) (A1 : Option Addr) (c1 : Nat) (l1 : List (List Int)) (g2 : Nat) (b2 : Array Value) (a2 : ((List Int) → (List Int) → Option Int)) (r : Int) (w : World) (hr0 : Kd.C (Kd.slice 3 (Kd.int .i64)) w A0 l0.length l0) (hc0 : l0.length ≤ c0) (hr1 : Kd.C (Kd.slice 3 (Kd.int .i64)) w A1 l1.length l1) (hc1 : l1.length ≤ c1) (hf2 : Fn2 (Kd.slice 3 (Kd.int .i64)) (Kd.slice 3 (Kd.int .i64)) (Value.int .i64) Try.prog g2 b2 a2 w) (h : slices_CompareFunc_int_int_int_int.f k l0 l1 a2 = some r) :
    Calls Try.prog 100 #[.slice A0 l0.length c0, .slice A1 l1.length c1, .func (.func g2) #[] b2] w fun e w' => e = .returned (.int .i64 r) ∧ Below w.heap.size w w' := by
  have HR0 := Aside0.mk hr0
  have HC0 := Aside0.mk hc0
  clear hr0 hc0
  have HR1 := Aside0.mk hr1
  have HC1 := Aside0.mk hc1
  clear hr1 hc1
  have HF2 := Aside0.mk hf2.cl
  have eg2 := hf2.eg
  clear hf2
  have HB := Aside0.mk (Below.refl w.heap.size w)
  have H : (slices_CompareFunc_int_int_int_int.l0 k l0 l1 a2 l0 (l0.length : Int) 0) = some r := h
  clear h
  have H' := Aside0.mk H
  clear H
  go_enter Try.func100, Try.ntmps100
  go_wp2
  go_loopg [13] k (fun kq v13 w' => ∃ (x13_1 : Int), v13 = .int .i64 x13_1 ∧ Aside0 (slices_CompareFunc_int_int_int_int.l0 kq l0 l1 a2 l0 (l0.length : Int) x13_1 = some r) ∧ Aside0 (kq ≤ k) ∧ Aside0 (Below w.heap.size w w'))
  case atStart => exact ⟨(0), (by first | rfl | (simp; done) | (simp [*]; done)), H', ⟨Nat.le_refl _⟩, ⟨by repeat (first | (with_reducible first | exact HB.out | apply below_alloc | apply pw_below_drewN | apply below_drew1) | exact HB.out)⟩⟩
  case round =>
    clear H'
    try clear c1
    try clear p2
    obtain ⟨x13_1, rfl, HA, HK1, HB⟩ := hrel
    cases gk with
    | zero => exact absurd HA.out (by simp [slices_CompareFunc_int_int_int_int.l0])
    | succ k1 =>
      have H := HA.out
      clear HA
      simp only [slices_CompareFunc_int_int_int_int.l0] at H
      by_cases c4 : x13_1 < (l0.length : Int)
      · rw [if_pos c4] at H
        have c4b0 : decide (x13_1 < (l0.length : Int)) = true := decide_eq_true c4
        clear c4
        by_cases c5 : 0 ≤ x13_1
        · rw [if_pos c5] at H
          have c5b0 : decide (0 ≤ x13_1) = true := decide_eq_true c5
          clear c5
          by_cases c6 : x13_1 < (l0.length : Int)
          · rw [if_pos c6] at H
            have c6b0 : decide (x13_1 < (l0.length : Int)) = true := decide_eq_true c6
            clear c6
            by_cases c7 : x13_1 ≥ (l1.length : Int)
            · rw [if_pos c7] at H
              have c7b0 : decide ((l1.length : Int) ≤ x13_1) = true := decide_eq_true c7
              clear c7
              obtain rfl := Option.some.inj H
              have p101 : 0 ≤ (x13_1 : Int) := of_decide_eq_true (by first | (with_reducible assumption) | assumption)
              have q101 : x13_1 < (l0.length : Int) := of_decide_eq_true (by first | (with_reducible assumption) | assumption)
              obtain ⟨ad101, A101_0, c101_0, e101, hx101_0, hl101_0, hi101_0⟩ := at_L1 HR0.out x13_1 p101 q101
              cases e101
              replace hx101_0 := (HB.out.cell (World.block_lt_of_cell? w _ hx101_0)).trans hx101_0
              have HR101_0 := Aside0.mk hi101_0
              have HC101_0 := Aside0.mk hl101_0
              clear hi101_0 hl101_0
              replace p101 := eq_true p101
              replace q101 := eq_true q101
              go_wp2
              go_ret
              exact ⟨by first | rfl | (simp [errW_none, errW_some] <;> rfl) | (simp [*, errW_none, errW_some] <;> rfl), by repeat (first | (with_reducible first | exact HB.out | apply below_alloc | apply pw_below_drewN | apply below_drew1) | exact HB.out)⟩
            · rw [if_neg c7] at H
              have c7b0 : decide ((l1.length : Int) ≤ x13_1) = false := decide_eq_false c7
              clear c7
              by_cases c8 : x13_1 < (l1.length : Int)
              · rw [if_pos c8] at H
                have c8b0 : decide (x13_1 < (l1.length : Int)) = true := decide_eq_true c8
                clear c8
                replace H := Option.bind_eq_some_iff.mp H
                obtain ⟨t103, A90, H⟩ := H
                replace H : (if t103 = 0 then (slices_CompareFunc_int_int_int_int.l0 k1 l0 l1 a2 l0 (l0.length : Int) (wrap64 (x13_1 + 1))) else (some t103)) = some r := H
                have A9 := Aside0.mk A90
                clear A90
                by_cases c10 : t103 = 0
                · rw [if_pos c10] at H
                  have c10b0 : (t103 == 0) = true := beq_iff_eq.mpr c10
                  have c10b1 : (t103 != 0) = false := bne_eq_false_iff_eq.mpr c10
                  clear c10
                  have H' := Aside0.mk H
                  clear H
                  have p101 : 0 ≤ (x13_1 : Int) := of_decide_eq_true (by first | (with_reducible assumption) | assumption)
                  have q101 : x13_1 < (l0.length : Int) := of_decide_eq_true (by first | (with_reducible assumption) | assumption)
                  obtain ⟨ad101, A101_0, c101_0, e101, hx101_0, hl101_0, hi101_0⟩ := at_L1 HR0.out x13_1 p101 q101
                  cases e101
                  replace hx101_0 := (HB.out.cell (World.block_lt_of_cell? w _ hx101_0)).trans hx101_0
                  have HR101_0 := Aside0.mk hi101_0
                  have HC101_0 := Aside0.mk hl101_0
                  clear hi101_0 hl101_0
                  replace p101 := eq_true p101
                  replace q101 := eq_true q101
                  have p102 : 0 ≤ (x13_1 : Int) := of_decide_eq_true (by first | (with_reducible assumption) | assumption)
                  have q102 : x13_1 < (l1.length : Int) := of_decide_eq_true (by first | (with_reducible assumption) | assumption)
                  obtain ⟨ad102, A102_0, c102_0, e102, hx102_0, hl102_0, hi102_0⟩ := at_L1 HR1.out x13_1 p102 q102
                  cases e102
                  replace hx102_0 := (HB.out.cell (World.block_lt_of_cell? w _ hx102_0)).trans hx102_0
                  have HR102_0 := Aside0.mk hi102_0
                  have HC102_0 := Aside0.mk hl102_0
                  clear hi102_0 hl102_0
                  replace p102 := eq_true p102
                  replace q102 := eq_true q102
                  go_wp2_with (first | (go_at_fn g2; (refine (HF2.out _ ?side1 (rd_L1 l0 x13_1) _ (K_slice ?side2 ?side3) (rd_L1 l1 x13_1) _ (K_slice ?side4 ?side5) t103 A9.out).mono ?_); (case side1 => exact (by repeat (first | (with_reducible first | exact HB.out | apply below_alloc | apply pw_below_drewN | apply below_drew1) | exact HB.out))); (case side2 => exact HC101_0.out); (case side3 => repeat (first | exact (Kd.C_below HR101_0.out HB.out) | (with_reducible refine Kd.C_alloc ?_ _) | (with_reducible refine Kd.C_drewN ?_ _) | (with_reducible refine Kd.C_drew ?_))); (case side4 => exact HC102_0.out); (case side5 => repeat (first | exact (Kd.C_below HR102_0.out HB.out) | (with_reducible refine Kd.C_alloc ?_ _) | (with_reducible refine Kd.C_drewN ?_ _) | (with_reducible refine Kd.C_drew ?_))); rintro e w11 ⟨rfl, hb⟩; have n0_ := Aside0.mk (below_step (by repeat (first | (with_reducible first | exact HB.out | apply below_alloc | apply pw_below_drewN | apply below_drew1) | exact HB.out)) hb); clear HB; have HB := n0_; clear n0_; (try clear hb); (try clear hb2); (try clear hk); (try clear hi)))
                  go_roundg k1
                  case measure => have := HK1.out; omega
                  case rel => exact ⟨(wrap64 (x13_1 + 1)), (by first | rfl | (simp; done) | (simp [*]; done)), H', ⟨by have := HK1.out; omega⟩, ⟨by repeat (first | (with_reducible first | exact HB.out | apply below_alloc | apply pw_below_drewN | apply below_drew1) | exact HB.out)⟩⟩
                · rw [if_neg c10] at H
                  have c10b0 : (t103 == 0) = false := beq_eq_false_iff_ne.mpr c10
                  have c10b1 : (t103 != 0) = true := bne_iff_ne.mpr c10
                  obtain rfl := Option.some.inj H
                  have p101 : 0 ≤ (x13_1 : Int) := of_decide_eq_true (by first | (with_reducible assumption) | assumption)
                  have q101 : x13_1 < (l0.length : Int) := of_decide_eq_true (by first | (with_reducible assumption) | assumption)
                  obtain ⟨ad101, A101_0, c101_0, e101, hx101_0, hl101_0, hi101_0⟩ := at_L1 HR0.out x13_1 p101 q101
                  cases e101
                  replace hx101_0 := (HB.out.cell (World.block_lt_of_cell? w _ hx101_0)).trans hx101_0
                  have HR101_0 := Aside0.mk hi101_0
                  have HC101_0 := Aside0.mk hl101_0
                  clear hi101_0 hl101_0
                  replace p101 := eq_true p101
                  replace q101 := eq_true q101
                  have p102 : 0 ≤ (x13_1 : Int) := of_decide_eq_true (by first | (with_reducible assumption) | assumption)
                  have q102 : x13_1 < (l1.length : Int) := of_decide_eq_true (by first | (with_reducible assumption) | assumption)
                  obtain ⟨ad102, A102_0, c102_0, e102, hx102_0, hl102_0, hi102_0⟩ := at_L1 HR1.out x13_1 p102 q102
                  cases e102
                  replace hx102_0 := (HB.out.cell (World.block_lt_of_cell? w _ hx102_0)).trans hx102_0
                  have HR102_0 := Aside0.mk hi102_0
                  have HC102_0 := Aside0.mk hl102_0
                  clear hi102_0 hl102_0
                  replace p102 := eq_true p102
                  replace q102 := eq_true q102
                  go_wp2_with (first | (go_at_fn g2; (refine (HF2.out _ ?side1 (rd_L1 l0 x13_1) _ (K_slice ?side2 ?side3) (rd_L1 l1 x13_1) _ (K_slice ?side4 ?side5) t103 A9.out).mono ?_); (case side1 => exact (by repeat (first | (with_reducible first | exact HB.out | apply below_alloc | apply pw_below_drewN | apply below_drew1) | exact HB.out))); (case side2 => exact HC101_0.out); (case side3 => repeat (first | exact (Kd.C_below HR101_0.out HB.out) | (with_reducible refine Kd.C_alloc ?_ _) | (with_reducible refine Kd.C_drewN ?_ _) | (with_reducible refine Kd.C_drew ?_))); (case side4 => exact HC102_0.out); (case side5 => repeat (first | exact (Kd.C_below HR102_0.out HB.out) | (with_reducible refine Kd.C_alloc ?_ _) | (with_reducible refine Kd.C_drewN ?_ _) | (with_reducible refine Kd.C_drew ?_))); rintro e w12 ⟨rfl, hb⟩; have n0_ := Aside0.mk (below_step (by repeat (first | (with_reducible first | exact HB.out | apply below_alloc | apply pw_below_drewN | apply below_drew1) | exact HB.out)) hb); clear HB; have HB := n0_; clear n0_; (try clear hb); (try clear hb2); (try clear hk); (try clear hi)))
                  go_ret
                  exact ⟨by first | rfl | (simp [errW_none, errW_some] <;> rfl) | (simp [*, errW_none, errW_some] <;> rfl), by repeat (first | (with_reducible first | exact HB.out | apply below_alloc | apply pw_below_drewN | apply below_drew1) | exact HB.out)⟩
              · rw [if_neg c8] at H
                exact absurd H (by simp)
          · rw [if_neg c6] at H
            exact absurd H (by simp)
        · rw [if_neg c5] at H
          exact absurd H (by simp)
      · rw [if_neg c4] at H
        have c4b0 : decide (x13_1 < (l0.length : Int)) = false := decide_eq_false c4
        clear c4
        by_cases c13 : (l0.length : Int) < (l1.length : Int)
        · rw [if_pos c13] at H
          have c13b0 : decide ((l0.length : Int) < (l1.length : Int)) = true := decide_eq_true c13
          have c13b1 : decide (l0.length < l1.length) = true := decide_eq_true (Int.ofNat_lt.mp c13)
          clear c13
          obtain rfl := Option.some.inj H
          go_wp2
          go_ret
          exact ⟨by first | rfl | (simp [errW_none, errW_some] <;> rfl) | (simp [*, errW_none, errW_some] <;> rfl), by repeat (first | (with_reducible first | exact HB.out | apply below_alloc | apply pw_below_drewN | apply below_drew1) | exact HB.out)⟩
        · rw [if_neg c13] at H
          have c13b0 : decide ((l0.length : Int) < (l1.length : Int)) = false := decide_eq_false c13
          have c13b1 : decide (l0.length < l1.length) = false := decide_eq_false (fun h => c13 (Int.ofNat_lt.mpr h))
          clear c13
          obtain rfl := Option.some.inj H
          go_wp2
          go_ret
          exact ⟨by first | rfl | (simp [errW_none, errW_some] <;> rfl) | (simp [*, errW_none, errW_some] <;> rfl), by repeat (first | (with_reducible first | exact HB.out | apply below_alloc | apply pw_below_drewN | apply below_drew1) | exact HB.out)⟩

/-! ### cmp_isNaN_int: function 140 -/
def cmp_isNaN_int.f (a0 : Int) : Option (Bool) := some (a0 != a0)
set_option maxHeartbeats 8000000 in
set_option maxRecDepth 100000 in
theorem cmp_isNaN_int.calls (a0 : Int) (r : Bool) (w : World) (h : cmp_isNaN_int.f a0 = some r) :
    Calls Try.prog 140 #[.int .i64 a0] w fun e w' => e = .returned (.bool r) ∧ Drawn0 w w' := by
  have H : (some (a0 != a0)) = some r := h
  clear h
  obtain rfl := Option.some.inj H
  go_enter Try.func140, Try.ntmps140
  go_wp2
  go_ret
  exact ⟨by first | rfl | (simp; done) | (simp [*]; done), by repeat (first | exact Drawn0.refl _ | apply Drawn0.step)⟩

/-! ### cmp_Compare_int: function 129 -/
def cmp_Compare_int.f (a0 : Int) (a1 : Int) : Option (Int) := (cmp_isNaN_int.f a0).bind fun t101 => ((cmp_isNaN_int.f a1).bind fun t102 => (if t101 = true then (if t102 = true then (some 0) else (some (-1))) else (if t102 = true then (some 1) else (if a0 < a1 then (some (-1)) else (if a0 > a1 then (some 1) else (some 0))))))
set_option maxHeartbeats 8000000 in
set_option maxRecDepth 100000 in
theorem cmp_Compare_int.calls (a0 : Int) (a1 : Int) (r : Int) (w : World) (h : cmp_Compare_int.f a0 a1 = some r) :
    Calls Try.prog 129 #[.int .i64 a0, .int .i64 a1] w fun e w' => e = .returned (.int .i64 r) ∧ Drawn0 w w' := by
  have H : ((cmp_isNaN_int.f a0).bind fun t101 => ((cmp_isNaN_int.f a1).bind fun t102 => (if t101 = true then (if t102 = true then (some 0) else (some (-1))) else (if t102 = true then (some 1) else (if a0 < a1 then (some (-1)) else (if a0 > a1 then (some 1) else (some 0))))))) = some r := h
  clear h
  replace H := Option.bind_eq_some_iff.mp H
  obtain ⟨t101, A30, H⟩ := H
  replace H : ((cmp_isNaN_int.f a1).bind fun t102 => (if t101 = true then (if t102 = true then (some 0) else (some (-1))) else (if t102 = true then (some 1) else (if a0 < a1 then (some (-1)) else (if a0 > a1 then (some 1) else (some 0)))))) = some r := H
  have A3 := Aside0.mk A30
  clear A30
  replace H := Option.bind_eq_some_iff.mp H
  obtain ⟨t102, A40, H⟩ := H
  replace H : (if t101 = true then (if t102 = true then (some 0) else (some (-1))) else (if t102 = true then (some 1) else (if a0 < a1 then (some (-1)) else (if a0 > a1 then (some 1) else (some 0))))) = some r := H
  have A4 := Aside0.mk A40
  clear A40
  by_cases c5 : t101 = true
  · subst c5
    have H1 : (if t102 = true then (some 0) else (some (-1))) = some r := by rw [if_pos rfl] at H; exact H
    clear H
    have H := H1
    clear H1
    by_cases c6 : t102 = true
    · subst c6
      have H1 : (some 0) = some r := by rw [if_pos rfl] at H; exact H
      clear H
      have H := H1
      clear H1
      obtain rfl := Option.some.inj H
      go_enter Try.func129, Try.ntmps129
      go_wp2_with (first | ((with_reducible refine gate_callee (f := 140) rfl ?_); refine goesL_ (some 8) rfl rfl Try.func140 (by kernel_rfl) rfl #[.int .i64 a0] rfl (by (try simp only [List.map_toArray, List.map_cons, List.map_nil]); first | done | rfl | (simp only [List.length_drop, List.length_take]; rfl)) ?_; (with_reducible refine (cmp_isNaN_int.calls a0 true _ A3.out).mono ?_); rintro e w' ⟨rfl, ⟨nd, rfl⟩⟩; refine ⟨_, rfl, ?_⟩) | ((with_reducible refine gate_callee (f := 140) rfl ?_); refine goesL_ (some 10) rfl rfl Try.func140 (by kernel_rfl) rfl #[.int .i64 a1] rfl (by (try simp only [List.map_toArray, List.map_cons, List.map_nil]); first | done | rfl | (simp only [List.length_drop, List.length_take]; rfl)) ?_; (with_reducible refine (cmp_isNaN_int.calls a1 true _ A4.out).mono ?_); rintro e w' ⟨rfl, ⟨nd, rfl⟩⟩; refine ⟨_, rfl, ?_⟩))
      go_ret
      exact ⟨by first | rfl | (simp; done) | (simp [*]; done), by repeat (first | exact Drawn0.refl _ | apply Drawn0.step)⟩
    · replace c6 := Bool.eq_false_iff.mpr c6
      subst c6
      have H1 : (some (-1)) = some r := by rw [if_neg (show ¬ (false = true) by decide)] at H; exact H
      clear H
      have H := H1
      clear H1
      obtain rfl := Option.some.inj H
      go_enter Try.func129, Try.ntmps129
      go_wp2_with (first | ((with_reducible refine gate_callee (f := 140) rfl ?_); refine goesL_ (some 8) rfl rfl Try.func140 (by kernel_rfl) rfl #[.int .i64 a0] rfl (by (try simp only [List.map_toArray, List.map_cons, List.map_nil]); first | done | rfl | (simp only [List.length_drop, List.length_take]; rfl)) ?_; (with_reducible refine (cmp_isNaN_int.calls a0 true _ A3.out).mono ?_); rintro e w' ⟨rfl, ⟨nd, rfl⟩⟩; refine ⟨_, rfl, ?_⟩) | ((with_reducible refine gate_callee (f := 140) rfl ?_); refine goesL_ (some 10) rfl rfl Try.func140 (by kernel_rfl) rfl #[.int .i64 a1] rfl (by (try simp only [List.map_toArray, List.map_cons, List.map_nil]); first | done | rfl | (simp only [List.length_drop, List.length_take]; rfl)) ?_; (with_reducible refine (cmp_isNaN_int.calls a1 false _ A4.out).mono ?_); rintro e w' ⟨rfl, ⟨nd, rfl⟩⟩; refine ⟨_, rfl, ?_⟩))
      go_ret
      exact ⟨by first | rfl | (simp; done) | (simp [*]; done), by repeat (first | exact Drawn0.refl _ | apply Drawn0.step)⟩
  · replace c5 := Bool.eq_false_iff.mpr c5
    subst c5
    have H1 : (if t102 = true then (some 1) else (if a0 < a1 then (some (-1)) else (if a0 > a1 then (some 1) else (some 0)))) = some r := by rw [if_neg (show ¬ (false = true) by decide)] at H; exact H
    clear H
    have H := H1
    clear H1
    by_cases c7 : t102 = true
    · subst c7
      have H1 : (some 1) = some r := by rw [if_pos rfl] at H; exact H
      clear H
      have H := H1
      clear H1
      obtain rfl := Option.some.inj H
      go_enter Try.func129, Try.ntmps129
      go_wp2_with (first | ((with_reducible refine gate_callee (f := 140) rfl ?_); refine goesL_ (some 8) rfl rfl Try.func140 (by kernel_rfl) rfl #[.int .i64 a0] rfl (by (try simp only [List.map_toArray, List.map_cons, List.map_nil]); first | done | rfl | (simp only [List.length_drop, List.length_take]; rfl)) ?_; (with_reducible refine (cmp_isNaN_int.calls a0 false _ A3.out).mono ?_); rintro e w' ⟨rfl, ⟨nd, rfl⟩⟩; refine ⟨_, rfl, ?_⟩) | ((with_reducible refine gate_callee (f := 140) rfl ?_); refine goesL_ (some 10) rfl rfl Try.func140 (by kernel_rfl) rfl #[.int .i64 a1] rfl (by (try simp only [List.map_toArray, List.map_cons, List.map_nil]); first | done | rfl | (simp only [List.length_drop, List.length_take]; rfl)) ?_; (with_reducible refine (cmp_isNaN_int.calls a1 true _ A4.out).mono ?_); rintro e w' ⟨rfl, ⟨nd, rfl⟩⟩; refine ⟨_, rfl, ?_⟩))
      go_ret
      exact ⟨by first | rfl | (simp; done) | (simp [*]; done), by repeat (first | exact Drawn0.refl _ | apply Drawn0.step)⟩
    · replace c7 := Bool.eq_false_iff.mpr c7
      subst c7
      have H1 : (if a0 < a1 then (some (-1)) else (if a0 > a1 then (some 1) else (some 0))) = some r := by rw [if_neg (show ¬ (false = true) by decide)] at H; exact H
      clear H
      have H := H1
      clear H1
      by_cases c8 : a0 < a1
      · rw [if_pos c8] at H
        have c8b0 : decide (a0 < a1) = true := decide_eq_true c8
        clear c8
        obtain rfl := Option.some.inj H
        go_enter Try.func129, Try.ntmps129
        go_wp2_with (first | ((with_reducible refine gate_callee (f := 140) rfl ?_); refine goesL_ (some 8) rfl rfl Try.func140 (by kernel_rfl) rfl #[.int .i64 a0] rfl (by (try simp only [List.map_toArray, List.map_cons, List.map_nil]); first | done | rfl | (simp only [List.length_drop, List.length_take]; rfl)) ?_; (with_reducible refine (cmp_isNaN_int.calls a0 false _ A3.out).mono ?_); rintro e w' ⟨rfl, ⟨nd, rfl⟩⟩; refine ⟨_, rfl, ?_⟩) | ((with_reducible refine gate_callee (f := 140) rfl ?_); refine goesL_ (some 10) rfl rfl Try.func140 (by kernel_rfl) rfl #[.int .i64 a1] rfl (by (try simp only [List.map_toArray, List.map_cons, List.map_nil]); first | done | rfl | (simp only [List.length_drop, List.length_take]; rfl)) ?_; (with_reducible refine (cmp_isNaN_int.calls a1 false _ A4.out).mono ?_); rintro e w' ⟨rfl, ⟨nd, rfl⟩⟩; refine ⟨_, rfl, ?_⟩))
        go_ret
        exact ⟨by first | rfl | (simp; done) | (simp [*]; done), by repeat (first | exact Drawn0.refl _ | apply Drawn0.step)⟩
      · rw [if_neg c8] at H
        have c8b0 : decide (a0 < a1) = false := decide_eq_false c8
        clear c8
        by_cases c9 : a0 > a1
        · rw [if_pos c9] at H
          have c9b0 : decide (a1 < a0) = true := decide_eq_true c9
          clear c9
          obtain rfl := Option.some.inj H
          go_enter Try.func129, Try.ntmps129
          go_wp2_with (first | ((with_reducible refine gate_callee (f := 140) rfl ?_); refine goesL_ (some 8) rfl rfl Try.func140 (by kernel_rfl) rfl #[.int .i64 a0] rfl (by (try simp only [List.map_toArray, List.map_cons, List.map_nil]); first | done | rfl | (simp only [List.length_drop, List.length_take]; rfl)) ?_; (with_reducible refine (cmp_isNaN_int.calls a0 false _ A3.out).mono ?_); rintro e w' ⟨rfl, ⟨nd, rfl⟩⟩; refine ⟨_, rfl, ?_⟩) | ((with_reducible refine gate_callee (f := 140) rfl ?_); refine goesL_ (some 10) rfl rfl Try.func140 (by kernel_rfl) rfl #[.int .i64 a1] rfl (by (try simp only [List.map_toArray, List.map_cons, List.map_nil]); first | done | rfl | (simp only [List.length_drop, List.length_take]; rfl)) ?_; (with_reducible refine (cmp_isNaN_int.calls a1 false _ A4.out).mono ?_); rintro e w' ⟨rfl, ⟨nd, rfl⟩⟩; refine ⟨_, rfl, ?_⟩))
          go_ret
          exact ⟨by first | rfl | (simp; done) | (simp [*]; done), by repeat (first | exact Drawn0.refl _ | apply Drawn0.step)⟩
        · rw [if_neg c9] at H
          have c9b0 : decide (a1 < a0) = false := decide_eq_false c9
          clear c9
          obtain rfl := Option.some.inj H
          go_enter Try.func129, Try.ntmps129
          go_wp2_with (first | ((with_reducible refine gate_callee (f := 140) rfl ?_); refine goesL_ (some 8) rfl rfl Try.func140 (by kernel_rfl) rfl #[.int .i64 a0] rfl (by (try simp only [List.map_toArray, List.map_cons, List.map_nil]); first | done | rfl | (simp only [List.length_drop, List.length_take]; rfl)) ?_; (with_reducible refine (cmp_isNaN_int.calls a0 false _ A3.out).mono ?_); rintro e w' ⟨rfl, ⟨nd, rfl⟩⟩; refine ⟨_, rfl, ?_⟩) | ((with_reducible refine gate_callee (f := 140) rfl ?_); refine goesL_ (some 10) rfl rfl Try.func140 (by kernel_rfl) rfl #[.int .i64 a1] rfl (by (try simp only [List.map_toArray, List.map_cons, List.map_nil]); first | done | rfl | (simp only [List.length_drop, List.length_take]; rfl)) ?_; (with_reducible refine (cmp_isNaN_int.calls a1 false _ A4.out).mono ?_); rintro e w' ⟨rfl, ⟨nd, rfl⟩⟩; refine ⟨_, rfl, ?_⟩))
          go_ret
          exact ⟨by first | rfl | (simp; done) | (simp [*]; done), by repeat (first | exact Drawn0.refl _ | apply Drawn0.step)⟩

/-! ### slices_Compare_int_int: function 102 -/
def slices_Compare_int_int.l0 : Nat → List Int → List Int → List Int → Int → Int → Option (Int)
  | 0, _, _, _, _, _ => none
  | k + 1, x0, x1, x9, x10, x11 => if x11 < x10 then (if 0 ≤ x11 then (if x11 < (x9.length : Int) then (if x11 ≥ (x1.length : Int) then (some 1) else (if x11 < (x1.length : Int) then ((cmp_Compare_int.f (rd x9 x11) (rd x1 x11)).bind fun t103 => (if t103 = 0 then (slices_Compare_int_int.l0 k x0 x1 x9 x10 (wrap64 (x11 + 1))) else (some t103))) else (none))) else (none)) else (none)) else (if (x0.length : Int) < (x1.length : Int) then (some (-1)) else (some 0))
def slices_Compare_int_int.f (k : Nat) (l0 : List Int) (l1 : List Int) : Option (Int) := slices_Compare_int_int.l0 k l0 l1 l0 (l0.length : Int) 0
theorem slices_Compare_int_int.mono_l : ∀ k, (∀ y0 y1 y2 y3 y4, LeO (slices_Compare_int_int.l0 k y0 y1 y2 y3 y4) (slices_Compare_int_int.l0 (k + 1) y0 y1 y2 y3 y4))
  | 0 => fun _ _ _ _ _ r h => by simp [slices_Compare_int_int.l0] at h
  | k + 1 => by
    have ih0 := slices_Compare_int_int.mono_l k
    · intro y0 y1 y2 y3 y4
      unfold slices_Compare_int_int.l0
      repeat' first
      | (with_reducible exact ih0 _ _ _ _ _)
      | (with_reducible exact LeO.refl _)
      | (with_reducible exact LeO.none _)
      | (with_reducible refine LeO.ite ?_ ?_)
      | (with_reducible refine LeO.bind ?_ (fun _ => ?_))
      | exact ih0 _ _ _ _ _
      | exact LeO.none _
      | refine LeO.ite ?_ ?_
      | refine LeO.bind ?_ (fun _ => ?_)
theorem slices_Compare_int_int.mono : ∀ a0 a1  k, LeO (slices_Compare_int_int.f k a0 a1) (slices_Compare_int_int.f (k + 1) a0 a1) := by
  intro a0 a1 k
  have ih0 := slices_Compare_int_int.mono_l k
  unfold slices_Compare_int_int.f
  repeat' first
      | (with_reducible exact ih0 _ _ _ _ _)
      | (with_reducible exact LeO.refl _)
      | (with_reducible exact LeO.none _)
      | (with_reducible refine LeO.ite ?_ ?_)
      | (with_reducible refine LeO.bind ?_ (fun _ => ?_))
      | exact ih0 _ _ _ _ _
      | exact LeO.none _
      | refine LeO.ite ?_ ?_
      | refine LeO.bind ?_ (fun _ => ?_)
set_option maxHeartbeats 8000000 in
set_option maxRecDepth 100000 in
theorem slices_Compare_int_int.calls (k : Nat) (A0 : Option Addr) (c0 : Nat) (l0 : List Int) (A1 : Option Addr) (c1 : Nat) (l1 : List Int) (r : Int) (w : World) (hr0 : Kd.C (Kd.int .i64) w A0 l0.length l0) (hc0 : l0.length ≤ c0) (hr1 : Kd.C (Kd.int .i64) w A1 l1.length l1) (hc1 : l1.length ≤ c1) (h : slices_Compare_int_int.f k l0 l1 = some r) :
    Calls Try.prog 102 #[.slice A0 l0.length c0, .slice A1 l1.length c1] w fun e w' => e = .returned (.int .i64 r) ∧ Drawn0 w w' := by
  have HR0 := Aside0.mk hr0
  have HC0 := Aside0.mk hc0
  clear hr0 hc0
  have HR1 := Aside0.mk hr1
  have HC1 := Aside0.mk hc1
  clear hr1 hc1
  have H : (slices_Compare_int_int.l0 k l0 l1 l0 (l0.length : Int) 0) = some r := h
  clear h
  have H' := Aside0.mk H
  clear H
  go_enter Try.func102, Try.ntmps102
  go_wp2
  go_loopg [11] k (fun kq v11 w' => ∃ (x11_1 : Int), v11 = .int .i64 x11_1 ∧ Aside0 (slices_Compare_int_int.l0 kq l0 l1 l0 (l0.length : Int) x11_1 = some r) ∧ Aside0 (kq ≤ k) ∧ Drawn0 w w')
  case atStart => exact ⟨(0), (by first | rfl | (simp; done) | (simp [*]; done)), H', ⟨Nat.le_refl _⟩, by repeat (first | exact Drawn0.refl _ | apply Drawn0.step)⟩
  case round =>
    clear H'
    try clear c1
    try clear p2
    obtain ⟨x11_1, rfl, HA, HK1, ⟨m1, rfl⟩⟩ := hrel
    cases gk with
    | zero => exact absurd HA.out (by simp [slices_Compare_int_int.l0])
    | succ k1 =>
      have H := HA.out
      clear HA
      simp only [slices_Compare_int_int.l0] at H
      by_cases c3 : x11_1 < (l0.length : Int)
      · rw [if_pos c3] at H
        have c3b0 : decide (x11_1 < (l0.length : Int)) = true := decide_eq_true c3
        clear c3
        by_cases c4 : 0 ≤ x11_1
        · rw [if_pos c4] at H
          have c4b0 : decide (0 ≤ x11_1) = true := decide_eq_true c4
          clear c4
          by_cases c5 : x11_1 < (l0.length : Int)
          · rw [if_pos c5] at H
            have c5b0 : decide (x11_1 < (l0.length : Int)) = true := decide_eq_true c5
            clear c5
            by_cases c6 : x11_1 ≥ (l1.length : Int)
            · rw [if_pos c6] at H
              have c6b0 : decide ((l1.length : Int) ≤ x11_1) = true := decide_eq_true c6
              clear c6
              obtain rfl := Option.some.inj H
              have p101 : 0 ≤ (x11_1 : Int) := of_decide_eq_true (by first | (with_reducible assumption) | assumption)
              have q101 : x11_1 < (l0.length : Int) := of_decide_eq_true (by first | (with_reducible assumption) | assumption)
              obtain ⟨ad101, e101, hx101_0⟩ := Kd.at_int HR0.out x11_1 p101 q101
              cases e101
              replace p101 := eq_true p101
              replace q101 := eq_true q101
              go_wp2
              go_ret
              exact ⟨by first | rfl | (simp; done) | (simp [*]; done), by repeat (first | exact Drawn0.refl _ | apply Drawn0.step)⟩
            · rw [if_neg c6] at H
              have c6b0 : decide ((l1.length : Int) ≤ x11_1) = false := decide_eq_false c6
              clear c6
              by_cases c7 : x11_1 < (l1.length : Int)
              · rw [if_pos c7] at H
                have c7b0 : decide (x11_1 < (l1.length : Int)) = true := decide_eq_true c7
                clear c7
                replace H := Option.bind_eq_some_iff.mp H
                obtain ⟨t103, A80, H⟩ := H
                replace H : (if t103 = 0 then (slices_Compare_int_int.l0 k1 l0 l1 l0 (l0.length : Int) (wrap64 (x11_1 + 1))) else (some t103)) = some r := H
                have A8 := Aside0.mk A80
                clear A80
                by_cases c9 : t103 = 0
                · rw [if_pos c9] at H
                  have c9b0 : (t103 == 0) = true := beq_iff_eq.mpr c9
                  have c9b1 : (t103 != 0) = false := bne_eq_false_iff_eq.mpr c9
                  clear c9
                  have H' := Aside0.mk H
                  clear H
                  have p101 : 0 ≤ (x11_1 : Int) := of_decide_eq_true (by first | (with_reducible assumption) | assumption)
                  have q101 : x11_1 < (l0.length : Int) := of_decide_eq_true (by first | (with_reducible assumption) | assumption)
                  obtain ⟨ad101, e101, hx101_0⟩ := Kd.at_int HR0.out x11_1 p101 q101
                  cases e101
                  replace p101 := eq_true p101
                  replace q101 := eq_true q101
                  have p102 : 0 ≤ (x11_1 : Int) := of_decide_eq_true (by first | (with_reducible assumption) | assumption)
                  have q102 : x11_1 < (l1.length : Int) := of_decide_eq_true (by first | (with_reducible assumption) | assumption)
                  obtain ⟨ad102, e102, hx102_0⟩ := Kd.at_int HR1.out x11_1 p102 q102
                  cases e102
                  replace p102 := eq_true p102
                  replace q102 := eq_true q102
                  go_wp2_with (first | ((with_reducible refine gate_callee (f := 129) rfl ?_); refine goesL_ (some 26) rfl rfl Try.func129 (by kernel_rfl) rfl #[.int .i64 (rd l0 x11_1), .int .i64 (rd l1 x11_1)] rfl (by (try simp only [List.map_toArray, List.map_cons, List.map_nil]); first | done | rfl | (simp only [List.length_drop, List.length_take]; rfl)) ?_; (with_reducible refine (cmp_Compare_int.calls (rd l0 x11_1) (rd l1 x11_1) t103 _ A8.out).mono ?_); rintro e w' ⟨rfl, ⟨nd, rfl⟩⟩; refine ⟨_, rfl, ?_⟩))
                  go_roundg k1
                  case measure => have := HK1.out; omega
                  case rel => exact ⟨(wrap64 (x11_1 + 1)), (by first | rfl | (simp; done) | (simp [*]; done)), H', ⟨by have := HK1.out; omega⟩, by repeat (first | exact Drawn0.refl _ | apply Drawn0.step)⟩
                · rw [if_neg c9] at H
                  have c9b0 : (t103 == 0) = false := beq_eq_false_iff_ne.mpr c9
                  have c9b1 : (t103 != 0) = true := bne_iff_ne.mpr c9
                  obtain rfl := Option.some.inj H
                  have p101 : 0 ≤ (x11_1 : Int) := of_decide_eq_true (by first | (with_reducible assumption) | assumption)
                  have q101 : x11_1 < (l0.length : Int) := of_decide_eq_true (by first | (with_reducible assumption) | assumption)
                  obtain ⟨ad101, e101, hx101_0⟩ := Kd.at_int HR0.out x11_1 p101 q101
                  cases e101
                  replace p101 := eq_true p101
                  replace q101 := eq_true q101
                  have p102 : 0 ≤ (x11_1 : Int) := of_decide_eq_true (by first | (with_reducible assumption) | assumption)
                  have q102 : x11_1 < (l1.length : Int) := of_decide_eq_true (by first | (with_reducible assumption) | assumption)
                  obtain ⟨ad102, e102, hx102_0⟩ := Kd.at_int HR1.out x11_1 p102 q102
                  cases e102
                  replace p102 := eq_true p102
                  replace q102 := eq_true q102
                  go_wp2_with (first | ((with_reducible refine gate_callee (f := 129) rfl ?_); refine goesL_ (some 26) rfl rfl Try.func129 (by kernel_rfl) rfl #[.int .i64 (rd l0 x11_1), .int .i64 (rd l1 x11_1)] rfl (by (try simp only [List.map_toArray, List.map_cons, List.map_nil]); first | done | rfl | (simp only [List.length_drop, List.length_take]; rfl)) ?_; (with_reducible refine (cmp_Compare_int.calls (rd l0 x11_1) (rd l1 x11_1) t103 _ A8.out).mono ?_); rintro e w' ⟨rfl, ⟨nd, rfl⟩⟩; refine ⟨_, rfl, ?_⟩))
                  go_ret
                  exact ⟨by first | rfl | (simp; done) | (simp [*]; done), by repeat (first | exact Drawn0.refl _ | apply Drawn0.step)⟩
              · rw [if_neg c7] at H
                exact absurd H (by simp)
          · rw [if_neg c5] at H
            exact absurd H (by simp)
        · rw [if_neg c4] at H
          exact absurd H (by simp)
      · rw [if_neg c3] at H
        have c3b0 : decide (x11_1 < (l0.length : Int)) = false := decide_eq_false c3
        clear c3
        by_cases c10 : (l0.length : Int) < (l1.length : Int)
        · rw [if_pos c10] at H
          have c10b0 : decide ((l0.length : Int) < (l1.length : Int)) = true := decide_eq_true c10
          have c10b1 : decide (l0.length < l1.length) = true := decide_eq_true (Int.ofNat_lt.mp c10)
          clear c10
          obtain rfl := Option.some.inj H
          go_wp2
          go_ret
          exact ⟨by first | rfl | (simp; done) | (simp [*]; done), by repeat (first | exact Drawn0.refl _ | apply Drawn0.step)⟩
        · rw [if_neg c10] at H
          have c10b0 : decide ((l0.length : Int) < (l1.length : Int)) = false := decide_eq_false c10
          have c10b1 : decide (l0.length < l1.length) = false := decide_eq_false (fun h => c10 (Int.ofNat_lt.mpr h))
          clear c10
          obtain rfl := Option.some.inj H
          go_wp2
          go_ret
          exact ⟨by first | rfl | (simp; done) | (simp [*]; done), by repeat (first | exact Drawn0.refl _ | apply Drawn0.step)⟩

/-! ### impl_compareTables_1: function 101 -/
def impl_compareTables_1.f (k : Nat) (l0 : List Int) (l1 : List Int) : Option (Int) := (slices_Compare_int_int.f k l0 l1).bind fun t101 => (some t101)
theorem impl_compareTables_1.mono : ∀ a0 a1  k, LeO (impl_compareTables_1.f k a0 a1) (impl_compareTables_1.f (k + 1) a0 a1) := by
  intro a0 a1 k
  unfold impl_compareTables_1.f
  repeat' first
      | (with_reducible exact slices_Compare_int_int.mono _ _ _)
      | (with_reducible exact LeO.refl _)
      | (with_reducible exact LeO.none _)
      | (with_reducible refine LeO.ite ?_ ?_)
      | (with_reducible refine LeO.bind ?_ (fun _ => ?_))
      | exact slices_Compare_int_int.mono _ _ _
      | exact LeO.none _
      | refine LeO.ite ?_ ?_
      | refine LeO.bind ?_ (fun _ => ?_)
set_option maxHeartbeats 8000000 in
set_option maxRecDepth 100000 in
theorem impl_compareTables_1.calls (k : Nat) (A0 : Option Addr) (c0 : Nat) (l0 : List Int) (A1 : Option Addr) (c1 : Nat) (l1 : List Int) (r : Int) (w : World) (hr0 : Kd.C (Kd.int .i64) w A0 l0.length l0) (hc0 : l0.length ≤ c0) (hr1 : Kd.C (Kd.int .i64) w A1 l1.length l1) (hc1 : l1.length ≤ c1) (h : impl_compareTables_1.f k l0 l1 = some r) :
    Calls Try.prog 101 #[.slice A0 l0.length c0, .slice A1 l1.length c1] w fun e w' => e = .returned (.int .i64 r) ∧ Drawn0 w w' := by
  have HR0 := Aside0.mk hr0
  have HC0 := Aside0.mk hc0
  clear hr0 hc0
  have HR1 := Aside0.mk hr1
  have HC1 := Aside0.mk hc1
  clear hr1 hc1
  have H : ((slices_Compare_int_int.f k l0 l1).bind fun t101 => (some t101)) = some r := h
  clear h
  replace H := Option.bind_eq_some_iff.mp H
  obtain ⟨t101, A30, H⟩ := H
  replace H : (some t101) = some r := H
  have A3 := Aside0.mk A30
  clear A30
  obtain rfl := Option.some.inj H
  go_enter Try.func101, Try.ntmps101
  go_wp2_with (first | ((with_reducible refine gate_callee (f := 102) rfl ?_); refine goesL_ (some 7) rfl rfl Try.func102 (by kernel_rfl) rfl #[.slice A0 l0.length c0, .slice A1 l1.length c1] rfl (by (try simp only [List.map_toArray, List.map_cons, List.map_nil]); first | done | rfl | (simp only [List.length_drop, List.length_take]; rfl)) ?_; (with_reducible refine (slices_Compare_int_int.calls k _ _ l0 _ _ l1 t101 _ ?side1 ?side2 ?side3 ?side4 A3.out).mono ?_); (case side1 => repeat (first | exact HR0.out | (with_reducible refine Kd.C_alloc ?_ _) | (with_reducible refine Kd.C_drewN ?_ _) | (with_reducible refine Kd.C_drew ?_))); (case side2 => exact HC0.out); (case side3 => repeat (first | exact HR1.out | (with_reducible refine Kd.C_alloc ?_ _) | (with_reducible refine Kd.C_drewN ?_ _) | (with_reducible refine Kd.C_drew ?_))); (case side4 => exact HC1.out); rintro e w' ⟨rfl, ⟨nd, rfl⟩⟩; refine ⟨_, rfl, ?_⟩))
  go_ret
  exact ⟨by first | rfl | (simp; done) | (simp [*]; done), by repeat (first | exact Drawn0.refl _ | apply Drawn0.step)⟩

/-! ### impl_compareTables: function 60 -/
def impl_compareTables.f (k : Nat) (l0 : List (List Int)) (l1 : List (List Int)) : Option (Int) := (slices_CompareFunc_int_int_int_int.f k l0 l1 (fun x0_ x1_ => impl_compareTables_1.f k x0_ x1_)).bind fun t101 => (some t101)
theorem impl_compareTables.mono : ∀ a0 a1  k, LeO (impl_compareTables.f k a0 a1) (impl_compareTables.f (k + 1) a0 a1) := by
  intro a0 a1 k
  unfold impl_compareTables.f
  repeat' first
      | (with_reducible exact impl_compareTables_1.mono _ _ _)
      | (with_reducible refine slices_CompareFunc_int_int_int_int.mono _ _ _ _ (fun _ _ => ?_) _)
      | (with_reducible exact LeO.refl _)
      | (with_reducible exact LeO.none _)
      | (with_reducible refine LeO.ite ?_ ?_)
      | (with_reducible refine LeO.bind ?_ (fun _ => ?_))
      | exact impl_compareTables_1.mono _ _ _
      | exact LeO.none _
      | refine LeO.ite ?_ ?_
      | refine LeO.bind ?_ (fun _ => ?_)
set_option maxHeartbeats 8000000 in
set_option maxRecDepth 100000 in
theorem impl_compareTables.calls (k : Nat) (A0 : Option Addr) (c0 : Nat) (l0 : List (List Int)) (A1 : Option Addr) (c1 : Nat) (l1 : List (List Int)) (r : Int) (w : World) (hr0 : Kd.C (Kd.slice 3 (Kd.int .i64)) w A0 l0.length l0) (hc0 : l0.length ≤ c0) (hr1 : Kd.C (Kd.slice 3 (Kd.int .i64)) w A1 l1.length l1) (hc1 : l1.length ≤ c1) (h : impl_compareTables.f k l0 l1 = some r) :
    Calls Try.prog 60 #[.slice A0 l0.length c0, .slice A1 l1.length c1] w fun e w' => e = .returned (.int .i64 r) ∧ Below w.heap.size w w' := by
  have HR0 := Aside0.mk hr0
  have HC0 := Aside0.mk hc0
  clear hr0 hc0
  have HR1 := Aside0.mk hr1
  have HC1 := Aside0.mk hc1
  clear hr1 hc1
  have HB := Aside0.mk (Below.refl w.heap.size w)
  have H : ((slices_CompareFunc_int_int_int_int.f k l0 l1 (fun x0_ x1_ => impl_compareTables_1.f k x0_ x1_)).bind fun t101 => (some t101)) = some r := h
  clear h
  replace H := Option.bind_eq_some_iff.mp H
  obtain ⟨t101, A30, H⟩ := H
  replace H : (some t101) = some r := H
  have A3 := Aside0.mk A30
  clear A30
  obtain rfl := Option.some.inj H
  go_enter Try.func60, Try.ntmps60
  go_wp2_with (first | ((with_reducible refine gate_callee (f := 100) rfl ?_); refine goesL_ (some 7) rfl rfl Try.func100 (by kernel_rfl) rfl #[.slice A0 l0.length c0, .slice A1 l1.length c1, .func (.func 101) #[] #[]] rfl (by (try simp only [List.map_toArray, List.map_cons, List.map_nil]); first | done | rfl | (simp only [List.length_drop, List.length_take]; rfl)) ?_; (with_reducible refine (slices_CompareFunc_int_int_int_int.calls k _ _ l0 _ _ l1 _ _ (fun x0_ x1_ => impl_compareTables_1.f k x0_ x1_) t101 _ ?side1 ?side2 ?side3 ?side4 ?side5 A3.out).mono ?_); (case side1 => repeat (first | exact HR0.out | (with_reducible refine Kd.C_alloc ?_ _) | (with_reducible refine Kd.C_drewN ?_ _) | (with_reducible refine Kd.C_drew ?_))); (case side2 => exact HC0.out); (case side3 => repeat (first | exact HR1.out | (with_reducible refine Kd.C_alloc ?_ _) | (with_reducible refine Kd.C_drewN ?_ _) | (with_reducible refine Kd.C_drew ?_))); (case side4 => exact HC1.out); (case side5 => refine ⟨enters_of Try.func101 (by kernel_rfl) rfl, fun W_ hW_ x0_ v0_ hK0_ x1_ v1_ hK1_ r_ hr_ => ?_⟩; obtain ⟨A0_, c0_, e0_, hl0_, hC0_⟩ := hK0_; cases e0_; obtain ⟨A1_, c1_, e1_, hl1_, hC1_⟩ := hK1_; cases e1_; refine (impl_compareTables_1.calls k A0_ c0_ x0_ A1_ c1_ x1_ r_ W_ hC0_ hl0_ hC1_ hl1_ hr_).mono ?_; exact fun _ _ h_ => ⟨h_.1, h_.2.below⟩); rintro e w4 ⟨rfl, hb⟩; refine ⟨_, rfl, ?_⟩; have n0_ := Aside0.mk (below_step (by repeat (first | (with_reducible first | exact HB.out | apply below_alloc | apply pw_below_drewN | apply below_drew1) | exact HB.out)) hb); clear HB; have HB := n0_; clear n0_; (try clear hb); (try clear hb2); (try clear hk); (try clear hi)))
  go_ret
  exact ⟨by first | rfl | (simp [errW_none, errW_some] <;> rfl) | (simp [*, errW_none, errW_some] <;> rfl), by repeat (first | (with_reducible first | exact HB.out | apply below_alloc | apply pw_below_drewN | apply below_drew1) | exact HB.out)⟩

/-! ### impl_hasKind_1: function 105 -/
def impl_hasKind_1.f (k : Nat) (l0 : List (List Int)) (l1_0 : List (List Int)) : Option (Bool) := (impl_compareTables.f k l0 l1_0).bind fun t101 => (some (t101 == 0))
theorem impl_hasKind_1.mono : ∀ a0 a1  k, LeO (impl_hasKind_1.f k a0 a1) (impl_hasKind_1.f (k + 1) a0 a1) := by
  intro a0 a1 k
  unfold impl_hasKind_1.f
  repeat' first
      | (with_reducible exact impl_compareTables.mono _ _ _)
      | (with_reducible exact LeO.refl _)
      | (with_reducible exact LeO.none _)
      | (with_reducible refine LeO.ite ?_ ?_)
      | (with_reducible refine LeO.bind ?_ (fun _ => ?_))
      | exact impl_compareTables.mono _ _ _
      | exact LeO.none _
      | refine LeO.ite ?_ ?_
      | refine LeO.bind ?_ (fun _ => ?_)
set_option maxHeartbeats 8000000 in
set_option maxRecDepth 100000 in
theorem impl_hasKind_1.calls (k : Nat) (A0 : Option Addr) (c0 : Nat) (l0 : List (List Int)) (B1 : Nat) (A1_0 : Option Addr) (c1_0 : Nat) (l1_0 : List (List Int)) (r : Bool) (w : World) (hr0 : Kd.C (Kd.slice 3 (Kd.int .i64)) w A0 l0.length l0) (hc0 : l0.length ≤ c0) (hb1 : w.heap[B1]? = some (.cells #[.slice A1_0 l1_0.length c1_0] 27 (0, 0))) (hr1_0 : Kd.C (Kd.slice 3 (Kd.int .i64)) w A1_0 l1_0.length l1_0) (hc1_0 : l1_0.length ≤ c1_0) (h : impl_hasKind_1.f k l0 l1_0 = some r) :
    Calls Try.prog 105 #[.slice A0 l0.length c0, .pointer (some ⟨B1, 0, none⟩)] w fun e w' => e = .returned (.bool r) ∧ Below w.heap.size w w' := by
  have HR0 := Aside0.mk hr0
  have HC0 := Aside0.mk hc0
  clear hr0 hc0
  have HR1_0 := Aside0.mk hr1_0
  have HC1_0 := Aside0.mk hc1_0
  clear hr1_0 hc1_0
  have BK61 := Aside0.mk hb1
  clear hb1
  have HB := Aside0.mk (Below.refl w.heap.size w)
  have H : ((impl_compareTables.f k l0 l1_0).bind fun t101 => (some (t101 == 0))) = some r := h
  clear h
  replace H := Option.bind_eq_some_iff.mp H
  obtain ⟨t101, A30, H⟩ := H
  replace H : (some (t101 == 0)) = some r := H
  have A3 := Aside0.mk A30
  clear A30
  obtain rfl := Option.some.inj H
  have hcz4_0 : w.cell? ⟨B1, 0, none⟩ = some (.slice A1_0 l1_0.length c1_0) := (blk_cell BK61.out 0).trans rfl
  have hfz4_0 := blk_frozen BK61.out 0
  go_enter Try.func105, Try.ntmps105
  go_wp2_with (first | ((with_reducible refine gate_callee (f := 60) rfl ?_); refine goesL_ (some 6) rfl rfl Try.func60 (by kernel_rfl) rfl #[.slice A0 l0.length c0, .slice A1_0 l1_0.length c1_0] rfl (by (try simp only [List.map_toArray, List.map_cons, List.map_nil]); first | done | rfl | (simp only [List.length_drop, List.length_take]; rfl)) ?_; (with_reducible refine (impl_compareTables.calls k _ _ l0 _ _ l1_0 t101 _ ?side1 ?side2 ?side3 ?side4 A3.out).mono ?_); (case side1 => repeat (first | exact HR0.out | (with_reducible refine Kd.C_alloc ?_ _) | (with_reducible refine Kd.C_drewN ?_ _) | (with_reducible refine Kd.C_drew ?_))); (case side2 => exact HC0.out); (case side3 => repeat (first | exact HR1_0.out | (with_reducible refine Kd.C_alloc ?_ _) | (with_reducible refine Kd.C_drewN ?_ _) | (with_reducible refine Kd.C_drew ?_))); (case side4 => exact HC1_0.out); rintro e w5 ⟨rfl, hb⟩; refine ⟨_, rfl, ?_⟩; have n0_ := Aside0.mk (blk_below (g := B1) (o := .cells #[.slice A1_0 l1_0.length c1_0] 27 (0, 0)) (by (with_reducible repeat (first | refine blk_drewN ?_ _ | refine blk_drew ?_ | refine blk_alloc ?_ _)); exact BK61.out) hb); have n1_ := Aside0.mk (below_step (by repeat (first | (with_reducible first | exact HB.out | apply below_alloc | apply pw_below_drewN | apply below_drew1 | refine below_set ?_ GE61.out) | exact HB.out)) hb); clear BK61; clear HB; have BK61 := n0_; have HB := n1_; clear n0_ n1_; (try clear hb); (try clear hb2); (try clear hk); (try clear hi)))
  go_ret
  exact ⟨by first | rfl | (simp [errW_none, errW_some] <;> rfl) | (simp [*, errW_none, errW_some] <;> rfl), by repeat (first | (with_reducible first | exact HB.out | apply below_alloc | apply pw_below_drewN | apply below_drew1 | refine below_set ?_ GE61.out) | exact HB.out)⟩

/-! ### impl_transposed_1: function 132 -/
def impl_transposed_1.f (a0 : Int) (a1 : Int) (l2_0 : List (List Int)) : Option (Int) := if 0 ≤ a1 then (if a1 < (l2_0.length : Int) then (if 0 ≤ a0 then (if a0 < ((rd_L1 l2_0 a1).length : Int) then (some (rd (rd_L1 l2_0 a1) a0)) else (none)) else (none)) else (none)) else (none)
set_option maxHeartbeats 8000000 in
set_option maxRecDepth 100000 in
theorem impl_transposed_1.calls (a0 : Int) (a1 : Int) (B2 : Nat) (A2_0 : Option Addr) (c2_0 : Nat) (l2_0 : List (List Int)) (r : Int) (w : World) (hb2 : w.heap[B2]? = some (.cells #[.slice A2_0 l2_0.length c2_0] 27 (0, 0))) (hr2_0 : Kd.C (Kd.slice 3 (Kd.int .i64)) w A2_0 l2_0.length l2_0) (hc2_0 : l2_0.length ≤ c2_0) (h : impl_transposed_1.f a0 a1 l2_0 = some r) :
    Calls Try.prog 132 #[.int .i64 a0, .int .i64 a1, .pointer (some ⟨B2, 0, none⟩)] w fun e w' => e = .returned (.int .i64 r) ∧ Drawn0 w w' := by
  have HR2_0 := Aside0.mk hr2_0
  have HC2_0 := Aside0.mk hc2_0
  clear hr2_0 hc2_0
  have BK62 := Aside0.mk hb2
  clear hb2
  have H : (if 0 ≤ a1 then (if a1 < (l2_0.length : Int) then (if 0 ≤ a0 then (if a0 < ((rd_L1 l2_0 a1).length : Int) then (some (rd (rd_L1 l2_0 a1) a0)) else (none)) else (none)) else (none)) else (none)) = some r := h
  clear h
  by_cases c4 : 0 ≤ a1
  · rw [if_pos c4] at H
    have c4b0 : decide (0 ≤ a1) = true := decide_eq_true c4
    clear c4
    by_cases c5 : a1 < (l2_0.length : Int)
    · rw [if_pos c5] at H
      have c5b0 : decide (a1 < (l2_0.length : Int)) = true := decide_eq_true c5
      clear c5
      by_cases c6 : 0 ≤ a0
      · rw [if_pos c6] at H
        have c6b0 : decide (0 ≤ a0) = true := decide_eq_true c6
        clear c6
        by_cases c7 : a0 < ((rd_L1 l2_0 a1).length : Int)
        · rw [if_pos c7] at H
          have c7b0 : decide (a0 < ((rd_L1 l2_0 a1).length : Int)) = true := decide_eq_true c7
          clear c7
          obtain rfl := Option.some.inj H
          have hcz8_0 : w.cell? ⟨B2, 0, none⟩ = some (.slice A2_0 l2_0.length c2_0) := (blk_cell BK62.out 0).trans rfl
          have hfz8_0 := blk_frozen BK62.out 0
          have p101 : 0 ≤ (a1 : Int) := of_decide_eq_true (by first | (with_reducible assumption) | assumption)
          have q101 : a1 < (l2_0.length : Int) := of_decide_eq_true (by first | (with_reducible assumption) | assumption)
          obtain ⟨ad101, A101_0, c101_0, e101, hx101_0, hl101_0, hi101_0⟩ := at_L1 HR2_0.out a1 p101 q101
          cases e101
          have HR101_0 := Aside0.mk hi101_0
          have HC101_0 := Aside0.mk hl101_0
          clear hi101_0 hl101_0
          replace p101 := eq_true p101
          replace q101 := eq_true q101
          have p102 : 0 ≤ (a0 : Int) := of_decide_eq_true (by first | (with_reducible assumption) | assumption)
          have q102 : a0 < ((rd_L1 l2_0 a1).length : Int) := of_decide_eq_true (by first | (with_reducible assumption) | assumption)
          obtain ⟨ad102, e102, hx102_0⟩ := Kd.at_int HR101_0.out a0 p102 q102
          cases e102
          replace p102 := eq_true p102
          replace q102 := eq_true q102
          go_enter Try.func132, Try.ntmps132
          go_wp2
          go_ret
          exact ⟨by first | rfl | (simp; done) | (simp [*]; done), by repeat (first | exact Drawn0.refl _ | apply Drawn0.step)⟩
        · rw [if_neg c7] at H
          exact absurd H (by simp)
      · rw [if_neg c6] at H
        exact absurd H (by simp)
    · rw [if_neg c5] at H
      exact absurd H (by simp)
  · rw [if_neg c4] at H
    exact absurd H (by simp)

end Go.Proofs.Ythpnfjdpomadaaa.X
