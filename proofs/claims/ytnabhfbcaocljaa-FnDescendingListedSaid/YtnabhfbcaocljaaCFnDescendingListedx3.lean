-- Written by a program of this session (wip/xprint.py) that drives the kit's print; the contracts of what it does not take are this session's own.
import Derived.Test.YtnabhfbcaocljaaCFnDescendingListedx0
import Derived.Test.YtnabhfbcaocljaaCFnDescendingListedx1
import Derived.Test.YtnabhfbcaocljaaCFnDescendingListedx2
namespace Go.Proofs.Ytnabhfbcaocljaa.X
open Go.RowKit Go.Proofs.YtnabhfbcaocljaaW.PrintWords Go.Proofs.YtnabhfbcaocljaaW.PrintLast Go.Proofs.YtnabhfbcaocljaaW.PrintMore
set_option maxHeartbeats 8000000
set_option maxRecDepth 100000
attribute [local go_sem] max2_int min2_int max_two min_two max_three min_three max_four min_four   -- for this text's walks alone
set_option linter.unusedVariables false
set_option linter.unusedSimpArgs false

/-! ### impl_table: function 33 -/
mutual
def impl_table.l0 : Nat → Int → (Int → Int → Option Int) → Tb_ → Int → Int → Option (Tb_)
 | 0, _, _, _, _, _ => none
 | k + 1, x1, x2, x7, x13, x14 => if x14 < x13 then (if 0 ≤ x1 then (if (x1 : Int).toNat ≤ 35184372088832 then (if 0 ≤ x14 then (if x14 < (x7.length : Int) then ((some (x7.set (x14 : Int).toNat (List.replicate (x1 : Int).toNat 0) : Tb_)).bind fun y107 => (impl_table.l1 k x1 x2 y107 x14 x13 x14 ((rd_L3 y107 x14).length : Int) 0)) else (none)) else (none)) else (none)) else (none)) else (some x7)
def impl_table.l1 : Nat → Int → (Int → Int → Option Int) → Tb_ → Int → Int → Int → Int → Int → Option (Tb_)
 | 0, _, _, _, _, _, _, _, _ => none
 | k + 1, x1, x2, x7, x8, x13, x14, x26, x27 => if x27 < x26 then (if 0 ≤ x8 then (if x8 < (x7.length : Int) then ((x2 x8 x27).bind fun t110 => (if 0 ≤ x27 then (if x27 < ((rd_L3 x7 x8).length : Int) then (impl_table.l1 k x1 x2 (x7.set (x8 : Int).toNat ((rd_L3 x7 x8).set (x27 : Int).toNat t110)) x8 x13 x14 x26 (wrap64 (x27 + 1))) else (none)) else (none))) else (none)) else (none)) else (impl_table.l0 k x1 x2 x7 x13 (wrap64 (x14 + 1)))
end
def impl_table.f (k : Nat) (a0 : Int) (a1 : Int) (a2 : (Int → Int → Option Int)) : Option (Tb_) := if 0 ≤ a0 then (if (a0 : Int).toNat ≤ 11728124029610 then ((some (List.replicate (a0 : Int).toNat [] : Tb_)).bind fun y101 => (impl_table.l0 k a1 a2 y101 (y101.length : Int) 0)) else (none)) else (none)
theorem impl_table.mono_l : ∀ k, (∀ y0 y1 y1' y2 y3 y4 (hy1 : ∀ z0 z1, LeO (y1 z0 z1) (y1' z0 z1)), LeO (impl_table.l0 k y0 y1 y2 y3 y4) (impl_table.l0 (k + 1) y0 y1' y2 y3 y4)) ∧ (∀ y0 y1 y1' y2 y3 y4 y5 y6 y7 (hy1 : ∀ z0 z1, LeO (y1 z0 z1) (y1' z0 z1)), LeO (impl_table.l1 k y0 y1 y2 y3 y4 y5 y6 y7) (impl_table.l1 (k + 1) y0 y1' y2 y3 y4 y5 y6 y7))
 | 0 => ⟨fun _ _ _ _ _ _ _ r h => by simp [impl_table.l0] at h, fun _ _ _ _ _ _ _ _ _ _ r h => by simp [impl_table.l1] at h⟩
 | k + 1 => by
  obtain ⟨ih0, ih1⟩ := impl_table.mono_l k; refine ⟨?_, ?_⟩
  ·intro y0 y1 y1' y2 y3 y4 hy1; unfold impl_table.l0
   repeat' first
   | (with_reducible exact ih0 _ _ _ _ _ _ hy1)
   | (with_reducible exact ih1 _ _ _ _ _ _ _ _ _ hy1)
   | (with_reducible exact hy1 _ _)
   | (with_reducible exact LeO.refl _)
   | (with_reducible exact LeO.none _)
   | (with_reducible refine LeO.ite ?_ ?_)
   | (with_reducible refine LeO.bind ?_ (fun _ => ?_))
   | exact ih0 _ _ _ _ _ _ hy1
   | exact ih1 _ _ _ _ _ _ _ _ _ hy1
   | exact hy1 _ _
   | exact LeO.none _
   | refine LeO.ite ?_ ?_
   | refine LeO.bind ?_ (fun _ => ?_)
  ·intro y0 y1 y1' y2 y3 y4 y5 y6 y7 hy1; unfold impl_table.l1
   repeat' first
   | (with_reducible exact ih0 _ _ _ _ _ _ hy1)
   | (with_reducible exact ih1 _ _ _ _ _ _ _ _ _ hy1)
   | (with_reducible exact hy1 _ _)
   | (with_reducible exact LeO.refl _)
   | (with_reducible exact LeO.none _)
   | (with_reducible refine LeO.ite ?_ ?_)
   | (with_reducible refine LeO.bind ?_ (fun _ => ?_))
   | exact ih0 _ _ _ _ _ _ hy1
   | exact ih1 _ _ _ _ _ _ _ _ _ hy1
   | exact hy1 _ _
   | exact LeO.none _
   | refine LeO.ite ?_ ?_
   | refine LeO.bind ?_ (fun _ => ?_)
theorem impl_table.mono : ∀ a0 a1 a2 a2' (ha2 : ∀ z0 z1, LeO (a2 z0 z1) (a2' z0 z1)) k, LeO (impl_table.f k a0 a1 a2) (impl_table.f (k + 1) a0 a1 a2') := by
 intro a0 a1 a2 a2' ha2 k; obtain ⟨ih0, ih1⟩ := impl_table.mono_l k; unfold impl_table.f
 repeat' first
   | (with_reducible exact ih0 _ _ _ _ _ _ ha2)
   | (with_reducible exact ih1 _ _ _ _ _ _ _ _ _ ha2)
   | (with_reducible exact ha2 _ _)
   | (with_reducible exact LeO.refl _)
   | (with_reducible exact LeO.none _)
   | (with_reducible refine LeO.ite ?_ ?_)
   | (with_reducible refine LeO.bind ?_ (fun _ => ?_))
   | exact ih0 _ _ _ _ _ _ ha2
   | exact ih1 _ _ _ _ _ _ _ _ _ ha2
   | exact ha2 _ _
   | exact LeO.none _
   | refine LeO.ite ?_ ?_
   | refine LeO.bind ?_ (fun _ => ?_)
def impl_table.T9 : Bool × List (List Nat × List Nat) := (true, [([], []), ([], []), ([0, 1], [0, 1]), ([2], [2]), ([], []), ([], []), ([], []), ([], []), ([5, 6, 7], [5, 6, 7]), ([3, 4, 0, 1, 2, 3, 4, 5, 6, 7, 8], [3, 4]), ([9, 8, 8, 0, 1, 2, 3, 4, 5, 6, 7, 8], [8, 9])])
def impl_table.B9 : List Nat := [0, 0, 3, 7, 0, 0, 0, 0, 224, 511, 1023]
theorem impl_table.tab9 : rtab .any (opsOf Try.f33 9) = impl_table.T9 := by kernel_rfl
theorem impl_table.bits9 : waitsOk impl_table.T9.2 impl_table.B9 = true := by kernel_rfl
theorem impl_table.calls (k : Nat) (a0 : Int) (a1 : Int) (g2 : Nat) (b2 : Array Value) (a2 : (Int → Int → Option Int)) (r : Tb_) (w : World) (hf2 : Fn2 (Kd.int .i64) (Kd.int .i64) (Value.int .i64) Try.prog g2 b2 a2 w) (h : impl_table.f k a0 a1 a2 = some r) :
  Calls Try.prog 33 #[.int .i64 a0, .int .i64 a1, .func (.func g2) #[] b2] w fun e w' => ∃ v0_ : Value, e = .returned (v0_) ∧ Kd.S (Kd.slice 3 (Kd.int .i64)) 46 w' w.heap.size (fun _ => True) v0_ r ∧ Below w.heap.size w w' := by
 have HF2 := am_ hf2.cl; have eg2 := hf2.eg; clear hf2; have HB := am_ (Below.refl w.heap.size w); (try unfold impl_table.f at h); have H := h; clear h; replace H := pp_ H; obtain ⟨c4, H⟩ := H; have c4b0 := eq_true c4; have c4b1 : decide (0 ≤ a0) = true := decide_eq_true c4; clear c4; replace H := pp_ H; obtain ⟨c5, H⟩ := H; have c5b0 := eq_true c5; have c5b1 : decide ((a0 : Int).toNat ≤ 11728124029610) = true := decide_eq_true c5; clear c5; obtain ⟨y101, hy101⟩ : ∃ y_ : Tb_, y_ = (List.replicate (a0 : Int).toNat []) := ⟨_, rfl⟩; replace H : (impl_table.l0 k a1 a2 y101 (y101.length : Int) 0) = some r := tc27_; have Ny101 := am_ hy101; clear hy101; have H' := am_ H; clear H; go_enter Try.func33, Try.ntmps33
 go_wp2_with (first | ((with_reducible refine gate_dst (N := 11) rfl ?_); refine Kd.S_make (Kd.slice 3 (Kd.int .i64)) _ 46 rfl (N := 11) rfl 26 _ _ rfl a0 rfl rfl Try.underlying26 (.slice none 0 0) 24 info46 rfl (by decide) (by omega) [] (ok := fun _ => True) (okp := fun _ => True) ⟨_, rfl, Kd.R_nil _ _ _ _ _⟩ (fun _ hk => hk) trivial (od_) (Nat.le_trans (Nat.mul_le_mul_right _ (od_ : a0.toNat ≤ 11728124029610)) (by omega)) (Below.refl _ _) (Nat.le_refl _) ?_; intro v102 w6 ho7 hb hg_ hnew_; clear hg_ hnew_; (first | rw [← Ny101.out] at ho7 | (simp only [Int.reduceToNat] at ho7; rw [← Ny101.out] at ho7)); have HO103 := am_ (Kd.S_lower ho7 (below_size tc0_)); replace HB := am_ (below_step tc0_ hb); clear hb ho7; obtain ⟨Ao8, co8, eo8⟩ := Kd.S_slice HO103.out; subst eo8))
 go_loopg [14] k (fun kq v14 w' => ∃ (x7_1 : Tb_) (x14_1 : Int), v14 = .int .i64 x14_1 ∧ Aside0 (impl_table.l0 kq a1 a2 x7_1 (y101.length : Int) x14_1 = some r) ∧ Aside0 (kq ≤ k) ∧ Aside0 (Kd.S (Kd.slice 3 (Kd.int .i64)) 46 w' w.heap.size (fun _ => True) (.slice Ao8 y101.length co8) x7_1) ∧ Aside0 (Below w.heap.size w w'))
 case atStart => exact ⟨(y101), (0), tc3_, H', ⟨Nat.le_refl _⟩, ⟨(by (with_reducible repeat (first | apply Kd.S_alloc | apply Kd.S_drewN | apply Kd.S_drew)); exact HO103.out)⟩, ⟨tc0_⟩⟩
 case round =>
  clear H'; (try clear p2); (try clear c3); (try clear c4); (try clear c4b0); (try clear c4b1); (try clear c5); (try clear c5b0); (try clear c5b1); obtain ⟨x7_1, x14_1, rfl, HA, HK1, HO_7, HB⟩ := hrel; have hl7_1 := (Kd.S_reads' HO_7.out).1; rw [hl7_1] at HO_7; (try simp only [hl7_1])
  cases gk with
  | zero => exact absurd HA.out (by simp [impl_table.l0])
  | succ k1 =>
   have H := HA.out; clear HA; simp only [impl_table.l0] at H
   replace H := sp_ H; obtain ⟨c9b0, H⟩ | ⟨c9b0, H⟩ := H
   ·(try simp only [hl7_1] at c9b0); replace H := pp_ H; obtain ⟨c10, H⟩ := H; have c10b0 := eq_true c10; have c10b1 : decide (0 ≤ a1) = true := decide_eq_true c10; clear c10; replace H := pp_ H; obtain ⟨c11, H⟩ := H; have c11b0 := eq_true c11; have c11b1 : decide ((a1 : Int).toNat ≤ 35184372088832) = true := decide_eq_true c11; clear c11; obtain ⟨y104, hy104⟩ : ∃ y_ : List Int, y_ = (List.replicate (a1 : Int).toNat 0) := ⟨_, rfl⟩; replace H : (if 0 ≤ x14_1 then (if x14_1 < (x7_1.length : Int) then ((some (x7_1.set (x14_1 : Int).toNat y104 : Tb_)).bind fun y107 => (impl_table.l1 k1 a1 a2 y107 x14_1 (y101.length : Int) x14_1 ((rd_L3 y107 x14_1).length : Int) 0)) else (none)) else (none)) = some r := tc25_; have Ny104 := am_ hy104; clear hy104; replace H := ps_ H; obtain ⟨c12b0, H⟩ := H; replace H := ps_ H; obtain ⟨c13b0, H⟩ := H; (try simp only [hl7_1] at c13b0); obtain ⟨y107, hy107⟩ : ∃ y_ : Tb_, y_ = (x7_1.set (x14_1 : Int).toNat y104) := ⟨_, rfl⟩; replace H : (impl_table.l1 k1 a1 a2 y107 x14_1 (y101.length : Int) x14_1 ((rd_L3 y107 x14_1).length : Int) 0) = some r := (by first | (rw [hy107]; with_reducible exact H) | (have H2_ := (Option.bind_some _ _).symm.trans H; rw [hy107]; with_reducible exact H2_) | (have H2_ := (Option.bind_some _ _).symm.trans H; with_reducible exact H2_) | with_reducible exact H | (rw [hy107]; exact H) | exact H); have Ny107 := am_ hy107; clear hy107; have H' := am_ H; clear H
    go_wp2_with (first | ((with_reducible refine gate_dst (N := 20) rfl ?_); refine Kd.R_make (Kd.int .i64) _ 3 rfl (N := 20) rfl 46 _ _ rfl a1 rfl rfl Try.underlying46 (.int .i64 0) 8 info3 rfl (by decide) (by omega) 0 (ok := fun _ => True) (okp := fun _ => True) rfl (fun _ hk => hk) trivial (od_) (Nat.le_trans (Nat.mul_le_mul_right _ (od_ : a1.toNat ≤ 35184372088832)) (by omega)) (Below.refl _ _) (Nat.le_refl _) ?_; intro v105 w15 ho16 hb hg_ hnew_; clear hg_ hnew_; (first | rw [← Ny104.out] at ho16 | (simp only [Int.reduceToNat] at ho16; rw [← Ny104.out] at ho16)); replace HO_7 := am_ (Kd.S_elder' tc38_ (Kd.R_base ho16) hb); have HO106 := am_ (Kd.R_lower ho16 (below_size tc0_)); replace HB := am_ (below_step tc0_ hb); clear hb ho16; have p14 : 0 ≤ (x14_1 : Int) := od_; have q14 : (x14_1 : Int) < ((x7_1.length : Int) : Int) := od_; obtain ⟨go14, co14, eo14, gb14, gl14, cl14, HG14⟩ := Kd.S_form HO_7.out (by omega); (first | cases eo14 | (injection eo14 with ea_ en_ ec_; (first | subst ea_ | (injection ea_ with ea_; subst ea_)); subst ec_; clear en_)); have GB14 := am_ gb14; have GG14 := am_ HG14; clear gb14 gl14 HG14; obtain ⟨_, ce14, hcl14, hM14, hcc14, hfr14, _, _⟩ := Kd.S_elem HO_7.out [] (x14_1 : Int) p14 q14; obtain ⟨ve14_0, rfl, ge14_0⟩ := hM14; have hx14_0 := hcc14 0 _ rfl; have hf14_0 := hfr14 0; (try simp only [show ((Kd.slice 3 (Kd.int .i64))).sz = 1 from rfl, Nat.mul_one, Nat.add_zero] at hx14_0); (try simp only [show ((Kd.slice 3 (Kd.int .i64))).sz = 1 from rfl, Nat.mul_one, Nat.add_zero] at hf14_0); (try clear hcl14 hcc14 hfr14 hM14); replace p14 := eq_true p14; replace q14 := eq_true q14; obtain ⟨Ao19, co19, eo19⟩ := Kd.R_slice HO106.out; subst eo19; have n_ := am_ (Kd.S_mono (ok' := (fun k_ => some k_ ≠ (.slice Ao19 y104.length co19 : Value).ownBlock)) HO_7.out (fun k_ hk => hk.2)); clear HO_7; have HO_7 := n_; clear n_; have HX17 := am_ (show Kd.S (Kd.slice 3 (Kd.int .i64)) 46 w15 w.heap.size (fun k_ => ((fun _ => True)) k_ ∧ ¬ ((fun k_ => some k_ = (.slice Ao19 y104.length co19 : Value).ownBlock)) k_) (.slice (some ⟨go14, 0, none⟩) x7_1.length co8) x7_1 from (by (with_reducible repeat (first | apply Kd.S_alloc | apply Kd.S_drewN | apply Kd.S_drew)); exact Kd.S_mono HO_7.out (fun k_ hk => ⟨trivial, fun e_ => hk e_⟩))); obtain ⟨oki17, ce17, hcl17, hM17, hcc17, hfr17, hoki17, hH17⟩ := Kd.S_elem HX17.out [] (x14_1 : Int) (od_) (by have h_ : (x14_1 : Int) < ((x7_1.length : Int) : Int) := od_; first | exact h_ | (have e_ := (Kd.S_reads' HO_7.out).1; omega) | simpa using h_); obtain ⟨ve17_0, rfl, ge17_0⟩ := hM17; have HP17 := Kd.S_seg hH17 (od_) (by have h_ : (x14_1 : Int) < ((x7_1.length : Int) : Int) := od_; first | exact h_ | (have e_ := (Kd.S_reads' HO_7.out).1; omega) | simpa using h_) (seg := [.slice Ao19 y104.length co19]) (j := 0) (show 1 ≤ 1 from (by decide)) (x' := y104) (Kd.M_row (Kd.R_mono (Kd.R_tight rfl (Kd.R_mono (ok' := fun k_ => ((fun _ => True)) k_ ∧ k_ ≠ go14) (Kd.R_apart' (HO106.out) (Kd.S_typed HO_7.out) (by decide)) (fun k_ hk => ⟨trivial, fun e_ => (hk.2) (by rw [e_]; rfl)⟩))) (fun _ h_ => Or.inr (h_)))) (fun _ hk => hk) (fun k_ hk_ => ((Kd.R_mono (ok' := fun k_ => ((fun _ => True)) k_ ∧ k_ ≠ go14) (Kd.R_apart' (HO106.out) (Kd.S_typed HO_7.out) (by decide)) (fun k_ hk => ⟨trivial, fun e_ => (hk.2) (by rw [e_]; rfl)⟩))).1 k_ hk_.symm); have hx17_0 := hcc17 0 _ rfl; (try simp only [show ((Kd.slice 3 (Kd.int .i64))).sz = 1 from rfl, Nat.mul_one, Nat.add_zero] at hx17_0); have hf17_0 := hfr17 0; (try simp only [show ((Kd.slice 3 (Kd.int .i64))).sz = 1 from rfl, Nat.mul_one, Nat.add_zero] at hf17_0); (try clear hcl17 hcc17 hfr17 hM17 hoki17 hH17); (try simp only [show ((Kd.slice 3 (Kd.int .i64))).sz = 1 from rfl, Nat.mul_one, Nat.add_zero] at HP17)) | ((with_reducible refine gate_store (t := 46) (p := 21) rfl ?_); refine store_event (t := 46) (p := 21) (v := ?vo_w18) (w1 := (w15.setCell ⟨go14, (x14_1 : Int).toNat, none⟩ (.slice Ao19 y104.length co19))) ?hg ?ho ?hn ?hr ?_; (case ho => rfl); (case hg => rfl); (case hn => rfl); (case hr => exact tc36_); intro w18 hw; have hg : w15.grownBy w18 (some go14) := (by rw [hw]; exact HP17.2); have hp_ : Kd.S (Kd.slice 3 (Kd.int .i64)) 46 w18 w.heap.size (fun _ => True) (.slice (some ⟨go14, 0, none⟩) x7_1.length co8) y107 := (by rw [hw, Ny107.out]; exact HP17.1); clear HP17; replace HO_7 := am_ (hp_); replace HB := am_ ((by rw [hw]; exact below_set (HB.out) GB14.out : Below w.heap.size w w18)); clear HO106; clear hg hw hp_; have p108 : 0 ≤ (x14_1 : Int) := od_; have q108 : x14_1 < (y107.length : Int) := (by have h_ : (x14_1 : Int) < ((x7_1.length : Int) : Int) := od_; first | (have e_ := (Kd.S_reads' HO_7.out).1; omega) | simpa only [Ny107.out, List.length_set] using h_); have ql108 : ((x14_1 : Int) < ((x7_1.length : Int) : Int)) = True := eq_true (od_); obtain ⟨ad108, A108_0, c108_0, e108, hx108_0, hl108_0, hi108_0⟩ := at_L3 (Kd.S_reads' HO_7.out).2.2 x14_1 p108 q108; obtain rfl : (⟨go14, 0, none⟩ : Addr) = ad108 := (by injection e108); obtain ⟨ce108, hce108, hMe108, hcc108⟩ := Kd.S_get HO_7.out [] x14_1 p108 (by first | exact q108 | exact od_ | (have e_ := (Kd.S_reads' HO_7.out).1; omega)); obtain ⟨ve108_0, rfl, ge108_0⟩ := hMe108; have hv108_0 := hcc108 0 _ rfl; rw [Nat.add_zero, show ((Kd.slice 3 (Kd.int .i64))).sz = 1 from rfl, Nat.mul_one] at hv108_0; replace hv108_0 := Option.some.inj (hv108_0.symm.trans hx108_0); rw [hv108_0] at ge108_0; have HL108_0 := am_ (show Kd.R (Kd.int .i64) 3 _ _ _ _ (rd_L3 y107 x14_1) from ge108_0); clear hv108_0 ge108_0; have HX108_0 := am_ hx108_0; clear hcc108 hce108; (first | simp only [add_plain] at hx108_0 | simp only [add_at] at hx108_0 | simp only [Addr.add, Nat.zero_add] at hx108_0 | skip); have HR108_0 := am_ hi108_0; have HC108_0 := am_ hl108_0; clear hi108_0 hl108_0; replace p108 := eq_true p108; replace q108 := eq_true q108))
    go_loopg [27] k1 (fun kq v27 w' => ∃ (x7_2 : Tb_) (x27_2 : Int), v27 = .int .i64 x27_2 ∧ Aside0 (impl_table.l1 kq a1 a2 x7_2 x14_1 (y101.length : Int) x14_1 ((rd_L3 y107 x14_1).length : Int) x27_2 = some r) ∧ Aside0 (kq ≤ k1) ∧ Aside0 (Kd.S (Kd.slice 3 (Kd.int .i64)) 46 w' w.heap.size (fun _ => True) (.slice (some ⟨go14, 0, none⟩) x7_1.length co8) x7_2) ∧ Aside0 (Below w.heap.size w w'))
    case atStart => exact ⟨(y107), (0), tc3_, H', ⟨Nat.le_refl _⟩, ⟨(by (try simp only [hl7_1]); (with_reducible repeat (first | apply Kd.S_alloc | apply Kd.S_drewN | apply Kd.S_drew)); exact HO_7.out)⟩, ⟨tc0_⟩⟩
    case round =>
     clear H'; (try clear c1); (try clear p1); (try clear q1); (try clear hx1); (try clear p2); (try clear c3); (try clear c4); (try clear c4b0); (try clear c4b1); (try clear c5); (try clear c5b0); (try clear c5b1); (try clear c9); (try clear c9b0); (try clear c10); (try clear c10b0); (try clear c10b1); (try clear p10); (try clear q10); (try clear hx10); (try clear c11); (try clear c11b0); (try clear c11b1); (try clear c12); (try clear c12b0); (try clear c13); (try clear c13b0); (try clear c14); (try clear p14); (try clear q14); (try clear hx14); (try clear hf14); (try clear c17); (try clear hx17); (try clear hf17); (try clear hx108_0); (try clear hx14_0); (try clear hx17_0); (try clear p108); (try clear p14); (try clear p2); (try clear q108); (try clear q14); obtain ⟨x7_2, x27_2, rfl, HA, HK2, HO_7, HB⟩ := hrel; have hl7_2 := (Kd.S_reads' HO_7.out).1; rw [hl7_2] at HO_7; (try simp only [hl7_2])
     cases gk with
     | zero => exact absurd HA.out (by simp [impl_table.l1])
     | succ k2 =>
      have H := HA.out; clear HA; simp only [impl_table.l1] at H
      replace H := sp_ H; obtain ⟨c20b0, H⟩ | ⟨c20b0, H⟩ := H
      ·(try simp only [hl7_1, hl7_2] at c20b0); replace H := ps_ H; obtain ⟨c21b0, H⟩ := H; replace H := ps_ H; obtain ⟨c22b0, H⟩ := H; (try simp only [hl7_1, hl7_2] at c22b0); replace H := bd_ H; obtain ⟨t110, A23, H⟩ := H; (try dsimp only at H); replace H := ps_ H; obtain ⟨c24b0, H⟩ := H; replace H := ps_ H; obtain ⟨c25b0, H⟩ := H; (try simp only [hl7_1, hl7_2] at c25b0); obtain ⟨y111, hy111⟩ : ∃ y_ : List Int, y_ = ((rd_L3 x7_2 x14_1).set (x27_2 : Int).toNat t110) := ⟨_, rfl⟩; replace H : (impl_table.l1 k2 a1 a2 (x7_2.set (x14_1 : Int).toNat y111) x14_1 (y101.length : Int) x14_1 ((rd_L3 y107 x14_1).length : Int) (wrap64 (x27_2 + 1))) = some r := tc44_; have Ny111 := am_ hy111; clear hy111; obtain ⟨y113, hy113⟩ : ∃ y_ : Tb_, y_ = (x7_2.set (x14_1 : Int).toNat y111) := ⟨_, rfl⟩; replace H : (impl_table.l1 k2 a1 a2 y113 x14_1 (y101.length : Int) x14_1 ((rd_L3 y107 x14_1).length : Int) (wrap64 (x27_2 + 1))) = some r := tc46_; have Ny113 := am_ hy113; clear hy113; have H' := am_ H; clear H
       try go_wp2
       replace HO_7 := am_ (Kd.S_drew HO_7.out); replace HB := am_ (below_drew1 HB.out); have p109 : 0 ≤ (x14_1 : Int) := od_; have q109 : x14_1 < (x7_2.length : Int) := od_; obtain ⟨ad109, A109_0, c109_0, e109, hx109_0, hl109_0, hi109_0⟩ := at_L3 (Kd.S_reads' HO_7.out).2.2 x14_1 p109 q109; obtain rfl : (⟨go14, 0, none⟩ : Addr) = ad109 := (by injection e109); obtain ⟨ce109, hce109, hMe109, hcc109⟩ := Kd.S_get HO_7.out [] x14_1 p109 (by first | exact q109 | exact od_ | (have e_ := (Kd.S_reads' HO_7.out).1; omega)); obtain ⟨ve109_0, rfl, ge109_0⟩ := hMe109; have hv109_0 := hcc109 0 _ rfl; rw [Nat.add_zero, show ((Kd.slice 3 (Kd.int .i64))).sz = 1 from rfl, Nat.mul_one] at hv109_0; replace hv109_0 := Option.some.inj (hv109_0.symm.trans hx109_0); rw [hv109_0] at ge109_0; have HL109_0 := am_ (show Kd.R (Kd.int .i64) 3 _ _ _ _ (rd_L3 x7_2 x14_1) from ge109_0); clear hv109_0 ge109_0; have HX109_0 := am_ hx109_0; clear hcc109 hce109; (first | simp only [add_plain] at hx109_0 | simp only [add_at] at hx109_0 | simp only [Addr.add, Nat.zero_add] at hx109_0 | skip); have HR109_0 := am_ hi109_0; have HC109_0 := am_ hl109_0; clear hi109_0 hl109_0; replace p109 := eq_true p109; replace q109 := eq_true q109; refine start_ (n := 11) (S := fun w' => w'.cell? ⟨go14, (x14_1).toNat, none⟩ = some (.slice A109_0 (rd_L3 x7_2 x14_1).length c109_0)) (ds := [10]) #[F,F,F,F,F,F,F,F,F,F,F] (by kernel_rfl) rfl rfl (hx109_0) (fun hHeld => ?_); refine with_tabW impl_table.tab9 impl_table.bits9 (fun HT_ HW_ => ?_); generalize wr.drew = w27 at HO_7 HB HL109_0 HR109_0 HX109_0 hx109_0 hHeld ⊢; refine pure_ (i := 0) (N := some 30) #[T,F,F,F,F,F,F,F,F,F,F] rfl rfl an_ hq_ yi_ nm_ ?_; refine pure_ (i := 1) (N := some 31) #[T,T,F,F,F,F,F,F,F,F,F] rfl rfl an_ hq_ yi_ nm_ ?_; refine pure_ (i := 2) (N := some 32) #[T,T,T,F,F,F,F,F,F,F,F] rfl rfl an_ hq_ yi_ nm_ ?_; refine pure_ (i := 4) (N := some 34) #[T,T,T,F,T,F,F,F,F,F,F] rfl rfl an_ hq_ yi_ nm_ ?_; refine pure_ (i := 5) (N := some 35) #[T,T,T,F,T,T,F,F,F,F,F] rfl rfl an_ hq_ yi_ nm_ ?_; refine pure_ (i := 6) (N := some 36) #[T,T,T,F,T,T,T,F,F,F,F] rfl rfl an_ hq_ yi_ nm_ ?_; refine pure_ (i := 7) (N := some 37) #[T,T,T,F,T,T,T,T,F,F,F] rfl rfl an_ hq_ yi_ nm_ ?_; refine take_ (i := 3) (N := some 33) #[T,T,T,T,T,T,T,T,F,F,F] rfl rfl av_ hq_ yj1_ hHeld nm_ ?_; refine one_ (i := 8) (N := some 38) #[T,T,T,T,T,T,T,T,T,F,F] rfl rfl (one_of HT_.out (by kernel_rfl)) (by decide) (fun K hK => ?_); refine goesF_ eg2 #[.int .i64 x14_1, .int .i64 x27_2] (by rfl) rfl rfl (by first | rfl | (simp [Act.eval]; done)) tc59_ ?_; refine (HF2.out _ ?side1 x14_1 _ K_int x27_2 _ K_int t110 A23.out).mono ?_
       (case side1 => exact tc6_)
       rintro e w28 ⟨rfl, hb⟩; have HS0_ := (hb.cell (World.block_lt_of_cell? _ _ (hHeld))).trans (hHeld); refine ⟨_, rfl, ?_⟩; replace HO_7 := am_ (Kd.S_below tc38_ hb); replace HL109_0 := am_ (Kd.R_below (by (with_reducible repeat (first | apply Kd.R_alloc | apply Kd.R_drewN | apply Kd.R_drew)); exact HL109_0.out) hb); replace HR109_0 := am_ (Kd.C_below (by repeat (first | (with_reducible exact HR109_0.out) | (with_reducible refine Kd.C_alloc ?_ _) | (with_reducible refine Kd.C_drewN ?_ _) | (with_reducible refine Kd.C_drew ?_) | exact HR109_0.out)) hb); replace HX109_0 := am_ (pw_cell_below hb HX109_0.out); replace HB := am_ (below_step tc0_ hb); (try clear hb); (try clear hb2); (try clear hk); (try clear hi); have p26 : 0 ≤ (x27_2 : Int) := od_; have q26 : (x27_2 : Int) < (((rd_L3 x7_2 x14_1).length : Int) : Int) := od_; obtain ⟨go26, co26, eo26, gb26, gl26, cl26, HG26⟩ := Kd.R_form HL109_0.out (by omega); (first | cases eo26 | (injection eo26 with ea_ en_ ec_; (first | subst ea_ | (injection ea_ with ea_; subst ea_)); subst ec_; clear en_)); have GB26 := am_ gb26; have GG26 := am_ HG26; clear gb26 gl26 HG26; obtain ⟨hx26_0, hf26_0⟩ := Kd.R_celln 0 HL109_0.out (x27_2 : Int) p26 q26; replace p26 := eq_true p26; replace q26 := eq_true q26; have hq29 : (x14_1 : Int) < (x7_2.length : Int) := (by have h_ : (x14_1 : Int) < ((x7_2.length : Int) : Int) := od_; first | exact h_ | (have e_ := (Kd.S_reads' HO_7.out).1; omega) | simpa only [List.length_set, List.length_set] using h_); obtain ⟨oki29, ce29, hcl29, hM29, hcc29, hok29, hbk29⟩ := Kd.S_borrow HO_7.out [] (x14_1 : Int) (od_) hq29; obtain ⟨ve29_0, rfl, ge29_0⟩ := hM29; have hv29 := hcc29 0 _ rfl; rw [Nat.add_zero, show ((Kd.slice 3 (Kd.int .i64))).sz = 1 from rfl, Nat.mul_one] at hv29; replace hv29 := Option.some.inj (hv29.symm.trans HX109_0.out); subst hv29; clear hcc29 hcl29; replace ge29_0 := (show Kd.R (Kd.int .i64) 3 _ _ _ _ (rd_L3 x7_2 x14_1) from ge29_0); have HP29 := Kd.R_putg ge29_0 (x27_2 : Int) t110; rw [← Ny111.out] at HP29; have HS29 := hbk29 HP29.2 (fun k_ e_ => by injection e_ with e_; subst e_; exact ge29_0.1 _ rfl) (x' := y111) (Kd.M_row HP29.1); rw [← Ny113.out] at HS29; have HQ29 := am_ HS29; clear HP29 HS29 hbk29 hok29; refine hK.out _ _ (HS0_) (fun hHeld => ?_); clear hK K; refine norm_ (a' := ?_) ?_ ?_; rotate_left
       ·show Act.put _ (some 38) _ = _
        simp only [Act.put, List.setIfInBounds_toArray, List.set_cons_zero, List.set_cons_succ, i64_w, i32_w]
        rfl
       refine pure_ (i := 9) (N := some 39) #[T,T,T,T,T,T,T,T,T,T,F] rfl rfl an_ hq_ yi_ nm_ ?_; refine last_ (i := 10) (N := none) #[T,T,T,T,T,T,T,T,T,T,T] rfl rfl (one_of HT_.out (by kernel_rfl)) (by decide) (fun K hK => ?_); refine skip_ (w1 := ?_) (by rfl) rfl ?_ ?_; rotate_left
       ·go_simp
        rfl
       refine hK.out _ _ ?_; clear hK K; refine done_ (done_of HT_.out (by kernel_rfl)) ?_
       try go_wp2
       (try simp only [← hl7_2])
       go_roundg k2
       case measure => have := HK1.out; have := HK2.out; omega
       case rel => exact ⟨(y113), (wrap64 (x27_2 + 1)), tc3_, H', ⟨tc60_⟩, ⟨(by (try simp only [hl7_1]); (try simp only [hl7_2]); (with_reducible repeat (first | apply Kd.S_alloc | apply Kd.S_drewN | apply Kd.S_drew)); exact HQ29.out)⟩, ⟨(by repeat (first | (with_reducible first | exact HB.out | apply below_alloc | apply pw_below_drewN | apply below_drew1 | refine below_set ?_ GB26.out) | exact HB.out))⟩⟩
      ·(try simp only [hl7_1, hl7_2] at c20b0); have H' := am_ H; clear H; go_wp2; (try simp only [← hl7_1, ← hl7_2])
       go_roundg k2
       case measure => have := HK1.out; have := HK2.out; omega
       case rel => exact ⟨(x7_2), (wrap64 (x14_1 + 1)), tc3_, H', ⟨tc60_⟩, ⟨(by (try simp only [hl7_1]); (try simp only [hl7_2]); (with_reducible repeat (first | apply Kd.S_alloc | apply Kd.S_drewN | apply Kd.S_drew)); exact HO_7.out)⟩, ⟨tc0_⟩⟩
   ·(try simp only [hl7_1] at c9b0); obtain rfl := Option.some.inj H; go_wp2
    go_ret
    exact ⟨_, tc4_, tc38_, tc0_⟩

/-! ### impl_choose: function 35 -/
def impl_choose.l0 : Nat → Int → Int → Int → Int → Option (Int)
 | 0, _, _, _, _ => none
 | k + 1, x0, x5, x7, x8 => if x8 < x7 then (if (wrap64 (x8 + 1)) = 0 then (none) else (impl_choose.l0 k x0 (wrap64 (Int.tdiv (wrap64 (x5 * (wrap64 (x0 - x8)))) (wrap64 (x8 + 1)))) x7 (wrap64 (x8 + 1)))) else (some x5)
def impl_choose.f (k : Nat) (a0 : Int) (a1 : Int) : Option (Int) := impl_choose.l0 k a0 1 a1 0
theorem impl_choose.mono_l : ∀ k, (∀ y0 y1 y2 y3, LeO (impl_choose.l0 k y0 y1 y2 y3) (impl_choose.l0 (k + 1) y0 y1 y2 y3))
 | 0 => fun _ _ _ _ r h => by simp [impl_choose.l0] at h
 | k + 1 => by
  have ih0 := impl_choose.mono_l k
  ·intro y0 y1 y2 y3; unfold impl_choose.l0
   repeat' first
   | (with_reducible exact ih0 _ _ _ _)
   | (with_reducible exact LeO.refl _)
   | (with_reducible exact LeO.none _)
   | (with_reducible refine LeO.ite ?_ ?_)
   | (with_reducible refine LeO.bind ?_ (fun _ => ?_))
   | exact ih0 _ _ _ _
   | exact LeO.none _
   | refine LeO.ite ?_ ?_
   | refine LeO.bind ?_ (fun _ => ?_)
theorem impl_choose.mono : ∀ a0 a1  k, LeO (impl_choose.f k a0 a1) (impl_choose.f (k + 1) a0 a1) := by
 intro a0 a1 k; have ih0 := impl_choose.mono_l k; unfold impl_choose.f
 repeat' first
   | (with_reducible exact ih0 _ _ _ _)
   | (with_reducible exact LeO.refl _)
   | (with_reducible exact LeO.none _)
   | (with_reducible refine LeO.ite ?_ ?_)
   | (with_reducible refine LeO.bind ?_ (fun _ => ?_))
   | exact ih0 _ _ _ _
   | exact LeO.none _
   | refine LeO.ite ?_ ?_
   | refine LeO.bind ?_ (fun _ => ?_)
theorem impl_choose.calls (k : Nat) (a0 : Int) (a1 : Int) (r : Int) (w : World) (h : impl_choose.f k a0 a1 = some r) :
  Calls Try.prog 35 #[.int .i64 a0, .int .i64 a1] w fun e w' => e = .returned (.int .i64 r) ∧ Drawn0 w w' := by
 (try unfold impl_choose.f at h); have H := h; clear h; have H' := am_ H; clear H; go_enter Try.func35, Try.ntmps35; go_wp2
 go_loopg [5, 8] k (fun kq v5 v8 w' => ∃ (x5_1 : Int) (x8_1 : Int), v5 = .int .i64 x5_1 ∧ v8 = .int .i64 x8_1 ∧ Aside0 (impl_choose.l0 kq a0 x5_1 a1 x8_1 = some r) ∧ Aside0 (kq ≤ k) ∧ Drawn0 w w')
 case atStart => exact ⟨(1), (0), tc3_, tc3_, H', ⟨Nat.le_refl _⟩, tc5_⟩
 case round =>
  clear H'; (try clear p2); obtain ⟨x5_1, x8_1, rfl, rfl, HA, HK1, ⟨m1, rfl⟩⟩ := hrel
  cases gk with
  | zero => exact absurd HA.out (by simp [impl_choose.l0])
  | succ k1 =>
   have H := HA.out; clear HA; simp only [impl_choose.l0] at H
   replace H := sp_ H; obtain ⟨c3b0, H⟩ | ⟨c3b0, H⟩ := H
   ·replace H := pn_ H; obtain ⟨c4, H⟩ | ⟨c4, H⟩ := H
    ·exact absurd H (by simp)
    ·have c4b0 : ((wrap64 (x8_1 + 1)) == 0) = false := beq_eq_false_iff_ne.mpr c4; have c4b1 : ((wrap64 (x8_1 + 1)) != 0) = true := bne_iff_ne.mpr c4; have H' := am_ H; clear H; go_wp2
     go_roundg k1
     case measure => have := HK1.out; omega
     case rel => exact ⟨(wrap64 (Int.tdiv (wrap64 (x5_1 * (wrap64 (a0 - x8_1)))) (wrap64 (x8_1 + 1)))), (wrap64 (x8_1 + 1)), tc3_, tc3_, H', ⟨tc40_⟩, tc5_⟩
   ·obtain rfl := Option.some.inj H; go_wp2
    go_ret
    exact ⟨tc3_, tc5_⟩

/-! ### impl_bit: function 36 -/
def impl_bit.f (a0 : Bool) : Option (Int) := if a0 = true then (some 1) else (some 0)
theorem impl_bit.calls (a0 : Bool) (r : Int) (w : World) (h : impl_bit.f a0 = some r) :
  Calls Try.prog 36 #[.bool a0] w fun e w' => e = .returned (.int .i64 r) ∧ Drawn0 w w' := by
 (try unfold impl_bit.f at h); have H := h; clear h
 by_cases c2 : a0 = true
 ·subst c2; have H1 : (some 1) = some r := tc19_; clear H; have H := H1; clear H1; obtain rfl := Option.some.inj H; go_enter Try.func36, Try.ntmps36; go_wp2
  go_ret
  exact ⟨tc3_, tc5_⟩
 ·replace c2 := Bool.eq_false_iff.mpr c2; subst c2; have H1 : (some 0) = some r := tc8_; clear H; have H := H1; clear H1; obtain rfl := Option.some.inj H; go_enter Try.func36, Try.ntmps36; go_wp2
  go_ret
  exact ⟨tc3_, tc5_⟩

/-! ### impl_CountByDeterminant_1: function 34 -/
def impl_CountByDeterminant_1.f (k : Nat) (a0 : Int) (a1 : Int) : Option (Int) := (impl_choose.f k (wrap64 ((wrap64 (a0 + a1)) + 2)) a0).bind fun t101 => ((impl_bit.f (a0 == a1)).bind fun t102 => (some (wrap64 (t101 + t102))))
theorem impl_CountByDeterminant_1.mono : ∀ a0 a1  k, LeO (impl_CountByDeterminant_1.f k a0 a1) (impl_CountByDeterminant_1.f (k + 1) a0 a1) := by
 intro a0 a1 k; unfold impl_CountByDeterminant_1.f
 repeat' first
   | (with_reducible exact impl_choose.mono _ _ _)
   | (with_reducible exact LeO.refl _)
   | (with_reducible exact LeO.none _)
   | (with_reducible refine LeO.ite ?_ ?_)
   | (with_reducible refine LeO.bind ?_ (fun _ => ?_))
   | exact impl_choose.mono _ _ _
   | exact LeO.none _
   | refine LeO.ite ?_ ?_
   | refine LeO.bind ?_ (fun _ => ?_)
theorem impl_CountByDeterminant_1.calls (k : Nat) (a0 : Int) (a1 : Int) (r : Int) (w : World) (h : impl_CountByDeterminant_1.f k a0 a1 = some r) :
  Calls Try.prog 34 #[.int .i64 a0, .int .i64 a1] w fun e w' => e = .returned (.int .i64 r) ∧ Drawn0 w w' := by
 (try unfold impl_CountByDeterminant_1.f at h); have H := h; clear h; replace H := bd_ H; obtain ⟨t101, A3, H⟩ := H; (try dsimp only at H); replace H := bd_ H; obtain ⟨t102, A4, H⟩ := H; (try dsimp only at H); obtain rfl := Option.some.inj H; go_enter Try.func34, Try.ntmps34
 go_wp2_with (first | (refine gc_ (some 10) Try.func35 #[.int .i64 (wrap64 ((wrap64 (a0 + a1)) + 2)), .int .i64 a0] ?_; (with_reducible refine (impl_choose.calls k (wrap64 ((wrap64 (a0 + a1)) + 2)) a0 t101 _ A3.out).mono ?_); rintro e w' ⟨rfl, ⟨nd, rfl⟩⟩; refine ⟨_, rfl, ?_⟩) | (refine gc_ (some 14) Try.func36 #[.bool (a0 == a1)] ?_; (with_reducible refine (impl_bit.calls (a0 == a1) t102 _ A4.out).mono ?_); rintro e w' ⟨rfl, ⟨nd, rfl⟩⟩; refine ⟨_, rfl, ?_⟩))
 go_ret
 exact ⟨tc3_, tc5_⟩

/-! ### impl_CountByDeterminant: function 16 -/
mutual
def impl_CountByDeterminant.l0 : Nat → Int → Tb_ → Int → Int → Option (Int × Bool)
 | 0, _, _, _, _ => none
 | k + 1, x0, x4, x5, x6 => if (wrap64 (x6 + 1)) < (x4.length : Int) then (impl_CountByDeterminant.l1 k x0 x4 x5 x6 (wrap64 (x6 + 1))) else (if x0 = 1 then (some (1, true)) else (if 0 ≤ (wrap64 (x0 - 2)) then (if (wrap64 (x0 - 2)) < (x4.length : Int) then (if (wrap64 (x0 - 2)) < ((rd_L3 x4 (wrap64 (x0 - 2))).length : Int) then (some (rd (rd_L3 x4 (wrap64 (x0 - 2))) (wrap64 (x0 - 2)), true)) else (none)) else (none)) else (none)))
def impl_CountByDeterminant.l1 : Nat → Int → Tb_ → Int → Int → Int → Option (Int × Bool)
 | 0, _, _, _, _, _ => none
 | k + 1, x0, x4, x5, x6, x7 => if x7 < (x4.length : Int) then (impl_CountByDeterminant.l2 k x0 x4 x5 x6 x7 (wrap64 (x6 + 1))) else (if 0 ≤ x6 then (if x6 < (x4.length : Int) then (if x6 < ((rd_L3 x4 x6).length : Int) then (impl_CountByDeterminant.l0 k x0 x4 (rd (rd_L3 x4 x6) x6) (wrap64 (x6 + 1))) else (none)) else (none)) else (none))
def impl_CountByDeterminant.l2 : Nat → Int → Tb_ → Int → Int → Int → Int → Option (Int × Bool)
 | 0, _, _, _, _, _, _ => none
 | k + 1, x0, x4, x5, x6, x7, x8 => if x8 < (x4.length : Int) then (if 0 ≤ x7 then (if x7 < (x4.length : Int) then (if 0 ≤ x8 then (if x8 < ((rd_L3 x4 x7).length : Int) then (if 0 ≤ x6 then (if x6 < (x4.length : Int) then (if x6 < ((rd_L3 x4 x6).length : Int) then (if x6 < ((rd_L3 x4 x7).length : Int) then (if x8 < ((rd_L3 x4 x6).length : Int) then (if x5 = 0 then (none) else (impl_CountByDeterminant.l2 k x0 (x4.set (x7 : Int).toNat ((rd_L3 x4 x7).set (x8 : Int).toNat (wrap64 (Int.tdiv (wrap64 ((wrap64 ((rd (rd_L3 x4 x7) x8) * (rd (rd_L3 x4 x6) x6))) - (wrap64 ((rd (rd_L3 x4 x7) x6) * (rd (rd_L3 x4 x6) x8))))) x5)))) x5 x6 x7 (wrap64 (x8 + 1)))) else (none)) else (none)) else (none)) else (none)) else (none)) else (none)) else (none)) else (none)) else (none)) else (impl_CountByDeterminant.l1 k x0 x4 x5 x6 (wrap64 (x7 + 1)))
end
def impl_CountByDeterminant.f (k : Nat) (a0 : Int) : Option (Int × Bool) := (impl_isDescended.f a0).bind fun t101 => (if t101 = true then ((impl_table.f k (wrap64 (a0 - 1)) (wrap64 (a0 - 1)) (fun x0_ x1_ => impl_CountByDeterminant_1.f k x0_ x1_)).bind fun t102 => (impl_CountByDeterminant.l0 k a0 t102 1 0)) else (some (0, false)))
theorem impl_CountByDeterminant.mono_l : ∀ k, (∀ y0 y1 y2 y3, LeO (impl_CountByDeterminant.l0 k y0 y1 y2 y3) (impl_CountByDeterminant.l0 (k + 1) y0 y1 y2 y3)) ∧ (∀ y0 y1 y2 y3 y4, LeO (impl_CountByDeterminant.l1 k y0 y1 y2 y3 y4) (impl_CountByDeterminant.l1 (k + 1) y0 y1 y2 y3 y4)) ∧ (∀ y0 y1 y2 y3 y4 y5, LeO (impl_CountByDeterminant.l2 k y0 y1 y2 y3 y4 y5) (impl_CountByDeterminant.l2 (k + 1) y0 y1 y2 y3 y4 y5))
 | 0 => ⟨fun _ _ _ _ r h => by simp [impl_CountByDeterminant.l0] at h, fun _ _ _ _ _ r h => by simp [impl_CountByDeterminant.l1] at h, fun _ _ _ _ _ _ r h => by simp [impl_CountByDeterminant.l2] at h⟩
 | k + 1 => by
  obtain ⟨ih0, ih1, ih2⟩ := impl_CountByDeterminant.mono_l k; refine ⟨?_, ?_, ?_⟩
  ·intro y0 y1 y2 y3; unfold impl_CountByDeterminant.l0
   repeat' first
   | (with_reducible exact ih0 _ _ _ _)
   | (with_reducible exact ih1 _ _ _ _ _)
   | (with_reducible exact ih2 _ _ _ _ _ _)
   | (with_reducible exact impl_CountByDeterminant_1.mono _ _ _)
   | (with_reducible refine impl_table.mono _ _ _ _ (fun _ _ => ?_) _)
   | (with_reducible exact LeO.refl _)
   | (with_reducible exact LeO.none _)
   | (with_reducible refine LeO.ite ?_ ?_)
   | (with_reducible refine LeO.bind ?_ (fun _ => ?_))
   | exact ih0 _ _ _ _
   | exact ih1 _ _ _ _ _
   | exact ih2 _ _ _ _ _ _
   | exact impl_CountByDeterminant_1.mono _ _ _
   | exact LeO.none _
   | refine LeO.ite ?_ ?_
   | refine LeO.bind ?_ (fun _ => ?_)
  ·intro y0 y1 y2 y3 y4; unfold impl_CountByDeterminant.l1
   repeat' first
   | (with_reducible exact ih0 _ _ _ _)
   | (with_reducible exact ih1 _ _ _ _ _)
   | (with_reducible exact ih2 _ _ _ _ _ _)
   | (with_reducible exact impl_CountByDeterminant_1.mono _ _ _)
   | (with_reducible refine impl_table.mono _ _ _ _ (fun _ _ => ?_) _)
   | (with_reducible exact LeO.refl _)
   | (with_reducible exact LeO.none _)
   | (with_reducible refine LeO.ite ?_ ?_)
   | (with_reducible refine LeO.bind ?_ (fun _ => ?_))
   | exact ih0 _ _ _ _
   | exact ih1 _ _ _ _ _
   | exact ih2 _ _ _ _ _ _
   | exact impl_CountByDeterminant_1.mono _ _ _
   | exact LeO.none _
   | refine LeO.ite ?_ ?_
   | refine LeO.bind ?_ (fun _ => ?_)
  ·intro y0 y1 y2 y3 y4 y5; unfold impl_CountByDeterminant.l2
   repeat' first
   | (with_reducible exact ih0 _ _ _ _)
   | (with_reducible exact ih1 _ _ _ _ _)
   | (with_reducible exact ih2 _ _ _ _ _ _)
   | (with_reducible exact impl_CountByDeterminant_1.mono _ _ _)
   | (with_reducible refine impl_table.mono _ _ _ _ (fun _ _ => ?_) _)
   | (with_reducible exact LeO.refl _)
   | (with_reducible exact LeO.none _)
   | (with_reducible refine LeO.ite ?_ ?_)
   | (with_reducible refine LeO.bind ?_ (fun _ => ?_))
   | exact ih0 _ _ _ _
   | exact ih1 _ _ _ _ _
   | exact ih2 _ _ _ _ _ _
   | exact impl_CountByDeterminant_1.mono _ _ _
   | exact LeO.none _
   | refine LeO.ite ?_ ?_
   | refine LeO.bind ?_ (fun _ => ?_)
theorem impl_CountByDeterminant.mono : ∀ a0  k, LeO (impl_CountByDeterminant.f k a0) (impl_CountByDeterminant.f (k + 1) a0) := by
 intro a0 k; obtain ⟨ih0, ih1, ih2⟩ := impl_CountByDeterminant.mono_l k; unfold impl_CountByDeterminant.f
 repeat' first
   | (with_reducible exact ih0 _ _ _ _)
   | (with_reducible exact ih1 _ _ _ _ _)
   | (with_reducible exact ih2 _ _ _ _ _ _)
   | (with_reducible exact impl_CountByDeterminant_1.mono _ _ _)
   | (with_reducible refine impl_table.mono _ _ _ _ (fun _ _ => ?_) _)
   | (with_reducible exact LeO.refl _)
   | (with_reducible exact LeO.none _)
   | (with_reducible refine LeO.ite ?_ ?_)
   | (with_reducible refine LeO.bind ?_ (fun _ => ?_))
   | exact ih0 _ _ _ _
   | exact ih1 _ _ _ _ _
   | exact ih2 _ _ _ _ _ _
   | exact impl_CountByDeterminant_1.mono _ _ _
   | exact LeO.none _
   | refine LeO.ite ?_ ?_
   | refine LeO.bind ?_ (fun _ => ?_)
def impl_CountByDeterminant.T13 : Bool × List (List Nat × List Nat) := (true, [([], []), ([], []), ([0, 1], [0, 1]), ([2], [2]), ([], []), ([], []), ([], []), ([5, 6], [5, 6]), ([7], [7]), ([], []), ([8, 9], [8, 9]), ([10], [10]), ([], []), ([], []), ([12, 13], [12, 13]), ([14], [14]), ([], []), ([15, 16], [15, 16]), ([17], [17]), ([11, 18], [11, 18]), ([], []), ([], []), ([20, 21], [20, 21]), ([22], [22]), ([], []), ([23, 24], [23, 24]), ([25], [25]), ([], []), ([], []), ([27, 28], [27, 28]), ([29], [29]), ([], []), ([30, 31], [30, 31]), ([32], [32]), ([26, 33], [26, 33]), ([19, 34], [19, 34]), ([], []), ([35, 36], [35, 36]), ([3, 4, 0, 1, 2, 3, 4, 5, 6, 7, 8, 9, 10, 11, 12, 13, 14, 15, 16, 17, 18, 19, 20, 21, 22, 23, 24, 25, 26, 27, 28, 29, 30, 31, 32, 33, 34, 35, 36, 37], [3, 4]), ([38, 37, 0, 1, 2, 3, 4, 5, 6, 7, 8, 9, 10, 11, 12, 13, 14, 15, 16, 17, 18, 19, 20, 21, 22, 23, 24, 25, 26, 27, 28, 29, 30, 31, 32, 33, 34, 35, 36, 37], [37, 38])])
def impl_CountByDeterminant.B13 : List Nat := [0, 0, 3, 7, 0, 0, 0, 96, 224, 0, 992, 2016, 0, 0, 12288, 28672, 0, 126976, 258048, 524256, 0, 0, 3145728, 7340032, 0, 32505856, 66060288, 0, 0, 402653184, 939524096, 0, 4160749568, 8455716864, 17178820608, 34359738336, 0, 137438953440, 274877906943, 549755813887]
theorem impl_CountByDeterminant.tab13 : rtab .any (opsOf Try.f16 13) = impl_CountByDeterminant.T13 := by kernel_rfl
theorem impl_CountByDeterminant.bits13 : waitsOk impl_CountByDeterminant.T13.2 impl_CountByDeterminant.B13 = true := by kernel_rfl
theorem impl_CountByDeterminant.calls (k : Nat) (a0 : Int) (r1 : Int) (r2 : Bool) (w : World) (h : impl_CountByDeterminant.f k a0 = some (r1, r2)) :
  Calls Try.prog 16 #[.int .i64 a0] w fun e w' => e = .returned (.tuple #[.int .i64 r1, .bool r2]) ∧ Below w.heap.size w w' := by
 have HB := am_ (Below.refl w.heap.size w); (try unfold impl_CountByDeterminant.f at h); have H := h; clear h; replace H := bd_ H; obtain ⟨t101, A2, H⟩ := H; (try dsimp only at H)
 by_cases c3 : t101 = true
 ·subst c3; have H1 : ((impl_table.f k (wrap64 (a0 - 1)) (wrap64 (a0 - 1)) (fun x0_ x1_ => impl_CountByDeterminant_1.f k x0_ x1_)).bind fun t102 => (impl_CountByDeterminant.l0 k a0 t102 1 0)) = some (r1, r2) := tc19_; clear H; have H := H1; clear H1; replace H := bd_ H; obtain ⟨t102, A4, H⟩ := H; (try dsimp only at H); have H' := am_ H; clear H; go_enter Try.func16, Try.ntmps16
  go_wp2_with (first | (refine gc_ (some 10) Try.func31 #[.int .i64 a0] ?_; (with_reducible refine (impl_isDescended.calls a0 true _ A2.out).mono ?_); rintro e w' ⟨rfl, ⟨nd, rfl⟩⟩; refine ⟨_, rfl, ?_⟩) | (refine gc_ (some 16) Try.func33 #[.int .i64 (wrap64 (a0 - 1)), .int .i64 (wrap64 (a0 - 1)), .func (.func 34) #[] #[]] ?_; (with_reducible refine (impl_table.calls k (wrap64 (a0 - 1)) (wrap64 (a0 - 1)) _ _ (fun x0_ x1_ => impl_CountByDeterminant_1.f k x0_ x1_) t102 _ ?side1 A4.out).mono ?_); (case side1 => refine ⟨enters_of Try.func34 (by kernel_rfl) rfl, fun W_ hW_ x0_ v0_ hK0_ x1_ v1_ hK1_ r_ hr_ => ?_⟩; cases (show v0_ = .int .i64 x0_ from (by simpa [Kd.int, Kd.bool, Kd.string, Kd.scalar] using hK0_)); cases (show v1_ = .int .i64 x1_ from (by simpa [Kd.int, Kd.bool, Kd.string, Kd.scalar] using hK1_)); refine (impl_CountByDeterminant_1.calls k x0_ x1_ r_ W_ hr_).mono ?_; exact fun _ _ h_ => ⟨h_.1, h_.2.below⟩); rintro e w5 ⟨v103, rfl, ho0, hb⟩; refine ⟨_, rfl, ?_⟩; have HO104 := am_ (Kd.S_lower ho0 (below_size tc0_)); replace HB := am_ (below_step tc0_ hb); (try clear hb ho0)))
  go_loopg [5, 6] k (fun kq v5 v6 w' => ∃ (x4_1 : Tb_) (x5_1 : Int) (x6_1 : Int), v5 = .int .i64 x5_1 ∧ v6 = .int .i64 x6_1 ∧ Aside0 (impl_CountByDeterminant.l0 kq a0 x4_1 x5_1 x6_1 = some (r1, r2)) ∧ Aside0 (kq ≤ k) ∧ Aside0 (Kd.S (Kd.slice 3 (Kd.int .i64)) 46 w' w.heap.size (fun _ => True) v103 x4_1) ∧ Aside0 (Below w.heap.size w w'))
  case atStart => exact ⟨(t102), (1), (0), tc3_, tc3_, H', ⟨Nat.le_refl _⟩, ⟨(by (with_reducible repeat (first | apply Kd.S_alloc | apply Kd.S_drewN | apply Kd.S_drew)); exact HO104.out)⟩, ⟨tc0_⟩⟩
  case round =>
   clear H'; (try clear c1); (try clear p2); (try clear c3); obtain ⟨x4_1, x5_1, x6_1, rfl, rfl, HA, HK1, HO_4, HB⟩ := hrel
   cases gk with
   | zero => exact absurd HA.out (by simp [impl_CountByDeterminant.l0])
   | succ k1 =>
    have H := HA.out; clear HA; simp only [impl_CountByDeterminant.l0] at H
    replace H := sp_ H; obtain ⟨c6b0, H⟩ | ⟨c6b0, H⟩ := H
    ·have H' := am_ H; clear H; obtain ⟨Ao7, co7, eo7⟩ := Kd.S_slice HO_4.out; subst eo7; go_wp2
     go_loopg [7] k1 (fun kq v7 w' => ∃ (x4_2 : Tb_) (x7_2 : Int), v7 = .int .i64 x7_2 ∧ Aside0 (impl_CountByDeterminant.l1 kq a0 x4_2 x5_1 x6_1 x7_2 = some (r1, r2)) ∧ Aside0 (kq ≤ k1) ∧ Aside0 (Kd.S (Kd.slice 3 (Kd.int .i64)) 46 w' w.heap.size (fun _ => True) (.slice Ao7 x4_1.length co7) x4_2) ∧ Aside0 (Below w.heap.size w w'))
     case atStart => exact ⟨(x4_1), (wrap64 (x6_1 + 1)), tc3_, H', ⟨Nat.le_refl _⟩, ⟨(by (with_reducible repeat (first | apply Kd.S_alloc | apply Kd.S_drewN | apply Kd.S_drew)); exact HO_4.out)⟩, ⟨tc0_⟩⟩
     case round =>
      clear H'; (try clear c1); (try clear p2); (try clear c3); (try clear c6); (try clear c6b0); (try clear p6); (try clear p2); obtain ⟨x4_2, x7_2, rfl, HA, HK2, HO_4, HB⟩ := hrel; have hl4_2 := (Kd.S_reads' HO_4.out).1; rw [hl4_2] at HO_4; (try simp only [hl4_2])
      cases gk with
      | zero => exact absurd HA.out (by simp [impl_CountByDeterminant.l1])
      | succ k2 =>
       have H := HA.out; clear HA; simp only [impl_CountByDeterminant.l1] at H
       replace H := sp_ H; obtain ⟨c8b0, H⟩ | ⟨c8b0, H⟩ := H
       ·(try simp only [hl4_2] at c8b0); have H' := am_ H; clear H; go_wp2
        go_loopg [8] k2 (fun kq v8 w' => ∃ (x4_3 : Tb_) (x8_3 : Int), v8 = .int .i64 x8_3 ∧ Aside0 (impl_CountByDeterminant.l2 kq a0 x4_3 x5_1 x6_1 x7_2 x8_3 = some (r1, r2)) ∧ Aside0 (kq ≤ k2) ∧ Aside0 (Kd.S (Kd.slice 3 (Kd.int .i64)) 46 w' w.heap.size (fun _ => True) (.slice Ao7 x4_2.length co7) x4_3) ∧ Aside0 (Below w.heap.size w w'))
        case atStart => exact ⟨(x4_2), (wrap64 (x6_1 + 1)), tc3_, H', ⟨Nat.le_refl _⟩, ⟨tc78_⟩, ⟨tc0_⟩⟩
        case round =>
         clear H'; (try clear c1); (try clear p2); (try clear c3); (try clear c6); (try clear c6b0); (try clear p6); (try clear c8); (try clear c8b0); (try clear p2); (try clear p6); obtain ⟨x4_3, x8_3, rfl, HA, HK3, HO_4, HB⟩ := hrel; have hl4_3 := (Kd.S_reads' HO_4.out).1; rw [hl4_3] at HO_4; (try simp only [hl4_3])
         cases gk with
         | zero => exact absurd HA.out (by simp [impl_CountByDeterminant.l2])
         | succ k3 =>
          have H := HA.out; clear HA; simp only [impl_CountByDeterminant.l2] at H
          replace H := sp_ H; obtain ⟨c9b0, H⟩ | ⟨c9b0, H⟩ := H
          ·(try simp only [hl4_2, hl4_3] at c9b0); replace H := ps_ H; obtain ⟨c10b0, H⟩ := H; replace H := ps_ H; obtain ⟨c11b0, H⟩ := H; (try simp only [hl4_2, hl4_3] at c11b0); replace H := ps_ H; obtain ⟨c12b0, H⟩ := H; replace H := ps_ H; obtain ⟨c13b0, H⟩ := H; (try simp only [hl4_2, hl4_3] at c13b0); replace H := ps_ H; obtain ⟨c14b0, H⟩ := H; replace H := ps_ H; obtain ⟨c15b0, H⟩ := H; (try simp only [hl4_2, hl4_3] at c15b0); replace H := ps_ H; obtain ⟨c16b0, H⟩ := H; (try simp only [hl4_2, hl4_3] at c16b0); replace H := ps_ H; obtain ⟨c17b0, H⟩ := H; (try simp only [hl4_2, hl4_3] at c17b0); replace H := ps_ H; obtain ⟨c18b0, H⟩ := H; (try simp only [hl4_2, hl4_3] at c18b0)
           replace H := pn_ H; obtain ⟨c19, H⟩ | ⟨c19, H⟩ := H
           ·exact absurd H (by simp)
           ·have c19b0 : (x5_1 == 0) = false := beq_eq_false_iff_ne.mpr c19; have c19b1 : (x5_1 != 0) = true := bne_iff_ne.mpr c19; obtain ⟨y118, hy118⟩ : ∃ y_ : List Int, y_ = ((rd_L3 x4_3 x7_2).set (x8_3 : Int).toNat (wrap64 (Int.tdiv (wrap64 ((wrap64 ((rd (rd_L3 x4_3 x7_2) x8_3) * (rd (rd_L3 x4_3 x6_1) x6_1))) - (wrap64 ((rd (rd_L3 x4_3 x7_2) x6_1) * (rd (rd_L3 x4_3 x6_1) x8_3))))) x5_1))) := ⟨_, rfl⟩; replace H : (impl_CountByDeterminant.l2 k3 a0 (x4_3.set (x7_2 : Int).toNat y118) x5_1 x6_1 x7_2 (wrap64 (x8_3 + 1))) = some (r1, r2) := (by first | (rw [hy118]; with_reducible exact H) | (have H2_ := (Option.bind_some _ _).symm.trans H; rw [hy118]; with_reducible exact H2_) | (have H2_ := (Option.bind_some _ _).symm.trans H; with_reducible exact H2_) | with_reducible exact H | (rw [hy118]; exact H) | exact H); have Ny118 := am_ hy118; clear hy118; obtain ⟨y120, hy120⟩ : ∃ y_ : Tb_, y_ = (x4_3.set (x7_2 : Int).toNat y118) := ⟨_, rfl⟩; replace H : (impl_CountByDeterminant.l2 k3 a0 y120 x5_1 x6_1 x7_2 (wrap64 (x8_3 + 1))) = some (r1, r2) := tc45_; have Ny120 := am_ hy120; clear hy120; have H' := am_ H; clear H
            try go_wp2
            replace HO_4 := am_ (Kd.S_drew HO_4.out); replace HB := am_ (below_drew1 HB.out); have p109 : 0 ≤ (x7_2 : Int) := od_; have q109 : x7_2 < (x4_3.length : Int) := od_; obtain ⟨ad109, A109_0, c109_0, e109, hx109_0, hl109_0, hi109_0⟩ := at_L3 (Kd.S_reads' HO_4.out).2.2 x7_2 p109 q109; cases e109; obtain ⟨ce109, hce109, hMe109, hcc109⟩ := Kd.S_get HO_4.out [] x7_2 p109 (by first | exact q109 | exact od_ | (have e_ := (Kd.S_reads' HO_4.out).1; omega)); obtain ⟨ve109_0, rfl, ge109_0⟩ := hMe109; have hv109_0 := hcc109 0 _ rfl; rw [Nat.add_zero, show ((Kd.slice 3 (Kd.int .i64))).sz = 1 from rfl, Nat.mul_one] at hv109_0; replace hv109_0 := Option.some.inj (hv109_0.symm.trans hx109_0); rw [hv109_0] at ge109_0; have HL109_0 := am_ (show Kd.R (Kd.int .i64) 3 _ _ _ _ (rd_L3 x4_3 x7_2) from ge109_0); clear hv109_0 ge109_0; have HX109_0 := am_ hx109_0; clear hcc109 hce109; have HR109_0 := am_ hi109_0; have HC109_0 := am_ hl109_0; clear hi109_0 hl109_0; replace p109 := eq_true p109; replace q109 := eq_true q109; have p110 : 0 ≤ (x7_2 : Int) := od_; have q110 : x7_2 < (x4_3.length : Int) := od_; obtain ⟨ad110, A110_0, c110_0, e110, hx110_0, hl110_0, hi110_0⟩ := at_L3 (Kd.S_reads' HO_4.out).2.2 x7_2 p110 q110; obtain rfl : ad109 = ad110 := (by injection e110); obtain ⟨ce110, hce110, hMe110, hcc110⟩ := Kd.S_get HO_4.out [] x7_2 p110 (by first | exact q110 | exact od_ | (have e_ := (Kd.S_reads' HO_4.out).1; omega)); obtain ⟨ve110_0, rfl, ge110_0⟩ := hMe110; have hv110_0 := hcc110 0 _ rfl; rw [Nat.add_zero, show ((Kd.slice 3 (Kd.int .i64))).sz = 1 from rfl, Nat.mul_one] at hv110_0; replace hv110_0 := Option.some.inj (hv110_0.symm.trans hx110_0); rw [hv110_0] at ge110_0; have HL110_0 := am_ (show Kd.R (Kd.int .i64) 3 _ _ _ _ (rd_L3 x4_3 x7_2) from ge110_0); clear hv110_0 ge110_0; have HX110_0 := am_ hx110_0; clear hcc110 hce110; have HR110_0 := am_ hi110_0; have HC110_0 := am_ hl110_0; clear hi110_0 hl110_0; replace p110 := eq_true p110; replace q110 := eq_true q110; have ea_ := Option.some.inj (hx109_0.symm.trans hx110_0)
            injection ea_ with ea_ en_ ec_
            subst ea_; subst ec_; clear en_; have p111 : 0 ≤ (x8_3 : Int) := od_; have q111 : x8_3 < ((rd_L3 x4_3 x7_2).length : Int) := od_; obtain ⟨ad111, e111, hx111_0⟩ := Kd.at_int (by repeat (first | (with_reducible exact HR110_0.out) | (with_reducible refine Kd.C_alloc ?_ _) | (with_reducible refine Kd.C_drewN ?_ _) | (with_reducible refine Kd.C_drew ?_) | exact HR110_0.out)) x8_3 p111 q111; cases e111; replace p111 := eq_true p111; replace q111 := eq_true q111; have p112 : 0 ≤ (x6_1 : Int) := od_; have q112 : x6_1 < (x4_3.length : Int) := od_; obtain ⟨ad112, A112_0, c112_0, e112, hx112_0, hl112_0, hi112_0⟩ := at_L3 (Kd.S_reads' HO_4.out).2.2 x6_1 p112 q112; obtain rfl : ad109 = ad112 := (by injection e112); obtain ⟨ce112, hce112, hMe112, hcc112⟩ := Kd.S_get HO_4.out [] x6_1 p112 (by first | exact q112 | exact od_ | (have e_ := (Kd.S_reads' HO_4.out).1; omega)); obtain ⟨ve112_0, rfl, ge112_0⟩ := hMe112; have hv112_0 := hcc112 0 _ rfl; rw [Nat.add_zero, show ((Kd.slice 3 (Kd.int .i64))).sz = 1 from rfl, Nat.mul_one] at hv112_0; replace hv112_0 := Option.some.inj (hv112_0.symm.trans hx112_0); rw [hv112_0] at ge112_0; have HL112_0 := am_ (show Kd.R (Kd.int .i64) 3 _ _ _ _ (rd_L3 x4_3 x6_1) from ge112_0); clear hv112_0 ge112_0; have HX112_0 := am_ hx112_0; clear hcc112 hce112; have HR112_0 := am_ hi112_0; have HC112_0 := am_ hl112_0; clear hi112_0 hl112_0; replace p112 := eq_true p112; replace q112 := eq_true q112; have p113 : 0 ≤ (x6_1 : Int) := od_; have q113 : x6_1 < ((rd_L3 x4_3 x6_1).length : Int) := od_; obtain ⟨ad113, e113, hx113_0⟩ := Kd.at_int (by repeat (first | (with_reducible exact HR112_0.out) | (with_reducible refine Kd.C_alloc ?_ _) | (with_reducible refine Kd.C_drewN ?_ _) | (with_reducible refine Kd.C_drew ?_) | exact HR112_0.out)) x6_1 p113 q113; cases e113; replace p113 := eq_true p113; replace q113 := eq_true q113; have p114 : 0 ≤ (x7_2 : Int) := od_; have q114 : x7_2 < (x4_3.length : Int) := od_; obtain ⟨ad114, A114_0, c114_0, e114, hx114_0, hl114_0, hi114_0⟩ := at_L3 (Kd.S_reads' HO_4.out).2.2 x7_2 p114 q114; obtain rfl : ad109 = ad114 := (by injection e114); obtain ⟨ce114, hce114, hMe114, hcc114⟩ := Kd.S_get HO_4.out [] x7_2 p114 (by first | exact q114 | exact od_ | (have e_ := (Kd.S_reads' HO_4.out).1; omega)); obtain ⟨ve114_0, rfl, ge114_0⟩ := hMe114; have hv114_0 := hcc114 0 _ rfl; rw [Nat.add_zero, show ((Kd.slice 3 (Kd.int .i64))).sz = 1 from rfl, Nat.mul_one] at hv114_0; replace hv114_0 := Option.some.inj (hv114_0.symm.trans hx114_0); rw [hv114_0] at ge114_0; have HL114_0 := am_ (show Kd.R (Kd.int .i64) 3 _ _ _ _ (rd_L3 x4_3 x7_2) from ge114_0); clear hv114_0 ge114_0; have HX114_0 := am_ hx114_0; clear hcc114 hce114; have HR114_0 := am_ hi114_0; have HC114_0 := am_ hl114_0; clear hi114_0 hl114_0; replace p114 := eq_true p114; replace q114 := eq_true q114; have ea_ := Option.some.inj (hx109_0.symm.trans hx114_0)
            injection ea_ with ea_ en_ ec_
            subst ea_; subst ec_; clear en_; have p115 : 0 ≤ (x6_1 : Int) := od_; have q115 : x6_1 < ((rd_L3 x4_3 x7_2).length : Int) := od_; obtain ⟨ad115, e115, hx115_0⟩ := Kd.at_int (by repeat (first | (with_reducible exact HR114_0.out) | (with_reducible refine Kd.C_alloc ?_ _) | (with_reducible refine Kd.C_drewN ?_ _) | (with_reducible refine Kd.C_drew ?_) | exact HR114_0.out)) x6_1 p115 q115; cases e115; replace p115 := eq_true p115; replace q115 := eq_true q115; have p116 : 0 ≤ (x6_1 : Int) := od_; have q116 : x6_1 < (x4_3.length : Int) := od_; obtain ⟨ad116, A116_0, c116_0, e116, hx116_0, hl116_0, hi116_0⟩ := at_L3 (Kd.S_reads' HO_4.out).2.2 x6_1 p116 q116; obtain rfl : ad109 = ad116 := (by injection e116); obtain ⟨ce116, hce116, hMe116, hcc116⟩ := Kd.S_get HO_4.out [] x6_1 p116 (by first | exact q116 | exact od_ | (have e_ := (Kd.S_reads' HO_4.out).1; omega)); obtain ⟨ve116_0, rfl, ge116_0⟩ := hMe116; have hv116_0 := hcc116 0 _ rfl; rw [Nat.add_zero, show ((Kd.slice 3 (Kd.int .i64))).sz = 1 from rfl, Nat.mul_one] at hv116_0; replace hv116_0 := Option.some.inj (hv116_0.symm.trans hx116_0); rw [hv116_0] at ge116_0; have HL116_0 := am_ (show Kd.R (Kd.int .i64) 3 _ _ _ _ (rd_L3 x4_3 x6_1) from ge116_0); clear hv116_0 ge116_0; have HX116_0 := am_ hx116_0; clear hcc116 hce116; have HR116_0 := am_ hi116_0; have HC116_0 := am_ hl116_0; clear hi116_0 hl116_0; replace p116 := eq_true p116; replace q116 := eq_true q116; have ea_ := Option.some.inj (hx112_0.symm.trans hx116_0)
            injection ea_ with ea_ en_ ec_
            subst ea_; subst ec_; clear en_; have p117 : 0 ≤ (x8_3 : Int) := od_; have q117 : x8_3 < ((rd_L3 x4_3 x6_1).length : Int) := od_; obtain ⟨ad117, e117, hx117_0⟩ := Kd.at_int (by repeat (first | (with_reducible exact HR116_0.out) | (with_reducible refine Kd.C_alloc ?_ _) | (with_reducible refine Kd.C_drewN ?_ _) | (with_reducible refine Kd.C_drew ?_) | exact HR116_0.out)) x8_3 p117 q117; cases e117; replace p117 := eq_true p117; replace q117 := eq_true q117; have p20 : 0 ≤ (x8_3 : Int) := od_; have q20 : (x8_3 : Int) < (((rd_L3 x4_3 x7_2).length : Int) : Int) := od_; obtain ⟨go20, co20, eo20, gb20, gl20, cl20, HG20⟩ := Kd.R_form HL109_0.out (by omega); (first | cases eo20 | (injection eo20 with ea_ en_ ec_; (first | subst ea_ | (injection ea_ with ea_; subst ea_)); subst ec_; clear en_)); (first | simp only [add_plain] at hx111_0 | skip); have GB20 := am_ gb20; have GG20 := am_ HG20; clear gb20 gl20 HG20; (first | simp only [add_plain] at hx115_0 | skip); obtain ⟨hx20_0, hf20_0⟩ := Kd.R_celln 0 HL109_0.out (x8_3 : Int) p20 q20; replace p20 := eq_true p20; replace q20 := eq_true q20; have hq22 : (x7_2 : Int) < (x4_3.length : Int) := (by have h_ : (x7_2 : Int) < ((x4_3.length : Int) : Int) := od_; first | exact h_ | (have e_ := (Kd.S_reads' HO_4.out).1; omega) | simpa only [List.length_set, List.length_set] using h_); obtain ⟨oki22, ce22, hcl22, hM22, hcc22, hok22, hbk22⟩ := Kd.S_borrow HO_4.out [] (x7_2 : Int) (od_) hq22; obtain ⟨ve22_0, rfl, ge22_0⟩ := hM22; have hv22 := hcc22 0 _ rfl; rw [Nat.add_zero, show ((Kd.slice 3 (Kd.int .i64))).sz = 1 from rfl, Nat.mul_one] at hv22; replace hv22 := Option.some.inj (hv22.symm.trans HX109_0.out); subst hv22; clear hcc22 hcl22; replace ge22_0 := (show Kd.R (Kd.int .i64) 3 _ _ _ _ (rd_L3 x4_3 x7_2) from ge22_0); have HP22 := Kd.R_putg ge22_0 (x8_3 : Int) (wrap64 (Int.tdiv (wrap64 ((wrap64 ((rd (rd_L3 x4_3 x7_2) x8_3) * (rd (rd_L3 x4_3 x6_1) x6_1))) - (wrap64 ((rd (rd_L3 x4_3 x7_2) x6_1) * (rd (rd_L3 x4_3 x6_1) x8_3))))) x5_1)); rw [← Ny118.out] at HP22; have HS22 := hbk22 HP22.2 (fun k_ e_ => by injection e_ with e_; subst e_; exact ge22_0.1 _ rfl) (x' := y118) (Kd.M_row HP22.1); rw [← Ny120.out] at HS22; have HQ22 := am_ HS22; clear HP22 HS22 hbk22 hok22; refine start_ (n := 40) (S := fun w' => w'.cell? (ad109.add (x7_2).toNat) = some (.slice (some ⟨go20, 0, none⟩) (rd_L3 x4_3 x7_2).length c109_0) ∧ w'.cell? (ad109.add (x7_2).toNat) = some (.slice (some ⟨go20, 0, none⟩) (rd_L3 x4_3 x7_2).length c109_0) ∧ w'.cell? ⟨go20, (x8_3).toNat, none⟩ = some (.int .i64 (rd (rd_L3 x4_3 x7_2) x8_3)) ∧ w'.cell? (ad109.add (x6_1).toNat) = some (.slice (some ad113) (rd_L3 x4_3 x6_1).length c112_0) ∧ w'.cell? (ad113.add (x6_1).toNat) = some (.int .i64 (rd (rd_L3 x4_3 x6_1) x6_1)) ∧ w'.cell? (ad109.add (x7_2).toNat) = some (.slice (some ⟨go20, 0, none⟩) (rd_L3 x4_3 x7_2).length c109_0) ∧ w'.cell? ⟨go20, (x6_1).toNat, none⟩ = some (.int .i64 (rd (rd_L3 x4_3 x7_2) x6_1)) ∧ w'.cell? (ad109.add (x6_1).toNat) = some (.slice (some ad113) (rd_L3 x4_3 x6_1).length c112_0) ∧ w'.cell? (ad113.add (x8_3).toNat) = some (.int .i64 (rd (rd_L3 x4_3 x6_1) x8_3))) (ds := [39]) #[F,F,F,F,F,F,F,F,F,F,F,F,F,F,F,F,F,F,F,F,F,F,F,F,F,F,F,F,F,F,F,F,F,F,F,F,F,F,F,F] (by kernel_rfl) rfl rfl ⟨hx109_0, hx110_0, hx111_0, hx112_0, hx113_0, hx114_0, hx115_0, hx116_0, hx117_0⟩ (fun hHeld => ?_); refine with_tabW impl_CountByDeterminant.tab13 impl_CountByDeterminant.bits13 (fun HT_ HW_ => ?_); generalize wr.drew = w21 at HO_4 HB GG20 HL109_0 HL110_0 HL112_0 HL114_0 HL116_0 HQ22 HR109_0 HR110_0 HR112_0 HR114_0 HR116_0 HX109_0 HX110_0 HX112_0 HX114_0 HX116_0 hf20_0 hx109_0 hx110_0 hx111_0 hx112_0 hx113_0 hx114_0 hx115_0 hx116_0 hx117_0 hx20_0 hHeld ⊢; refine pure_ (i := 0) (N := some 40) #[T,F,F,F,F,F,F,F,F,F,F,F,F,F,F,F,F,F,F,F,F,F,F,F,F,F,F,F,F,F,F,F,F,F,F,F,F,F,F,F] rfl rfl an_ hq_ yi_ nm_ ?_; refine pure_ (i := 1) (N := some 41) #[T,T,F,F,F,F,F,F,F,F,F,F,F,F,F,F,F,F,F,F,F,F,F,F,F,F,F,F,F,F,F,F,F,F,F,F,F,F,F,F] rfl rfl an_ hq_ yi_ nm_ ?_; refine pure_ (i := 2) (N := some 42) #[T,T,T,F,F,F,F,F,F,F,F,F,F,F,F,F,F,F,F,F,F,F,F,F,F,F,F,F,F,F,F,F,F,F,F,F,F,F,F,F] rfl rfl an_ hq_ yi_ nm_ ?_; refine pure_ (i := 4) (N := some 44) #[T,T,T,F,T,F,F,F,F,F,F,F,F,F,F,F,F,F,F,F,F,F,F,F,F,F,F,F,F,F,F,F,F,F,F,F,F,F,F,F] rfl rfl an_ hq_ yi_ nm_ ?_; refine pure_ (i := 5) (N := some 45) #[T,T,T,F,T,T,F,F,F,F,F,F,F,F,F,F,F,F,F,F,F,F,F,F,F,F,F,F,F,F,F,F,F,F,F,F,F,F,F,F] rfl rfl an_ hq_ yi_ nm_ ?_; refine pure_ (i := 6) (N := some 46) #[T,T,T,F,T,T,T,F,F,F,F,F,F,F,F,F,F,F,F,F,F,F,F,F,F,F,F,F,F,F,F,F,F,F,F,F,F,F,F,F] rfl rfl an_ hq_ yi_ nm_ ?_; refine pure_ (i := 7) (N := some 47) #[T,T,T,F,T,T,T,T,F,F,F,F,F,F,F,F,F,F,F,F,F,F,F,F,F,F,F,F,F,F,F,F,F,F,F,F,F,F,F,F] rfl rfl an_ hq_ yi_ nm_ ?_; refine pure_ (i := 9) (N := some 49) #[T,T,T,F,T,T,T,T,F,T,F,F,F,F,F,F,F,F,F,F,F,F,F,F,F,F,F,F,F,F,F,F,F,F,F,F,F,F,F,F] rfl rfl an_ hq_ yi_ nm_ ?_; refine pure_ (i := 12) (N := some 52) #[T,T,T,F,T,T,T,T,F,T,F,F,T,F,F,F,F,F,F,F,F,F,F,F,F,F,F,F,F,F,F,F,F,F,F,F,F,F,F,F] rfl rfl an_ hq_ yi_ nm_ ?_; refine pure_ (i := 13) (N := some 53) #[T,T,T,F,T,T,T,T,F,T,F,F,T,T,F,F,F,F,F,F,F,F,F,F,F,F,F,F,F,F,F,F,F,F,F,F,F,F,F,F] rfl rfl an_ hq_ yi_ nm_ ?_; refine pure_ (i := 14) (N := some 54) #[T,T,T,F,T,T,T,T,F,T,F,F,T,T,T,F,F,F,F,F,F,F,F,F,F,F,F,F,F,F,F,F,F,F,F,F,F,F,F,F] rfl rfl an_ hq_ yi_ nm_ ?_; refine pure_ (i := 16) (N := some 56) #[T,T,T,F,T,T,T,T,F,T,F,F,T,T,T,F,T,F,F,F,F,F,F,F,F,F,F,F,F,F,F,F,F,F,F,F,F,F,F,F] rfl rfl an_ hq_ yi_ nm_ ?_; refine pure_ (i := 20) (N := some 60) #[T,T,T,F,T,T,T,T,F,T,F,F,T,T,T,F,T,F,F,F,T,F,F,F,F,F,F,F,F,F,F,F,F,F,F,F,F,F,F,F] rfl rfl an_ hq_ yi_ nm_ ?_; refine pure_ (i := 21) (N := some 61) #[T,T,T,F,T,T,T,T,F,T,F,F,T,T,T,F,T,F,F,F,T,T,F,F,F,F,F,F,F,F,F,F,F,F,F,F,F,F,F,F] rfl rfl an_ hq_ yi_ nm_ ?_; refine pure_ (i := 22) (N := some 62) #[T,T,T,F,T,T,T,T,F,T,F,F,T,T,T,F,T,F,F,F,T,T,T,F,F,F,F,F,F,F,F,F,F,F,F,F,F,F,F,F] rfl rfl an_ hq_ yi_ nm_ ?_; refine pure_ (i := 24) (N := some 64) #[T,T,T,F,T,T,T,T,F,T,F,F,T,T,T,F,T,F,F,F,T,T,T,F,T,F,F,F,F,F,F,F,F,F,F,F,F,F,F,F] rfl rfl an_ hq_ yi_ nm_ ?_; refine pure_ (i := 27) (N := some 67) #[T,T,T,F,T,T,T,T,F,T,F,F,T,T,T,F,T,F,F,F,T,T,T,F,T,F,F,T,F,F,F,F,F,F,F,F,F,F,F,F] rfl rfl an_ hq_ yi_ nm_ ?_; refine pure_ (i := 28) (N := some 68) #[T,T,T,F,T,T,T,T,F,T,F,F,T,T,T,F,T,F,F,F,T,T,T,F,T,F,F,T,T,F,F,F,F,F,F,F,F,F,F,F] rfl rfl an_ hq_ yi_ nm_ ?_; refine pure_ (i := 29) (N := some 69) #[T,T,T,F,T,T,T,T,F,T,F,F,T,T,T,F,T,F,F,F,T,T,T,F,T,F,F,T,T,T,F,F,F,F,F,F,F,F,F,F] rfl rfl an_ hq_ yi_ nm_ ?_; refine pure_ (i := 31) (N := some 71) #[T,T,T,F,T,T,T,T,F,T,F,F,T,T,T,F,T,F,F,F,T,T,T,F,T,F,F,T,T,T,F,T,F,F,F,F,F,F,F,F] rfl rfl an_ hq_ yi_ nm_ ?_; refine pure_ (i := 36) (N := some 76) #[T,T,T,F,T,T,T,T,F,T,F,F,T,T,T,F,T,F,F,F,T,T,T,F,T,F,F,T,T,T,F,T,F,F,F,F,T,F,F,F] rfl rfl an_ hq_ yi_ nm_ ?_; refine take_ (i := 3) (N := some 43) #[T,T,T,T,T,T,T,T,F,T,F,F,T,T,T,F,T,F,F,F,T,T,T,F,T,F,F,T,T,T,F,T,F,F,F,F,T,F,F,F] rfl rfl av_ hq_ yj9_ hHeld nm_ ?_; refine take_ (i := 8) (N := some 48) #[T,T,T,T,T,T,T,T,T,T,F,F,T,T,T,F,T,F,F,F,T,T,T,F,T,F,F,T,T,T,F,T,F,F,F,F,T,F,F,F] rfl rfl av_ hq_ yj9_ hHeld nm_ ?_; refine pure_ (i := 10) (N := some 50) #[T,T,T,T,T,T,T,T,T,T,T,F,T,T,T,F,T,F,F,F,T,T,T,F,T,F,F,T,T,T,F,T,F,F,F,F,T,F,F,F] rfl rfl an_ hq_ yi_ nm_ ?_; refine take_ (i := 11) (N := some 51) #[T,T,T,T,T,T,T,T,T,T,T,T,T,T,T,F,T,F,F,F,T,T,T,F,T,F,F,T,T,T,F,T,F,F,F,F,T,F,F,F] rfl rfl av_ hq_ yj9_ hHeld nm_ ?_; refine take_ (i := 15) (N := some 55) #[T,T,T,T,T,T,T,T,T,T,T,T,T,T,T,T,T,F,F,F,T,T,T,F,T,F,F,T,T,T,F,T,F,F,F,F,T,F,F,F] rfl rfl av_ hq_ yj9_ hHeld nm_ ?_; refine pure_ (i := 17) (N := some 57) #[T,T,T,T,T,T,T,T,T,T,T,T,T,T,T,T,T,T,F,F,T,T,T,F,T,F,F,T,T,T,F,T,F,F,F,F,T,F,F,F] rfl rfl an_ hq_ yi_ nm_ ?_; refine take_ (i := 18) (N := some 58) #[T,T,T,T,T,T,T,T,T,T,T,T,T,T,T,T,T,T,T,F,T,T,T,F,T,F,F,T,T,T,F,T,F,F,F,F,T,F,F,F] rfl rfl av_ hq_ yj9_ hHeld nm_ ?_; refine pure_ (i := 19) (N := some 59) #[T,T,T,T,T,T,T,T,T,T,T,T,T,T,T,T,T,T,T,T,T,T,T,F,T,F,F,T,T,T,F,T,F,F,F,F,T,F,F,F] rfl rfl an_ hq_ yi_ nm_ ?_; refine take_ (i := 23) (N := some 63) #[T,T,T,T,T,T,T,T,T,T,T,T,T,T,T,T,T,T,T,T,T,T,T,T,T,F,F,T,T,T,F,T,F,F,F,F,T,F,F,F] rfl rfl av_ hq_ yj9_ hHeld nm_ ?_; refine pure_ (i := 25) (N := some 65) #[T,T,T,T,T,T,T,T,T,T,T,T,T,T,T,T,T,T,T,T,T,T,T,T,T,T,F,T,T,T,F,T,F,F,F,F,T,F,F,F] rfl rfl an_ hq_ yi_ nm_ ?_; refine take_ (i := 26) (N := some 66) #[T,T,T,T,T,T,T,T,T,T,T,T,T,T,T,T,T,T,T,T,T,T,T,T,T,T,T,T,T,T,F,T,F,F,F,F,T,F,F,F] rfl rfl av_ hq_ yj9_ hHeld nm_ ?_; refine take_ (i := 30) (N := some 70) #[T,T,T,T,T,T,T,T,T,T,T,T,T,T,T,T,T,T,T,T,T,T,T,T,T,T,T,T,T,T,T,T,F,F,F,F,T,F,F,F] rfl rfl av_ hq_ yj9_ hHeld nm_ ?_; refine pure_ (i := 32) (N := some 72) #[T,T,T,T,T,T,T,T,T,T,T,T,T,T,T,T,T,T,T,T,T,T,T,T,T,T,T,T,T,T,T,T,T,F,F,F,T,F,F,F] rfl rfl an_ hq_ yi_ nm_ ?_; refine take_ (i := 33) (N := some 73) #[T,T,T,T,T,T,T,T,T,T,T,T,T,T,T,T,T,T,T,T,T,T,T,T,T,T,T,T,T,T,T,T,T,T,F,F,T,F,F,F] rfl rfl av_ hq_ yj9_ hHeld nm_ ?_; refine pure_ (i := 34) (N := some 74) #[T,T,T,T,T,T,T,T,T,T,T,T,T,T,T,T,T,T,T,T,T,T,T,T,T,T,T,T,T,T,T,T,T,T,T,F,T,F,F,F] rfl rfl an_ hq_ yi_ nm_ ?_; refine pure_ (i := 35) (N := some 75) #[T,T,T,T,T,T,T,T,T,T,T,T,T,T,T,T,T,T,T,T,T,T,T,T,T,T,T,T,T,T,T,T,T,T,T,T,T,F,F,F] rfl rfl an_ hq_ yi_ nm_ ?_; refine pure_ (i := 37) (N := some 77) #[T,T,T,T,T,T,T,T,T,T,T,T,T,T,T,T,T,T,T,T,T,T,T,T,T,T,T,T,T,T,T,T,T,T,T,T,T,T,F,F] rfl rfl an_ hq_ yi_ nm_ ?_; refine pure_ (i := 38) (N := some 78) #[T,T,T,T,T,T,T,T,T,T,T,T,T,T,T,T,T,T,T,T,T,T,T,T,T,T,T,T,T,T,T,T,T,T,T,T,T,T,T,F] rfl rfl an_ hq_ yi_ nm_ ?_; refine last_ (i := 39) (N := none) #[T,T,T,T,T,T,T,T,T,T,T,T,T,T,T,T,T,T,T,T,T,T,T,T,T,T,T,T,T,T,T,T,T,T,T,T,T,T,T,T] rfl rfl (one_of HT_.out (by kernel_rfl)) (by decide) (fun K hK => ?_); refine skip_ (w1 := ?_) (by rfl) rfl ?_ ?_; rotate_left
            ·go_simp
             rfl
            refine hK.out _ _ ?_; clear hK K; refine done_ (done_of HT_.out (by kernel_rfl)) ?_
            try go_wp2
            (try simp only [← hl4_3])
            go_roundg k3
            case measure => have := HK1.out; have := HK2.out; have := HK3.out; omega
            case rel => exact ⟨(y120), (wrap64 (x8_3 + 1)), tc3_, H', ⟨(by have := HK1.out; have := HK2.out; have := HK3.out; omega)⟩, ⟨(by (try simp only [hl4_2]); (try simp only [hl4_3]); (with_reducible repeat (first | apply Kd.S_alloc | apply Kd.S_drewN | apply Kd.S_drew)); exact HQ22.out)⟩, ⟨(by repeat (first | (with_reducible first | exact HB.out | apply below_alloc | apply pw_below_drewN | apply below_drew1 | refine below_set ?_ GB20.out) | exact HB.out))⟩⟩
          ·(try simp only [hl4_2, hl4_3] at c9b0); have H' := am_ H; clear H; go_wp2; (try simp only [← hl4_2, ← hl4_3])
           go_roundg k3
           case measure => have := HK1.out; have := HK2.out; have := HK3.out; omega
           case rel => exact ⟨(x4_3), (wrap64 (x7_2 + 1)), tc3_, H', ⟨(by have := HK1.out; have := HK2.out; have := HK3.out; omega)⟩, ⟨(by (try simp only [hl4_2]); (try simp only [hl4_3]); (with_reducible repeat (first | apply Kd.S_alloc | apply Kd.S_drewN | apply Kd.S_drew)); exact HO_4.out)⟩, ⟨tc0_⟩⟩
       ·(try simp only [hl4_2] at c8b0); replace H := ps_ H; obtain ⟨c24b0, H⟩ := H; replace H := ps_ H; obtain ⟨c25b0, H⟩ := H; (try simp only [hl4_2] at c25b0); replace H := ps_ H; obtain ⟨c26b0, H⟩ := H; (try simp only [hl4_2] at c26b0); have H' := am_ H; clear H; have p107 : 0 ≤ (x6_1 : Int) := od_; have q107 : x6_1 < (x4_2.length : Int) := od_; obtain ⟨ad107, A107_0, c107_0, e107, hx107_0, hl107_0, hi107_0⟩ := at_L3 (Kd.S_reads' HO_4.out).2.2 x6_1 p107 q107; cases e107; obtain ⟨ce107, hce107, hMe107, hcc107⟩ := Kd.S_get HO_4.out [] x6_1 p107 (by first | exact q107 | exact od_ | (have e_ := (Kd.S_reads' HO_4.out).1; omega)); obtain ⟨ve107_0, rfl, ge107_0⟩ := hMe107; have hv107_0 := hcc107 0 _ rfl; rw [Nat.add_zero, show ((Kd.slice 3 (Kd.int .i64))).sz = 1 from rfl, Nat.mul_one] at hv107_0; replace hv107_0 := Option.some.inj (hv107_0.symm.trans hx107_0); rw [hv107_0] at ge107_0; have HL107_0 := am_ (show Kd.R (Kd.int .i64) 3 _ _ _ _ (rd_L3 x4_2 x6_1) from ge107_0); clear hv107_0 ge107_0; have HX107_0 := am_ hx107_0; clear hcc107 hce107; have HR107_0 := am_ hi107_0; have HC107_0 := am_ hl107_0; clear hi107_0 hl107_0; replace p107 := eq_true p107; replace q107 := eq_true q107; have p108 : 0 ≤ (x6_1 : Int) := od_; have q108 : x6_1 < ((rd_L3 x4_2 x6_1).length : Int) := od_; obtain ⟨ad108, e108, hx108_0⟩ := Kd.at_int tc55_ x6_1 p108 q108; cases e108; replace p108 := eq_true p108; replace q108 := eq_true q108; go_wp2; (try simp only [← hl4_2])
        go_roundg k2
        case measure => have := HK1.out; have := HK2.out; omega
        case rel => exact ⟨(x4_2), (rd (rd_L3 x4_2 x6_1) x6_1), (wrap64 (x6_1 + 1)), tc3_, tc3_, H', ⟨tc60_⟩, ⟨tc78_⟩, ⟨tc0_⟩⟩
    ·replace H := pn_ H; obtain ⟨c27, H⟩ | ⟨c27, H⟩ := H
     ·have c27b0 : (a0 == 1) = true := beq_iff_eq.mpr c27; have c27b1 : (a0 != 1) = false := bne_eq_false_iff_eq.mpr c27; clear c27; simp only [Option.some.injEq, Prod.mk.injEq] at H; obtain ⟨rfl, rfl⟩ := H; obtain ⟨Ao28, co28, eo28⟩ := Kd.S_slice HO_4.out; subst eo28; go_wp2
      go_ret2
      exact ⟨tc4_, tc0_⟩
     ·have c27b0 : (a0 == 1) = false := beq_eq_false_iff_ne.mpr c27; have c27b1 : (a0 != 1) = true := bne_iff_ne.mpr c27; obtain ⟨ji29, hji29⟩ : ∃ j_ : Int, (wrap64 (a0 - 2)) = j_ := ⟨_, rfl⟩; replace H : (if 0 ≤ (ji29) then (if (ji29) < (x4_1.length : Int) then (if (ji29) < ((rd_L3 x4_1 (ji29)).length : Int) then (some (rd (rd_L3 x4_1 (ji29)) (ji29), true)) else (none)) else (none)) else (none)) = some (r1, r2) := (by first | (rw [hji29] at H; exact H) | (simp only [hji29] at H ⊢; exact H)); have hji29w : (IntKind.i64.wrap (a0 - 2)) = ji29 := (i64_w _).trans hji29; replace H := ps_ H; obtain ⟨c30b0, H⟩ := H; replace H := ps_ H; obtain ⟨c31b0, H⟩ := H; replace H := ps_ H; obtain ⟨c32b0, H⟩ := H; simp only [Option.some.injEq, Prod.mk.injEq] at H; obtain ⟨rfl, rfl⟩ := H; obtain ⟨Ao33, co33, eo33⟩ := Kd.S_slice HO_4.out; subst eo33; have p105 : 0 ≤ ((ji29) : Int) := od_; have q105 : (ji29) < (x4_1.length : Int) := od_; obtain ⟨ad105, A105_0, c105_0, e105, hx105_0, hl105_0, hi105_0⟩ := at_L3 (Kd.S_reads' HO_4.out).2.2 (ji29) p105 q105; cases e105; obtain ⟨ce105, hce105, hMe105, hcc105⟩ := Kd.S_get HO_4.out [] (ji29) p105 (by first | exact q105 | exact od_ | (have e_ := (Kd.S_reads' HO_4.out).1; omega)); obtain ⟨ve105_0, rfl, ge105_0⟩ := hMe105; have hv105_0 := hcc105 0 _ rfl; rw [Nat.add_zero, show ((Kd.slice 3 (Kd.int .i64))).sz = 1 from rfl, Nat.mul_one] at hv105_0; replace hv105_0 := Option.some.inj (hv105_0.symm.trans hx105_0); rw [hv105_0] at ge105_0; have HL105_0 := am_ (show Kd.R (Kd.int .i64) 3 _ _ _ _ (rd_L3 x4_1 (ji29)) from ge105_0); clear hv105_0 ge105_0; have HX105_0 := am_ hx105_0; clear hcc105 hce105; have HR105_0 := am_ hi105_0; have HC105_0 := am_ hl105_0; clear hi105_0 hl105_0; replace p105 := eq_true p105; replace q105 := eq_true q105; have p106 : 0 ≤ ((ji29) : Int) := od_; have q106 : (ji29) < ((rd_L3 x4_1 (ji29)).length : Int) := od_; obtain ⟨ad106, e106, hx106_0⟩ := Kd.at_int tc41_ (ji29) p106 q106; cases e106; replace p106 := eq_true p106; replace q106 := eq_true q106; go_wp2
      go_ret2
      exact ⟨(by first | rfl | (simp [errW_none, errW_some] <;> rfl) | (simp only [← hji29]; first | rfl | (simp [errW_none, errW_some] <;> rfl)) | (simp [*, errW_none, errW_some] <;> rfl)), tc0_⟩
 ·replace c3 := Bool.eq_false_iff.mpr c3; subst c3; have H1 : (some (0, false)) = some (r1, r2) := tc8_; clear H; have H := H1; clear H1; simp only [Option.some.injEq, Prod.mk.injEq] at H; obtain ⟨rfl, rfl⟩ := H; go_enter Try.func16, Try.ntmps16
  go_wp2_with (first | (refine gc_ (some 10) Try.func31 #[.int .i64 a0] ?_; (with_reducible refine (impl_isDescended.calls a0 false _ A2.out).mono ?_); rintro e w' ⟨rfl, ⟨nd, rfl⟩⟩; refine ⟨_, rfl, ?_⟩))
  go_ret2
  exact ⟨tc4_, tc0_⟩

/-! ### spec_dpChoose: function 37 -/
def spec_dpChoose.l0 : Nat → Int → Int → Int → Int → Option (Int)
 | 0, _, _, _, _ => none
 | k + 1, x0, x1, x5, x6 => if x6 ≤ x1 then (if x6 = 0 then (none) else (spec_dpChoose.l0 k x0 x1 (wrap64 (Int.tdiv (wrap64 (x5 * (wrap64 ((wrap64 (x0 - x1)) + x6)))) x6)) (wrap64 (x6 + 1)))) else (some x5)
def spec_dpChoose.f (k : Nat) (a0 : Int) (a1 : Int) : Option (Int) := spec_dpChoose.l0 k a0 a1 1 1
theorem spec_dpChoose.mono_l : ∀ k, (∀ y0 y1 y2 y3, LeO (spec_dpChoose.l0 k y0 y1 y2 y3) (spec_dpChoose.l0 (k + 1) y0 y1 y2 y3))
 | 0 => fun _ _ _ _ r h => by simp [spec_dpChoose.l0] at h
 | k + 1 => by
  have ih0 := spec_dpChoose.mono_l k
  ·intro y0 y1 y2 y3; unfold spec_dpChoose.l0
   repeat' first
   | (with_reducible exact ih0 _ _ _ _)
   | (with_reducible exact LeO.refl _)
   | (with_reducible exact LeO.none _)
   | (with_reducible refine LeO.ite ?_ ?_)
   | (with_reducible refine LeO.bind ?_ (fun _ => ?_))
   | exact ih0 _ _ _ _
   | exact LeO.none _
   | refine LeO.ite ?_ ?_
   | refine LeO.bind ?_ (fun _ => ?_)
theorem spec_dpChoose.mono : ∀ a0 a1  k, LeO (spec_dpChoose.f k a0 a1) (spec_dpChoose.f (k + 1) a0 a1) := by
 intro a0 a1 k; have ih0 := spec_dpChoose.mono_l k; unfold spec_dpChoose.f
 repeat' first
   | (with_reducible exact ih0 _ _ _ _)
   | (with_reducible exact LeO.refl _)
   | (with_reducible exact LeO.none _)
   | (with_reducible refine LeO.ite ?_ ?_)
   | (with_reducible refine LeO.bind ?_ (fun _ => ?_))
   | exact ih0 _ _ _ _
   | exact LeO.none _
   | refine LeO.ite ?_ ?_
   | refine LeO.bind ?_ (fun _ => ?_)
theorem spec_dpChoose.calls (k : Nat) (a0 : Int) (a1 : Int) (r : Int) (w : World) (h : spec_dpChoose.f k a0 a1 = some r) :
  Calls Try.prog 37 #[.int .i64 a0, .int .i64 a1] w fun e w' => e = .returned (.int .i64 r) ∧ Drawn0 w w' := by
 (try unfold spec_dpChoose.f at h); have H := h; clear h; have H' := am_ H; clear H; go_enter Try.func37, Try.ntmps37; go_wp2
 go_loopg [5, 6] k (fun kq v5 v6 w' => ∃ (x5_1 : Int) (x6_1 : Int), v5 = .int .i64 x5_1 ∧ v6 = .int .i64 x6_1 ∧ Aside0 (spec_dpChoose.l0 kq a0 a1 x5_1 x6_1 = some r) ∧ Aside0 (kq ≤ k) ∧ Drawn0 w w')
 case atStart => exact ⟨(1), (1), tc3_, tc3_, H', ⟨Nat.le_refl _⟩, tc5_⟩
 case round =>
  clear H'; (try clear p2); obtain ⟨x5_1, x6_1, rfl, rfl, HA, HK1, ⟨m1, rfl⟩⟩ := hrel
  cases gk with
  | zero => exact absurd HA.out (by simp [spec_dpChoose.l0])
  | succ k1 =>
   have H := HA.out; clear HA; simp only [spec_dpChoose.l0] at H
   replace H := sp_ H; obtain ⟨c3b0, H⟩ | ⟨c3b0, H⟩ := H
   ·replace H := pn_ H; obtain ⟨c4, H⟩ | ⟨c4, H⟩ := H
    ·exact absurd H (by simp)
    ·have c4b0 : (x6_1 == 0) = false := beq_eq_false_iff_ne.mpr c4; have c4b1 : (x6_1 != 0) = true := bne_iff_ne.mpr c4; have H' := am_ H; clear H; go_wp2
     go_roundg k1
     case measure => have := HK1.out; omega
     case rel => exact ⟨(wrap64 (Int.tdiv (wrap64 (x5_1 * (wrap64 ((wrap64 (a0 - a1)) + x6_1)))) x6_1)), (wrap64 (x6_1 + 1)), tc3_, tc3_, H', ⟨tc40_⟩, tc5_⟩
   ·obtain rfl := Option.some.inj H; go_wp2
    go_ret
    exact ⟨tc3_, tc5_⟩

/-! ### spec_dpDeterminant: function 38 -/
mutual
def spec_dpDeterminant.l0 : Nat → Tb_ → Int → Int → List Int → Int → Int → Option (Int)
 | 0, _, _, _, _, _, _ => none
 | k + 1, x0, x3, x4, x15, x16, x17 => if x17 < x16 then (if 0 ≤ x17 then (if x17 < (x15.length : Int) then (if 1 ≤ (x0.length : Int) then ((some (x0.drop 1 : Tb_)).bind fun y103 => (spec_dpDeterminant.l1 k x0 x3 x4 x17 (rd x15 x17) ([] : Tb_) x15 x16 x17 y103 (y103.length : Int) 0)) else (none)) else (none)) else (none)) else (some x3)
def spec_dpDeterminant.l1 : Nat → Tb_ → Int → Int → Int → Int → Tb_ → List Int → Int → Int → Tb_ → Int → Int → Option (Int)
 | 0, _, _, _, _, _, _, _, _, _, _, _, _ => none
 | k + 1, x0, x3, x4, x5, x6, x7, x15, x16, x17, x23, x24, x25 => if x25 < x24 then (if 0 ≤ x25 then (if x25 < (x23.length : Int) then (if 0 ≤ x5 then (if x5 ≤ ((rd_L3 x23 x25).length : Int) then ((spec_l1Own.f ((rd_L3 x23 x25).take (x5 : Int).toNat)).bind fun t109 => (if 0 ≤ (wrap64 (x5 + 1)) then (if (wrap64 (x5 + 1)) ≤ ((rd_L3 x23 x25).length : Int) then (if t109.length + ((rd_L3 x23 x25).drop ((wrap64 (x5 + 1)) : Int).toNat).length < 17592186044416 then (if x7.length < 5864062014805 then (spec_dpDeterminant.l1 k x0 x3 x4 x5 x6 (x7 ++ [(t109 ++ ((rd_L3 x23 x25).drop ((wrap64 (x5 + 1)) : Int).toNat))]) x15 x16 x17 x23 x24 (wrap64 (x25 + 1))) else (none)) else (none)) else (none)) else (none))) else (none)) else (none)) else (none)) else (none)) else ((spec_dpDeterminant.f k x7).bind fun t119 => (spec_dpDeterminant.l0 k x0 (wrap64 (x3 + (wrap64 ((wrap64 (x4 * x6)) * t119)))) (wrap64 (-x4)) x15 x16 (wrap64 (x17 + 1))))
def spec_dpDeterminant.f : Nat → Tb_ → Option (Int)
 | 0, _ => none
 | k + 1, l0 => if (l0.length : Int) = 0 then (some 1) else (if 0 < (l0.length : Int) then (spec_dpDeterminant.l0 k l0 0 1 (rd_L3 l0 0) ((rd_L3 l0 0).length : Int) 0) else (none))
end
theorem spec_dpDeterminant.mono_l : ∀ k, (∀ y0, LeO (spec_dpDeterminant.f k y0) (spec_dpDeterminant.f (k + 1) y0)) ∧ (∀ y0 y1 y2 y3 y4 y5, LeO (spec_dpDeterminant.l0 k y0 y1 y2 y3 y4 y5) (spec_dpDeterminant.l0 (k + 1) y0 y1 y2 y3 y4 y5)) ∧ (∀ y0 y1 y2 y3 y4 y5 y6 y7 y8 y9 y10 y11, LeO (spec_dpDeterminant.l1 k y0 y1 y2 y3 y4 y5 y6 y7 y8 y9 y10 y11) (spec_dpDeterminant.l1 (k + 1) y0 y1 y2 y3 y4 y5 y6 y7 y8 y9 y10 y11))
 | 0 => ⟨fun _ r h => by simp [spec_dpDeterminant.f] at h, fun _ _ _ _ _ _ r h => by simp [spec_dpDeterminant.l0] at h, fun _ _ _ _ _ _ _ _ _ _ _ _ r h => by simp [spec_dpDeterminant.l1] at h⟩
 | k + 1 => by
  obtain ⟨ih0, ih1, ih2⟩ := spec_dpDeterminant.mono_l k; refine ⟨?_, ?_, ?_⟩
  ·intro y0; unfold spec_dpDeterminant.f
   repeat' first
   | (with_reducible exact ih0 _)
   | (with_reducible exact ih1 _ _ _ _ _ _)
   | (with_reducible exact ih2 _ _ _ _ _ _ _ _ _ _ _ _)
   | (with_reducible exact LeO.refl _)
   | (with_reducible exact LeO.none _)
   | (with_reducible refine LeO.ite ?_ ?_)
   | (with_reducible refine LeO.bind ?_ (fun _ => ?_))
   | exact ih0 _
   | exact ih1 _ _ _ _ _ _
   | exact ih2 _ _ _ _ _ _ _ _ _ _ _ _
   | exact LeO.none _
   | refine LeO.ite ?_ ?_
   | refine LeO.bind ?_ (fun _ => ?_)
  ·intro y0 y1 y2 y3 y4 y5; unfold spec_dpDeterminant.l0
   repeat' first
   | (with_reducible exact ih0 _)
   | (with_reducible exact ih1 _ _ _ _ _ _)
   | (with_reducible exact ih2 _ _ _ _ _ _ _ _ _ _ _ _)
   | (with_reducible exact LeO.refl _)
   | (with_reducible exact LeO.none _)
   | (with_reducible refine LeO.ite ?_ ?_)
   | (with_reducible refine LeO.bind ?_ (fun _ => ?_))
   | exact ih0 _
   | exact ih1 _ _ _ _ _ _
   | exact ih2 _ _ _ _ _ _ _ _ _ _ _ _
   | exact LeO.none _
   | refine LeO.ite ?_ ?_
   | refine LeO.bind ?_ (fun _ => ?_)
  ·intro y0 y1 y2 y3 y4 y5 y6 y7 y8 y9 y10 y11; unfold spec_dpDeterminant.l1
   repeat' first
   | (with_reducible exact ih0 _)
   | (with_reducible exact ih1 _ _ _ _ _ _)
   | (with_reducible exact ih2 _ _ _ _ _ _ _ _ _ _ _ _)
   | (with_reducible exact LeO.refl _)
   | (with_reducible exact LeO.none _)
   | (with_reducible refine LeO.ite ?_ ?_)
   | (with_reducible refine LeO.bind ?_ (fun _ => ?_))
   | exact ih0 _
   | exact ih1 _ _ _ _ _ _
   | exact ih2 _ _ _ _ _ _ _ _ _ _ _ _
   | exact LeO.none _
   | refine LeO.ite ?_ ?_
   | refine LeO.bind ?_ (fun _ => ?_)
theorem spec_dpDeterminant.mono : ∀ a0  k, LeO (spec_dpDeterminant.f k a0) (spec_dpDeterminant.f (k + 1) a0) := by
 intro a0 k; obtain ⟨ih0, ih1, ih2⟩ := spec_dpDeterminant.mono_l k; exact ih0 a0
def spec_dpDeterminant.T11 : Bool × List (List Nat × List Nat) := (true, [([], []), ([], []), ([], []), ([1, 2], [1, 2]), ([3], [3]), ([], []), ([], []), ([6], [6]), ([5, 7], [5, 7]), ([4, 8, 4], [4, 8]), ([9], [9]), ([0, 10, 9], [0, 10]), ([11, 11, 0, 1, 2, 3, 4, 5, 6, 7, 8, 9, 10, 11], [0, 11])])
def spec_dpDeterminant.B11 : List Nat := [0, 0, 0, 6, 14, 0, 0, 64, 224, 510, 1022, 2047, 4095]
theorem spec_dpDeterminant.tab11 : rtab .any (opsOf Try.f38 11) = spec_dpDeterminant.T11 := by kernel_rfl
theorem spec_dpDeterminant.bits11 : waitsOk spec_dpDeterminant.T11.2 spec_dpDeterminant.B11 = true := by kernel_rfl
theorem spec_dpDeterminant.calls (k : Nat) : ∀ (A0 : Option Addr) (c0 : Nat) (l0 : Tb_) (r : Int) (w : World) (hr0 : Kd.C (Kd.slice 3 (Kd.int .i64)) w A0 l0.length l0) (hc0 : l0.length ≤ c0) (h : spec_dpDeterminant.f k l0 = some r),
  Calls Try.prog 38 #[.slice A0 l0.length c0] w fun e w' => e = .returned (.int .i64 r) ∧ Below w.heap.size w w' := by
 induction k using Nat.strongRecOn with
 | _ k ih =>
 intro A0 c0 l0 r w hr0 hc0 h
 cases k with
 | zero => exact absurd h (by simp [spec_dpDeterminant.f])
 | succ k =>
 simp only [spec_dpDeterminant.f] at h; have HR0 := am_ hr0; have HC0 := am_ hc0; clear hr0 hc0; have HB := am_ (Below.refl w.heap.size w); (try unfold spec_dpDeterminant.f at h); have H := h; clear h
 replace H := pn_ H; obtain ⟨c2, H⟩ | ⟨c2, H⟩ := H
 ·have c2b0 : ((l0.length : Int) == 0) = true := beq_iff_eq.mpr c2; have c2b1 : ((l0.length : Int) != 0) = false := bne_eq_false_iff_eq.mpr c2; clear c2; obtain rfl := Option.some.inj H; go_enter Try.func38, Try.ntmps38; go_wp2
  go_ret
  exact ⟨tc4_, tc0_⟩
 ·have c2b0 : ((l0.length : Int) == 0) = false := beq_eq_false_iff_ne.mpr c2; have c2b1 : ((l0.length : Int) != 0) = true := bne_iff_ne.mpr c2
  have c2b2 : ¬ (l0 = []) := fun h_ => c2 (by rw [h_]; rfl)
  replace H := pp_ H; obtain ⟨c3, H⟩ := H; have c3b0 : decide (0 < (l0.length : Int)) = true := decide_eq_true c3; have c3b1 : decide (0 < l0.length) = true := decide_eq_true (by omega); clear c3; have H' := am_ H; clear H; have p101 : 0 ≤ (0 : Int) := (by omega); have q101 : 0 < (l0.length : Int) := od_; obtain ⟨ad101, A101_0, c101_0, e101, hx101_0, hl101_0, hi101_0⟩ := at_L3 HR0.out 0 p101 q101; cases e101; have qi101 : (0 < l0.length) = True := eq_true (by omega); (try rw [show ((0 : Int)).toNat = 0 from rfl] at hx101_0); (try rw [Addr.add_zero'] at hx101_0); have HR101_0 := am_ hi101_0; have HC101_0 := am_ hl101_0; clear hi101_0 hl101_0; replace p101 := eq_true p101; replace q101 := eq_true q101; go_enter Try.func38, Try.ntmps38; go_wp2
  go_loopg [3, 4, 17] k (fun kq v3 v4 v17 w' => ∃ (x3_1 : Int) (x4_1 : Int) (x17_1 : Int), v3 = .int .i64 x3_1 ∧ v4 = .int .i64 x4_1 ∧ v17 = .int .i64 x17_1 ∧ Aside0 (spec_dpDeterminant.l0 kq l0 x3_1 x4_1 (rd_L3 l0 0) ((rd_L3 l0 0).length : Int) x17_1 = some r) ∧ Aside0 (kq ≤ k) ∧ Aside0 (Below w.heap.size w w'))
  case atStart => exact ⟨(0), (1), (0), tc3_, tc3_, tc3_, H', ⟨Nat.le_refl _⟩, ⟨tc0_⟩⟩
  case round =>
   clear H'; (try clear c1); (try clear p1); (try clear q1); (try clear hx1); (try clear qi1); (try clear c2); (try clear c2b0); (try clear c2b1); (try clear c2b2); (try clear p2); (try clear c3); (try clear c3b0); (try clear c3b1); (try clear hx101_0); (try clear p101); (try clear q101); obtain ⟨x3_1, x4_1, x17_1, rfl, rfl, rfl, HA, HK1, HB⟩ := hrel
   cases gk with
   | zero => exact absurd HA.out (by simp [spec_dpDeterminant.l0])
   | succ k1 =>
    have H := HA.out; clear HA; simp only [spec_dpDeterminant.l0] at H
    replace H := sp_ H; obtain ⟨c4b0, H⟩ | ⟨c4b0, H⟩ := H
    ·replace H := ps_ H; obtain ⟨c5b0, H⟩ := H; replace H := ps_ H; obtain ⟨c6b0, H⟩ := H; replace H := pp_ H; obtain ⟨c7, H⟩ := H; have c7b0 := eq_true c7; have c7b1 : decide (1 ≤ (l0.length : Int)) = true := decide_eq_true c7; clear c7; obtain ⟨y103, hy103⟩ : ∃ y_ : Tb_, y_ = (l0.drop 1) := ⟨_, rfl⟩; replace H : (spec_dpDeterminant.l1 k1 l0 x3_1 x4_1 x17_1 (rd (rd_L3 l0 0) x17_1) ([] : Tb_) (rd_L3 l0 0) ((rd_L3 l0 0).length : Int) x17_1 y103 (y103.length : Int) 0) = some r := (by first | (rw [hy103]; with_reducible exact H) | (have H2_ := (Option.bind_some _ _).symm.trans H; rw [hy103]; with_reducible exact H2_) | (have H2_ := (Option.bind_some _ _).symm.trans H; with_reducible exact H2_) | with_reducible exact H | (rw [hy103]; exact H) | exact H); have Ny103 := am_ hy103; clear hy103; have H' := am_ H; clear H; have p102 : 0 ≤ (x17_1 : Int) := od_; have q102 : x17_1 < ((rd_L3 l0 0).length : Int) := od_; obtain ⟨ad102, e102, hx102_0⟩ := Kd.at_int HR101_0.out x17_1 p102 q102; cases e102; replace hx102_0 := (HB.out.cell (World.block_lt_of_cell? w _ hx102_0)).trans hx102_0; replace p102 := eq_true p102; replace q102 := eq_true q102; have q8 : (1 : Int) ≤ ((l0.length : Int) : Int) := od_; obtain ⟨i08, hi08, _, hsz8, _⟩ := info_parts info46; have hroom8 : l0.length ≤ c0 := HC0.out; have hC8 : Kd.C (Kd.slice 3 (Kd.int .i64)) _ (some ad101) l0.length l0 := HR0.out; have hcut8 := cut_from (P := Try.prog) 26 46 .i64 Try.underlying26 hi08 1 hsz8 (some ad101) l0.length c0 1 (by omega) q8; have hr8 := Kd.C_drop (m := (1 : Int).toNat) (c := c0) hC8 (by omega) hroom8; obtain ⟨A8, hA8⟩ : ∃ A1, A1 = (if c0 = (1 : Int).toNat then (some ad101) else ((some ad101) : Option Addr).map (·.add ((1 : Int).toNat * 1))) := ⟨_, rfl⟩; obtain ⟨c8, hc8⟩ : ∃ c1, c1 = c0 - (1 : Int).toNat := ⟨_, rfl⟩; have hy8 : y103.length = l0.length - (1 : Int).toNat := (by rw [Ny103.out, List.length_drop] <;> omega); rw [show (l0).drop (1 : Int).toNat = y103 from Ny103.out.symm] at hr8; replace hr8 : Kd.C (Kd.slice 3 (Kd.int .i64)) _ A8 y103.length y103 := (by rw [hA8]; exact hr8); rw [← hy8, ← hA8, ← hc8] at hcut8; have HR106 := am_ hr8; have HC106 := am_ (show y103.length ≤ c8 from (by rw [hy8, hc8]; exact Nat.sub_le_sub_right hroom8 _)); clear hr8 hC8 hroom8 hi08 hsz8 hc8; have KY8 := am_ hy8; have KA8 := am_ hA8; clear hy8 hA8; replace q8 := eq_true q8; go_wp2
     go_loopg [7, 25] k1 (fun kq v7 v25 w' => ∃ (x7_2 : Tb_) (x25_2 : Int), v25 = .int .i64 x25_2 ∧ Aside0 (spec_dpDeterminant.l1 kq l0 x3_1 x4_1 x17_1 (rd (rd_L3 l0 0) x17_1) x7_2 (rd_L3 l0 0) ((rd_L3 l0 0).length : Int) x17_1 y103 (y103.length : Int) x25_2 = some r) ∧ Aside0 (kq ≤ k1) ∧ Aside0 (Kd.S (Kd.slice 3 (Kd.int .i64)) 46 w' w.heap.size (fun _ => True) v7 x7_2) ∧ Aside0 (Below w.heap.size w w'))
     case atStart => exact ⟨(([] : Tb_)), (0), tc3_, H', ⟨Nat.le_refl _⟩, ⟨tc29_⟩, ⟨tc0_⟩⟩
     case round =>
      clear H'; (try clear c1); (try clear p1); (try clear q1); (try clear hx1); (try clear qi1); (try clear c2); (try clear c2b0); (try clear c2b1); (try clear c2b2); (try clear p2); (try clear c3); (try clear c3b0); (try clear c3b1); (try clear c4); (try clear c4b0); (try clear c5); (try clear c5b0); (try clear c6); (try clear c6b0); (try clear c7); (try clear c7b0); (try clear c7b1); (try clear c8); (try clear q8); (try clear hx101_0); (try clear hx102_0); (try clear p1); (try clear p101); (try clear p102); (try clear p2); (try clear q1); (try clear q101); (try clear q102); (try clear q8); obtain ⟨x7_2, x25_2, rfl, HA, HK2, HO_7, HB⟩ := hrel
      cases gk with
      | zero => exact absurd HA.out (by simp [spec_dpDeterminant.l1])
      | succ k2 =>
       have H := HA.out; clear HA; simp only [spec_dpDeterminant.l1] at H
       replace H := sp_ H; obtain ⟨c9b0, H⟩ | ⟨c9b0, H⟩ := H
       ·replace H := ps_ H; obtain ⟨c10b0, H⟩ := H; replace H := ps_ H; obtain ⟨c11b0, H⟩ := H; replace H := pp_ H; obtain ⟨c12, H⟩ := H; have c12b0 := eq_true c12; have c12b1 : decide (0 ≤ x17_1) = true := decide_eq_true c12; clear c12; replace H := pp_ H; obtain ⟨c13, H⟩ := H; have c13b0 := eq_true c13; have c13b1 : decide (x17_1 ≤ ((rd_L3 y103 x25_2).length : Int)) = true := decide_eq_true c13; clear c13; replace H := bd_ H; obtain ⟨t109, A14, H⟩ := H; (try dsimp only at H); obtain ⟨ji15, hji15⟩ : ∃ j_ : Int, (wrap64 (x17_1 + 1)) = j_ := ⟨_, rfl⟩; replace H : (if 0 ≤ (ji15) then (if (ji15) ≤ ((rd_L3 y103 x25_2).length : Int) then (if t109.length + ((rd_L3 y103 x25_2).drop ((ji15) : Int).toNat).length < 17592186044416 then (if x7_2.length < 5864062014805 then (spec_dpDeterminant.l1 k2 l0 x3_1 x4_1 x17_1 (rd (rd_L3 l0 0) x17_1) (x7_2 ++ [(t109 ++ ((rd_L3 y103 x25_2).drop ((ji15) : Int).toNat))]) (rd_L3 l0 0) ((rd_L3 l0 0).length : Int) x17_1 y103 (y103.length : Int) (wrap64 (x25_2 + 1))) else (none)) else (none)) else (none)) else (none)) = some r := (by first | (rw [hji15] at H; exact H) | (simp only [hji15] at H ⊢; exact H)); (try rw [hji15] at A14); have hji15w : (IntKind.i64.wrap (x17_1 + 1)) = ji15 := (i64_w _).trans hji15; replace H := pp_ H; obtain ⟨c16, H⟩ := H; have c16b0 := eq_true c16; have c16b1 : decide (0 ≤ (ji15)) = true := decide_eq_true c16; clear c16; replace H := pp_ H; obtain ⟨c17, H⟩ := H; have c17b0 := eq_true c17; have c17b1 : decide ((ji15) ≤ ((rd_L3 y103 x25_2).length : Int)) = true := decide_eq_true c17; clear c17; replace H := pp_ H; obtain ⟨c18, H⟩ := H; have LMc18 := am_ c18; clear c18; obtain ⟨y113, hy113⟩ : ∃ y_ : List Int, y_ = (t109 ++ ((rd_L3 y103 x25_2).drop ((ji15) : Int).toNat)) := ⟨_, rfl⟩; replace H : (if x7_2.length < 5864062014805 then (spec_dpDeterminant.l1 k2 l0 x3_1 x4_1 x17_1 (rd (rd_L3 l0 0) x17_1) (x7_2 ++ [y113]) (rd_L3 l0 0) ((rd_L3 l0 0).length : Int) x17_1 y103 (y103.length : Int) (wrap64 (x25_2 + 1))) else (none)) = some r := tc46_; have Ny113 := am_ hy113; clear hy113; replace H := pp_ H; obtain ⟨c19, H⟩ := H; have LMc19 := am_ c19; clear c19; obtain ⟨y116, hy116⟩ : ∃ y_ : Tb_, y_ = (x7_2 ++ [y113]) := ⟨_, rfl⟩; replace H : (spec_dpDeterminant.l1 k2 l0 x3_1 x4_1 x17_1 (rd (rd_L3 l0 0) x17_1) y116 (rd_L3 l0 0) ((rd_L3 l0 0).length : Int) x17_1 y103 (y103.length : Int) (wrap64 (x25_2 + 1))) = some r := (by first | (rw [hy116]; with_reducible exact H) | (have H2_ := (Option.bind_some _ _).symm.trans H; rw [hy116]; with_reducible exact H2_) | (have H2_ := (Option.bind_some _ _).symm.trans H; with_reducible exact H2_) | with_reducible exact H | (rw [hy116]; exact H) | exact H); have Ny116 := am_ hy116; clear hy116; have H' := am_ H; clear H; have p107 : 0 ≤ (x25_2 : Int) := od_; have q107 : x25_2 < (y103.length : Int) := od_; obtain ⟨ad107, A107_0, c107_0, e107, hx107_0, hl107_0, hi107_0⟩ := at_L3 HR106.out x25_2 p107 q107; cases e107; replace hx107_0 := (HB.out.cell (World.block_lt_of_cell? w _ hx107_0)).trans hx107_0; have HR107_0 := am_ hi107_0; have HC107_0 := am_ hl107_0; clear hi107_0 hl107_0; replace p107 := eq_true p107; replace q107 := eq_true q107
        try go_wp2
        replace HO_7 := am_ (Kd.S_drew HO_7.out); replace HB := am_ (below_drew1 HB.out); obtain ⟨i021, hi021, _, hsz21, _⟩ := info_parts info3; obtain ⟨hcut21, hA21, hC21⟩ := print_take_of (P := Try.prog) (Value.int .i64) 0 46 3 .i64 Try.underlying46 hi021 hsz21 A107_0 c107_0 (rd_L3 y103 x25_2) x17_1 (od_) (od_) HC107_0.out; have HR108 := am_ (Kd.C_of_reads (h1 := fun _ => rfl) (hA21 _ (Kd.reads_of_C HR107_0.out))); have HC108 := am_ hC21; clear hA21 hC21 hi021 hsz21; obtain ⟨i022, hi022, _, hsz22, _⟩ := info_parts info3; obtain ⟨A22, hcut22, hA22, hC22⟩ := print_drop_of (P := Try.prog) (Value.int .i64) 0 46 3 .i64 Try.underlying46 hi022 hsz22 A107_0 c107_0 (rd_L3 y103 x25_2) (ji15) (od_) (od_) HC107_0.out; have HR112 := am_ (Kd.C_of_reads (h1 := fun _ => rfl) (hA22 _ (Kd.reads_of_C HR107_0.out))); have HC112 := am_ hC22; clear hA22 hC22 hi022 hsz22; refine start_ (n := 13) (S := fun w' => True) (ds := []) #[F,F,F,F,F,F,F,F,F,F,F,F,F] (by kernel_rfl) rfl rfl trivial (fun hHeld => ?_); refine with_tabW spec_dpDeterminant.tab11 spec_dpDeterminant.bits11 (fun HT_ HW_ => ?_); generalize wr.drew = w20 at HO_7 HB HR108 HR112 hHeld ⊢; refine pure_ (i := 0) (N := some 29) #[T,F,F,F,F,F,F,F,F,F,F,F,F] rfl rfl an_ hq_ yi_ nm_ ?_; refine pure_ (i := 1) (N := some 30) #[T,T,F,F,F,F,F,F,F,F,F,F,F] rfl rfl an_ hq_ yi_ nm_ ?_; refine pure_ (i := 2) (N := some 31) #[T,T,T,F,F,F,F,F,F,F,F,F,F] rfl rfl an_ hq_ yi_ nm_ ?_; refine pure_ (i := 3) (N := some 32) #[T,T,T,T,F,F,F,F,F,F,F,F,F] rfl rfl an_ hq_ yi_ nm_ ?_; refine pure_ (i := 5) (N := some 34) #[T,T,T,T,F,T,F,F,F,F,F,F,F] rfl rfl an_ hq_ yi_ nm_ ?_; refine pure_ (i := 6) (N := some 35) #[T,T,T,T,F,T,T,F,F,F,F,F,F] rfl rfl an_ hq_ yi_ nm_ ?_; refine pure_ (i := 7) (N := some 36) #[T,T,T,T,F,T,T,T,F,F,F,F,F] rfl rfl an_ hq_ yi_ nm_ ?_; refine pure_ (i := 8) (N := some 37) #[T,T,T,T,F,T,T,T,T,F,F,F,F] rfl rfl an_ hq_ yi_ nm_ ?_; refine one_ (i := 4) (N := some 33) #[T,T,T,T,T,T,T,T,T,F,F,F,F] rfl rfl (one_of HT_.out (by kernel_rfl)) (by decide) (fun K hK => ?_); refine goes_ Try.func45 (by kernel_rfl) rfl #[.slice A107_0 ((rd_L3 y103 x25_2).take (x17_1 : Int).toNat).length c107_0] (by rfl) rfl rfl (by (try simp only [List.map_toArray, List.map_cons, List.map_nil]); first | done | (rw [show ((rd_L3 y103 x25_2).take (x17_1 : Int).toNat).length = x17_1.toNat from (by rw [List.length_take]; have h_ : (x17_1 : Int) ≤ ((rd_L3 y103 x25_2).length : Int) := od_; omega)] <;> rfl) | rfl | (simp only [List.length_drop, List.length_take]; rfl)) ?_
        with_reducible refine (spec_l1Own.calls _ _ ((rd_L3 y103 x25_2).take (x17_1 : Int).toNat) t109 _ ?side1 ?side2 A14.out).mono ?_
        (case side1 => repeat (first | exact (Kd.C_below HR108.out HB.out) | (with_reducible refine Kd.C_alloc ?_ _) | (with_reducible refine Kd.C_drewN ?_ _) | (with_reducible refine Kd.C_drew ?_)))
        (case side2 => exact HC108.out)
        rintro e w23 ⟨v110, rfl, ho0, hb⟩; refine ⟨_, rfl, ?_⟩; replace HO_7 := am_ (Kd.S_elder' tc38_ (Kd.R_base ho0) hb); have HO111 := am_ (Kd.R_lower ho0 (below_size tc0_)); replace HB := am_ (below_step tc0_ hb); (try clear hb); (try clear hb2); (try clear hk); (try clear hi); (try clear ho0); refine hK.out _ _ trivial (fun hHeld => ?_); clear hK K; refine norm_ (a' := ?_) ?_ ?_; rotate_left
        ·show Act.put _ (some 33) _ = _
         simp only [Act.put, List.setIfInBounds_toArray, List.set_cons_zero, List.set_cons_succ, i64_w, i32_w]
         rfl
        refine one_ (i := 9) (N := some 38) #[T,T,T,T,T,T,T,T,T,T,F,F,F] rfl rfl (one_of HT_.out (by kernel_rfl)) (by decide) (fun K hK => ?_); refine Kd.R_append_rows_step (Kd.int .i64) (w0 := w) w.heap.size (by rfl) (.tmp 33) (.tmp 37) 46 3 (.int .i64 0) 8 rfl Try.underlying46 info3 rfl (by decide) (by omega) v110 t109 ((rd_L3 y103 x25_2).drop ((ji15) : Int).toNat) _ _ _ (fun _ => True) (fun _ => False) rfl rfl ?aO ?aR (fun _ _ h => h) (fun _ h => h.elim) ?aF ?aB ?aS ?aL ?_
        (case aR => first | (rw [← show ((rd_L3 y103 x25_2).drop ((ji15) : Int).toNat).length = ((rd_L3 y103 x25_2).length - (ji15).toNat) from List.length_drop]; repeat (first | exact (Kd.C_below HR112.out HB.out) | (with_reducible refine Kd.C_alloc ?_ _) | (with_reducible refine Kd.C_drewN ?_ _) | (with_reducible refine Kd.C_drew ?_))) | (repeat (first | exact (Kd.C_below HR112.out HB.out) | (with_reducible refine Kd.C_alloc ?_ _) | (with_reducible refine Kd.C_drewN ?_ _) | (with_reducible refine Kd.C_drew ?_))))
        (case aB => exact tc6_)
        (case aF => exact tc81_)
        (case aO => exact tc64_)
        (case aS => exact tc11_)
        (case aL => have := LMc18.out; have hlx_ := (show ((rd_L3 y103 x25_2).drop ((ji15) : Int).toNat).length = ((rd_L3 y103 x25_2).length - (ji15).toNat) from List.length_drop); omega)
        intro v114 w24 ho hb hg hat; rw [← Ny113.out] at ho; replace HO_7 := am_ (Kd.S_after (ok := (fun _ => True)) tc38_ hg hat); replace HB := am_ (hb); have HO115 := am_ (ho); clear HO111; clear ho hb hg hat; obtain ⟨Ao26, co26, eo26⟩ := Kd.R_slice HO115.out; (first | subst eo26 | (injection eo26 with f1_ f2_ f3_; have f4_ := f1_.symm; have f5_ := f3_.symm; clear f1_ f2_ f3_; subst f4_; subst f5_)); refine hK.out _ _ trivial (fun hHeld => ?_); clear hK K; refine norm_ (a' := ?_) ?_ ?_; rotate_left
        ·show Act.put _ (some 38) _ = _
         simp only [Act.put, List.setIfInBounds_toArray, List.set_cons_zero, List.set_cons_succ, i64_w, i32_w]
         rfl
        refine one_ (i := 10) (N := some 39) #[T,T,T,T,T,T,T,T,T,T,T,F,F] rfl rfl (one_of HT_.out (by kernel_rfl)) (by decide) (fun K hK => ?_); refine value_ (w1 := ?_) (v := ?_) (by rfl) rfl ?_ ?_; rotate_left 2
        ·go_simp
         constructor
         ·rfl
         ·rfl
        refine hK.out _ _ trivial (fun hHeld => ?_); clear hK K; refine norm_ (a' := ?_) ?_ ?_; rotate_left
        ·show Act.put _ (some 39) _ = _
         simp only [Act.put, List.setIfInBounds_toArray, List.set_cons_zero, List.set_cons_succ, i64_w, i32_w]
         rfl
        refine one_ (i := 11) (N := some 40) #[T,T,T,T,T,T,T,T,T,T,T,T,F] rfl rfl (one_of HT_.out (by kernel_rfl)) (by decide) (fun K hK => ?_); refine Kd.S_append_step (Kd.slice 3 (Kd.int .i64)) (w0 := w) w.heap.size (by rfl) (.tmp 29) (.tmp 39) 26 46 (.slice none 0 0) 24 rfl Try.underlying26 info46 rfl (by decide) (by omega) u7 x7_2 y113 [.slice Ao26 y113.length co26] (fun _ => True) (fun k_ => some k_ = (.slice Ao26 y113.length co26 : Value).ownBlock) rfl rfl ?aP (fun k_ hk_ => ((Kd.R_mono (ok' := fun k_ => ((fun _ => True)) k_ ∧ some k_ ≠ (u7 : Value).ownBlock) (Kd.R_apart' (HO115.out) (Kd.S_typed HO_7.out) (by decide)) (fun k_ hk => ⟨trivial, hk.2⟩))).1 k_ hk_.symm) ?aF ?aO ?aB ?aS ?aL ?_
        (case aP => exact Kd.M_row (Kd.R_mono (Kd.R_tight rfl (Kd.R_mono (ok' := fun k_ => ((fun _ => True)) k_ ∧ some k_ ≠ (u7 : Value).ownBlock) (Kd.R_apart' (HO115.out) (Kd.S_typed HO_7.out) (by decide)) (fun k_ hk => ⟨trivial, hk.2⟩))) (fun _ h_ => h_)))
        (case aB => exact tc6_)
        (case aF => exact tc81_)
        (case aO => exact (by (with_reducible repeat (first | apply Kd.S_alloc | apply Kd.S_drewN | apply Kd.S_drew)); exact Kd.S_mono HO_7.out (fun k_ hk => ⟨trivial, fun e_ => hk.2 e_⟩)))
        (case aS => exact tc11_)
        (case aL => have := LMc19.out; omega)
        intro v117 w25 ho hb hg hat; rw [← Ny116.out] at ho; replace HB := am_ (hb); have HO118 := am_ (ho); clear HO_7 HO115; clear ho hb hg hat; refine hK.out _ _ trivial (fun hHeld => ?_); clear hK K; refine norm_ (a' := ?_) ?_ ?_; rotate_left
        ·show Act.put _ (some 40) _ = _
         simp only [Act.put, List.setIfInBounds_toArray, List.set_cons_zero, List.set_cons_succ, i64_w, i32_w]
         rfl
        refine pure_ (i := 12) (N := some 7) #[T,T,T,T,T,T,T,T,T,T,T,T,T] rfl rfl an_ hq_ yi_ nm_ ?_; refine done_ (done_of HT_.out (by kernel_rfl)) ?_
        try go_wp2
        go_roundg k2
        case measure => have := HK1.out; have := HK2.out; omega
        case rel => exact ⟨(y116), (wrap64 (x25_2 + 1)), tc3_, H', ⟨tc60_⟩, ⟨(by (with_reducible repeat (first | apply Kd.S_alloc | apply Kd.S_drewN | apply Kd.S_drew)); exact HO118.out)⟩, ⟨tc0_⟩⟩
       ·replace H := bd_ H; obtain ⟨t119, A27, H⟩ := H; (try dsimp only at H); have H' := am_ H; clear H; obtain ⟨Ao28, co28, eo28⟩ := Kd.S_slice HO_7.out; subst eo28
        go_wp2_with (first | (refine gc_ (some 47) Try.func38 #[.slice Ao28 x7_2.length co28] ?_; (with_reducible refine (ih k2 tc60_ _ _ x7_2 t119 _ ?side1 ?side2 A27.out).mono ?_); (case side1 => repeat (first | exact (Kd.S_reads' HO_7.out).2.2 | (with_reducible refine Kd.C_alloc ?_ _) | (with_reducible refine Kd.C_drewN ?_ _) | (with_reducible refine Kd.C_drew ?_))); (case side2 => exact (Kd.S_reads' HO_7.out).2.1); rintro e w29 ⟨rfl, hb⟩; refine ⟨_, rfl, ?_⟩; replace HO_7 := am_ (Kd.S_below tc38_ hb); replace HB := am_ (below_step tc0_ hb); (try clear hb)))
        go_roundg k2
        case measure => have := HK1.out; have := HK2.out; omega
        case rel => exact ⟨(wrap64 (x3_1 + (wrap64 ((wrap64 (x4_1 * (rd (rd_L3 l0 0) x17_1))) * t119)))), (wrap64 (-x4_1)), (wrap64 (x17_1 + 1)), tc3_, tc3_, tc3_, H', ⟨tc60_⟩, ⟨tc0_⟩⟩
    ·obtain rfl := Option.some.inj H; go_wp2
     go_ret
     exact ⟨tc4_, tc0_⟩

/-! ### spec_CountByDeterminant: function 17 -/
mutual
def spec_CountByDeterminant.l0 : Nat → Int → Tb_ → Int → Option (Int × Bool)
 | 0, _, _, _ => none
 | k + 1, x0, x4, x5 => if (wrap64 (x5 + 1)) < x0 then (spec_CountByDeterminant.l1 k x0 x4 x5 ([] : List Int) 0) else ((spec_dpDeterminant.f k x4).bind fun t102 => (some (t102, true)))
def spec_CountByDeterminant.l1 : Nat → Int → Tb_ → Int → List Int → Int → Option (Int × Bool)
 | 0, _, _, _, _, _ => none
 | k + 1, x0, x4, x5, x6, x7 => if (wrap64 (x7 + 1)) < x0 then ((spec_dpChoose.f k (wrap64 ((wrap64 (x5 + x7)) + 2)) x5).bind fun t103 => (if x6.length < 17592186044416 then (spec_CountByDeterminant.l1 k x0 x4 x5 (x6 ++ [t103]) (wrap64 (x7 + 1))) else (none))) else (if 0 ≤ x5 then (if x5 < (x6.length : Int) then (if x4.length < 5864062014805 then (spec_CountByDeterminant.l0 k x0 (x4 ++ [(x6.set (x5 : Int).toNat (wrap64 ((rd x6 x5) + 1)))]) (wrap64 (x5 + 1))) else (none)) else (none)) else (none))
end
def spec_CountByDeterminant.f (k : Nat) (a0 : Int) : Option (Int × Bool) := (spec_l1In.f a0 1 6).bind fun t101 => (if t101 = true then (spec_CountByDeterminant.l0 k a0 ([] : Tb_) 0) else (some (0, false)))
theorem spec_CountByDeterminant.mono_l : ∀ k, (∀ y0 y1 y2, LeO (spec_CountByDeterminant.l0 k y0 y1 y2) (spec_CountByDeterminant.l0 (k + 1) y0 y1 y2)) ∧ (∀ y0 y1 y2 y3 y4, LeO (spec_CountByDeterminant.l1 k y0 y1 y2 y3 y4) (spec_CountByDeterminant.l1 (k + 1) y0 y1 y2 y3 y4))
 | 0 => ⟨fun _ _ _ r h => by simp [spec_CountByDeterminant.l0] at h, fun _ _ _ _ _ r h => by simp [spec_CountByDeterminant.l1] at h⟩
 | k + 1 => by
  obtain ⟨ih0, ih1⟩ := spec_CountByDeterminant.mono_l k; refine ⟨?_, ?_⟩
  ·intro y0 y1 y2; unfold spec_CountByDeterminant.l0
   repeat' first
   | (with_reducible exact ih0 _ _ _)
   | (with_reducible exact ih1 _ _ _ _ _)
   | (with_reducible exact spec_dpChoose.mono _ _ _)
   | (with_reducible exact spec_dpDeterminant.mono _ _)
   | (with_reducible exact LeO.refl _)
   | (with_reducible exact LeO.none _)
   | (with_reducible refine LeO.ite ?_ ?_)
   | (with_reducible refine LeO.bind ?_ (fun _ => ?_))
   | exact ih0 _ _ _
   | exact ih1 _ _ _ _ _
   | exact spec_dpChoose.mono _ _ _
   | exact spec_dpDeterminant.mono _ _
   | exact LeO.none _
   | refine LeO.ite ?_ ?_
   | refine LeO.bind ?_ (fun _ => ?_)
  ·intro y0 y1 y2 y3 y4; unfold spec_CountByDeterminant.l1
   repeat' first
   | (with_reducible exact ih0 _ _ _)
   | (with_reducible exact ih1 _ _ _ _ _)
   | (with_reducible exact spec_dpChoose.mono _ _ _)
   | (with_reducible exact spec_dpDeterminant.mono _ _)
   | (with_reducible exact LeO.refl _)
   | (with_reducible exact LeO.none _)
   | (with_reducible refine LeO.ite ?_ ?_)
   | (with_reducible refine LeO.bind ?_ (fun _ => ?_))
   | exact ih0 _ _ _
   | exact ih1 _ _ _ _ _
   | exact spec_dpChoose.mono _ _ _
   | exact spec_dpDeterminant.mono _ _
   | exact LeO.none _
   | refine LeO.ite ?_ ?_
   | refine LeO.bind ?_ (fun _ => ?_)
theorem spec_CountByDeterminant.mono : ∀ a0  k, LeO (spec_CountByDeterminant.f k a0) (spec_CountByDeterminant.f (k + 1) a0) := by
 intro a0 k; obtain ⟨ih0, ih1⟩ := spec_CountByDeterminant.mono_l k; unfold spec_CountByDeterminant.f
 repeat' first
   | (with_reducible exact ih0 _ _ _)
   | (with_reducible exact ih1 _ _ _ _ _)
   | (with_reducible exact spec_dpChoose.mono _ _ _)
   | (with_reducible exact spec_dpDeterminant.mono _ _)
   | (with_reducible exact LeO.refl _)
   | (with_reducible exact LeO.none _)
   | (with_reducible refine LeO.ite ?_ ?_)
   | (with_reducible refine LeO.bind ?_ (fun _ => ?_))
   | exact ih0 _ _ _
   | exact ih1 _ _ _ _ _
   | exact spec_dpChoose.mono _ _ _
   | exact spec_dpDeterminant.mono _ _
   | exact LeO.none _
   | refine LeO.ite ?_ ?_
   | refine LeO.bind ?_ (fun _ => ?_)
theorem spec_CountByDeterminant.calls (k : Nat) (a0 : Int) (r1 : Int) (r2 : Bool) (w : World) (h : spec_CountByDeterminant.f k a0 = some (r1, r2)) :
  Calls Try.prog 17 #[.int .i64 a0] w fun e w' => e = .returned (.tuple #[.int .i64 r1, .bool r2]) ∧ Below w.heap.size w w' := by
 have HB := am_ (Below.refl w.heap.size w); (try unfold spec_CountByDeterminant.f at h); have H := h; clear h; replace H := bd_ H; obtain ⟨t101, A2, H⟩ := H; (try dsimp only at H)
 by_cases c3 : t101 = true
 ·subst c3; have H1 : (spec_CountByDeterminant.l0 k a0 ([] : Tb_) 0) = some (r1, r2) := tc19_; clear H; have H := H1; clear H1; have H' := am_ H; clear H; go_enter Try.func17, Try.ntmps17
  go_wp2_with (first | (refine gc_ (some 9) Try.func27 #[.int .i64 a0, .int .i64 1, .int .i64 6] ?_; (with_reducible refine (spec_l1In.calls a0 1 6 true _ A2.out).mono ?_); rintro e w' ⟨rfl, ⟨nd, rfl⟩⟩; refine ⟨_, rfl, ?_⟩))
  go_loopg [4, 5] k (fun kq v4 v5 w' => ∃ (x4_1 : Tb_) (x5_1 : Int), v5 = .int .i64 x5_1 ∧ Aside0 (spec_CountByDeterminant.l0 kq a0 x4_1 x5_1 = some (r1, r2)) ∧ Aside0 (kq ≤ k) ∧ Aside0 (Kd.S (Kd.slice 3 (Kd.int .i64)) 46 w' w.heap.size (fun _ => True) v4 x4_1) ∧ Aside0 (Below w.heap.size w w'))
  case atStart => exact ⟨(([] : Tb_)), (0), tc3_, H', ⟨Nat.le_refl _⟩, ⟨tc29_⟩, ⟨tc0_⟩⟩
  case round =>
   clear H'; (try clear c1); (try clear c2); (try clear p2); (try clear c3); obtain ⟨x4_1, x5_1, rfl, HA, HK1, HO_4, HB⟩ := hrel
   cases gk with
   | zero => exact absurd HA.out (by simp [spec_CountByDeterminant.l0])
   | succ k1 =>
    have H := HA.out; clear HA; simp only [spec_CountByDeterminant.l0] at H
    replace H := sp_ H; obtain ⟨c4b0, H⟩ | ⟨c4b0, H⟩ := H
    ·have H' := am_ H; clear H; go_wp2
     go_loopg [6, 7] k1 (fun kq v6 v7 w' => ∃ (x6_2 : List Int) (x7_2 : Int), v7 = .int .i64 x7_2 ∧ Aside0 (spec_CountByDeterminant.l1 kq a0 x4_1 x5_1 x6_2 x7_2 = some (r1, r2)) ∧ Aside0 (kq ≤ k1) ∧ Aside0 (Kd.S (Kd.slice 3 (Kd.int .i64)) 46 w' w.heap.size (fun k_ => some k_ ≠ (v6 : Value).ownBlock) u4 x4_1) ∧ Aside0 (Kd.R (Kd.int .i64) 3 w' w.heap.size (fun _ => True) v6 x6_2) ∧ Aside0 (Below w.heap.size w w'))
     case atStart => exact ⟨(([] : List Int)), (0), tc3_, H', ⟨Nat.le_refl _⟩, ⟨(by (with_reducible repeat (first | apply Kd.S_alloc | apply Kd.S_drewN | apply Kd.S_drew)); exact Kd.S_mono HO_4.out (fun _ hk => (by simp [Value.ownBlock])))⟩, ⟨tc42_⟩, ⟨tc0_⟩⟩
     case round =>
      clear H'; (try clear c1); (try clear c2); (try clear p2); (try clear c3); (try clear c4); (try clear c4b0); (try clear p2); obtain ⟨x6_2, x7_2, rfl, HA, HK2, HO_4, HO_6, HB⟩ := hrel
      cases gk with
      | zero => exact absurd HA.out (by simp [spec_CountByDeterminant.l1])
      | succ k2 =>
       have H := HA.out; clear HA; simp only [spec_CountByDeterminant.l1] at H
       replace H := sp_ H; obtain ⟨c5b0, H⟩ | ⟨c5b0, H⟩ := H
       ·replace H := bd_ H; obtain ⟨t103, A6, H⟩ := H; (try dsimp only at H); replace H := pp_ H; obtain ⟨c7, H⟩ := H; have LMc7 := am_ c7; clear c7; obtain ⟨y104, hy104⟩ : ∃ y_ : List Int, y_ = (x6_2 ++ [t103]) := ⟨_, rfl⟩; replace H : (spec_CountByDeterminant.l1 k2 a0 x4_1 x5_1 y104 (wrap64 (x7_2 + 1))) = some (r1, r2) := tc25_; have Ny104 := am_ hy104; clear hy104; have H' := am_ H; clear H
        go_wp2_with (first | (refine gc_ (some 29) Try.func37 #[.int .i64 (wrap64 ((wrap64 (x5_1 + x7_2)) + 2)), .int .i64 x5_1] ?_; (with_reducible refine (spec_dpChoose.calls k2 (wrap64 ((wrap64 (x5_1 + x7_2)) + 2)) x5_1 t103 _ A6.out).mono ?_); rintro e w' ⟨rfl, ⟨nd, rfl⟩⟩; refine ⟨_, rfl, ?_⟩) | ((with_reducible refine gate_builtin (b := .append) (xs := #[.tmp 23, .tmp 30]) rfl ?_); at_builtin; refine Kd.R_append (Kd.int .i64) (w0 := w) w.heap.size rfl (.tmp 23) (.tmp 30) 46 3 (.int .i64 0) 8 rfl Try.underlying46 info3 rfl (by decide) (by omega) u6 x6_2 t103 [.int .i64 t103] (fun _ => True) (fun _ => False) rfl rfl ?aP (fun _ hk => hk.elim) ?aF ?aO ?aB ?aS ?aL ?_; (case aP => exact rfl); (case aB => exact tc6_); (case aF => exact tc81_); (case aO => exact (by (with_reducible repeat (first | apply Kd.R_alloc | apply Kd.R_drewN | apply Kd.R_drew)); exact HO_6.out)); (case aS => exact tc11_); (case aL => have := LMc7.out; omega); intro v105 w8 ho hb hg hat; rw [← Ny104.out] at ho; replace HO_4 := am_ (Kd.S_after (ok := (fun _ => True)) tc72_ hg hat); replace HB := am_ (hb); have HO106 := am_ (ho); clear HO_6; clear ho hb hg hat))
        go_roundg k2
        case measure => have := HK1.out; have := HK2.out; omega
        case rel => exact ⟨(y104), (wrap64 (x7_2 + 1)), tc3_, H', ⟨tc60_⟩, ⟨(by (with_reducible repeat (first | apply Kd.S_alloc | apply Kd.S_drewN | apply Kd.S_drew)); exact Kd.S_mono HO_4.out (fun _ hk => hk.2))⟩, ⟨tc63_⟩, ⟨tc0_⟩⟩
       ·replace H := ps_ H; obtain ⟨c9b0, H⟩ := H; replace H := ps_ H; obtain ⟨c10b0, H⟩ := H; obtain ⟨y108, hy108⟩ : ∃ y_ : List Int, y_ = (x6_2.set (x5_1 : Int).toNat (wrap64 ((rd x6_2 x5_1) + 1))) := ⟨_, rfl⟩; replace H : (if x4_1.length < 5864062014805 then (spec_CountByDeterminant.l0 k2 a0 (x4_1 ++ [y108]) (wrap64 (x5_1 + 1))) else (none)) = some (r1, r2) := tc26_; have Ny108 := am_ hy108; clear hy108; replace H := pp_ H; obtain ⟨c12, H⟩ := H; have LMc12 := am_ c12; clear c12; obtain ⟨y109, hy109⟩ : ∃ y_ : Tb_, y_ = (x4_1 ++ [y108]) := ⟨_, rfl⟩; replace H : (spec_CountByDeterminant.l0 k2 a0 y109 (wrap64 (x5_1 + 1))) = some (r1, r2) := tc34_; have Ny109 := am_ hy109; clear hy109; have H' := am_ H; clear H; obtain ⟨Ao13, co13, eo13⟩ := Kd.R_slice HO_6.out; subst eo13; have p107 : 0 ≤ (x5_1 : Int) := od_; have q107 : x5_1 < (x6_2.length : Int) := od_; obtain ⟨ad107, e107, hx107_0⟩ := Kd.at_int (Kd.R_reads' HO_6.out).2.2 x5_1 p107 q107; cases e107; replace p107 := eq_true p107; replace q107 := eq_true q107; have p11 : 0 ≤ (x5_1 : Int) := od_; have q11 : (x5_1 : Int) < ((x6_2.length : Int) : Int) := od_; obtain ⟨go11, co11, eo11, gb11, gl11, cl11, HG11⟩ := Kd.R_form HO_6.out (by omega); (first | cases eo11 | (injection eo11 with ea_ en_ ec_; (first | subst ea_ | (injection ea_ with ea_; subst ea_)); subst ec_; clear en_)); have GB11 := am_ gb11; have GG11 := am_ HG11; clear gb11 gl11 HG11; (first | simp only [add_plain] at hx107_0 | skip); obtain ⟨hx11_0, hf11_0⟩ := Kd.R_celln 0 HO_6.out (x5_1 : Int) p11 q11; replace p11 := eq_true p11; replace q11 := eq_true q11; have HP14 := Kd.R_putg HO_6.out (x5_1 : Int) (wrap64 ((rd x6_2 x5_1) + 1))
        go_wp2_with (first | ((with_reducible refine gate_store (t := 3) (p := 37) rfl ?_); refine store_event (t := 3) (p := 37) (v := ?vo_w15) (w1 := (wr.setCell ⟨go11, (x5_1 : Int).toNat, none⟩ (.int .i64 (wrap64 ((rd x6_2 x5_1) + 1))))) ?hg ?ho ?hn ?hr ?_; (case ho => rfl); (case hg => rfl); (case hn => rfl); (case hr => exact tc36_); intro w15 hw; have hg : wr.grownBy w15 (some go11) := (by rw [hw]; exact HP14.2); have hp_ : Kd.R (Kd.int .i64) 3 w15 w.heap.size (fun _ => True) (.slice (some ⟨go11, 0, none⟩) x6_2.length co13) y108 := (by rw [hw, Ny108.out]; exact HP14.1); clear HP14; replace HO_4 := am_ (Kd.S_after (v := (.slice (some ⟨go11, 0, none⟩) x6_2.length co13)) (v1 := (.slice (some ⟨go11, 0, none⟩) x6_2.length co13)) (ok := (fun _ => True)) tc72_ hg (.inl rfl)); replace HO_6 := am_ (hp_); replace HB := am_ ((by rw [hw]; exact below_set (HB.out) GB11.out : Below w.heap.size w w15)); clear hg hw hp_) | ((with_reducible refine gate_builtin (b := .append) (xs := #[.tmp 38, .tmp 40]) rfl ?_); at_builtin; refine Kd.S_append (Kd.slice 3 (Kd.int .i64)) (w0 := w) w.heap.size rfl (.tmp 38) (.tmp 40) 26 46 (.slice none 0 0) 24 rfl Try.underlying26 info46 rfl (by decide) (by omega) u4 x4_1 y108 [.slice (some ⟨go11, 0, none⟩) x6_2.length co13] (fun _ => True) (fun k_ => some k_ = (.slice (some ⟨go11, 0, none⟩) x6_2.length co13 : Value).ownBlock) rfl rfl ?aP (fun k_ hk_ => ((Kd.R_mono (ok' := fun k_ => ((fun _ => True)) k_ ∧ some k_ ≠ (u4 : Value).ownBlock) (Kd.R_apart' (HO_6.out) (Kd.S_typed HO_4.out) (by decide)) (fun k_ hk => ⟨trivial, hk.2⟩))).1 k_ hk_.symm) ?aF ?aO ?aB ?aS ?aL ?_; (case aP => exact Kd.M_row (Kd.R_mono (Kd.R_tight rfl (Kd.R_mono (ok' := fun k_ => ((fun _ => True)) k_ ∧ some k_ ≠ (u4 : Value).ownBlock) (Kd.R_apart' (HO_6.out) (Kd.S_typed HO_4.out) (by decide)) (fun k_ hk => ⟨trivial, hk.2⟩))) (fun _ h_ => h_))); (case aB => exact tc6_); (case aF => exact tc81_); (case aO => exact (by (with_reducible repeat (first | apply Kd.S_alloc | apply Kd.S_drewN | apply Kd.S_drew)); exact Kd.S_mono HO_4.out (fun k_ hk => ⟨trivial, fun e_ => hk.2 e_⟩))); (case aS => exact tc11_); (case aL => have := LMc12.out; omega); intro v110 w16 ho hb hg hat; rw [← Ny109.out] at ho; replace HB := am_ (hb); have HO111 := am_ (ho); clear HO_4 HO_6; clear ho hb hg hat))
        go_roundg k2
        case measure => have := HK1.out; have := HK2.out; omega
        case rel => exact ⟨(y109), (wrap64 (x5_1 + 1)), tc3_, H', ⟨tc60_⟩, ⟨(by (with_reducible repeat (first | apply Kd.S_alloc | apply Kd.S_drewN | apply Kd.S_drew)); exact HO111.out)⟩, ⟨tc0_⟩⟩
    ·replace H := bd_ H; obtain ⟨t102, A17, H⟩ := H; (try dsimp only at H); simp only [Option.some.injEq, Prod.mk.injEq] at H; obtain ⟨rfl, rfl⟩ := H; obtain ⟨Ao18, co18, eo18⟩ := Kd.S_slice HO_4.out; subst eo18
     go_wp2_with (first | (refine gc_ (some 43) Try.func38 #[.slice Ao18 x4_1.length co18] ?_; (with_reducible refine (spec_dpDeterminant.calls k1 _ _ x4_1 t102 _ ?side1 ?side2 A17.out).mono ?_); (case side1 => repeat (first | exact (Kd.S_reads' HO_4.out).2.2 | (with_reducible refine Kd.C_alloc ?_ _) | (with_reducible refine Kd.C_drewN ?_ _) | (with_reducible refine Kd.C_drew ?_))); (case side2 => exact (Kd.S_reads' HO_4.out).2.1); rintro e w19 ⟨rfl, hb⟩; refine ⟨_, rfl, ?_⟩; have n0_ := am_ (Kd.S_below (by (with_reducible repeat (first | apply Kd.S_alloc | apply Kd.S_drewN | apply Kd.S_drew)); exact HO_4.out) hb); have n1_ := am_ (below_step tc0_ hb); clear HO_4 HB; have HO_4 := n0_; have HB := n1_; clear n0_ n1_; (try clear hb)))
     go_ret2
     exact ⟨tc4_, tc0_⟩
 ·replace c3 := Bool.eq_false_iff.mpr c3; subst c3; have H1 : (some (0, false)) = some (r1, r2) := tc8_; clear H; have H := H1; clear H1; simp only [Option.some.injEq, Prod.mk.injEq] at H; obtain ⟨rfl, rfl⟩ := H; go_enter Try.func17, Try.ntmps17
  go_wp2_with (first | (refine gc_ (some 9) Try.func27 #[.int .i64 a0, .int .i64 1, .int .i64 6] ?_; (with_reducible refine (spec_l1In.calls a0 1 6 false _ A2.out).mono ?_); rintro e w' ⟨rfl, ⟨nd, rfl⟩⟩; refine ⟨_, rfl, ?_⟩))
  go_ret2
  exact ⟨tc4_, tc0_⟩

/-! ### impl_product: function 52 -/
def impl_product.l0 : Nat → Int → Int → Int → Option (Int)
 | 0, _, _, _ => none
 | k + 1, x1, x5, x6 => if x6 ≤ x1 then (impl_product.l0 k x1 (wrap64 (x5 * x6)) (wrap64 (x6 + 1))) else (some x5)
def impl_product.f (k : Nat) (a0 : Int) (a1 : Int) : Option (Int) := impl_product.l0 k a1 1 a0
theorem impl_product.mono_l : ∀ k, (∀ y0 y1 y2, LeO (impl_product.l0 k y0 y1 y2) (impl_product.l0 (k + 1) y0 y1 y2))
 | 0 => fun _ _ _ r h => by simp [impl_product.l0] at h
 | k + 1 => by
  have ih0 := impl_product.mono_l k
  ·intro y0 y1 y2; unfold impl_product.l0
   repeat' first
   | (with_reducible exact ih0 _ _ _)
   | (with_reducible exact LeO.refl _)
   | (with_reducible exact LeO.none _)
   | (with_reducible refine LeO.ite ?_ ?_)
   | (with_reducible refine LeO.bind ?_ (fun _ => ?_))
   | exact ih0 _ _ _
   | exact LeO.none _
   | refine LeO.ite ?_ ?_
   | refine LeO.bind ?_ (fun _ => ?_)
theorem impl_product.mono : ∀ a0 a1  k, LeO (impl_product.f k a0 a1) (impl_product.f (k + 1) a0 a1) := by
 intro a0 a1 k; have ih0 := impl_product.mono_l k; unfold impl_product.f
 repeat' first
   | (with_reducible exact ih0 _ _ _)
   | (with_reducible exact LeO.refl _)
   | (with_reducible exact LeO.none _)
   | (with_reducible refine LeO.ite ?_ ?_)
   | (with_reducible refine LeO.bind ?_ (fun _ => ?_))
   | exact ih0 _ _ _
   | exact LeO.none _
   | refine LeO.ite ?_ ?_
   | refine LeO.bind ?_ (fun _ => ?_)
theorem impl_product.calls (k : Nat) (a0 : Int) (a1 : Int) (r : Int) (w : World) (h : impl_product.f k a0 a1 = some r) :
  Calls Try.prog 52 #[.int .i64 a0, .int .i64 a1] w fun e w' => e = .returned (.int .i64 r) ∧ Drawn0 w w' := by
 (try unfold impl_product.f at h); have H := h; clear h; have H' := am_ H; clear H; go_enter Try.func52, Try.ntmps52; go_wp2
 go_loopg [5, 6] k (fun kq v5 v6 w' => ∃ (x5_1 : Int) (x6_1 : Int), v5 = .int .i64 x5_1 ∧ v6 = .int .i64 x6_1 ∧ Aside0 (impl_product.l0 kq a1 x5_1 x6_1 = some r) ∧ Aside0 (kq ≤ k) ∧ Drawn0 w w')
 case atStart => exact ⟨(1), (a0), tc3_, tc3_, H', ⟨Nat.le_refl _⟩, tc5_⟩
 case round =>
  clear H'; (try clear p2); obtain ⟨x5_1, x6_1, rfl, rfl, HA, HK1, ⟨m1, rfl⟩⟩ := hrel
  cases gk with
  | zero => exact absurd HA.out (by simp [impl_product.l0])
  | succ k1 =>
   have H := HA.out; clear HA; simp only [impl_product.l0] at H
   replace H := sp_ H; obtain ⟨c3b0, H⟩ | ⟨c3b0, H⟩ := H
   ·have H' := am_ H; clear H; go_wp2
    go_roundg k1
    case measure => have := HK1.out; omega
    case rel => exact ⟨(wrap64 (x5_1 * x6_1)), (wrap64 (x6_1 + 1)), tc3_, tc3_, H', ⟨tc40_⟩, tc5_⟩
   ·obtain rfl := Option.some.inj H; go_wp2
    go_ret
    exact ⟨tc3_, tc5_⟩

/-! ### impl_countSigns: function 39 -/
def impl_countSigns.l0 : Nat → Int → Int → Int → Option (Int)
 | 0, _, _, _ => none
 | k + 1, x0, x3, x4 => if x4 < x0 then ((impl_product.f k (wrap64 ((wrap64 (2 * x4)) + 2)) (wrap64 ((wrap64 (3 * x4)) + 1))).bind fun t101 => ((impl_product.f k (wrap64 (x4 + 1)) (wrap64 (2 * x4))).bind fun t102 => (if t102 = 0 then (none) else (impl_countSigns.l0 k x0 (wrap64 (Int.tdiv (wrap64 (x3 * t101)) t102)) (wrap64 (x4 + 1)))))) else (some x3)
def impl_countSigns.f (k : Nat) (a0 : Int) : Option (Int) := impl_countSigns.l0 k a0 1 1
theorem impl_countSigns.mono_l : ∀ k, (∀ y0 y1 y2, LeO (impl_countSigns.l0 k y0 y1 y2) (impl_countSigns.l0 (k + 1) y0 y1 y2))
 | 0 => fun _ _ _ r h => by simp [impl_countSigns.l0] at h
 | k + 1 => by
  have ih0 := impl_countSigns.mono_l k
  ·intro y0 y1 y2; unfold impl_countSigns.l0
   repeat' first
   | (with_reducible exact ih0 _ _ _)
   | (with_reducible exact impl_product.mono _ _ _)
   | (with_reducible exact LeO.refl _)
   | (with_reducible exact LeO.none _)
   | (with_reducible refine LeO.ite ?_ ?_)
   | (with_reducible refine LeO.bind ?_ (fun _ => ?_))
   | exact ih0 _ _ _
   | exact impl_product.mono _ _ _
   | exact LeO.none _
   | refine LeO.ite ?_ ?_
   | refine LeO.bind ?_ (fun _ => ?_)
theorem impl_countSigns.mono : ∀ a0  k, LeO (impl_countSigns.f k a0) (impl_countSigns.f (k + 1) a0) := by
 intro a0 k; have ih0 := impl_countSigns.mono_l k; unfold impl_countSigns.f
 repeat' first
   | (with_reducible exact ih0 _ _ _)
   | (with_reducible exact impl_product.mono _ _ _)
   | (with_reducible exact LeO.refl _)
   | (with_reducible exact LeO.none _)
   | (with_reducible refine LeO.ite ?_ ?_)
   | (with_reducible refine LeO.bind ?_ (fun _ => ?_))
   | exact ih0 _ _ _
   | exact impl_product.mono _ _ _
   | exact LeO.none _
   | refine LeO.ite ?_ ?_
   | refine LeO.bind ?_ (fun _ => ?_)
theorem impl_countSigns.calls (k : Nat) (a0 : Int) (r : Int) (w : World) (h : impl_countSigns.f k a0 = some r) :
  Calls Try.prog 39 #[.int .i64 a0] w fun e w' => e = .returned (.int .i64 r) ∧ Drawn0 w w' := by
 (try unfold impl_countSigns.f at h); have H := h; clear h; have H' := am_ H; clear H; go_enter Try.func39, Try.ntmps39; go_wp2
 go_loopg [3, 4] k (fun kq v3 v4 w' => ∃ (x3_1 : Int) (x4_1 : Int), v3 = .int .i64 x3_1 ∧ v4 = .int .i64 x4_1 ∧ Aside0 (impl_countSigns.l0 kq a0 x3_1 x4_1 = some r) ∧ Aside0 (kq ≤ k) ∧ Drawn0 w w')
 case atStart => exact ⟨(1), (1), tc3_, tc3_, H', ⟨Nat.le_refl _⟩, tc5_⟩
 case round =>
  clear H'; obtain ⟨x3_1, x4_1, rfl, rfl, HA, HK1, ⟨m1, rfl⟩⟩ := hrel
  cases gk with
  | zero => exact absurd HA.out (by simp [impl_countSigns.l0])
  | succ k1 =>
   have H := HA.out; clear HA; simp only [impl_countSigns.l0] at H
   replace H := sp_ H; obtain ⟨c2b0, H⟩ | ⟨c2b0, H⟩ := H
   ·replace H := bd_ H; obtain ⟨t101, A3, H⟩ := H; (try dsimp only at H); replace H := bd_ H; obtain ⟨t102, A4, H⟩ := H; (try dsimp only at H)
    replace H := pn_ H; obtain ⟨c5, H⟩ | ⟨c5, H⟩ := H
    ·exact absurd H (by simp)
    ·have c5b0 : (t102 == 0) = false := beq_eq_false_iff_ne.mpr c5; have c5b1 : (t102 != 0) = true := bne_iff_ne.mpr c5; have H' := am_ H; clear H
     go_wp2_with (first | (refine gc_ (some 17) Try.func52 #[.int .i64 (wrap64 ((wrap64 (2 * x4_1)) + 2)), .int .i64 (wrap64 ((wrap64 (3 * x4_1)) + 1))] ?_; (with_reducible refine (impl_product.calls k1 (wrap64 ((wrap64 (2 * x4_1)) + 2)) (wrap64 ((wrap64 (3 * x4_1)) + 1)) t101 _ A3.out).mono ?_); rintro e w' ⟨rfl, ⟨nd, rfl⟩⟩; refine ⟨_, rfl, ?_⟩) | (refine gc_ (some 23) Try.func52 #[.int .i64 (wrap64 (x4_1 + 1)), .int .i64 (wrap64 (2 * x4_1))] ?_; (with_reducible refine (impl_product.calls k1 (wrap64 (x4_1 + 1)) (wrap64 (2 * x4_1)) t102 _ A4.out).mono ?_); rintro e w' ⟨rfl, ⟨nd, rfl⟩⟩; refine ⟨_, rfl, ?_⟩))
     go_roundg k1
     case measure => have := HK1.out; omega
     case rel => exact ⟨(wrap64 (Int.tdiv (wrap64 (x3_1 * t101)) t102)), (wrap64 (x4_1 + 1)), tc3_, tc3_, H', ⟨tc40_⟩, tc5_⟩
   ·obtain rfl := Option.some.inj H; go_wp2
    go_ret
    exact ⟨tc3_, tc5_⟩

/-! ### impl_CountSigns: function 18 -/
def impl_CountSigns.f (k : Nat) (a0 : Int) : Option (Int × Bool) := (impl_within.f a0 1 8).bind fun t101 => (if t101 = true then ((impl_countSigns.f k a0).bind fun t102 => (some (t102, true))) else (some (0, false)))
theorem impl_CountSigns.mono : ∀ a0  k, LeO (impl_CountSigns.f k a0) (impl_CountSigns.f (k + 1) a0) := by
 intro a0 k; unfold impl_CountSigns.f
 repeat' first
   | (with_reducible exact impl_countSigns.mono _ _)
   | (with_reducible exact LeO.refl _)
   | (with_reducible exact LeO.none _)
   | (with_reducible refine LeO.ite ?_ ?_)
   | (with_reducible refine LeO.bind ?_ (fun _ => ?_))
   | exact impl_countSigns.mono _ _
   | exact LeO.none _
   | refine LeO.ite ?_ ?_
   | refine LeO.bind ?_ (fun _ => ?_)
theorem impl_CountSigns.calls (k : Nat) (a0 : Int) (r1 : Int) (r2 : Bool) (w : World) (h : impl_CountSigns.f k a0 = some (r1, r2)) :
  Calls Try.prog 18 #[.int .i64 a0] w fun e w' => e = .returned (.tuple #[.int .i64 r1, .bool r2]) ∧ Drawn0 w w' := by
 (try unfold impl_CountSigns.f at h); have H := h; clear h; replace H := bd_ H; obtain ⟨t101, A2, H⟩ := H; (try dsimp only at H)
 by_cases c3 : t101 = true
 ·subst c3; have H1 : ((impl_countSigns.f k a0).bind fun t102 => (some (t102, true))) = some (r1, r2) := tc19_; clear H; have H := H1; clear H1; replace H := bd_ H; obtain ⟨t102, A4, H⟩ := H; (try dsimp only at H); simp only [Option.some.injEq, Prod.mk.injEq] at H; obtain ⟨rfl, rfl⟩ := H; go_enter Try.func18, Try.ntmps18
  go_wp2_with (first | (refine gc_ (some 5) Try.func24 #[.int .i64 a0, .int .i64 1, .int .i64 8] ?_; (with_reducible refine (impl_within.calls a0 1 8 true _ A2.out).mono ?_); rintro e w' ⟨rfl, ⟨nd, rfl⟩⟩; refine ⟨_, rfl, ?_⟩) | (refine gc_ (some 8) Try.func39 #[.int .i64 a0] ?_; (with_reducible refine (impl_countSigns.calls k a0 t102 _ A4.out).mono ?_); rintro e w' ⟨rfl, ⟨nd, rfl⟩⟩; refine ⟨_, rfl, ?_⟩))
  go_ret2
  exact ⟨tc3_, tc5_⟩
 ·replace c3 := Bool.eq_false_iff.mpr c3; subst c3; have H1 : (some (0, false)) = some (r1, r2) := tc8_; clear H; have H := H1; clear H1; simp only [Option.some.injEq, Prod.mk.injEq] at H; obtain ⟨rfl, rfl⟩ := H; go_enter Try.func18, Try.ntmps18
  go_wp2_with (first | (refine gc_ (some 5) Try.func24 #[.int .i64 a0, .int .i64 1, .int .i64 8] ?_; (with_reducible refine (impl_within.calls a0 1 8 false _ A2.out).mono ?_); rintro e w' ⟨rfl, ⟨nd, rfl⟩⟩; refine ⟨_, rfl, ?_⟩))
  go_ret2
  exact ⟨tc3_, tc5_⟩

/-! ### slices_IndexFunc_int_int_40: function 40 -/
def slices_IndexFunc_int_int_40.l0 : Nat → List Tb_ → (Tb_ → Option Bool) → Int → Int → Option (Int)
 | 0, _, _, _, _ => none
 | k + 1, x0, x1, x7, x8 => if x8 < x7 then (if 0 ≤ x8 then (if x8 < (x0.length : Int) then ((x1 (rd_L4 x0 x8)).bind fun t102 => (if t102 = true then (some x8) else (slices_IndexFunc_int_int_40.l0 k x0 x1 x7 (wrap64 (x8 + 1))))) else (none)) else (none)) else (some (-1))
def slices_IndexFunc_int_int_40.f (k : Nat) (l0 : List Tb_) (a1 : (Tb_ → Option Bool)) : Option (Int) := slices_IndexFunc_int_int_40.l0 k l0 a1 (l0.length : Int) 0
theorem slices_IndexFunc_int_int_40.mono_l : ∀ k, (∀ y0 y1 y1' y2 y3 (hy1 : ∀ z0, LeO (y1 z0) (y1' z0)), LeO (slices_IndexFunc_int_int_40.l0 k y0 y1 y2 y3) (slices_IndexFunc_int_int_40.l0 (k + 1) y0 y1' y2 y3))
 | 0 => fun _ _ _ _ _ _ r h => by simp [slices_IndexFunc_int_int_40.l0] at h
 | k + 1 => by
  have ih0 := slices_IndexFunc_int_int_40.mono_l k
  ·intro y0 y1 y1' y2 y3 hy1; unfold slices_IndexFunc_int_int_40.l0
   repeat' first
   | (with_reducible exact ih0 _ _ _ _ _ hy1)
   | (with_reducible exact hy1 _)
   | (with_reducible exact LeO.refl _)
   | (with_reducible exact LeO.none _)
   | (with_reducible refine LeO.ite ?_ ?_)
   | (with_reducible refine LeO.bind ?_ (fun _ => ?_))
   | exact ih0 _ _ _ _ _ hy1
   | exact hy1 _
   | exact LeO.none _
   | refine LeO.ite ?_ ?_
   | refine LeO.bind ?_ (fun _ => ?_)
theorem slices_IndexFunc_int_int_40.mono : ∀ a0 a1 a1' (ha1 : ∀ z0, LeO (a1 z0) (a1' z0)) k, LeO (slices_IndexFunc_int_int_40.f k a0 a1) (slices_IndexFunc_int_int_40.f (k + 1) a0 a1') := by
 intro a0 a1 a1' ha1 k; have ih0 := slices_IndexFunc_int_int_40.mono_l k; unfold slices_IndexFunc_int_int_40.f
 repeat' first
   | (with_reducible exact ih0 _ _ _ _ _ ha1)
   | (with_reducible exact ha1 _)
   | (with_reducible exact LeO.refl _)
   | (with_reducible exact LeO.none _)
   | (with_reducible refine LeO.ite ?_ ?_)
   | (with_reducible refine LeO.bind ?_ (fun _ => ?_))
   | exact ih0 _ _ _ _ _ ha1
   | exact ha1 _
   | exact LeO.none _
   | refine LeO.ite ?_ ?_
   | refine LeO.bind ?_ (fun _ => ?_)
theorem slices_IndexFunc_int_int_40.calls (k : Nat) (A0 : Option Addr) (c0 : Nat) (l0 : List Tb_) (g1 : Nat) (b1 : Array Value) (a1 : (Tb_ → Option Bool)) (r : Int) (w : World) (hr0 : Kd.C (Kd.slice 46 (Kd.slice 3 (Kd.int .i64))) w A0 l0.length l0) (hc0 : l0.length ≤ c0) (hf1 : Fn1 (Kd.slice 46 (Kd.slice 3 (Kd.int .i64))) Value.bool Try.prog g1 b1 a1 w) (h : slices_IndexFunc_int_int_40.f k l0 a1 = some r) :
  Calls Try.prog 40 #[.slice A0 l0.length c0, .func (.func g1) #[] b1] w fun e w' => e = .returned (.int .i64 r) ∧ Below w.heap.size w w' := by
 have HR0 := am_ hr0; have HC0 := am_ hc0; clear hr0 hc0; have HF1 := am_ hf1.cl; have eg1 := hf1.eg; clear hf1; have HB := am_ (Below.refl w.heap.size w); (try unfold slices_IndexFunc_int_int_40.f at h); have H := h; clear h; have H' := am_ H; clear H; go_enter Try.func40, Try.ntmps40; go_wp2
 go_loopg [8] k (fun kq v8 w' => ∃ (x8_1 : Int), v8 = .int .i64 x8_1 ∧ Aside0 (slices_IndexFunc_int_int_40.l0 kq l0 a1 (l0.length : Int) x8_1 = some r) ∧ Aside0 (kq ≤ k) ∧ Aside0 (Below w.heap.size w w'))
 case atStart => exact ⟨(0), tc3_, H', ⟨Nat.le_refl _⟩, ⟨tc0_⟩⟩
 case round =>
  clear H'; (try clear p2); obtain ⟨x8_1, rfl, HA, HK1, HB⟩ := hrel
  cases gk with
  | zero => exact absurd HA.out (by simp [slices_IndexFunc_int_int_40.l0])
  | succ k1 =>
   have H := HA.out; clear HA; simp only [slices_IndexFunc_int_int_40.l0] at H
   replace H := sp_ H; obtain ⟨c3b0, H⟩ | ⟨c3b0, H⟩ := H
   ·replace H := ps_ H; obtain ⟨c4b0, H⟩ := H; replace H := ps_ H; obtain ⟨c5b0, H⟩ := H; replace H := bd_ H; obtain ⟨t102, A6, H⟩ := H; (try dsimp only at H)
    by_cases c7 : t102 = true
    ·subst c7; have H1 : (some x8_1) = some r := tc19_; clear H; have H := H1; clear H1; obtain rfl := Option.some.inj H; have p101 : 0 ≤ (x8_1 : Int) := od_; have q101 : x8_1 < (l0.length : Int) := od_; obtain ⟨ad101, A101_0, c101_0, e101, hx101_0, hl101_0, hi101_0⟩ := at_L4 HR0.out x8_1 p101 q101; cases e101; replace hx101_0 := (HB.out.cell (World.block_lt_of_cell? w _ hx101_0)).trans hx101_0; have HR101_0 := am_ hi101_0; have HC101_0 := am_ hl101_0; clear hi101_0 hl101_0; replace p101 := eq_true p101; replace q101 := eq_true q101
     go_wp2_with (first | (go_at_fn g1; (refine (HF1.out _ ?side1 (rd_L4 l0 x8_1) _ (K_slice ?side2 ?side3) true A6.out).mono ?_); (case side1 => exact tc6_); (case side2 => exact HC101_0.out); (case side3 => exact tc14_); rintro e w8 ⟨rfl, hb⟩; replace HB := am_ (below_step tc0_ hb); (try clear hb)))
     go_ret
     exact ⟨tc4_, tc0_⟩
    ·replace c7 := Bool.eq_false_iff.mpr c7; subst c7; have H1 : (slices_IndexFunc_int_int_40.l0 k1 l0 a1 (l0.length : Int) (wrap64 (x8_1 + 1))) = some r := tc8_; clear H; have H := H1; clear H1; have H' := am_ H; clear H; have p101 : 0 ≤ (x8_1 : Int) := od_; have q101 : x8_1 < (l0.length : Int) := od_; obtain ⟨ad101, A101_0, c101_0, e101, hx101_0, hl101_0, hi101_0⟩ := at_L4 HR0.out x8_1 p101 q101; cases e101; replace hx101_0 := (HB.out.cell (World.block_lt_of_cell? w _ hx101_0)).trans hx101_0; have HR101_0 := am_ hi101_0; have HC101_0 := am_ hl101_0; clear hi101_0 hl101_0; replace p101 := eq_true p101; replace q101 := eq_true q101
     go_wp2_with (first | (go_at_fn g1; (refine (HF1.out _ ?side1 (rd_L4 l0 x8_1) _ (K_slice ?side2 ?side3) false A6.out).mono ?_); (case side1 => exact tc6_); (case side2 => exact HC101_0.out); (case side3 => exact tc14_); rintro e w9 ⟨rfl, hb⟩; replace HB := am_ (below_step tc0_ hb); (try clear hb)))
     go_roundg k1
     case measure => have := HK1.out; omega
     case rel => exact ⟨(wrap64 (x8_1 + 1)), tc3_, H', ⟨tc40_⟩, ⟨tc0_⟩⟩
   ·obtain rfl := Option.some.inj H; go_wp2
    go_ret
    exact ⟨tc4_, tc0_⟩

/-! ### slices_CompareFunc_int_int_int_int: function 53 -/
def slices_CompareFunc_int_int_int_int.l0 : Nat → Tb_ → Tb_ → ((List Int) → (List Int) → Option Int) → Tb_ → Int → Int → Option (Int)
 | 0, _, _, _, _, _, _ => none
 | k + 1, x0, x1, x2, x11, x12, x13 => if x13 < x12 then (if 0 ≤ x13 then (if x13 < (x11.length : Int) then (if x13 ≥ (x1.length : Int) then (some 1) else (if x13 < (x1.length : Int) then ((x2 (rd_L3 x11 x13) (rd_L3 x1 x13)).bind fun t103 => (if t103 = 0 then (slices_CompareFunc_int_int_int_int.l0 k x0 x1 x2 x11 x12 (wrap64 (x13 + 1))) else (some t103))) else (none))) else (none)) else (none)) else (if (x0.length : Int) < (x1.length : Int) then (some (-1)) else (some 0))
def slices_CompareFunc_int_int_int_int.f (k : Nat) (l0 : Tb_) (l1 : Tb_) (a2 : ((List Int) → (List Int) → Option Int)) : Option (Int) := slices_CompareFunc_int_int_int_int.l0 k l0 l1 a2 l0 (l0.length : Int) 0
theorem slices_CompareFunc_int_int_int_int.mono_l : ∀ k, (∀ y0 y1 y2 y2' y3 y4 y5 (hy2 : ∀ z0 z1, LeO (y2 z0 z1) (y2' z0 z1)), LeO (slices_CompareFunc_int_int_int_int.l0 k y0 y1 y2 y3 y4 y5) (slices_CompareFunc_int_int_int_int.l0 (k + 1) y0 y1 y2' y3 y4 y5))
 | 0 => fun _ _ _ _ _ _ _ _ r h => by simp [slices_CompareFunc_int_int_int_int.l0] at h
 | k + 1 => by
  have ih0 := slices_CompareFunc_int_int_int_int.mono_l k
  ·intro y0 y1 y2 y2' y3 y4 y5 hy2; unfold slices_CompareFunc_int_int_int_int.l0
   repeat' first
   | (with_reducible exact ih0 _ _ _ _ _ _ _ hy2)
   | (with_reducible exact hy2 _ _)
   | (with_reducible exact LeO.refl _)
   | (with_reducible exact LeO.none _)
   | (with_reducible refine LeO.ite ?_ ?_)
   | (with_reducible refine LeO.bind ?_ (fun _ => ?_))
   | exact ih0 _ _ _ _ _ _ _ hy2
   | exact hy2 _ _
   | exact LeO.none _
   | refine LeO.ite ?_ ?_
   | refine LeO.bind ?_ (fun _ => ?_)
theorem slices_CompareFunc_int_int_int_int.mono : ∀ a0 a1 a2 a2' (ha2 : ∀ z0 z1, LeO (a2 z0 z1) (a2' z0 z1)) k, LeO (slices_CompareFunc_int_int_int_int.f k a0 a1 a2) (slices_CompareFunc_int_int_int_int.f (k + 1) a0 a1 a2') := by
 intro a0 a1 a2 a2' ha2 k; have ih0 := slices_CompareFunc_int_int_int_int.mono_l k; unfold slices_CompareFunc_int_int_int_int.f
 repeat' first
   | (with_reducible exact ih0 _ _ _ _ _ _ _ ha2)
   | (with_reducible exact ha2 _ _)
   | (with_reducible exact LeO.refl _)
   | (with_reducible exact LeO.none _)
   | (with_reducible refine LeO.ite ?_ ?_)
   | (with_reducible refine LeO.bind ?_ (fun _ => ?_))
   | exact ih0 _ _ _ _ _ _ _ ha2
   | exact ha2 _ _
   | exact LeO.none _
   | refine LeO.ite ?_ ?_
   | refine LeO.bind ?_ (fun _ => ?_)
theorem slices_CompareFunc_int_int_int_int.calls (k : Nat) (A0 : Option Addr) (c0 : Nat) (l0 : Tb_) (A1 : Option Addr) (c1 : Nat) (l1 : Tb_) (g2 : Nat) (b2 : Array Value) (a2 : ((List Int) → (List Int) → Option Int)) (r : Int) (w : World) (hr0 : Kd.C (Kd.slice 3 (Kd.int .i64)) w A0 l0.length l0) (hc0 : l0.length ≤ c0) (hr1 : Kd.C (Kd.slice 3 (Kd.int .i64)) w A1 l1.length l1) (hc1 : l1.length ≤ c1) (hf2 : Fn2 (Kd.slice 3 (Kd.int .i64)) (Kd.slice 3 (Kd.int .i64)) (Value.int .i64) Try.prog g2 b2 a2 w) (h : slices_CompareFunc_int_int_int_int.f k l0 l1 a2 = some r) :
  Calls Try.prog 53 #[.slice A0 l0.length c0, .slice A1 l1.length c1, .func (.func g2) #[] b2] w fun e w' => e = .returned (.int .i64 r) ∧ Below w.heap.size w w' := by
 have HR0 := am_ hr0; have HC0 := am_ hc0; clear hr0 hc0; have HR1 := am_ hr1; have HC1 := am_ hc1; clear hr1 hc1; have HF2 := am_ hf2.cl; have eg2 := hf2.eg; clear hf2; have HB := am_ (Below.refl w.heap.size w); (try unfold slices_CompareFunc_int_int_int_int.f at h); have H := h; clear h; have H' := am_ H; clear H; go_enter Try.func53, Try.ntmps53; go_wp2
 go_loopg [13] k (fun kq v13 w' => ∃ (x13_1 : Int), v13 = .int .i64 x13_1 ∧ Aside0 (slices_CompareFunc_int_int_int_int.l0 kq l0 l1 a2 l0 (l0.length : Int) x13_1 = some r) ∧ Aside0 (kq ≤ k) ∧ Aside0 (Below w.heap.size w w'))
 case atStart => exact ⟨(0), tc3_, H', ⟨Nat.le_refl _⟩, ⟨tc0_⟩⟩
 case round =>
  clear H'; (try clear c1); (try clear p2); obtain ⟨x13_1, rfl, HA, HK1, HB⟩ := hrel
  cases gk with
  | zero => exact absurd HA.out (by simp [slices_CompareFunc_int_int_int_int.l0])
  | succ k1 =>
   have H := HA.out; clear HA; simp only [slices_CompareFunc_int_int_int_int.l0] at H
   replace H := sp_ H; obtain ⟨c4b0, H⟩ | ⟨c4b0, H⟩ := H
   ·replace H := ps_ H; obtain ⟨c5b0, H⟩ := H; replace H := ps_ H; obtain ⟨c6b0, H⟩ := H
    replace H := pn_ H; obtain ⟨c7, H⟩ | ⟨c7, H⟩ := H
    ·have c7b0 : decide ((l1.length : Int) ≤ x13_1) = true := decide_eq_true c7; clear c7; obtain rfl := Option.some.inj H; have p101 : 0 ≤ (x13_1 : Int) := od_; have q101 : x13_1 < (l0.length : Int) := od_; obtain ⟨ad101, A101_0, c101_0, e101, hx101_0, hl101_0, hi101_0⟩ := at_L3 HR0.out x13_1 p101 q101; cases e101; replace hx101_0 := (HB.out.cell (World.block_lt_of_cell? w _ hx101_0)).trans hx101_0; have HR101_0 := am_ hi101_0; have HC101_0 := am_ hl101_0; clear hi101_0 hl101_0; replace p101 := eq_true p101; replace q101 := eq_true q101; go_wp2
     go_ret
     exact ⟨tc4_, tc0_⟩
    ·have c7b0 : decide ((l1.length : Int) ≤ x13_1) = false := decide_eq_false c7; clear c7; replace H := ps_ H; obtain ⟨c8b0, H⟩ := H; replace H := bd_ H; obtain ⟨t103, A9, H⟩ := H; (try dsimp only at H)
     replace H := pn_ H; obtain ⟨c10, H⟩ | ⟨c10, H⟩ := H
     ·have c10b0 : (t103 == 0) = true := beq_iff_eq.mpr c10; have c10b1 : (t103 != 0) = false := bne_eq_false_iff_eq.mpr c10; clear c10; have H' := am_ H; clear H; have p101 : 0 ≤ (x13_1 : Int) := od_; have q101 : x13_1 < (l0.length : Int) := od_; obtain ⟨ad101, A101_0, c101_0, e101, hx101_0, hl101_0, hi101_0⟩ := at_L3 HR0.out x13_1 p101 q101; cases e101; replace hx101_0 := (HB.out.cell (World.block_lt_of_cell? w _ hx101_0)).trans hx101_0; have HR101_0 := am_ hi101_0; have HC101_0 := am_ hl101_0; clear hi101_0 hl101_0; replace p101 := eq_true p101; replace q101 := eq_true q101; have p102 : 0 ≤ (x13_1 : Int) := od_; have q102 : x13_1 < (l1.length : Int) := od_; obtain ⟨ad102, A102_0, c102_0, e102, hx102_0, hl102_0, hi102_0⟩ := at_L3 HR1.out x13_1 p102 q102; cases e102; replace hx102_0 := (HB.out.cell (World.block_lt_of_cell? w _ hx102_0)).trans hx102_0; have HR102_0 := am_ hi102_0; have HC102_0 := am_ hl102_0; clear hi102_0 hl102_0; replace p102 := eq_true p102; replace q102 := eq_true q102
      go_wp2_with (first | (go_at_fn g2; (refine (HF2.out _ ?side1 (rd_L3 l0 x13_1) _ (K_slice ?side2 ?side3) (rd_L3 l1 x13_1) _ (K_slice ?side4 ?side5) t103 A9.out).mono ?_); (case side1 => exact tc6_); (case side2 => exact HC101_0.out); (case side3 => exact tc14_); (case side4 => exact HC102_0.out); (case side5 => repeat (first | exact (Kd.C_below HR102_0.out HB.out) | (with_reducible refine Kd.C_alloc ?_ _) | (with_reducible refine Kd.C_drewN ?_ _) | (with_reducible refine Kd.C_drew ?_))); rintro e w11 ⟨rfl, hb⟩; replace HB := am_ (below_step tc0_ hb); (try clear hb)))
      go_roundg k1
      case measure => have := HK1.out; omega
      case rel => exact ⟨(wrap64 (x13_1 + 1)), tc3_, H', ⟨tc40_⟩, ⟨tc0_⟩⟩
     ·have c10b0 : (t103 == 0) = false := beq_eq_false_iff_ne.mpr c10; have c10b1 : (t103 != 0) = true := bne_iff_ne.mpr c10; obtain rfl := Option.some.inj H; have p101 : 0 ≤ (x13_1 : Int) := od_; have q101 : x13_1 < (l0.length : Int) := od_; obtain ⟨ad101, A101_0, c101_0, e101, hx101_0, hl101_0, hi101_0⟩ := at_L3 HR0.out x13_1 p101 q101; cases e101; replace hx101_0 := (HB.out.cell (World.block_lt_of_cell? w _ hx101_0)).trans hx101_0; have HR101_0 := am_ hi101_0; have HC101_0 := am_ hl101_0; clear hi101_0 hl101_0; replace p101 := eq_true p101; replace q101 := eq_true q101; have p102 : 0 ≤ (x13_1 : Int) := od_; have q102 : x13_1 < (l1.length : Int) := od_; obtain ⟨ad102, A102_0, c102_0, e102, hx102_0, hl102_0, hi102_0⟩ := at_L3 HR1.out x13_1 p102 q102; cases e102; replace hx102_0 := (HB.out.cell (World.block_lt_of_cell? w _ hx102_0)).trans hx102_0; have HR102_0 := am_ hi102_0; have HC102_0 := am_ hl102_0; clear hi102_0 hl102_0; replace p102 := eq_true p102; replace q102 := eq_true q102
      go_wp2_with (first | (go_at_fn g2; (refine (HF2.out _ ?side1 (rd_L3 l0 x13_1) _ (K_slice ?side2 ?side3) (rd_L3 l1 x13_1) _ (K_slice ?side4 ?side5) t103 A9.out).mono ?_); (case side1 => exact tc6_); (case side2 => exact HC101_0.out); (case side3 => exact tc14_); (case side4 => exact HC102_0.out); (case side5 => repeat (first | exact (Kd.C_below HR102_0.out HB.out) | (with_reducible refine Kd.C_alloc ?_ _) | (with_reducible refine Kd.C_drewN ?_ _) | (with_reducible refine Kd.C_drew ?_))); rintro e w12 ⟨rfl, hb⟩; replace HB := am_ (below_step tc0_ hb); (try clear hb)))
      go_ret
      exact ⟨tc4_, tc0_⟩
   ·replace H := pn_ H; obtain ⟨c13, H⟩ | ⟨c13, H⟩ := H
    ·have c13b0 : decide ((l0.length : Int) < (l1.length : Int)) = true := decide_eq_true c13; have c13b1 : decide (l0.length < l1.length) = true := decide_eq_true (Int.ofNat_lt.mp c13); clear c13; obtain rfl := Option.some.inj H; go_wp2
     go_ret
     exact ⟨tc4_, tc0_⟩
    ·have c13b0 : decide ((l0.length : Int) < (l1.length : Int)) = false := decide_eq_false c13; have c13b1 : decide (l0.length < l1.length) = false := decide_eq_false (fun h => c13 (Int.ofNat_lt.mpr h)); clear c13; obtain rfl := Option.some.inj H; go_wp2
     go_ret
     exact ⟨tc4_, tc0_⟩

/-! ### cmp_isNaN_int: function 69 -/
def cmp_isNaN_int.f (a0 : Int) : Option (Bool) := some (a0 != a0)
theorem cmp_isNaN_int.calls (a0 : Int) (r : Bool) (w : World) (h : cmp_isNaN_int.f a0 = some r) :
  Calls Try.prog 69 #[.int .i64 a0] w fun e w' => e = .returned (.bool r) ∧ Drawn0 w w' := by
 (try unfold cmp_isNaN_int.f at h); have H := h; clear h; obtain rfl := Option.some.inj H; go_enter Try.func69, Try.ntmps69; go_wp2
 go_ret
 exact ⟨tc3_, tc5_⟩

/-! ### cmp_Compare_int: function 64 -/
def cmp_Compare_int.f (a0 : Int) (a1 : Int) : Option (Int) := (cmp_isNaN_int.f a0).bind fun t101 => ((cmp_isNaN_int.f a1).bind fun t102 => (if t101 = true then (if t102 = true then (some 0) else (some (-1))) else (if t102 = true then (some 1) else (if a0 < a1 then (some (-1)) else (if a0 > a1 then (some 1) else (some 0))))))
theorem cmp_Compare_int.calls (a0 : Int) (a1 : Int) (r : Int) (w : World) (h : cmp_Compare_int.f a0 a1 = some r) :
  Calls Try.prog 64 #[.int .i64 a0, .int .i64 a1] w fun e w' => e = .returned (.int .i64 r) ∧ Drawn0 w w' := by
 (try unfold cmp_Compare_int.f at h); have H := h; clear h; replace H := bd_ H; obtain ⟨t101, A3, H⟩ := H; (try dsimp only at H); replace H := bd_ H; obtain ⟨t102, A4, H⟩ := H; (try dsimp only at H)
 by_cases c5 : t101 = true
 ·subst c5; have H1 : (if t102 = true then (some 0) else (some (-1))) = some r := tc19_; clear H; have H := H1; clear H1
  by_cases c6 : t102 = true
  ·subst c6; have H1 : (some 0) = some r := tc19_; clear H; have H := H1; clear H1; obtain rfl := Option.some.inj H; go_enter Try.func64, Try.ntmps64
   go_wp2_with (first | (refine gc_ (some 8) Try.func69 #[.int .i64 a0] ?_; (with_reducible refine (cmp_isNaN_int.calls a0 true _ A3.out).mono ?_); rintro e w' ⟨rfl, ⟨nd, rfl⟩⟩; refine ⟨_, rfl, ?_⟩) | (refine gc_ (some 10) Try.func69 #[.int .i64 a1] ?_; (with_reducible refine (cmp_isNaN_int.calls a1 true _ A4.out).mono ?_); rintro e w' ⟨rfl, ⟨nd, rfl⟩⟩; refine ⟨_, rfl, ?_⟩))
   go_ret
   exact ⟨tc3_, tc5_⟩
  ·replace c6 := Bool.eq_false_iff.mpr c6; subst c6; have H1 : (some (-1)) = some r := tc8_; clear H; have H := H1; clear H1; obtain rfl := Option.some.inj H; go_enter Try.func64, Try.ntmps64
   go_wp2_with (first | (refine gc_ (some 8) Try.func69 #[.int .i64 a0] ?_; (with_reducible refine (cmp_isNaN_int.calls a0 true _ A3.out).mono ?_); rintro e w' ⟨rfl, ⟨nd, rfl⟩⟩; refine ⟨_, rfl, ?_⟩) | (refine gc_ (some 10) Try.func69 #[.int .i64 a1] ?_; (with_reducible refine (cmp_isNaN_int.calls a1 false _ A4.out).mono ?_); rintro e w' ⟨rfl, ⟨nd, rfl⟩⟩; refine ⟨_, rfl, ?_⟩))
   go_ret
   exact ⟨tc3_, tc5_⟩
 ·replace c5 := Bool.eq_false_iff.mpr c5; subst c5; have H1 : (if t102 = true then (some 1) else (if a0 < a1 then (some (-1)) else (if a0 > a1 then (some 1) else (some 0)))) = some r := tc8_; clear H; have H := H1; clear H1
  by_cases c7 : t102 = true
  ·subst c7; have H1 : (some 1) = some r := tc19_; clear H; have H := H1; clear H1; obtain rfl := Option.some.inj H; go_enter Try.func64, Try.ntmps64
   go_wp2_with (first | (refine gc_ (some 8) Try.func69 #[.int .i64 a0] ?_; (with_reducible refine (cmp_isNaN_int.calls a0 false _ A3.out).mono ?_); rintro e w' ⟨rfl, ⟨nd, rfl⟩⟩; refine ⟨_, rfl, ?_⟩) | (refine gc_ (some 10) Try.func69 #[.int .i64 a1] ?_; (with_reducible refine (cmp_isNaN_int.calls a1 true _ A4.out).mono ?_); rintro e w' ⟨rfl, ⟨nd, rfl⟩⟩; refine ⟨_, rfl, ?_⟩))
   go_ret
   exact ⟨tc3_, tc5_⟩
  ·replace c7 := Bool.eq_false_iff.mpr c7; subst c7; have H1 : (if a0 < a1 then (some (-1)) else (if a0 > a1 then (some 1) else (some 0))) = some r := tc8_; clear H; have H := H1; clear H1
   replace H := sp_ H; obtain ⟨c8b0, H⟩ | ⟨c8b0, H⟩ := H
   ·obtain rfl := Option.some.inj H; go_enter Try.func64, Try.ntmps64
    go_wp2_with (first | (refine gc_ (some 8) Try.func69 #[.int .i64 a0] ?_; (with_reducible refine (cmp_isNaN_int.calls a0 false _ A3.out).mono ?_); rintro e w' ⟨rfl, ⟨nd, rfl⟩⟩; refine ⟨_, rfl, ?_⟩) | (refine gc_ (some 10) Try.func69 #[.int .i64 a1] ?_; (with_reducible refine (cmp_isNaN_int.calls a1 false _ A4.out).mono ?_); rintro e w' ⟨rfl, ⟨nd, rfl⟩⟩; refine ⟨_, rfl, ?_⟩))
    go_ret
    exact ⟨tc3_, tc5_⟩
   ·replace H := pn_ H; obtain ⟨c9, H⟩ | ⟨c9, H⟩ := H
    ·have c9b0 : decide (a1 < a0) = true := decide_eq_true c9; clear c9; obtain rfl := Option.some.inj H; go_enter Try.func64, Try.ntmps64
     go_wp2_with (first | (refine gc_ (some 8) Try.func69 #[.int .i64 a0] ?_; (with_reducible refine (cmp_isNaN_int.calls a0 false _ A3.out).mono ?_); rintro e w' ⟨rfl, ⟨nd, rfl⟩⟩; refine ⟨_, rfl, ?_⟩) | (refine gc_ (some 10) Try.func69 #[.int .i64 a1] ?_; (with_reducible refine (cmp_isNaN_int.calls a1 false _ A4.out).mono ?_); rintro e w' ⟨rfl, ⟨nd, rfl⟩⟩; refine ⟨_, rfl, ?_⟩))
     go_ret
     exact ⟨tc3_, tc5_⟩
    ·have c9b0 : decide (a1 < a0) = false := decide_eq_false c9; clear c9; obtain rfl := Option.some.inj H; go_enter Try.func64, Try.ntmps64
     go_wp2_with (first | (refine gc_ (some 8) Try.func69 #[.int .i64 a0] ?_; (with_reducible refine (cmp_isNaN_int.calls a0 false _ A3.out).mono ?_); rintro e w' ⟨rfl, ⟨nd, rfl⟩⟩; refine ⟨_, rfl, ?_⟩) | (refine gc_ (some 10) Try.func69 #[.int .i64 a1] ?_; (with_reducible refine (cmp_isNaN_int.calls a1 false _ A4.out).mono ?_); rintro e w' ⟨rfl, ⟨nd, rfl⟩⟩; refine ⟨_, rfl, ?_⟩))
     go_ret
     exact ⟨tc3_, tc5_⟩

/-! ### slices_Compare_int_int: function 55 -/
def slices_Compare_int_int.l0 : Nat → List Int → List Int → List Int → Int → Int → Option (Int)
 | 0, _, _, _, _, _ => none
 | k + 1, x0, x1, x9, x10, x11 => if x11 < x10 then (if 0 ≤ x11 then (if x11 < (x9.length : Int) then (if x11 ≥ (x1.length : Int) then (some 1) else (if x11 < (x1.length : Int) then ((cmp_Compare_int.f (rd x9 x11) (rd x1 x11)).bind fun t103 => (if t103 = 0 then (slices_Compare_int_int.l0 k x0 x1 x9 x10 (wrap64 (x11 + 1))) else (some t103))) else (none))) else (none)) else (none)) else (if (x0.length : Int) < (x1.length : Int) then (some (-1)) else (some 0))
def slices_Compare_int_int.f (k : Nat) (l0 : List Int) (l1 : List Int) : Option (Int) := slices_Compare_int_int.l0 k l0 l1 l0 (l0.length : Int) 0
theorem slices_Compare_int_int.mono_l : ∀ k, (∀ y0 y1 y2 y3 y4, LeO (slices_Compare_int_int.l0 k y0 y1 y2 y3 y4) (slices_Compare_int_int.l0 (k + 1) y0 y1 y2 y3 y4))
 | 0 => fun _ _ _ _ _ r h => by simp [slices_Compare_int_int.l0] at h
 | k + 1 => by
  have ih0 := slices_Compare_int_int.mono_l k
  ·intro y0 y1 y2 y3 y4; unfold slices_Compare_int_int.l0
   repeat' first
   | (with_reducible exact ih0 _ _ _ _ _)
   | (with_reducible exact LeO.refl _)
   | (with_reducible exact LeO.none _)
   | (with_reducible refine LeO.ite ?_ ?_)
   | (with_reducible refine LeO.bind ?_ (fun _ => ?_))
   | exact ih0 _ _ _ _ _
   | exact LeO.none _
   | refine LeO.ite ?_ ?_
   | refine LeO.bind ?_ (fun _ => ?_)
theorem slices_Compare_int_int.mono : ∀ a0 a1  k, LeO (slices_Compare_int_int.f k a0 a1) (slices_Compare_int_int.f (k + 1) a0 a1) := by
 intro a0 a1 k; have ih0 := slices_Compare_int_int.mono_l k; unfold slices_Compare_int_int.f
 repeat' first
   | (with_reducible exact ih0 _ _ _ _ _)
   | (with_reducible exact LeO.refl _)
   | (with_reducible exact LeO.none _)
   | (with_reducible refine LeO.ite ?_ ?_)
   | (with_reducible refine LeO.bind ?_ (fun _ => ?_))
   | exact ih0 _ _ _ _ _
   | exact LeO.none _
   | refine LeO.ite ?_ ?_
   | refine LeO.bind ?_ (fun _ => ?_)
theorem slices_Compare_int_int.calls (k : Nat) (A0 : Option Addr) (c0 : Nat) (l0 : List Int) (A1 : Option Addr) (c1 : Nat) (l1 : List Int) (r : Int) (w : World) (hr0 : Kd.C (Kd.int .i64) w A0 l0.length l0) (hc0 : l0.length ≤ c0) (hr1 : Kd.C (Kd.int .i64) w A1 l1.length l1) (hc1 : l1.length ≤ c1) (h : slices_Compare_int_int.f k l0 l1 = some r) :
  Calls Try.prog 55 #[.slice A0 l0.length c0, .slice A1 l1.length c1] w fun e w' => e = .returned (.int .i64 r) ∧ Drawn0 w w' := by
 have HR0 := am_ hr0; have HC0 := am_ hc0; clear hr0 hc0; have HR1 := am_ hr1; have HC1 := am_ hc1; clear hr1 hc1; (try unfold slices_Compare_int_int.f at h); have H := h; clear h; have H' := am_ H; clear H; go_enter Try.func55, Try.ntmps55; go_wp2
 go_loopg [11] k (fun kq v11 w' => ∃ (x11_1 : Int), v11 = .int .i64 x11_1 ∧ Aside0 (slices_Compare_int_int.l0 kq l0 l1 l0 (l0.length : Int) x11_1 = some r) ∧ Aside0 (kq ≤ k) ∧ Drawn0 w w')
 case atStart => exact ⟨(0), tc3_, H', ⟨Nat.le_refl _⟩, tc5_⟩
 case round =>
  clear H'; (try clear c1); (try clear p2); obtain ⟨x11_1, rfl, HA, HK1, ⟨m1, rfl⟩⟩ := hrel
  cases gk with
  | zero => exact absurd HA.out (by simp [slices_Compare_int_int.l0])
  | succ k1 =>
   have H := HA.out; clear HA; simp only [slices_Compare_int_int.l0] at H
   replace H := sp_ H; obtain ⟨c3b0, H⟩ | ⟨c3b0, H⟩ := H
   ·replace H := ps_ H; obtain ⟨c4b0, H⟩ := H; replace H := ps_ H; obtain ⟨c5b0, H⟩ := H
    replace H := pn_ H; obtain ⟨c6, H⟩ | ⟨c6, H⟩ := H
    ·have c6b0 : decide ((l1.length : Int) ≤ x11_1) = true := decide_eq_true c6; clear c6; obtain rfl := Option.some.inj H; have p101 : 0 ≤ (x11_1 : Int) := od_; have q101 : x11_1 < (l0.length : Int) := od_; obtain ⟨ad101, e101, hx101_0⟩ := Kd.at_int HR0.out x11_1 p101 q101; cases e101; replace p101 := eq_true p101; replace q101 := eq_true q101; go_wp2
     go_ret
     exact ⟨tc3_, tc5_⟩
    ·have c6b0 : decide ((l1.length : Int) ≤ x11_1) = false := decide_eq_false c6; clear c6; replace H := ps_ H; obtain ⟨c7b0, H⟩ := H; replace H := bd_ H; obtain ⟨t103, A8, H⟩ := H; (try dsimp only at H)
     replace H := pn_ H; obtain ⟨c9, H⟩ | ⟨c9, H⟩ := H
     ·have c9b0 : (t103 == 0) = true := beq_iff_eq.mpr c9; have c9b1 : (t103 != 0) = false := bne_eq_false_iff_eq.mpr c9; clear c9; have H' := am_ H; clear H; have p101 : 0 ≤ (x11_1 : Int) := od_; have q101 : x11_1 < (l0.length : Int) := od_; obtain ⟨ad101, e101, hx101_0⟩ := Kd.at_int HR0.out x11_1 p101 q101; cases e101; replace p101 := eq_true p101; replace q101 := eq_true q101; have p102 : 0 ≤ (x11_1 : Int) := od_; have q102 : x11_1 < (l1.length : Int) := od_; obtain ⟨ad102, e102, hx102_0⟩ := Kd.at_int HR1.out x11_1 p102 q102; cases e102; replace p102 := eq_true p102; replace q102 := eq_true q102
      go_wp2_with (first | (refine gc_ (some 26) Try.func64 #[.int .i64 (rd l0 x11_1), .int .i64 (rd l1 x11_1)] ?_; (with_reducible refine (cmp_Compare_int.calls (rd l0 x11_1) (rd l1 x11_1) t103 _ A8.out).mono ?_); rintro e w' ⟨rfl, ⟨nd, rfl⟩⟩; refine ⟨_, rfl, ?_⟩))
      go_roundg k1
      case measure => have := HK1.out; omega
      case rel => exact ⟨(wrap64 (x11_1 + 1)), tc3_, H', ⟨tc40_⟩, tc5_⟩
     ·have c9b0 : (t103 == 0) = false := beq_eq_false_iff_ne.mpr c9; have c9b1 : (t103 != 0) = true := bne_iff_ne.mpr c9; obtain rfl := Option.some.inj H; have p101 : 0 ≤ (x11_1 : Int) := od_; have q101 : x11_1 < (l0.length : Int) := od_; obtain ⟨ad101, e101, hx101_0⟩ := Kd.at_int HR0.out x11_1 p101 q101; cases e101; replace p101 := eq_true p101; replace q101 := eq_true q101; have p102 : 0 ≤ (x11_1 : Int) := od_; have q102 : x11_1 < (l1.length : Int) := od_; obtain ⟨ad102, e102, hx102_0⟩ := Kd.at_int HR1.out x11_1 p102 q102; cases e102; replace p102 := eq_true p102; replace q102 := eq_true q102
      go_wp2_with (first | (refine gc_ (some 26) Try.func64 #[.int .i64 (rd l0 x11_1), .int .i64 (rd l1 x11_1)] ?_; (with_reducible refine (cmp_Compare_int.calls (rd l0 x11_1) (rd l1 x11_1) t103 _ A8.out).mono ?_); rintro e w' ⟨rfl, ⟨nd, rfl⟩⟩; refine ⟨_, rfl, ?_⟩))
      go_ret
      exact ⟨tc3_, tc5_⟩
   ·replace H := pn_ H; obtain ⟨c10, H⟩ | ⟨c10, H⟩ := H
    ·have c10b0 : decide ((l0.length : Int) < (l1.length : Int)) = true := decide_eq_true c10; have c10b1 : decide (l0.length < l1.length) = true := decide_eq_true (Int.ofNat_lt.mp c10); clear c10; obtain rfl := Option.some.inj H; go_wp2
     go_ret
     exact ⟨tc3_, tc5_⟩
    ·have c10b0 : decide ((l0.length : Int) < (l1.length : Int)) = false := decide_eq_false c10; have c10b1 : decide (l0.length < l1.length) = false := decide_eq_false (fun h => c10 (Int.ofNat_lt.mpr h)); clear c10; obtain rfl := Option.some.inj H; go_wp2
     go_ret
     exact ⟨tc3_, tc5_⟩

/-! ### impl_compareTables_1: function 54 -/
def impl_compareTables_1.f (k : Nat) (l0 : List Int) (l1 : List Int) : Option (Int) := (slices_Compare_int_int.f k l0 l1).bind fun t101 => (some t101)
theorem impl_compareTables_1.mono : ∀ a0 a1  k, LeO (impl_compareTables_1.f k a0 a1) (impl_compareTables_1.f (k + 1) a0 a1) := by
 intro a0 a1 k; unfold impl_compareTables_1.f
 repeat' first
   | (with_reducible exact slices_Compare_int_int.mono _ _ _)
   | (with_reducible exact LeO.refl _)
   | (with_reducible exact LeO.none _)
   | (with_reducible refine LeO.ite ?_ ?_)
   | (with_reducible refine LeO.bind ?_ (fun _ => ?_))
   | exact slices_Compare_int_int.mono _ _ _
   | exact LeO.none _
   | refine LeO.ite ?_ ?_
   | refine LeO.bind ?_ (fun _ => ?_)
theorem impl_compareTables_1.calls (k : Nat) (A0 : Option Addr) (c0 : Nat) (l0 : List Int) (A1 : Option Addr) (c1 : Nat) (l1 : List Int) (r : Int) (w : World) (hr0 : Kd.C (Kd.int .i64) w A0 l0.length l0) (hc0 : l0.length ≤ c0) (hr1 : Kd.C (Kd.int .i64) w A1 l1.length l1) (hc1 : l1.length ≤ c1) (h : impl_compareTables_1.f k l0 l1 = some r) :
  Calls Try.prog 54 #[.slice A0 l0.length c0, .slice A1 l1.length c1] w fun e w' => e = .returned (.int .i64 r) ∧ Drawn0 w w' := by
 have HR0 := am_ hr0; have HC0 := am_ hc0; clear hr0 hc0; have HR1 := am_ hr1; have HC1 := am_ hc1; clear hr1 hc1; (try unfold impl_compareTables_1.f at h); have H := h; clear h; replace H := bd_ H; obtain ⟨t101, A3, H⟩ := H; (try dsimp only at H); obtain rfl := Option.some.inj H; go_enter Try.func54, Try.ntmps54
 go_wp2_with (first | (refine gc_ (some 7) Try.func55 #[.slice A0 l0.length c0, .slice A1 l1.length c1] ?_; (with_reducible refine (slices_Compare_int_int.calls k _ _ l0 _ _ l1 t101 _ ?side1 ?side2 ?side3 ?side4 A3.out).mono ?_); (case side1 => exact tc13_); (case side2 => exact HC0.out); (case side3 => exact tc39_); (case side4 => exact HC1.out); rintro e w' ⟨rfl, ⟨nd, rfl⟩⟩; refine ⟨_, rfl, ?_⟩))
 go_ret
 exact ⟨tc3_, tc5_⟩

end Go.Proofs.Ytnabhfbcaocljaa.X
