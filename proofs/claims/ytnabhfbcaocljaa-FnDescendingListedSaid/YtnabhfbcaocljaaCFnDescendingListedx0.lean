-- Written by a program of this session (wip/xprint.py) that drives the kit's print; the contracts of what it does not take are this session's own.
import Derived.Test.YtnabhfbcaocljaaProg
import Derived.Below
import Derived.Deep.Draws
import Derived.Deep.AppendLies
import Derived.Maps.AppendAt
import Derived.OwnWalk
import Derived.Laws.BytesArg
import Derived.Laws.MakeOwn
import Derived.Laws.OwnMore
import Derived.Deep.OwnRows
import Derived.Tactics
import Derived.Lib.ConvBytes
import Derived.Laws.Slices
import Derived.WalkKit
import Derived.KernelRfl
import Derived.RowKit3
import Derived.Deep.LoopGhost
import Derived.Deep.QuietTactic
import Derived.BigQuiet
import Derived.WideLaws
import Derived.Deep.DeepCutAuto
import Derived.Deep.CutBlock
import Derived.Deep.RegionHeld3
import Derived.Laws.Rows
import Derived.Lib.AppendStr
import Derived.ArgAppend
import Derived.Laws.IdiomCopy
import Derived.OrdersHeld
import Derived.Laws.BitsLemmas
import Derived.RowKit
import Derived.Shelf.Abstract
import Derived.Laws.ByValue
import Derived.StillTailTactics
import Derived.RegionTactic
import Derived.BigRegion
import Derived.WalkSpells
import Derived.Laws.EntriesVeiled
import Derived.Deep.RegionLawGrows
import Derived.Laws.CopyOwn
import Derived.Test.YtnabhfbcaocljaaCFnDescendingListedwWords
import Derived.Test.YtnabhfbcaocljaaCFnDescendingListedwLast
import Derived.Test.YtnabhfbcaocljaaCFnDescendingListedwTab
import Derived.Test.YtnabhfbcaocljaaCFnDescendingListedwFour
import Derived.Test.YtnabhfbcaocljaaCFnDescendingListedwQPut
import Derived.Test.YtnabhfbcaocljaaCFnDescendingListedwApart
import Derived.Test.YtnabhfbcaocljaaCFnDescendingListedwArr
import Derived.Test.YtnabhfbcaocljaaCFnDescendingListedwZeros
import Derived.Test.YtnabhfbcaocljaaCFnDescendingListedwFoot
import Derived.Test.YtnabhfbcaocljaaCFnDescendingListedwKept
import Derived.Test.YtnabhfbcaocljaaCFnDescendingListedwShare
import Derived.Test.YtnabhfbcaocljaaCFnDescendingListedwN
import Derived.Test.YtnabhfbcaocljaaCFnDescendingListedwFootNe
import Derived.Test.YtnabhfbcaocljaaCFnDescendingListedwAt
import Derived.Test.YtnabhfbcaocljaaCFnDescendingListedwEqStruct
import Derived.Test.YtnabhfbcaocljaaCFnDescendingListedwRepsOne
import Derived.Test.YtnabhfbcaocljaaCFnDescendingListedwInv
import Derived.Test.YtnabhfbcaocljaaCFnDescendingListedwInvWords
import Derived.Test.YtnabhfbcaocljaaCFnDescendingListedwGuard
import Derived.Test.YtnabhfbcaocljaaCFnDescendingListedwNEv
import Derived.Test.YtnabhfbcaocljaaCFnDescendingListedwMore
namespace Go.Proofs.Ytnabhfbcaocljaa.X
open Go.RowKit Go.Proofs.YtnabhfbcaocljaaW.PrintWords Go.Proofs.YtnabhfbcaocljaaW.PrintLast Go.Proofs.YtnabhfbcaocljaaW.PrintMore
abbrev Tb_ := List (List Int)
attribute [local go_sem] max2_int min2_int max_two min_two max_three min_three max_four min_four   -- for this text's walks alone
set_option linter.unusedVariables false
set_option linter.unusedSimpArgs false



def errW : Option Int → Value
  | none => .nilIface
  | some c => .iface 0 (.int .i64 c)
theorem errW_none : errW none = .nilIface := rfl
theorem errW_some (c : Int) : errW (some c) = .iface 0 (.int .i64 c) := rfl

theorem info3 : (Try.prog.info? 3).map (fun i => (i.zero, i.size, i.bytes)) = some (some (.int .i64 0), 1, 8) := by kernel_rfl
theorem info26 : (Try.prog.info? 26).map (fun i => (i.zero, i.size, i.bytes)) = some (some (.slice none 0 0), 1, 24) := by kernel_rfl
theorem info46 : (Try.prog.info? 46).map (fun i => (i.zero, i.size, i.bytes)) = some (some (.slice none 0 0), 1, 24) := by kernel_rfl
-- the values' own types
def rd_L3 (xs : Tb_) (i : Int) : (List Int) := xs.getD i.toNat ([] : List Int)
theorem at_L3 {w : World} {A : Option Addr} {n : Nat} {xs : Tb_} (h : Kd.C (Kd.slice 3 (Kd.int .i64)) w A n xs) (i : Int) (h0 : 0 ≤ i) (h1 : i < n) : ∃ ad A0 c0, A = some ad ∧ w.cell? (ad.add i.toNat) = some (.slice A0 (rd_L3 xs i).length c0) ∧ (rd_L3 xs i).length ≤ c0 ∧ (Kd.int .i64).C w A0 (rd_L3 xs i).length (rd_L3 xs i) := by
  obtain ⟨ad, c, e, _, hK, hc0⟩ := Kd.C_get h ([] : List Int) i h0 h1
  have hc : ∀ j u, c[j]? = some u → w.cell? (ad.add (i.toNat * 1 + j)) = some u := hc0
  obtain ⟨A0, c0, rfl, l0, g0⟩ := hK
  exact ⟨ad, A0, c0, e, (by have hq := hc 0 _ rfl; rwa [Nat.mul_one, Nat.add_zero] at hq), l0, g0⟩

def rd_L4 (xs : List Tb_) (i : Int) : Tb_ := xs.getD i.toNat ([] : Tb_)
theorem at_L4 {w : World} {A : Option Addr} {n : Nat} {xs : List Tb_} (h : Kd.C (Kd.slice 46 (Kd.slice 3 (Kd.int .i64))) w A n xs) (i : Int) (h0 : 0 ≤ i) (h1 : i < n) : ∃ ad A0 c0, A = some ad ∧ w.cell? (ad.add i.toNat) = some (.slice A0 (rd_L4 xs i).length c0) ∧ (rd_L4 xs i).length ≤ c0 ∧ (Kd.slice 3 (Kd.int .i64)).C w A0 (rd_L4 xs i).length (rd_L4 xs i) := by
  obtain ⟨ad, c, e, _, hK, hc0⟩ := Kd.C_get h ([] : Tb_) i h0 h1
  have hc : ∀ j u, c[j]? = some u → w.cell? (ad.add (i.toNat * 1 + j)) = some u := hc0
  obtain ⟨A0, c0, rfl, l0, g0⟩ := hK
  exact ⟨ad, A0, c0, e, (by have hq := hc 0 _ rfl; rwa [Nat.mul_one, Nat.add_zero] at hq), l0, g0⟩

theorem am_ {p : Prop} (h : p) : Aside0 p := Aside0.mk h
theorem tc0_ {p : Prop} (h : p := by repeat (first | (with_reducible first | exact HB.out | apply below_alloc | apply pw_below_drewN | apply below_drew1) | exact HB.out)) : p := h
theorem tc1_ {p : Prop} (h : p := by (try simp only [List.map_toArray, List.map_cons, List.map_nil]); first | done | rfl | (simp only [List.length_drop, List.length_take]; rfl)) : p := h
theorem tc2_ {p : Prop} (h : p := by first | (with_reducible assumption) | assumption) : p := h
theorem tc3_ {p : Prop} (h : p := by first | rfl | (simp; done) | (simp [*]; done)) : p := h
theorem tc4_ {p : Prop} (h : p := by first | rfl | (simp [errW_none, errW_some] <;> rfl) | (simp [*, errW_none, errW_some] <;> rfl)) : p := h
theorem tc5_ {p : Prop} (h : p := by repeat (first | exact Drawn0.refl _ | apply Drawn0.step)) : p := h
theorem tc6_ {p : Prop} (h : p := by exact (by repeat (first | (with_reducible first | exact HB.out | apply below_alloc | apply pw_below_drewN | apply below_drew1) | exact HB.out))) : p := h
theorem tc7_ {p : Prop} (h : p := by repeat (first | (with_reducible first | exact HB.out | apply below_alloc | apply pw_below_drewN | apply below_drew1 | refine below_set ?_ (IsS42.ge HI0.out)) | exact HB.out)) : p := h
theorem tc8_ {p : Prop} (h : p := by rw [if_neg (show ¬ (false = true) by decide)] at H; exact H) : p := h
theorem tc9_ {p : Prop} (h : p := by repeat (first | (with_reducible first | exact HK.out | apply KeepBut.set_ | apply keep_drewN | apply keep_drew | apply keep_alloc) | exact HK.out)) : p := h
theorem tc10_ {p : Prop} (h : p := by repeat (first | (with_reducible first | exact HI0.out | apply IsS42.alloc | apply IsS42.drewN | apply IsS42.drew | apply IsS42.set_1 | apply IsS42.set_2) | exact HI0.out)) : p := h
theorem tc11_ {p : Prop} (h : p := by exact (below_size (by repeat (first | (with_reducible first | exact HB.out | apply below_alloc | apply pw_below_drewN | apply below_drew1) | exact HB.out)))) : p := h
theorem tc12_ {p : Prop} (h : p := by repeat (first | (with_reducible first | exact HB.out | apply below_alloc | apply pw_below_drewN | apply below_drew1 | refine below_set ?_ (IsS42.ge HI101.out)) | exact HB.out)) : p := h
theorem tc13_ {p : Prop} (h : p := by repeat (first | exact HR0.out | (with_reducible refine Kd.C_alloc ?_ _) | (with_reducible refine Kd.C_drewN ?_ _) | (with_reducible refine Kd.C_drew ?_))) : p := h
theorem tc14_ {p : Prop} (h : p := by repeat (first | exact (Kd.C_below HR101_0.out HB.out) | (with_reducible refine Kd.C_alloc ?_ _) | (with_reducible refine Kd.C_drewN ?_ _) | (with_reducible refine Kd.C_drew ?_))) : p := h
theorem tc15_ {p : Prop} (h : p := by (with_reducible repeat (first | apply Kd.N_alloc | apply Kd.N_drewN | apply Kd.N_drew)); exact HO_5.out) : p := h
theorem tc16_ {p : Prop} (h : p := by (with_reducible repeat (first | apply Kd.V_alloc | apply Kd.V_drewN | apply Kd.V_drew)); exact HO_7.out) : p := h
theorem tc17_ {p : Prop} (h : p := by repeat (first | (with_reducible first | exact HB.out | apply below_alloc | apply pw_below_drewN | apply below_drew1 | refine below_set ?_ GE101.out) | exact HB.out)) : p := h
theorem tc18_ {p : Prop} (h : p := by (with_reducible repeat (first | apply Kd.N_alloc | apply Kd.N_drewN | apply Kd.N_drew)); exact HO_12.out) : p := h
theorem tc19_ {p : Prop} (h : p := by rw [if_pos rfl] at H; exact H) : p := h
theorem tc20_ {p : Prop} (h : p := by repeat (first | (with_reducible first | exact HI101.out | apply IsS42.alloc | apply IsS42.drewN | apply IsS42.drew | apply IsS42.set_1 | apply IsS42.set_2) | exact HI101.out)) : p := h
theorem tc21_ {p : Prop} (h : p := by repeat (first | exact (by repeat (first | (with_reducible exact HR126_0.out) | (with_reducible refine Kd.C_alloc ?_ _) | (with_reducible refine Kd.C_drewN ?_ _) | (with_reducible refine Kd.C_drew ?_) | exact HR126_0.out)) | (with_reducible refine Kd.C_alloc ?_ _) | (with_reducible refine Kd.C_drewN ?_ _) | (with_reducible refine Kd.C_drew ?_))) : p := h
theorem tc22_ {p : Prop} (h : p := by repeat (first | exact (Kd.C_below HR0.out HB.out) | (with_reducible refine Kd.C_alloc ?_ _) | (with_reducible refine Kd.C_drewN ?_ _) | (with_reducible refine Kd.C_drew ?_))) : p := h
theorem tc23_ {p : Prop} (h : p := by (with_reducible repeat (first | refine blk_drewN ?_ _ | refine blk_drew ?_ | refine blk_alloc ?_ _)); exact BK101.out) : p := h
theorem tc24_ {p : Prop} (h : p := by repeat (first | (with_reducible exact HR126_0.out) | (with_reducible refine Kd.C_alloc ?_ _) | (with_reducible refine Kd.C_drewN ?_ _) | (with_reducible refine Kd.C_drew ?_) | exact HR126_0.out)) : p := h
theorem tc25_ {p : Prop} (h : p := by first | (rw [hy104]; with_reducible exact H) | (have H2_ := (Option.bind_some _ _).symm.trans H; rw [hy104]; with_reducible exact H2_) | (have H2_ := (Option.bind_some _ _).symm.trans H; with_reducible exact H2_) | with_reducible exact H | (rw [hy104]; exact H) | exact H) : p := h
theorem tc26_ {p : Prop} (h : p := by first | (rw [hy108]; with_reducible exact H) | (have H2_ := (Option.bind_some _ _).symm.trans H; rw [hy108]; with_reducible exact H2_) | (have H2_ := (Option.bind_some _ _).symm.trans H; with_reducible exact H2_) | with_reducible exact H | (rw [hy108]; exact H) | exact H) : p := h
theorem tc27_ {p : Prop} (h : p := by first | (rw [hy101]; with_reducible exact H) | (have H2_ := (Option.bind_some _ _).symm.trans H; rw [hy101]; with_reducible exact H2_) | (have H2_ := (Option.bind_some _ _).symm.trans H; with_reducible exact H2_) | with_reducible exact H | (rw [hy101]; exact H) | exact H) : p := h
theorem tc28_ {p : Prop} (h : p := by (with_reducible repeat (first | apply Kd.V_alloc | apply Kd.V_drewN | apply Kd.V_drew)); exact HO_0.out) : p := h
theorem tc29_ {p : Prop} (h : p := by first | exact Kd.S_nil _ _ _ _ _ | exact Kd.N_nil _ _ _ _ _ | exact Kd.V_nil _ _ _ _ _ | exact Kd.Q_nil _ _ _ _ _ | exact Kd.R_nil _ _ _ _ _) : p := h
theorem tc30_ {p : Prop} (h : p := by repeat (first | exact HR101_0.out | (with_reducible refine Kd.C_alloc ?_ _) | (with_reducible refine Kd.C_drewN ?_ _) | (with_reducible refine Kd.C_drew ?_))) : p := h
theorem tc31_ {p : Prop} (h : p := by repeat (first | exact HR102_0.out | (with_reducible refine Kd.C_alloc ?_ _) | (with_reducible refine Kd.C_drewN ?_ _) | (with_reducible refine Kd.C_drew ?_))) : p := h
theorem tc32_ {p : Prop} (h : p := by (with_reducible repeat (first | apply Kd.N_alloc | apply Kd.N_drewN | apply Kd.N_drew)); exact HO_14.out) : p := h
theorem tc33_ {p : Prop} (h : p := by (try simp only [Int.add_zero]); repeat (first | (with_reducible first | exact HI0.out | apply IsS42.alloc | apply IsS42.drewN | apply IsS42.drew | apply IsS42.set_1 | apply IsS42.set_2) | exact HI0.out)) : p := h
theorem tc34_ {p : Prop} (h : p := by first | (rw [hy109]; with_reducible exact H) | (have H2_ := (Option.bind_some _ _).symm.trans H; rw [hy109]; with_reducible exact H2_) | (have H2_ := (Option.bind_some _ _).symm.trans H; with_reducible exact H2_) | with_reducible exact H | (rw [hy109]; exact H) | exact H) : p := h
theorem tc35_ {p : Prop} (h : p := by (with_reducible repeat (first | apply Kd.N_alloc | apply Kd.N_drewN | apply Kd.N_drew)); exact HO_119.out) : p := h
theorem tc36_ {p : Prop} (h : p := by first | (go_simp; done) | (go_simp; rfl)) : p := h
theorem tc37_ {p : Prop} (h : p := by (with_reducible repeat (first | apply Kd.N_alloc | apply Kd.N_drewN | apply Kd.N_drew)); exact HO_9.out) : p := h
theorem tc38_ {p : Prop} (h : p := by (with_reducible repeat (first | apply Kd.S_alloc | apply Kd.S_drewN | apply Kd.S_drew)); exact HO_7.out) : p := h
theorem tc39_ {p : Prop} (h : p := by repeat (first | exact HR1.out | (with_reducible refine Kd.C_alloc ?_ _) | (with_reducible refine Kd.C_drewN ?_ _) | (with_reducible refine Kd.C_drew ?_))) : p := h
theorem tc40_ {p : Prop} (h : p := by have := HK1.out; omega) : p := h
theorem tc41_ {p : Prop} (h : p := by repeat (first | (with_reducible exact HR105_0.out) | (with_reducible refine Kd.C_alloc ?_ _) | (with_reducible refine Kd.C_drewN ?_ _) | (with_reducible refine Kd.C_drew ?_) | exact HR105_0.out)) : p := h
theorem tc42_ {p : Prop} (h : p := by first | exact Kd.R_nil _ _ _ _ _ | exact Kd.N_nil _ _ _ _ _ | exact Kd.V_nil _ _ _ _ _ | exact Kd.Q_nil _ _ _ _ _ | exact Kd.S_nil _ _ _ _ _) : p := h
theorem tc43_ {p : Prop} (h : p := by first | (rw [hy105]; with_reducible exact H) | (have H2_ := (Option.bind_some _ _).symm.trans H; rw [hy105]; with_reducible exact H2_) | (have H2_ := (Option.bind_some _ _).symm.trans H; with_reducible exact H2_) | with_reducible exact H | (rw [hy105]; exact H) | exact H) : p := h
theorem tc44_ {p : Prop} (h : p := by first | (rw [hy111]; with_reducible exact H) | (have H2_ := (Option.bind_some _ _).symm.trans H; rw [hy111]; with_reducible exact H2_) | (have H2_ := (Option.bind_some _ _).symm.trans H; with_reducible exact H2_) | with_reducible exact H | (rw [hy111]; exact H) | exact H) : p := h
theorem tc45_ {p : Prop} (h : p := by first | (rw [hy120]; with_reducible exact H) | (have H2_ := (Option.bind_some _ _).symm.trans H; rw [hy120]; with_reducible exact H2_) | (have H2_ := (Option.bind_some _ _).symm.trans H; with_reducible exact H2_) | with_reducible exact H | (rw [hy120]; exact H) | exact H) : p := h
theorem tc46_ {p : Prop} (h : p := by first | (rw [hy113]; with_reducible exact H) | (have H2_ := (Option.bind_some _ _).symm.trans H; rw [hy113]; with_reducible exact H2_) | (have H2_ := (Option.bind_some _ _).symm.trans H; with_reducible exact H2_) | with_reducible exact H | (rw [hy113]; exact H) | exact H) : p := h
theorem tc47_ {p : Prop} (h : p := by first | omega | exact Nat.le_refl _) : p := h
theorem tc48_ {p : Prop} (h : p := by first | exact q104 | exact of_decide_eq_true (by first | (with_reducible assumption) | assumption) | (have e_ := (Kd.N_reads' HO_9.out).1; omega)) : p := h
theorem tc49_ {p : Prop} (h : p := by (with_reducible repeat (first | apply Kd.N_alloc | apply Kd.N_drewN | apply Kd.N_drew)); exact HO104.out) : p := h
theorem tc50_ {p : Prop} (h : p := by (with_reducible repeat (first | apply Kd.N_alloc | apply Kd.N_drewN | apply Kd.N_drew)); exact HO116.out) : p := h
theorem tc51_ {p : Prop} (h : p := by (with_reducible repeat (first | apply Kd.S_alloc | apply Kd.S_drewN | apply Kd.S_drew)); exact HO_3.out) : p := h
theorem tc52_ {p : Prop} (h : p := by (with_reducible repeat (first | apply Kd.V_alloc | apply Kd.V_drewN | apply Kd.V_drew)); exact HO0.out) : p := h
theorem tc53_ {p : Prop} (h : p := by repeat (first | (with_reducible first | exact HB.out | apply below_alloc | apply pw_below_drewN | apply below_drew1 | refine below_set ?_ GE101.out | refine below_set ?_ GE102.out) | exact HB.out)) : p := h
theorem tc54_ {p : Prop} (h : p := by repeat (first | (with_reducible exact HR104_0.out) | (with_reducible refine Kd.C_alloc ?_ _) | (with_reducible refine Kd.C_drewN ?_ _) | (with_reducible refine Kd.C_drew ?_) | exact HR104_0.out)) : p := h
theorem tc55_ {p : Prop} (h : p := by repeat (first | (with_reducible exact HR107_0.out) | (with_reducible refine Kd.C_alloc ?_ _) | (with_reducible refine Kd.C_drewN ?_ _) | (with_reducible refine Kd.C_drew ?_) | exact HR107_0.out)) : p := h
theorem tc56_ {p : Prop} (h : p := by repeat (first | (with_reducible exact HR106_0.out) | (with_reducible refine Kd.C_alloc ?_ _) | (with_reducible refine Kd.C_drewN ?_ _) | (with_reducible refine Kd.C_drew ?_) | exact HR106_0.out)) : p := h
theorem tc57_ {p : Prop} (h : p := by repeat (first | (with_reducible exact HR129_0.out) | (with_reducible refine Kd.C_alloc ?_ _) | (with_reducible refine Kd.C_drewN ?_ _) | (with_reducible refine Kd.C_drew ?_) | exact HR129_0.out)) : p := h
theorem tc58_ {p : Prop} (h : p := by first | rfl | (simp; done) | (simp only [← hji10] <;> (first | rfl | simp)) | (simp [*]; done)) : p := h
theorem tc59_ {p : Prop} (h : p := by (try simp only [List.map_toArray, List.map_cons, List.map_nil]); first | done | rfl) : p := h
theorem tc60_ {p : Prop} (h : p := by have := HK1.out; have := HK2.out; omega) : p := h
theorem tc61_ {p : Prop} (h : p := by repeat (first | (with_reducible first | exact HB.out | apply below_alloc | apply pw_below_drewN | apply below_drew1 | refine below_set ?_ GE61.out) | exact HB.out)) : p := h
theorem tc62_ {p : Prop} (h : p := by (with_reducible repeat (first | apply Kd.V_alloc | apply Kd.V_drewN | apply Kd.V_drew)); exact HL107_0.out) : p := h
theorem tc63_ {p : Prop} (h : p := by (with_reducible repeat (first | apply Kd.R_alloc | apply Kd.R_drewN | apply Kd.R_drew)); exact HO106.out) : p := h
theorem tc64_ {p : Prop} (h : p := by (with_reducible repeat (first | apply Kd.R_alloc | apply Kd.R_drewN | apply Kd.R_drew)); exact HO111.out) : p := h
theorem tc65_ {p : Prop} (h : p := by (with_reducible repeat (first | apply Kd.N_alloc | apply Kd.N_drewN | apply Kd.N_drew)); exact HO103.out) : p := h
theorem tc66_ {p : Prop} (h : p := by (with_reducible repeat (first | apply Kd.N_alloc | apply Kd.N_drewN | apply Kd.N_drew)); exact HO_11.out) : p := h
theorem tc67_ {p : Prop} (h : p := by have := HYL.out; omega) : p := h
theorem tc68_ {p : Prop} (h : p := by (with_reducible repeat (first | apply Kd.S_alloc | apply Kd.S_drewN | apply Kd.S_drew)); exact Kd.S_mono HO_3.out (fun k_ hk => ⟨trivial, fun e_ => hk.2 e_⟩)) : p := h
theorem tc69_ {p : Prop} (h : p := by (with_reducible repeat (first | apply Kd.V_alloc | apply Kd.V_drewN | apply Kd.V_drew)); exact Kd.V_mono HL104_0.out (fun _ hk => ⟨⟨hk.1.1, hk.2⟩, hk.1.2⟩)) : p := h
theorem tc70_ {p : Prop} (h : p := by first | exact q126 | exact of_decide_eq_true (by first | (with_reducible assumption) | assumption) | (have e_ := (Kd.N_reads' HO_119.out).1; omega)) : p := h
theorem tc71_ {p : Prop} (h : p := by first | exact q129 | exact of_decide_eq_true (by first | (with_reducible assumption) | assumption) | (have e_ := (Kd.N_reads' HO_14.out).1; omega)) : p := h
theorem tc72_ {p : Prop} (h : p := by (with_reducible repeat (first | apply Kd.S_alloc | apply Kd.S_drewN | apply Kd.S_drew)); exact Kd.S_mono HO_4.out (fun _ hk => ⟨trivial, hk⟩)) : p := h
theorem tc73_ {p : Prop} (h : p := by (with_reducible repeat (first | apply Kd.N_alloc | apply Kd.N_drewN | apply Kd.N_drew)); exact Kd.N_mono HO116.out (fun _ _ => trivial)) : p := h
theorem tc74_ {p : Prop} (h : p := by (with_reducible repeat (first | apply Kd.N_alloc | apply Kd.N_drewN | apply Kd.N_drew)); exact Kd.N_mono HO120.out (fun _ _ => trivial)) : p := h
theorem tc75_ {p : Prop} (h : p := by (with_reducible repeat (first | apply Kd.V_alloc | apply Kd.V_drewN | apply Kd.V_drew)); exact Kd.V_mono HO_7.out (fun _ _ => trivial)) : p := h
theorem tc76_ {p : Prop} (h : p := by (with_reducible repeat (first | apply Kd.N_alloc | apply Kd.N_drewN | apply Kd.N_drew)); exact Kd.N_mono HO_5.out (fun _ hk => hk.1)) : p := h
theorem tc77_ {p : Prop} (h : p := by have := HN.out; rw [HE.out, HR2.out] at this; simp only [List.length_append, List.length_cons, List.length_nil] at this ⊢; omega) : p := h
theorem tc78_ {p : Prop} (h : p := by (try simp only [hl4_2]); (with_reducible repeat (first | apply Kd.S_alloc | apply Kd.S_drewN | apply Kd.S_drew)); exact HO_4.out) : p := h
theorem tc79_ {p : Prop} (h : p := by have := LM.out; omega) : p := h
theorem tc80_ {p : Prop} (h : p := by have := HJ7.out; have := HJ21.out; have := HK3.out; have := HJ77.out; have := HJ85.out; first | omega | exact Nat.le_refl _) : p := h
theorem tc81_ {p : Prop} (h : p := by exact (fun _ _ => trivial)) : p := h
theorem tc82_ {p : Prop} (h : p := by (with_reducible repeat (first | refine blk_drewN ?_ _ | refine blk_drew ?_ | refine blk_alloc ?_ _)); exact BK102.out) : p := h
theorem tc83_ {p : Prop} (h : p := by first | simpa using c3 | (simp at c3 ⊢; omega)) : p := h

abbrev T_ := true
abbrev F_ := false
abbrev T := true
abbrev F := false
theorem an_ {p : Prop} (h : p := by exact any_of HT_.out (by kernel_rfl)) : p := h
theorem ao_ {p : Prop} (h : p := by exact one_of HT_.out (by kernel_rfl)) : p := h
theorem av_ {p : Prop} (h : p := by exact take_ofW HT_.out HW_.out (by kernel_rfl)) : p := h
theorem ak_ {p : Prop} (h : p := by kernel_rfl) : p := h
theorem hq_ {p : Prop} (h : p := by exact fun _ _ _ h => h) : p := h
theorem nm_ {p : Prop} (h : p := by (simp only [Act.put, List.setIfInBounds_toArray, List.set_cons_zero, List.set_cons_succ, i64_w, i32_w]; rfl)) : p := h
theorem yi_ {p q r : Prop} (h : p := by rfl) (h2 : q := by (intro w'; go_simp; with_reducible rfl)) : (p ∧ q) ∨ r := Or.inl ⟨h, h2⟩
theorem yj1_ {p q r : Prop} (h : p := by rfl) (h2 : q := by (intro w' s0; go_simp; with_reducible rfl)) : (p ∧ q) ∨ r := Or.inl ⟨h, h2⟩
theorem yj2_ {p q r : Prop} (h : p := by rfl) (h2 : q := by (rintro w' ⟨s0, s1⟩; go_simp; with_reducible rfl)) : (p ∧ q) ∨ r := Or.inl ⟨h, h2⟩
theorem yj9_ {p q r : Prop} (h : p := by rfl) (h2 : q := by (rintro w' ⟨s0, s1, s2, s3, s4, s5, s6, s7, s8⟩; go_simp; with_reducible rfl)) : (p ∧ q) ∨ r := Or.inl ⟨h, h2⟩
theorem ps_ {c : Prop} [Decidable c] {α : Type} {A : Option α} {r : α} (H : (if c then A else none) = some r) : decide c = true ∧ A = some r := by
  by_cases h : c
  · rw [if_pos h] at H; exact ⟨decide_eq_true h, H⟩
  · rw [if_neg h] at H; exact absurd H (by simp)
theorem pp_ {c : Prop} [Decidable c] {α : Type} {A : Option α} {r : α} (H : (if c then A else none) = some r) : c ∧ A = some r := by
  by_cases h : c
  · rw [if_pos h] at H; exact ⟨h, H⟩
  · rw [if_neg h] at H; exact absurd H (by simp)
theorem pn_ {c : Prop} [Decidable c] {α : Type} {A B : Option α} {r : α} (H : (if c then A else B) = some r) : (c ∧ A = some r) ∨ (¬ c ∧ B = some r) := by
  by_cases h : c
  · rw [if_pos h] at H; exact .inl ⟨h, H⟩
  · rw [if_neg h] at H; exact .inr ⟨h, H⟩
theorem ng_ {c : Prop} [Decidable c] {α : Type} {A : Option α} {r : α} {p : Prop} (h : ¬ c) (H : (if c then A else none) = some r) : p := by
  rw [if_neg h] at H; exact absurd H (by simp)
theorem sp_ {c : Prop} [Decidable c] {α : Type} {A B : Option α} {r : α} (H : (if c then A else B) = some r) : (decide c = true ∧ A = some r) ∨ (decide c = false ∧ B = some r) := by
  by_cases h : c
  · rw [if_pos h] at H; exact .inl ⟨decide_eq_true h, H⟩
  · rw [if_neg h] at H; exact .inr ⟨decide_eq_false h, H⟩
theorem sb_ {b : Bool} {α : Type} {A B : Option α} {r : α} (H : (if b = true then A else B) = some r) : (b = true ∧ A = some r) ∨ (b = false ∧ B = some r) := by
  cases b
  · exact .inr ⟨rfl, H⟩
  · exact .inl ⟨rfl, H⟩
theorem bd_ {α β : Type} {o : Option α} {f : α → Option β} {b : β} (H : o.bind f = some b) : ∃ a, Aside0 (o = some a) ∧ f a = some b := by
  obtain ⟨a, h1, h2⟩ := Option.bind_eq_some_iff.mp H
  exact ⟨a, Aside0.mk h1, h2⟩
theorem od_ {p : Prop} [Decidable p] (h : decide p = true := by exact tc2_) : p := of_decide_eq_true h

theorem gc_ {P : Program} {ops : Array Oper} {Q : Exit → Act → World → Prop} {rest : List Oper} {oi : Oper} {a : Act} {w : World} (N : Option Tmp) {f : FuncId} {fn : Func} {as_ : Array Operand} {ts : Array TypeId} (hf : P.funcs[f]? = some fn) (args : Array Value)
    (h : Calls P f args w fun e w' => ∃ v, e = .returned v ∧ wpList P ops Q rest (a.put N v) w') (hop : oi.op = .call { callee := .value (.func f), args := as_, argTypes := ts } := by with_reducible rfl) (hd : oi.dst = N := by rfl) (hg : oi.guard = none := by rfl)
    (hname : (fn.name == "runtime.NumGoroutine") = false := by kernel_rfl) (hb : fn.body.isSome = true := by rfl) (hargs : as_.map a.eval = args := by (try simp only [List.map_toArray, List.map_cons, List.map_nil]); first | done | rfl | (simp only [List.length_drop, List.length_take]; rfl)) : wpList P ops Q (oi :: rest) a w := goesL_ N hd hg hf hname hb args hop hargs h

end Go.Proofs.Ytnabhfbcaocljaa.X
