-- Written by genprint.py (a program of this claim's own session) with the kit's print program, out of the translation.
import Derived.Test.YtenecpmonodjaaaGreatDoorPAllx0
import Derived.Test.YtenecpmonodjaaaGreatDoorPAllx4
import Derived.Test.YtenecpmonodjaaaGreatDoorPAllx6
import Derived.Test.YtenecpmonodjaaaGreatDoorHEval
import Derived.Test.YtenecpmonodjaaaGreatDoorHHead
import Derived.Test.YtenecpmonodjaaaGreatDoorHNames
import Derived.Test.YtenecpmonodjaaaGreatDoorHValid
namespace Go.Proofs.YtenecpmonodjaaaGreatDoor.PAll
open Go.RowKit Go.Proofs.YtenecpmonodjaaaGreatDoorW.PrintWords Go.Proofs.YtenecpmonodjaaaGreatDoorW.PrintLast Go.Proofs.YtenecpmonodjaaaGreatDoorW.PrintMore
attribute [local go_sem] max2_int min2_int max_two min_two max_three min_three max_four min_four   -- for this text's walks alone
set_option linter.unusedVariables false
set_option linter.unusedSimpArgs false

/-! ### observatorylaw23_MeritVariables: function 5 -/
mutual
def observatorylaw23_MeritVariables.j0 : Nat → List (S57) → List (S36) → Int → Bool → Bool → ByteArray → Int → Option (Bool)
 | 0, _, _, _, _, _, _, _ => none
 | k + 1, x0, x1, x3, x9, x40, x307000, x307001 => if x40 = true then (some x9) else ((expr_Names.f x0).bind fun bt311 => ((merit_Eval.f x0 x1).bind fun bt315 => (if bt311.2 = 0 then (observatorylaw23_MeritVariables.l0 k x0 x1 x3 x9 bt311.1 bt315.1 bt315.2 ([] : List (S36)) (wrap64 ((x1.length : Int) - 1)) x307000 x307001) else (some false))))
def observatorylaw23_MeritVariables.l0 : Nat → List (S57) → List (S36) → Int → Bool → List ByteArray → Int → Int → List (S36) → Int → ByteArray → Int → Option (Bool)
 | 0, _, _, _, _, _, _, _, _, _, _, _ => none
 | k + 1, x0, x1, x3, x9, x10, x12, x13, x14, x15, x307000, x307001 => if x15 ≥ 0 then (if 0 ≤ x15 then (if x15 < (x1.length : Int) then ((some (([(⟨(rd_T36 x1 x15).f0, (rd_T36 x1 x15).f1⟩ : S36)] : List (S36)) : List (S36))).bind fun y318 => (if x14.length + y318.length < 5864062014805 then (observatorylaw23_MeritVariables.l0 k x0 x1 x3 x9 x10 x12 x13 (x14 ++ y318) (wrap64 (x15 - 1)) x307000 x307001) else (none))) else (none)) else (none)) else (observatorylaw23_MeritVariables.l1 k x0 x1 x3 x9 x10 x12 x13 x14 false 0 x307000 x307001)
def observatorylaw23_MeritVariables.l1 : Nat → List (S57) → List (S36) → Int → Bool → List ByteArray → Int → Int → List (S36) → Bool → Int → ByteArray → Int → Option (Bool)
 | 0, _, _, _, _, _, _, _, _, _, _, _, _ => none
 | k + 1, x0, x1, x3, x9, x10, x12, x13, x14, x16, x17, x307000, x307001 => if x17 < (x10.length : Int) then (if x16 = true then (observatorylaw23_MeritVariables.l1 k x0 x1 x3 x9 x10 x12 x13 x14 true (wrap64 (x17 + 1)) x307000 x307001) else (if 0 ≤ x17 then (observatorylaw23_MeritVariables.l1 k x0 x1 x3 x9 x10 x12 x13 x14 ((rdOf ByteArray.empty x10 x17).toList == x307000.toList) (wrap64 (x17 + 1)) x307000 x307001) else (none))) else ((some (([] : List (S36)) : List (S36))).bind fun y325 => (if y325.length + x14.length < 5864062014805 then ((some (y325 ++ x14 : List (S36))).bind fun y328 => ((some (([(⟨x307000, x307001⟩ : S36)] : List (S36)) : List (S36))).bind fun y331 => (if y328.length + y331.length < 5864062014805 then ((some (y328 ++ y331 : List (S36))).bind fun y334 => (if x16 = true then (observatorylaw23_MeritVariables.j3 k x0 x1 x3 x9 x10 x12 x13 x14 y334 false) else ((observatoryref23_Valid.f k y334).bind fun t337 => (if t337 = true then (observatorylaw23_MeritVariables.j3 k x0 x1 x3 x9 x10 x12 x13 x14 y334 (decide ((x307000.size : Int) ≤ 40))) else (observatorylaw23_MeritVariables.j3 k x0 x1 x3 x9 x10 x12 x13 x14 y334 false))))) else (none)))) else (none)))
def observatorylaw23_MeritVariables.j3 : Nat → List (S57) → List (S36) → Int → Bool → List ByteArray → Int → Int → List (S36) → List (S36) → Bool → Option (Bool)
 | 0, _, _, _, _, _, _, _, _, _, _ => none
 | k + 1, x0, x1, x3, x9, x10, x12, x13, x14, x18, x102 => if x102 = true then (observatorylaw23_MeritVariables.j4 k x0 x1 x3 x9 x10 x12 x13 x18) else (observatorylaw23_MeritVariables.j4 k x0 x1 x3 x9 x10 x12 x13 x14)
def observatorylaw23_MeritVariables.j4 : Nat → List (S57) → List (S36) → Int → Bool → List ByteArray → Int → Int → List (S36) → Option (Bool)
 | 0, _, _, _, _, _, _, _, _ => none
 | k + 1, x0, x1, x3, x9, x10, x12, x13, x14 => (merit_Eval.f x0 x14).bind fun bt338 => (if bt338.1 = x12 then (observatorylaw23_MeritVariables.j5 k x0 x1 x3 x9 x10 (bt338.2 != x13)) else (observatorylaw23_MeritVariables.j5 k x0 x1 x3 x9 x10 true))
def observatorylaw23_MeritVariables.j5 : Nat → List (S57) → List (S36) → Int → Bool → List ByteArray → Bool → Option (Bool)
 | 0, _, _, _, _, _, _ => none
 | k + 1, x0, x1, x3, x9, x10, x117 => if x117 = true then (some false) else (if (x10.length : Int) = 0 then (some x9) else (observatorylaw23_MeritVariables.l2 k x0 x1 x9 x10 (Int.tmod (wrap64 (x3)) (x10.length : Int)) ([] : List (S36)) 0))
def observatorylaw23_MeritVariables.l2 : Nat → List (S57) → List (S36) → Bool → List ByteArray → Int → List (S36) → Int → Option (Bool)
 | 0, _, _, _, _, _, _, _ => none
 | k + 1, x0, x1, x9, x10, x21, x22, x23 => if x23 < (x1.length : Int) then (if 0 ≤ x23 then (if 0 ≤ x21 then (if x21 < (x10.length : Int) then (if ((rd_T36 x1 x23).f0).toList = (rdOf ByteArray.empty x10 x21).toList then (observatorylaw23_MeritVariables.l2 k x0 x1 x9 x10 x21 x22 (wrap64 (x23 + 1))) else ((some (([(⟨(rd_T36 x1 x23).f0, (rd_T36 x1 x23).f1⟩ : S36)] : List (S36)) : List (S36))).bind fun y343 => (if x22.length + y343.length < 5864062014805 then (observatorylaw23_MeritVariables.l2 k x0 x1 x9 x10 x21 (x22 ++ y343) (wrap64 (x23 + 1))) else (none)))) else (none)) else (none)) else (none)) else ((merit_Eval.f x0 x22).bind fun bt349 => (if x9 = true then (if bt349.1 = 0 then (if bt349.2 = 7 then (some true) else (some (bt349.2 == 9))) else (some false)) else (some false)))
end
def observatorylaw23_MeritVariables.f (k : Nat) (l0 : List (S57)) (l1 : List (S36)) (a2_0 : ByteArray) (a2_1 : Int) (a3 : Int) : Option (Bool) := (observatorylaw23_head.f).bind fun t307 => ((observatorylaw23_few.f k l0 l1).bind fun t308 => (if t308 = true then ((observatoryref23_Valid.f k l1).bind fun t309 => (if t309 = true then ((expr_Valid.f l0).bind fun t310 => (observatorylaw23_MeritVariables.j0 k l0 l1 a3 t307 (!t310) a2_0 a2_1)) else (observatorylaw23_MeritVariables.j0 k l0 l1 a3 t307 true a2_0 a2_1))) else (observatorylaw23_MeritVariables.j0 k l0 l1 a3 t307 true a2_0 a2_1)))
def observatorylaw23_MeritVariables.T17 : Bool × List (List Nat × List Nat) := (true, [([], []), ([0], [0]), ([1], [1]), ([1], [1]), ([2, 3, 1], [1, 2, 3]), ([4, 1], [1, 4]), ([1], [1]), ([6, 1], [1, 6]), ([5, 7, 1], [1, 5, 7]), ([1, 8], [1, 8]), ([9, 1, 0, 1, 2, 3, 4, 5, 6, 7, 8, 9], [0, 9])])
def observatorylaw23_MeritVariables.B17 : List Nat := [0, 1, 3, 3, 15, 31, 3, 67, 255, 511, 1023]
theorem observatorylaw23_MeritVariables.tab17 : rtab .any (opsOf Tryz.f5 17) = observatorylaw23_MeritVariables.T17 := by kernel_rfl
theorem observatorylaw23_MeritVariables.bits17 : waitsOk observatorylaw23_MeritVariables.T17.2 observatorylaw23_MeritVariables.B17 = true := by kernel_rfl
def observatorylaw23_MeritVariables.T31 : Bool × List (List Nat × List Nat) := (true, [([], []), ([], []), ([0, 1], [0, 1]), ([2], [2]), ([3], [3]), ([], []), ([], []), ([5, 6], [5, 6]), ([7], [7]), ([4, 8], [4, 8])])
def observatorylaw23_MeritVariables.B31 : List Nat := [0, 0, 3, 7, 15, 0, 0, 96, 224, 511]
theorem observatorylaw23_MeritVariables.tab31 : rtab .any (opsOf Tryz.f5 31) = observatorylaw23_MeritVariables.T31 := by kernel_rfl
theorem observatorylaw23_MeritVariables.bits31 : waitsOk observatorylaw23_MeritVariables.T31.2 observatorylaw23_MeritVariables.B31 = true := by kernel_rfl
set_option maxHeartbeats 8000000 in
set_option maxRecDepth 100000 in
theorem observatorylaw23_MeritVariables.calls (k : Nat) (A0 : Option Addr) (c0 : Nat) (l0 : List (S57)) (A1 : Option Addr) (c1 : Nat) (l1 : List (S36)) (a2_0 : ByteArray) (a2_1 : Int) (a3 : Int) (r : Bool) (w : World) (hr0 : Kd.C k57 w A0 l0.length l0) (hc0 : l0.length ≤ c0) (hr1 : Kd.C k36 w A1 l1.length l1) (hc1 : l1.length ≤ c1) (h : observatorylaw23_MeritVariables.f k l0 l1 a2_0 a2_1 a3 = some r) :
 Calls Tryz.prog 5 #[.slice A0 l0.length c0, .slice A1 l1.length c1, .agg #[.string a2_0, .int .i64 a2_1], .int .u8 a3] w fun e w' => e = .returned (.bool r) ∧ Below w.heap.size w w' := by
 have hu36 := Tryz.underlying36
 have HR0 := Aside0.mk hr0
 have HC0 := Aside0.mk hc0
 clear hr0 hc0
 have HR1 := Aside0.mk hr1
 have HC1 := Aside0.mk hc1
 clear hr1 hc1
 have HB := Aside0.mk (Below.refl w.heap.size w)
 have H : ((observatorylaw23_head.f).bind fun t307 => ((observatorylaw23_few.f k l0 l1).bind fun t308 => (if t308 = true then ((observatoryref23_Valid.f k l1).bind fun t309 => (if t309 = true then ((expr_Valid.f l0).bind fun t310 => (observatorylaw23_MeritVariables.j0 k l0 l1 a3 t307 (!t310) a2_0 a2_1)) else (observatorylaw23_MeritVariables.j0 k l0 l1 a3 t307 true a2_0 a2_1))) else (observatorylaw23_MeritVariables.j0 k l0 l1 a3 t307 true a2_0 a2_1)))) = some r := h
 clear h
 replace H := Option.bind_eq_some_iff.mp H
 obtain ⟨t307, A50, H⟩ := H
 replace H : ((observatorylaw23_few.f k l0 l1).bind fun t308 => (if t308 = true then ((observatoryref23_Valid.f k l1).bind fun t309 => (if t309 = true then ((expr_Valid.f l0).bind fun t310 => (observatorylaw23_MeritVariables.j0 k l0 l1 a3 t307 (!t310) a2_0 a2_1)) else (observatorylaw23_MeritVariables.j0 k l0 l1 a3 t307 true a2_0 a2_1))) else (observatorylaw23_MeritVariables.j0 k l0 l1 a3 t307 true a2_0 a2_1))) = some r := H
 have A5 := Aside0.mk A50
 clear A50
 have HC6 := Aside0.mk H
 clear H
 go_enter Tryz.func5, Tryz.ntmps5
 go_upto_region 2 with (first | ((with_reducible refine gate_dst (N := 6) rfl ?_); (try (refine gate_guard (by rfl) ?_; dsimp only)); refine box_event ?hg (N := 6) ?hd (cs := #[.string a2_0, .int .i64 a2_1]) (t := 36) ?hr ?_; (case hd => rfl); (case hg => rfl); (case hr => first | (go_simp; done) | (go_simp; rfl)); intro gb306 hg w7 hbox hb; have n0_ := Aside0.mk (below_step (by repeat (first | (with_reducible first | exact HB.out | apply below_alloc | apply pw_below_drewN | apply below_drew1) | exact HB.out)) hb); have n1_ := Aside0.mk (hbox); have n2_ := Aside0.mk ((by rw [hg]; exact (below_size (by repeat (first | (with_reducible first | exact HB.out | apply below_alloc | apply pw_below_drewN | apply below_drew1) | exact HB.out))) : w.heap.size ≤ gb306)); have n3_ := Aside0.mk ((by rw [hg]; exact (below_size (by repeat (first | (with_reducible first | exact HB.out | apply below_alloc | apply pw_below_drewN | apply below_drew1) | exact HB.out))) : w.heap.size ≤ gb306)); clear HB; have HB := n0_; have BK306 := n1_; have GW306 := n2_; have GE306 := n3_; clear n0_ n1_ n2_ n3_; clear hb hbox hg) | ((with_reducible refine gate_callee (f := 6) rfl ?_); refine goesL_ (some 26) rfl rfl Tryz.func6 (by kernel_rfl) rfl #[] rfl (by (try simp only [List.map_toArray, List.map_cons, List.map_nil]); first | done | rfl | (simp only [List.length_drop, List.length_take]; rfl)) ?_; (with_reducible refine (observatorylaw23_head.calls  t307 _ A5.out).mono ?_); rintro e w8 ⟨rfl, hb⟩; refine ⟨_, rfl, ?_⟩; have n0_ := Aside0.mk (blk_below (g := gb306) (o := .cells #[.string a2_0, .int .i64 a2_1] 36 (0, 0)) (by (with_reducible repeat (first | refine blk_drewN ?_ _ | refine blk_drew ?_ | refine blk_alloc ?_ _)); exact BK306.out) hb); have n1_ := Aside0.mk (below_step (by repeat (first | (with_reducible first | exact HB.out | apply below_alloc | apply pw_below_drewN | apply below_drew1 | refine below_set ?_ GE306.out) | exact HB.out)) hb); clear BK306; clear HB; have BK306 := n0_; have HB := n1_; clear n0_ n1_; (try clear hb); (try clear hb2); (try clear hk); (try clear hi)))
 (try simp only [Act.put, List.setIfInBounds_toArray, List.set_cons_zero, List.set_cons_succ])
 go_cut [40] (fun v40 wc => ∃ (kq : Nat) (x40_5 : Bool), v40 = .bool x40_5 ∧ Aside0 (observatorylaw23_MeritVariables.j0 kq l0 l1 a3 t307 x40_5 a2_0 a2_1 = some r) ∧ Aside0 (kq ≤ k) ∧ Aside0 (wc.heap[gb306]? = some (.cells #[.string a2_0, .int .i64 a2_1] 36 (0, 0))) ∧ Aside0 (Below w.heap.size w wc))
 case first =>
  have H := HC6.out
  clear HC6
  replace H := Option.bind_eq_some_iff.mp H
  obtain ⟨t308, A90, H⟩ := H
  replace H : (if t308 = true then ((observatoryref23_Valid.f k l1).bind fun t309 => (if t309 = true then ((expr_Valid.f l0).bind fun t310 => (observatorylaw23_MeritVariables.j0 k l0 l1 a3 t307 (!t310) a2_0 a2_1)) else (observatorylaw23_MeritVariables.j0 k l0 l1 a3 t307 true a2_0 a2_1))) else (observatorylaw23_MeritVariables.j0 k l0 l1 a3 t307 true a2_0 a2_1)) = some r := H
  have A9 := Aside0.mk A90
  clear A90
  by_cases c10 : t308 = true
  · subst c10
    have H1 : ((observatoryref23_Valid.f k l1).bind fun t309 => (if t309 = true then ((expr_Valid.f l0).bind fun t310 => (observatorylaw23_MeritVariables.j0 k l0 l1 a3 t307 (!t310) a2_0 a2_1)) else (observatorylaw23_MeritVariables.j0 k l0 l1 a3 t307 true a2_0 a2_1))) = some r := by rw [if_pos rfl] at H; exact H
    clear H
    have H := H1
    clear H1
    replace H := Option.bind_eq_some_iff.mp H
    obtain ⟨t309, A110, H⟩ := H
    replace H : (if t309 = true then ((expr_Valid.f l0).bind fun t310 => (observatorylaw23_MeritVariables.j0 k l0 l1 a3 t307 (!t310) a2_0 a2_1)) else (observatorylaw23_MeritVariables.j0 k l0 l1 a3 t307 true a2_0 a2_1)) = some r := H
    have A11 := Aside0.mk A110
    clear A110
    by_cases c12 : t309 = true
    · subst c12
      have H1 : ((expr_Valid.f l0).bind fun t310 => (observatorylaw23_MeritVariables.j0 k l0 l1 a3 t307 (!t310) a2_0 a2_1)) = some r := by rw [if_pos rfl] at H; exact H
      clear H
      have H := H1
      clear H1
      replace H := Option.bind_eq_some_iff.mp H
      obtain ⟨t310, A130, H⟩ := H
      replace H : (observatorylaw23_MeritVariables.j0 k l0 l1 a3 t307 (!t310) a2_0 a2_1) = some r := H
      have A13 := Aside0.mk A130
      clear A130
      have H' := Aside0.mk H
      clear H
      go_wp2_with (first | ((with_reducible refine gate_callee (f := 7) rfl ?_); refine goesL_ (some 29) rfl rfl Tryz.func7 (by kernel_rfl) rfl #[.slice A0 l0.length c0, .slice A1 l1.length c1] rfl (by (try simp only [List.map_toArray, List.map_cons, List.map_nil]); first | done | rfl | (simp only [List.length_drop, List.length_take]; rfl)) ?_; (with_reducible refine (observatorylaw23_few.calls k _ _ l0 _ _ l1 true _ ?side1 ?side2 ?side3 ?side4 A9.out).mono ?_); (case side1 => repeat (first | exact (Kd.C_below HR0.out HB.out) | (with_reducible refine Kd.C_alloc ?_ _) | (with_reducible refine Kd.C_drewN ?_ _) | (with_reducible refine Kd.C_drew ?_))); (case side2 => exact HC0.out); (case side3 => repeat (first | exact (Kd.C_below HR1.out HB.out) | (with_reducible refine Kd.C_alloc ?_ _) | (with_reducible refine Kd.C_drewN ?_ _) | (with_reducible refine Kd.C_drew ?_))); (case side4 => exact HC1.out); rintro e w' ⟨rfl, ⟨nd, rfl⟩⟩; refine ⟨_, rfl, ?_⟩) | (go_at_call 13; (with_reducible refine (observatoryref23_Valid.calls k _ _ l1 true _ ?side1 ?side2 A11.out).mono ?_); (case side1 => repeat (first | exact (Kd.C_below HR1.out (by repeat (first | (with_reducible first | exact HB.out | apply below_alloc | apply pw_below_drewN | apply below_drew1 | refine below_set ?_ GE306.out) | exact HB.out))) | (with_reducible refine Kd.C_alloc ?_ _) | (with_reducible refine Kd.C_drewN ?_ _) | (with_reducible refine Kd.C_drew ?_))); (case side2 => exact HC1.out); rintro e w' ⟨rfl, ⟨nd, rfl⟩⟩) | (go_at_call 14; (with_reducible refine (expr_Valid.calls _ _ l0 t310 _ ?side1 ?side2 A13.out).mono ?_); (case side1 => repeat (first | exact (Kd.C_below HR0.out (by repeat (first | (with_reducible first | exact HB.out | apply below_alloc | apply pw_below_drewN | apply below_drew1 | refine below_set ?_ GE306.out) | exact HB.out))) | (with_reducible refine Kd.C_alloc ?_ _) | (with_reducible refine Kd.C_drewN ?_ _) | (with_reducible refine Kd.C_drew ?_))); (case side2 => exact HC0.out); rintro e w14 ⟨rfl, hb⟩; have n0_ := Aside0.mk (blk_below (g := gb306) (o := .cells #[.string a2_0, .int .i64 a2_1] 36 (0, 0)) (by (with_reducible repeat (first | refine blk_drewN ?_ _ | refine blk_drew ?_ | refine blk_alloc ?_ _)); exact BK306.out) hb); have n1_ := Aside0.mk (below_step (by repeat (first | (with_reducible first | exact HB.out | apply below_alloc | apply pw_below_drewN | apply below_drew1 | refine below_set ?_ GE306.out) | exact HB.out)) hb); clear BK306; clear HB; have BK306 := n0_; have HB := n1_; clear n0_ n1_; (try clear hb); (try clear hb2); (try clear hk); (try clear hi)))
      go_meet
      case rel => exact ⟨_, (!t310), (by first | rfl | (simp; done) | (simp [*]; done)), H', ⟨by first | omega | exact Nat.le_refl _⟩, ⟨by (with_reducible repeat (first | refine blk_drewN ?_ _ | refine blk_drew ?_ | refine blk_alloc ?_ _)); exact BK306.out⟩, ⟨by repeat (first | (with_reducible first | exact HB.out | apply below_alloc | apply pw_below_drewN | apply below_drew1 | refine below_set ?_ GE306.out) | exact HB.out)⟩⟩
    · replace c12 := Bool.eq_false_iff.mpr c12
      subst c12
      have H1 : (observatorylaw23_MeritVariables.j0 k l0 l1 a3 t307 true a2_0 a2_1) = some r := by rw [if_neg (show ¬ (false = true) by decide)] at H; exact H
      clear H
      have H := H1
      clear H1
      have H' := Aside0.mk H
      clear H
      go_wp2_with (first | ((with_reducible refine gate_callee (f := 7) rfl ?_); refine goesL_ (some 29) rfl rfl Tryz.func7 (by kernel_rfl) rfl #[.slice A0 l0.length c0, .slice A1 l1.length c1] rfl (by (try simp only [List.map_toArray, List.map_cons, List.map_nil]); first | done | rfl | (simp only [List.length_drop, List.length_take]; rfl)) ?_; (with_reducible refine (observatorylaw23_few.calls k _ _ l0 _ _ l1 true _ ?side1 ?side2 ?side3 ?side4 A9.out).mono ?_); (case side1 => repeat (first | exact (Kd.C_below HR0.out HB.out) | (with_reducible refine Kd.C_alloc ?_ _) | (with_reducible refine Kd.C_drewN ?_ _) | (with_reducible refine Kd.C_drew ?_))); (case side2 => exact HC0.out); (case side3 => repeat (first | exact (Kd.C_below HR1.out HB.out) | (with_reducible refine Kd.C_alloc ?_ _) | (with_reducible refine Kd.C_drewN ?_ _) | (with_reducible refine Kd.C_drew ?_))); (case side4 => exact HC1.out); rintro e w' ⟨rfl, ⟨nd, rfl⟩⟩; refine ⟨_, rfl, ?_⟩) | (go_at_call 13; (with_reducible refine (observatoryref23_Valid.calls k _ _ l1 false _ ?side1 ?side2 A11.out).mono ?_); (case side1 => repeat (first | exact (Kd.C_below HR1.out (by repeat (first | (with_reducible first | exact HB.out | apply below_alloc | apply pw_below_drewN | apply below_drew1 | refine below_set ?_ GE306.out) | exact HB.out))) | (with_reducible refine Kd.C_alloc ?_ _) | (with_reducible refine Kd.C_drewN ?_ _) | (with_reducible refine Kd.C_drew ?_))); (case side2 => exact HC1.out); rintro e w' ⟨rfl, ⟨nd, rfl⟩⟩))
      go_meet
      case rel => exact ⟨_, (true), (by first | rfl | (simp; done) | (simp [*]; done)), H', ⟨by first | omega | exact Nat.le_refl _⟩, ⟨by (with_reducible repeat (first | refine blk_drewN ?_ _ | refine blk_drew ?_ | refine blk_alloc ?_ _)); exact BK306.out⟩, ⟨by repeat (first | (with_reducible first | exact HB.out | apply below_alloc | apply pw_below_drewN | apply below_drew1 | refine below_set ?_ GE306.out) | exact HB.out)⟩⟩
  · replace c10 := Bool.eq_false_iff.mpr c10
    subst c10
    have H1 : (observatorylaw23_MeritVariables.j0 k l0 l1 a3 t307 true a2_0 a2_1) = some r := by rw [if_neg (show ¬ (false = true) by decide)] at H; exact H
    clear H
    have H := H1
    clear H1
    have H' := Aside0.mk H
    clear H
    go_wp2_with (first | ((with_reducible refine gate_callee (f := 7) rfl ?_); refine goesL_ (some 29) rfl rfl Tryz.func7 (by kernel_rfl) rfl #[.slice A0 l0.length c0, .slice A1 l1.length c1] rfl (by (try simp only [List.map_toArray, List.map_cons, List.map_nil]); first | done | rfl | (simp only [List.length_drop, List.length_take]; rfl)) ?_; (with_reducible refine (observatorylaw23_few.calls k _ _ l0 _ _ l1 false _ ?side1 ?side2 ?side3 ?side4 A9.out).mono ?_); (case side1 => repeat (first | exact (Kd.C_below HR0.out HB.out) | (with_reducible refine Kd.C_alloc ?_ _) | (with_reducible refine Kd.C_drewN ?_ _) | (with_reducible refine Kd.C_drew ?_))); (case side2 => exact HC0.out); (case side3 => repeat (first | exact (Kd.C_below HR1.out HB.out) | (with_reducible refine Kd.C_alloc ?_ _) | (with_reducible refine Kd.C_drewN ?_ _) | (with_reducible refine Kd.C_drew ?_))); (case side4 => exact HC1.out); rintro e w' ⟨rfl, ⟨nd, rfl⟩⟩; refine ⟨_, rfl, ?_⟩))
    go_meet
    case rel => exact ⟨_, (true), (by first | rfl | (simp; done) | (simp [*]; done)), H', ⟨by first | omega | exact Nat.le_refl _⟩, ⟨by (with_reducible repeat (first | refine blk_drewN ?_ _ | refine blk_drew ?_ | refine blk_alloc ?_ _)); exact BK306.out⟩, ⟨by repeat (first | (with_reducible first | exact HB.out | apply below_alloc | apply pw_below_drewN | apply below_drew1 | refine below_set ?_ GE306.out) | exact HB.out)⟩⟩
 case rest =>
  clear HC6
  try clear c1
  try clear p2
  try clear c5
  try clear c6
  try clear c7
  try clear c10
  try clear c12
  obtain ⟨kq, x40_5, rfl, HA, HJ5, BK306, HB⟩ := hcut
  cases kq with
  | zero => exact absurd HA.out (by simp [observatorylaw23_MeritVariables.j0])
  | succ kj5 =>
   have H := HA.out
   clear HA
   simp only [observatorylaw23_MeritVariables.j0] at H
   by_cases c15 : x40_5 = true
   · subst c15
     have H1 : (some t307) = some r := by rw [if_pos rfl] at H; exact H
     clear H
     have H := H1
     clear H1
     obtain rfl := Option.some.inj H
     go_wp2
     go_ret
     exact ⟨by first | rfl | (simp [errW_none, errW_some] <;> rfl) | (simp [*, errW_none, errW_some] <;> rfl), by repeat (first | (with_reducible first | exact HB.out | apply below_alloc | apply pw_below_drewN | apply below_drew1 | refine below_set ?_ GE306.out) | exact HB.out)⟩
   · replace c15 := Bool.eq_false_iff.mpr c15
     subst c15
     have H1 : ((expr_Names.f l0).bind fun bt311 => ((merit_Eval.f l0 l1).bind fun bt315 => (if bt311.2 = 0 then (observatorylaw23_MeritVariables.l0 kj5 l0 l1 a3 t307 bt311.1 bt315.1 bt315.2 ([] : List (S36)) (wrap64 ((l1.length : Int) - 1)) a2_0 a2_1) else (some false)))) = some r := by rw [if_neg (show ¬ (false = true) by decide)] at H; exact H
     clear H
     have H := H1
     clear H1
     replace H := Option.bind_eq_some_iff.mp H
     obtain ⟨⟨t311, t312⟩, A160, H⟩ := H
     replace H : ((merit_Eval.f l0 l1).bind fun bt315 => (if t312 = 0 then (observatorylaw23_MeritVariables.l0 kj5 l0 l1 a3 t307 t311 bt315.1 bt315.2 ([] : List (S36)) (wrap64 ((l1.length : Int) - 1)) a2_0 a2_1) else (some false))) = some r := H
     have A16 := Aside0.mk A160
     clear A160
     replace H := Option.bind_eq_some_iff.mp H
     obtain ⟨⟨t315, t316⟩, A170, H⟩ := H
     replace H : (if t312 = 0 then (observatorylaw23_MeritVariables.l0 kj5 l0 l1 a3 t307 t311 t315 t316 ([] : List (S36)) (wrap64 ((l1.length : Int) - 1)) a2_0 a2_1) else (some false)) = some r := H
     have A17 := Aside0.mk A170
     clear A170
     by_cases c18 : t312 = 0
     · rw [if_pos c18] at H
       have c18b0 : (t312 == 0) = true := beq_iff_eq.mpr c18
       have c18b1 : (t312 != 0) = false := bne_eq_false_iff_eq.mpr c18
       clear c18
       have H' := Aside0.mk H
       clear H
       go_wp2_with (first | ((with_reducible refine gate_callee (f := 15) rfl ?_); refine goesL_ (some 44) rfl rfl Tryz.func15 (by kernel_rfl) rfl #[.slice A0 l0.length c0] rfl (by (try simp only [List.map_toArray, List.map_cons, List.map_nil]); first | done | rfl | (simp only [List.length_drop, List.length_take]; rfl)) ?_; (with_reducible refine (expr_Names.calls _ _ l0 t311 t312 _ ?side1 ?side2 A16.out).mono ?_); (case side1 => repeat (first | exact (Kd.C_below HR0.out HB.out) | (with_reducible refine Kd.C_alloc ?_ _) | (with_reducible refine Kd.C_drewN ?_ _) | (with_reducible refine Kd.C_drew ?_))); (case side2 => exact HC0.out); rintro e w19 ⟨v313, rfl, ho0, hb⟩; refine ⟨_, rfl, ?_⟩; have n0_ := Aside0.mk (Kd.R_lower ho0 (below_size (by repeat (first | (with_reducible first | exact HB.out | apply below_alloc | apply pw_below_drewN | apply below_drew1 | refine below_set ?_ GE306.out) | exact HB.out)))); have n1_ := Aside0.mk (blk_below (g := gb306) (o := .cells #[.string a2_0, .int .i64 a2_1] 36 (0, 0)) (by (with_reducible repeat (first | refine blk_drewN ?_ _ | refine blk_drew ?_ | refine blk_alloc ?_ _)); exact BK306.out) hb); have n2_ := Aside0.mk (below_step (by repeat (first | (with_reducible first | exact HB.out | apply below_alloc | apply pw_below_drewN | apply below_drew1 | refine below_set ?_ GE306.out) | exact HB.out)) hb); clear BK306; clear HB; have HO314 := n0_; have BK306 := n1_; have HB := n2_; clear n0_ n1_ n2_; (try clear hb); (try clear hb2); (try clear hk); (try clear hi); (try clear ho0)) | ((with_reducible refine gate_callee (f := 8) rfl ?_); refine goesL_ (some 50) rfl rfl Tryz.func8 (by kernel_rfl) rfl #[.slice A0 l0.length c0, .slice A1 l1.length c1] rfl (by (try simp only [List.map_toArray, List.map_cons, List.map_nil]); first | done | rfl | (simp only [List.length_drop, List.length_take]; rfl)) ?_; (with_reducible refine (merit_Eval.calls _ _ l0 _ _ l1 t315 t316 _ ?side1 ?side2 ?side3 ?side4 A17.out).mono ?_); (case side1 => repeat (first | exact (Kd.C_below HR0.out HB.out) | (with_reducible refine Kd.C_alloc ?_ _) | (with_reducible refine Kd.C_drewN ?_ _) | (with_reducible refine Kd.C_drew ?_))); (case side2 => exact HC0.out); (case side3 => repeat (first | exact (Kd.C_below HR1.out HB.out) | (with_reducible refine Kd.C_alloc ?_ _) | (with_reducible refine Kd.C_drewN ?_ _) | (with_reducible refine Kd.C_drew ?_))); (case side4 => exact HC1.out); rintro e w20 ⟨rfl, hb⟩; refine ⟨_, rfl, ?_⟩; have n0_ := Aside0.mk (Kd.R_below (by (with_reducible repeat (first | apply Kd.R_alloc | apply Kd.R_drewN | apply Kd.R_drew)); exact HO314.out) hb); have n1_ := Aside0.mk (blk_below (g := gb306) (o := .cells #[.string a2_0, .int .i64 a2_1] 36 (0, 0)) (by (with_reducible repeat (first | refine blk_drewN ?_ _ | refine blk_drew ?_ | refine blk_alloc ?_ _)); exact BK306.out) hb); have n2_ := Aside0.mk (below_step (by repeat (first | (with_reducible first | exact HB.out | apply below_alloc | apply pw_below_drewN | apply below_drew1 | refine below_set ?_ GE306.out) | exact HB.out)) hb); clear HO314; clear BK306; clear HB; have HO314 := n0_; have BK306 := n1_; have HB := n2_; clear n0_ n1_ n2_; (try clear hb); (try clear hb2); (try clear hk); (try clear hi)))
       go_loopg [14, 15] kj5 (fun kq v14 v15 w' => ∃ (x14_2 : List (S36)) (x15_2 : Int), v15 = .int .i64 x15_2 ∧ Aside0 (observatorylaw23_MeritVariables.l0 kq l0 l1 a3 t307 t311 t315 t316 x14_2 x15_2 a2_0 a2_1 = some r) ∧ Aside0 (kq ≤ kj5) ∧ Aside0 (Kd.R Kd.string 9 w' w.heap.size (fun _ => True) v313 t311) ∧ Aside0 (Kd.R k36 36 w' w.heap.size (fun k_ => k_ ≠ gb306) v14 x14_2) ∧ Aside0 (w'.heap[gb306]? = some (.cells #[.string a2_0, .int .i64 a2_1] 36 (0, 0))) ∧ Aside0 (Below w.heap.size w w'))
       case atStart => exact ⟨(([] : List (S36))), (wrap64 ((l1.length : Int) - 1)), (by first | rfl | (simp; done) | (simp [*]; done)), H', ⟨Nat.le_refl _⟩, ⟨by (with_reducible repeat (first | apply Kd.R_alloc | apply Kd.R_drewN | apply Kd.R_drew)); exact HO314.out⟩, ⟨by first | exact Kd.R_nil _ _ _ _ _ | exact Kd.N_nil _ _ _ _ _ | exact Kd.V_nil _ _ _ _ _ | exact Kd.Q_nil _ _ _ _ _ | exact Kd.S_nil _ _ _ _ _⟩, ⟨by (with_reducible repeat (first | refine blk_drewN ?_ _ | refine blk_drew ?_ | refine blk_alloc ?_ _)); exact BK306.out⟩, ⟨by repeat (first | (with_reducible first | exact HB.out | apply below_alloc | apply pw_below_drewN | apply below_drew1 | refine below_set ?_ GE306.out) | exact HB.out)⟩⟩
       case round =>
        clear H'
        try clear c1
        try clear p2
        try clear c5
        try clear c6
        try clear p6
        try clear c7
        try clear c8
        try clear c10
        try clear c12
        try clear c15
        try clear c18
        try clear c18b0
        try clear c18b1
        try clear p2
        obtain ⟨x14_2, x15_2, rfl, HA, HK2, HO_10, HO_14, BK306, HB⟩ := hrel
        cases gk with
        | zero => exact absurd HA.out (by simp [observatorylaw23_MeritVariables.l0])
        | succ k2 =>
         have H := HA.out
         clear HA
         simp only [observatorylaw23_MeritVariables.l0] at H
         by_cases c21 : x15_2 ≥ 0
         · rw [if_pos c21] at H
           have c21b0 : decide (0 ≤ x15_2) = true := decide_eq_true c21
           clear c21
           by_cases c22 : 0 ≤ x15_2
           · rw [if_pos c22] at H
             have c22b0 : decide (0 ≤ x15_2) = true := decide_eq_true c22
             clear c22
             by_cases c23 : x15_2 < (l1.length : Int)
             · rw [if_pos c23] at H
               have c23b0 : decide (x15_2 < (l1.length : Int)) = true := decide_eq_true c23
               clear c23
               obtain ⟨y318, hy318⟩ : ∃ y_ : List (S36), y_ = (([(⟨(rd_T36 l1 x15_2).f0, (rd_T36 l1 x15_2).f1⟩ : S36)] : List (S36))) := ⟨_, rfl⟩
               replace H : (if x14_2.length + y318.length < 5864062014805 then (observatorylaw23_MeritVariables.l0 k2 l0 l1 a3 t307 t311 t315 t316 (x14_2 ++ y318) (wrap64 (x15_2 - 1)) a2_0 a2_1) else (none)) = some r := by first | (rw [hy318]; with_reducible exact H) | (have H2_ := (Option.bind_some _ _).symm.trans H; rw [hy318]; with_reducible exact H2_) | (have H2_ := (Option.bind_some _ _).symm.trans H; with_reducible exact H2_) | with_reducible exact H | (rw [hy318]; exact H) | exact H
               have Ny318 := Aside0.mk hy318
               clear hy318
               by_cases c24 : x14_2.length + y318.length < 5864062014805
               · rw [if_pos c24] at H
                 have LMc24 := Aside0.mk c24
                 clear c24
                 obtain ⟨y321, hy321⟩ : ∃ y_ : List (S36), y_ = (x14_2 ++ y318) := ⟨_, rfl⟩
                 replace H : (observatorylaw23_MeritVariables.l0 k2 l0 l1 a3 t307 t311 t315 t316 y321 (wrap64 (x15_2 - 1)) a2_0 a2_1) = some r := by first | (rw [hy321]; with_reducible exact H) | (have H2_ := (Option.bind_some _ _).symm.trans H; rw [hy321]; with_reducible exact H2_) | (have H2_ := (Option.bind_some _ _).symm.trans H; with_reducible exact H2_) | with_reducible exact H | (rw [hy321]; exact H) | exact H
                 have Ny321 := Aside0.mk hy321
                 clear hy321
                 have H' := Aside0.mk H
                 clear H
                 have p317 : 0 ≤ (x15_2 : Int) := of_decide_eq_true (by first | (with_reducible assumption) | assumption)
                 have q317 : x15_2 < (l1.length : Int) := of_decide_eq_true (by first | (with_reducible assumption) | assumption)
                 obtain ⟨ad317, e317, hx317_0, hx317_1⟩ := at_T36 HR1.out x15_2 p317 q317
                 cases e317
                 replace hx317_0 := (HB.out.cell (World.block_lt_of_cell? w _ hx317_0)).trans hx317_0
                 replace hx317_1 := (HB.out.cell (World.block_lt_of_cell? w _ hx317_1)).trans hx317_1
                 replace p317 := eq_true p317
                 replace q317 := eq_true q317
                 go_wp2_with (first | ((with_reducible refine gate_dst (N := 67) rfl ?_); (try (refine gate_guard (by rfl) ?_; dsimp only)); refine Kd.R_lit k36 _ 36 ?hg (N := 67) ?hd (xs := ([(⟨(rd_T36 l1 x15_2).f0, (rd_T36 l1 x15_2).f1⟩ : S36)] : List (S36))) (inner := [.string ((rd_T36 l1 x15_2).f0), .int .i64 ((rd_T36 l1 x15_2).f1)]) (ok := fun _ => True) (okp := fun _ => True) ?hr ?hp (fun _ hk => hk) trivial (Below.refl _ _) (Nat.le_refl _) (by simp) ?_; (case hd => rfl); (case hg => rfl); (case hr => first | (go_simp; done) | (go_simp; rfl)); (case hp => exact (Reps.c2 (show Kd.M k36 _ _ _ (⟨(rd_T36 l1 x15_2).f0, (rd_T36 l1 x15_2).f1⟩ : S36) [.string ((rd_T36 l1 x15_2).f0), .int .i64 ((rd_T36 l1 x15_2).f1)] from (k36_mkM _ _ _ (⟨(rd_T36 l1 x15_2).f0, (rd_T36 l1 x15_2).f1⟩ : S36) )) (Reps.none _ _))); intro v319 w25 ho26 hb hg_ hnew_; clear hg_ hnew_; (first | rw [← Ny318.out] at ho26 | (simp only [Int.reduceToNat] at ho26; rw [← Ny318.out] at ho26)); have n0_ := Aside0.mk (Kd.R_below (by (with_reducible repeat (first | apply Kd.R_alloc | apply Kd.R_drewN | apply Kd.R_drew)); exact HO_10.out) hb); have n1_ := Aside0.mk (Kd.R_elder' (by (with_reducible repeat (first | apply Kd.R_alloc | apply Kd.R_drewN | apply Kd.R_drew)); exact HO_14.out) (Kd.R_base ho26) hb); have n2_ := Aside0.mk (Kd.R_lower (Kd.R_newB (Kd.R_new' ho26 (Kd.R_lt (by (with_reducible repeat (first | apply Kd.R_alloc | apply Kd.R_drewN | apply Kd.R_drew)); exact HO_14.out))) (g := gb306) (o := .cells #[.string a2_0, .int .i64 a2_1] 36 (0, 0)) (by (with_reducible repeat (first | refine blk_drewN ?_ _ | refine blk_drew ?_ | refine blk_alloc ?_ _)); exact BK306.out)) (below_size (by repeat (first | (with_reducible first | exact HB.out | apply below_alloc | apply pw_below_drewN | apply below_drew1 | refine below_set ?_ GE306.out) | exact HB.out)))); have n3_ := Aside0.mk (blk_below (g := gb306) (o := .cells #[.string a2_0, .int .i64 a2_1] 36 (0, 0)) (by (with_reducible repeat (first | refine blk_drewN ?_ _ | refine blk_drew ?_ | refine blk_alloc ?_ _)); exact BK306.out) hb); have n4_ := Aside0.mk (below_step (by repeat (first | (with_reducible first | exact HB.out | apply below_alloc | apply pw_below_drewN | apply below_drew1 | refine below_set ?_ GE306.out) | exact HB.out)) hb); clear HO_10; clear HO_14; clear BK306; clear HB; have HO_10 := n0_; have HO_14 := n1_; have HO320 := n2_; have BK306 := n3_; have HB := n4_; clear n0_ n1_ n2_ n3_ n4_; clear hb ho26; obtain ⟨Ao28, co28, eo28⟩ := Kd.R_slice HO320.out; subst eo28) | ((with_reducible refine gate_builtin (b := .append) (xs := #[.tmp 62, .tmp 67]) rfl ?_); (try (refine gate_guard (by rfl) ?_; dsimp only)); at_builtin; refine Kd.R_append_rows k36 (w0 := w) w.heap.size rfl (.tmp 62) (.tmp 67) 24 36 (.agg #[(.string ⟨#[]⟩), (.int .i64 0)]) 24 rfl Tryz.underlying24 info36 rfl (by decide) (by omega) u14 x14_2 y318 _ _ _ (fun k_ => some k_ ≠ (.slice Ao28 y318.length co28 : Value).ownBlock ∧ k_ ≠ gb306) (fun _ => False) rfl rfl ?aO ?aR (fun _ _ h => h) (fun _ h => h.elim) ?aF ?aB ?aS ?aL ?_; (case aR => repeat (first | exact (Kd.R_reads' HO320.out).2.2 | (with_reducible refine Kd.C_alloc ?_ _) | (with_reducible refine Kd.C_drewN ?_ _) | (with_reducible refine Kd.C_drew ?_))); (case aB => exact (by repeat (first | (with_reducible first | exact HB.out | apply below_alloc | apply pw_below_drewN | apply below_drew1 | refine below_set ?_ GE306.out) | exact HB.out))); (case aF => exact (fun k_ hk => ⟨Kd.fresh' (Kd.R_lt (by (with_reducible repeat (first | apply Kd.R_alloc | apply Kd.R_drewN | apply Kd.R_drew)); exact HO320.out)) k_ hk, Kd.freshB (g := gb306) (o := .cells #[.string a2_0, .int .i64 a2_1] 36 (0, 0)) (by (with_reducible repeat (first | refine blk_drewN ?_ _ | refine blk_drew ?_ | refine blk_alloc ?_ _)); exact BK306.out) k_ hk⟩)); (case aO => exact (by (with_reducible repeat (first | apply Kd.R_alloc | apply Kd.R_drewN | apply Kd.R_drew)); exact Kd.R_mono HO_14.out (fun _ hk => ⟨hk.2, hk.1⟩))); (case aS => exact (below_size (by repeat (first | (with_reducible first | exact HB.out | apply below_alloc | apply pw_below_drewN | apply below_drew1 | refine below_set ?_ GE306.out) | exact HB.out)))); (case aL => have := LMc24.out; omega); intro v322 w27 ho hb hg hat; rw [← Ny321.out] at ho; have n0_ := Aside0.mk (Kd.R_over' (by (with_reducible repeat (first | apply Kd.R_alloc | apply Kd.R_drewN | apply Kd.R_drew)); exact HO_10.out) (Kd.R_typed (by (with_reducible repeat (first | apply Kd.R_alloc | apply Kd.R_drewN | apply Kd.R_drew)); exact HO_14.out)) (by decide) hg); have n1_ := Aside0.mk (blk_grown (g := gb306) (o := .cells #[.string a2_0, .int .i64 a2_1] 36 (0, 0)) (by (with_reducible repeat (first | refine blk_drewN ?_ _ | refine blk_drew ?_ | refine blk_alloc ?_ _)); exact BK306.out) hg (Kd.R_away HO_14.out (fun _ hk => hk.1))); have n2_ := Aside0.mk (Kd.R_after (ok := (fun k_ => k_ ≠ gb306)) (by (with_reducible repeat (first | apply Kd.R_alloc | apply Kd.R_drewN | apply Kd.R_drew)); exact Kd.R_mono HO320.out (fun _ hk => ⟨hk.2, hk.1.2⟩)) hg hat); have n3_ := Aside0.mk (hb); have n4_ := Aside0.mk (ho); clear HO_10; clear BK306; clear HO320; clear HB; clear HO_14; have HO_10 := n0_; have BK306 := n1_; have HO320 := n2_; have HB := n3_; have HO323 := n4_; clear n0_ n1_ n2_ n3_ n4_; clear ho hb hg hat))
                 go_roundg k2
                 case measure => have := HJ5.out; have := HK2.out; omega
                 case rel => exact ⟨(y321), (wrap64 (x15_2 - 1)), (by first | rfl | (simp; done) | (simp [*]; done)), H', ⟨by have := HJ5.out; have := HK2.out; omega⟩, ⟨by (with_reducible repeat (first | apply Kd.R_alloc | apply Kd.R_drewN | apply Kd.R_drew)); exact HO_10.out⟩, ⟨by (with_reducible repeat (first | apply Kd.R_alloc | apply Kd.R_drewN | apply Kd.R_drew)); exact Kd.R_mono HO323.out (fun _ hk => hk.2)⟩, ⟨by (with_reducible repeat (first | refine blk_drewN ?_ _ | refine blk_drew ?_ | refine blk_alloc ?_ _)); exact BK306.out⟩, ⟨by repeat (first | (with_reducible first | exact HB.out | apply below_alloc | apply pw_below_drewN | apply below_drew1 | refine below_set ?_ GE306.out) | exact HB.out)⟩⟩
               · rw [if_neg c24] at H
                 exact absurd H (by simp)
             · rw [if_neg c23] at H
               exact absurd H (by simp)
           · rw [if_neg c22] at H
             exact absurd H (by simp)
         · rw [if_neg c21] at H
           have c21b0 : decide (0 ≤ x15_2) = false := decide_eq_false c21
           clear c21
           have H' := Aside0.mk H
           clear H
           go_wp2
           go_loopg [16, 17] k2 (fun kq v16 v17 w' => ∃ (x16_3 : Bool) (x17_3 : Int), v16 = .bool x16_3 ∧ v17 = .int .i64 x17_3 ∧ Aside0 (observatorylaw23_MeritVariables.l1 kq l0 l1 a3 t307 t311 t315 t316 x14_2 x16_3 x17_3 a2_0 a2_1 = some r) ∧ Aside0 (kq ≤ k2) ∧ Aside0 (Kd.R Kd.string 9 w' w.heap.size (fun _ => True) v313 t311) ∧ Aside0 (Kd.R k36 36 w' w.heap.size (fun k_ => k_ ≠ gb306) u14 x14_2) ∧ Aside0 (w'.heap[gb306]? = some (.cells #[.string a2_0, .int .i64 a2_1] 36 (0, 0))) ∧ Aside0 (Below w.heap.size w w'))
           case atStart => exact ⟨(false), (0), (by first | rfl | (simp; done) | (simp [*]; done)), (by first | rfl | (simp; done) | (simp [*]; done)), H', ⟨Nat.le_refl _⟩, ⟨by (with_reducible repeat (first | apply Kd.R_alloc | apply Kd.R_drewN | apply Kd.R_drew)); exact HO_10.out⟩, ⟨by (with_reducible repeat (first | apply Kd.R_alloc | apply Kd.R_drewN | apply Kd.R_drew)); exact HO_14.out⟩, ⟨by (with_reducible repeat (first | refine blk_drewN ?_ _ | refine blk_drew ?_ | refine blk_alloc ?_ _)); exact BK306.out⟩, ⟨by repeat (first | (with_reducible first | exact HB.out | apply below_alloc | apply pw_below_drewN | apply below_drew1 | refine below_set ?_ GE306.out) | exact HB.out)⟩⟩
           case round =>
            clear H'
            try clear c1
            try clear c2
            try clear p2
            try clear p3
            try clear q3
            try clear hx3
            try clear c5
            try clear c6
            try clear p6
            try clear c7
            try clear c8
            try clear c10
            try clear c12
            try clear c15
            try clear c18
            try clear c18b0
            try clear c18b1
            try clear c21
            try clear c21b0
            try clear c22
            try clear c22b0
            try clear c23
            try clear c23b0
            try clear c24
            try clear hx317_0
            try clear hx317_1
            try clear p2
            try clear p317
            try clear p6
            try clear q317
            obtain ⟨x16_3, x17_3, rfl, rfl, HA, HK3, HO_10, HO_14, BK306, HB⟩ := hrel
            cases gk with
            | zero => exact absurd HA.out (by simp [observatorylaw23_MeritVariables.l1])
            | succ k3 =>
             have H := HA.out
             clear HA
             simp only [observatorylaw23_MeritVariables.l1] at H
             by_cases c29 : x17_3 < (t311.length : Int)
             · rw [if_pos c29] at H
               have c29b0 : decide (x17_3 < (t311.length : Int)) = true := decide_eq_true c29
               clear c29
               by_cases c30 : x16_3 = true
               · subst c30
                 have H1 : (observatorylaw23_MeritVariables.l1 k3 l0 l1 a3 t307 t311 t315 t316 x14_2 true (wrap64 (x17_3 + 1)) a2_0 a2_1) = some r := by rw [if_pos rfl] at H; exact H
                 clear H
                 have H := H1
                 clear H1
                 have H' := Aside0.mk H
                 clear H
                 obtain ⟨Ao31, co31, eo31⟩ := Kd.R_slice HO_10.out
                 subst eo31
                 try go_wp2
                 have n0_ := Aside0.mk (Kd.R_drew HO_10.out)
                 have n1_ := Aside0.mk (Kd.R_drew HO_14.out)
                 have n2_ := Aside0.mk (blk_drew BK306.out)
                 have n3_ := Aside0.mk (below_drew1 HB.out)
                 clear HO_10
                 clear HO_14
                 clear BK306
                 clear HB
                 have HO_10 := n0_
                 have HO_14 := n1_
                 have BK306 := n2_
                 have HB := n3_
                 clear n0_ n1_ n2_ n3_
                 refine start_ (n := 11) (S := fun w' => True) (ds := []) #[false, false, false, false, false, false, false, false, false, false, false] (by kernel_rfl) rfl rfl trivial (fun hHeld => ?_); refine with_tabW observatorylaw23_MeritVariables.tab17 observatorylaw23_MeritVariables.bits17 (fun HT_ HW_ => ?_)
                 generalize wr.drew = w32 at HO_10 HO_14 BK306 HB hHeld ⊢
                 refine pure_ (i := 0) (N := some 75) (v := ?_) (a' := ?_) #[true, false, false, false, false, false, false, false, false, false, false] rfl rfl (any_of HT_.out (by kernel_rfl)) (fun _ _ _ h => h) (Or.inl ⟨by rfl, ?_⟩) ?_ ?_
                 rotate_left
                 · intro w'
                   go_simp
                   with_reducible rfl
                 rotate_left
                 · simp only [Act.put, List.setIfInBounds_toArray, List.set_cons_zero, List.set_cons_succ, i64_w, i32_w]
                   rfl
                 refine pure_ (i := 1) (N := some 76) (v := ?_) (a' := ?_) #[true, true, false, false, false, false, false, false, false, false, false] rfl rfl (any_of HT_.out (by kernel_rfl)) (fun _ _ _ h => h) (Or.inl ⟨by rfl, ?_⟩) ?_ ?_
                 rotate_left
                 · intro w'
                   go_simp
                   with_reducible rfl
                 rotate_left
                 · simp only [Act.put, List.setIfInBounds_toArray, List.set_cons_zero, List.set_cons_succ, i64_w, i32_w]
                   rfl
                 refine pure_ (i := 2) (N := some 77) (v := undef) (a' := ?_) #[true, true, true, false, false, false, false, false, false, false, false] rfl rfl (any_of HT_.out (by kernel_rfl)) (fun _ _ _ h => h) (Or.inr ⟨by rfl, rfl⟩) ?_ ?_
                 rotate_left
                 · simp only [Act.put, List.setIfInBounds_toArray, List.set_cons_zero, List.set_cons_succ, i64_w, i32_w]
                   rfl
                 refine pure_ (i := 3) (N := some 78) (v := undef) (a' := ?_) #[true, true, true, true, false, false, false, false, false, false, false] rfl rfl (any_of HT_.out (by kernel_rfl)) (fun _ _ _ h => h) (Or.inr ⟨by rfl, rfl⟩) ?_ ?_
                 rotate_left
                 · simp only [Act.put, List.setIfInBounds_toArray, List.set_cons_zero, List.set_cons_succ, i64_w, i32_w]
                   rfl
                 refine pure_ (i := 4) (N := some 79) (v := undef) (a' := ?_) #[true, true, true, true, true, false, false, false, false, false, false] rfl rfl (any_of HT_.out (by kernel_rfl)) (fun _ _ _ h => h) (Or.inr ⟨by rfl, rfl⟩) ?_ ?_
                 rotate_left
                 · simp only [Act.put, List.setIfInBounds_toArray, List.set_cons_zero, List.set_cons_succ, i64_w, i32_w]
                   rfl
                 refine pure_ (i := 5) (N := some 80) (v := undef) (a' := ?_) #[true, true, true, true, true, true, false, false, false, false, false] rfl rfl (any_of HT_.out (by kernel_rfl)) (fun _ _ _ h => h) (Or.inr ⟨by rfl, rfl⟩) ?_ ?_
                 rotate_left
                 · simp only [Act.put, List.setIfInBounds_toArray, List.set_cons_zero, List.set_cons_succ, i64_w, i32_w]
                   rfl
                 refine pure_ (i := 6) (N := some 81) (v := undef) (a' := ?_) #[true, true, true, true, true, true, true, false, false, false, false] rfl rfl (any_of HT_.out (by kernel_rfl)) (fun _ _ _ h => h) (Or.inr ⟨by rfl, rfl⟩) ?_ ?_
                 rotate_left
                 · simp only [Act.put, List.setIfInBounds_toArray, List.set_cons_zero, List.set_cons_succ, i64_w, i32_w]
                   rfl
                 refine pure_ (i := 7) (N := some 82) (v := undef) (a' := ?_) #[true, true, true, true, true, true, true, true, false, false, false] rfl rfl (any_of HT_.out (by kernel_rfl)) (fun _ _ _ h => h) (Or.inr ⟨by rfl, rfl⟩) ?_ ?_
                 rotate_left
                 · simp only [Act.put, List.setIfInBounds_toArray, List.set_cons_zero, List.set_cons_succ, i64_w, i32_w]
                   rfl
                 refine pure_ (i := 8) (N := some 83) (v := undef) (a' := ?_) #[true, true, true, true, true, true, true, true, true, false, false] rfl rfl (any_of HT_.out (by kernel_rfl)) (fun _ _ _ h => h) (Or.inr ⟨by rfl, rfl⟩) ?_ ?_
                 rotate_left
                 · simp only [Act.put, List.setIfInBounds_toArray, List.set_cons_zero, List.set_cons_succ, i64_w, i32_w]
                   rfl
                 refine pure_ (i := 9) (N := some 84) (v := ?_) (a' := ?_) #[true, true, true, true, true, true, true, true, true, true, false] rfl rfl (any_of HT_.out (by kernel_rfl)) (fun _ _ _ h => h) (Or.inl ⟨by rfl, ?_⟩) ?_ ?_
                 rotate_left
                 · intro w'
                   go_simp
                   with_reducible rfl
                 rotate_left
                 · simp only [Act.put, List.setIfInBounds_toArray, List.set_cons_zero, List.set_cons_succ, i64_w, i32_w]
                   rfl
                 refine pure_ (i := 10) (N := some 16) (v := ?_) (a' := ?_) #[true, true, true, true, true, true, true, true, true, true, true] rfl rfl (any_of HT_.out (by kernel_rfl)) (fun _ _ _ h => h) (Or.inl ⟨by rfl, ?_⟩) ?_ ?_
                 rotate_left
                 · intro w'
                   go_simp
                   with_reducible rfl
                 rotate_left
                 · simp only [Act.put, List.setIfInBounds_toArray, List.set_cons_zero, List.set_cons_succ, i64_w, i32_w]
                   rfl
                 refine done_ (done_of HT_.out (by kernel_rfl)) ?_
                 try go_wp2
                 go_roundg k3
                 case measure => have := HJ5.out; have := HK2.out; have := HK3.out; omega
                 case rel => exact ⟨(true), (wrap64 (x17_3 + 1)), (by first | rfl | (simp; done) | (simp [*]; done)), (by first | rfl | (simp; done) | (simp [*]; done)), H', ⟨by have := HJ5.out; have := HK2.out; have := HK3.out; omega⟩, ⟨by (with_reducible repeat (first | apply Kd.R_alloc | apply Kd.R_drewN | apply Kd.R_drew)); exact HO_10.out⟩, ⟨by (with_reducible repeat (first | apply Kd.R_alloc | apply Kd.R_drewN | apply Kd.R_drew)); exact HO_14.out⟩, ⟨by (with_reducible repeat (first | refine blk_drewN ?_ _ | refine blk_drew ?_ | refine blk_alloc ?_ _)); exact BK306.out⟩, ⟨by repeat (first | (with_reducible first | exact HB.out | apply below_alloc | apply pw_below_drewN | apply below_drew1 | refine below_set ?_ GE306.out) | exact HB.out)⟩⟩
               · replace c30 := Bool.eq_false_iff.mpr c30
                 subst c30
                 have H1 : (if 0 ≤ x17_3 then (observatorylaw23_MeritVariables.l1 k3 l0 l1 a3 t307 t311 t315 t316 x14_2 ((rdOf ByteArray.empty t311 x17_3).toList == a2_0.toList) (wrap64 (x17_3 + 1)) a2_0 a2_1) else (none)) = some r := by rw [if_neg (show ¬ (false = true) by decide)] at H; exact H
                 clear H
                 have H := H1
                 clear H1
                 by_cases c33 : 0 ≤ x17_3
                 · rw [if_pos c33] at H
                   have c33b0 : decide (0 ≤ x17_3) = true := decide_eq_true c33
                   clear c33
                   have H' := Aside0.mk H
                   clear H
                   obtain ⟨Ao34, co34, eo34⟩ := Kd.R_slice HO_10.out
                   subst eo34
                   try go_wp2
                   have n0_ := Aside0.mk (Kd.R_drew HO_10.out)
                   have n1_ := Aside0.mk (Kd.R_drew HO_14.out)
                   have n2_ := Aside0.mk (blk_drew BK306.out)
                   have n3_ := Aside0.mk (below_drew1 HB.out)
                   clear HO_10
                   clear HO_14
                   clear BK306
                   clear HB
                   have HO_10 := n0_
                   have HO_14 := n1_
                   have BK306 := n2_
                   have HB := n3_
                   clear n0_ n1_ n2_ n3_
                   have p324 : 0 ≤ (x17_3 : Int) := of_decide_eq_true (by first | (with_reducible assumption) | assumption)
                   have q324 : x17_3 < (t311.length : Int) := of_decide_eq_true (by first | (with_reducible assumption) | assumption)
                   obtain ⟨ad324, e324, hx324_0⟩ := Kd.at_string (Kd.R_reads' HO_10.out).2.2 x17_3 p324 q324
                   cases e324
                   replace p324 := eq_true p324
                   replace q324 := eq_true q324
                   refine start_ (n := 11) (S := fun w' => w'.cell? ⟨gb306, 0, none⟩ = some (.string a2_0) ∧ w'.cell? ⟨gb306, 1, none⟩ = some (.int .i64 a2_1) ∧ w'.cell? (ad324.add (x17_3).toNat) = some (.string (rdOf ByteArray.empty t311 x17_3))) (ds := []) #[false, false, false, false, false, false, false, false, false, false, false] (by kernel_rfl) rfl rfl ⟨(blk_cell BK306.out 0).trans rfl, (blk_cell BK306.out 1).trans rfl, hx324_0⟩ (fun hHeld => ?_); refine with_tabW observatorylaw23_MeritVariables.tab17 observatorylaw23_MeritVariables.bits17 (fun HT_ HW_ => ?_)
                   generalize wr.drew = w35 at HO_10 HO_14 BK306 HB hx324_0 hHeld ⊢
                   refine pure_ (i := 0) (N := some 75) (v := ?_) (a' := ?_) #[true, false, false, false, false, false, false, false, false, false, false] rfl rfl (any_of HT_.out (by kernel_rfl)) (fun _ _ _ h => h) (Or.inl ⟨by rfl, ?_⟩) ?_ ?_
                   rotate_left
                   · intro w'
                     go_simp
                     with_reducible rfl
                   rotate_left
                   · simp only [Act.put, List.setIfInBounds_toArray, List.set_cons_zero, List.set_cons_succ, i64_w, i32_w]
                     rfl
                   refine pure_ (i := 1) (N := some 76) (v := ?_) (a' := ?_) #[true, true, false, false, false, false, false, false, false, false, false] rfl rfl (any_of HT_.out (by kernel_rfl)) (fun _ _ _ h => h) (Or.inl ⟨by rfl, ?_⟩) ?_ ?_
                   rotate_left
                   · intro w'
                     go_simp
                     with_reducible rfl
                   rotate_left
                   · simp only [Act.put, List.setIfInBounds_toArray, List.set_cons_zero, List.set_cons_succ, i64_w, i32_w]
                     rfl
                   refine pure_ (i := 2) (N := some 77) (v := ?_) (a' := ?_) #[true, true, true, false, false, false, false, false, false, false, false] rfl rfl (any_of HT_.out (by kernel_rfl)) (fun _ _ _ h => h) (Or.inl ⟨by rfl, ?_⟩) ?_ ?_
                   rotate_left
                   · intro w'
                     go_simp
                     with_reducible rfl
                   rotate_left
                   · simp only [Act.put, List.setIfInBounds_toArray, List.set_cons_zero, List.set_cons_succ, i64_w, i32_w]
                     rfl
                   refine pure_ (i := 3) (N := some 78) (v := ?_) (a' := ?_) #[true, true, true, true, false, false, false, false, false, false, false] rfl rfl (any_of HT_.out (by kernel_rfl)) (fun _ _ _ h => h) (Or.inl ⟨by rfl, ?_⟩) ?_ ?_
                   rotate_left
                   · intro w'
                     go_simp
                     with_reducible rfl
                   rotate_left
                   · simp only [Act.put, List.setIfInBounds_toArray, List.set_cons_zero, List.set_cons_succ, i64_w, i32_w]
                     rfl
                   refine pure_ (i := 4) (N := some 79) (v := ?_) (a' := ?_) #[true, true, true, true, true, false, false, false, false, false, false] rfl rfl (any_of HT_.out (by kernel_rfl)) (fun _ _ _ h => h) (Or.inl ⟨by rfl, ?_⟩) ?_ ?_
                   rotate_left
                   · intro w'
                     go_simp
                     with_reducible rfl
                   rotate_left
                   · simp only [Act.put, List.setIfInBounds_toArray, List.set_cons_zero, List.set_cons_succ, i64_w, i32_w]
                     rfl
                   refine pure_ (i := 6) (N := some 81) (v := ?_) (a' := ?_) #[true, true, true, true, true, false, true, false, false, false, false] rfl rfl (any_of HT_.out (by kernel_rfl)) (fun _ _ _ h => h) (Or.inl ⟨by rfl, ?_⟩) ?_ ?_
                   rotate_left
                   · intro w'
                     go_simp
                     with_reducible rfl
                   rotate_left
                   · simp only [Act.put, List.setIfInBounds_toArray, List.set_cons_zero, List.set_cons_succ, i64_w, i32_w]
                     rfl
                   refine take_ (i := 5) (N := some 80) (v := ?_) (a' := ?_) #[true, true, true, true, true, true, true, false, false, false, false] rfl rfl (take_ofW HT_.out HW_.out (by kernel_rfl)) (fun _ _ _ h => h) (Or.inl ⟨by rfl, ?_⟩) hHeld ?_ ?_
                   rotate_left
                   · rintro w' ⟨s0, s1, s2⟩
                     go_simp
                     with_reducible rfl
                   rotate_left
                   · simp only [Act.put, List.setIfInBounds_toArray, List.set_cons_zero, List.set_cons_succ, i64_w, i32_w]
                     rfl
                   refine take_ (i := 7) (N := some 82) (v := ?_) (a' := ?_) #[true, true, true, true, true, true, true, true, false, false, false] rfl rfl (take_ofW HT_.out HW_.out (by kernel_rfl)) (fun _ _ _ h => h) (Or.inl ⟨by rfl, ?_⟩) hHeld ?_ ?_
                   rotate_left
                   · rintro w' ⟨s0, s1, s2⟩
                     go_simp
                     with_reducible rfl
                   rotate_left
                   · simp only [Act.put, List.setIfInBounds_toArray, List.set_cons_zero, List.set_cons_succ, i64_w, i32_w]
                     rfl
                   refine pure_ (i := 8) (N := some 83) (v := ?_) (a' := ?_) #[true, true, true, true, true, true, true, true, true, false, false] rfl rfl (any_of HT_.out (by kernel_rfl)) (fun _ _ _ h => h) (Or.inl ⟨by rfl, ?_⟩) ?_ ?_
                   rotate_left
                   · intro w'
                     go_simp
                     with_reducible rfl
                   rotate_left
                   · simp only [Act.put, List.setIfInBounds_toArray, List.set_cons_zero, List.set_cons_succ, i64_w, i32_w]
                     rfl
                   refine pure_ (i := 9) (N := some 84) (v := ?_) (a' := ?_) #[true, true, true, true, true, true, true, true, true, true, false] rfl rfl (any_of HT_.out (by kernel_rfl)) (fun _ _ _ h => h) (Or.inl ⟨by rfl, ?_⟩) ?_ ?_
                   rotate_left
                   · intro w'
                     go_simp
                     with_reducible rfl
                   rotate_left
                   · simp only [Act.put, List.setIfInBounds_toArray, List.set_cons_zero, List.set_cons_succ, i64_w, i32_w]
                     rfl
                   refine pure_ (i := 10) (N := some 16) (v := ?_) (a' := ?_) #[true, true, true, true, true, true, true, true, true, true, true] rfl rfl (any_of HT_.out (by kernel_rfl)) (fun _ _ _ h => h) (Or.inl ⟨by rfl, ?_⟩) ?_ ?_
                   rotate_left
                   · intro w'
                     go_simp
                     with_reducible rfl
                   rotate_left
                   · simp only [Act.put, List.setIfInBounds_toArray, List.set_cons_zero, List.set_cons_succ, i64_w, i32_w]
                     rfl
                   refine done_ (done_of HT_.out (by kernel_rfl)) ?_
                   try go_wp2
                   go_roundg k3
                   case measure => have := HJ5.out; have := HK2.out; have := HK3.out; omega
                   case rel => exact ⟨(((rdOf ByteArray.empty t311 x17_3).toList == a2_0.toList)), (wrap64 (x17_3 + 1)), (by first | rfl | (simp; done) | (simp [*]; done)), (by first | rfl | (simp; done) | (simp [*]; done)), H', ⟨by have := HJ5.out; have := HK2.out; have := HK3.out; omega⟩, ⟨by (with_reducible repeat (first | apply Kd.R_alloc | apply Kd.R_drewN | apply Kd.R_drew)); exact HO_10.out⟩, ⟨by (with_reducible repeat (first | apply Kd.R_alloc | apply Kd.R_drewN | apply Kd.R_drew)); exact HO_14.out⟩, ⟨by (with_reducible repeat (first | refine blk_drewN ?_ _ | refine blk_drew ?_ | refine blk_alloc ?_ _)); exact BK306.out⟩, ⟨by repeat (first | (with_reducible first | exact HB.out | apply below_alloc | apply pw_below_drewN | apply below_drew1 | refine below_set ?_ GE306.out) | exact HB.out)⟩⟩
                 · rw [if_neg c33] at H
                   exact absurd H (by simp)
             · rw [if_neg c29] at H
               have c29b0 : decide (x17_3 < (t311.length : Int)) = false := decide_eq_false c29
               clear c29
               obtain ⟨y325, hy325⟩ : ∃ y_ : List (S36), y_ = (([] : List (S36))) := ⟨_, rfl⟩
               replace H : (if y325.length + x14_2.length < 5864062014805 then ((some (y325 ++ x14_2 : List (S36))).bind fun y328 => ((some (([(⟨a2_0, a2_1⟩ : S36)] : List (S36)) : List (S36))).bind fun y331 => (if y328.length + y331.length < 5864062014805 then ((some (y328 ++ y331 : List (S36))).bind fun y334 => (if x16_3 = true then (observatorylaw23_MeritVariables.j3 k3 l0 l1 a3 t307 t311 t315 t316 x14_2 y334 false) else ((observatoryref23_Valid.f k3 y334).bind fun t337 => (if t337 = true then (observatorylaw23_MeritVariables.j3 k3 l0 l1 a3 t307 t311 t315 t316 x14_2 y334 (decide ((a2_0.size : Int) ≤ 40))) else (observatorylaw23_MeritVariables.j3 k3 l0 l1 a3 t307 t311 t315 t316 x14_2 y334 false))))) else (none)))) else (none)) = some r := by first | (rw [hy325]; with_reducible exact H) | (have H2_ := (Option.bind_some _ _).symm.trans H; rw [hy325]; with_reducible exact H2_) | (have H2_ := (Option.bind_some _ _).symm.trans H; with_reducible exact H2_) | with_reducible exact H | (rw [hy325]; exact H) | exact H
               have Ny325 := Aside0.mk hy325
               clear hy325
               by_cases c36 : y325.length + x14_2.length < 5864062014805
               · rw [if_pos c36] at H
                 have LMc36 := Aside0.mk c36
                 clear c36
                 obtain ⟨y328, hy328⟩ : ∃ y_ : List (S36), y_ = (y325 ++ x14_2) := ⟨_, rfl⟩
                 replace H : ((some (([(⟨a2_0, a2_1⟩ : S36)] : List (S36)) : List (S36))).bind fun y331 => (if y328.length + y331.length < 5864062014805 then ((some (y328 ++ y331 : List (S36))).bind fun y334 => (if x16_3 = true then (observatorylaw23_MeritVariables.j3 k3 l0 l1 a3 t307 t311 t315 t316 x14_2 y334 false) else ((observatoryref23_Valid.f k3 y334).bind fun t337 => (if t337 = true then (observatorylaw23_MeritVariables.j3 k3 l0 l1 a3 t307 t311 t315 t316 x14_2 y334 (decide ((a2_0.size : Int) ≤ 40))) else (observatorylaw23_MeritVariables.j3 k3 l0 l1 a3 t307 t311 t315 t316 x14_2 y334 false))))) else (none))) = some r := by first | (rw [hy328]; with_reducible exact H) | (have H2_ := (Option.bind_some _ _).symm.trans H; rw [hy328]; with_reducible exact H2_) | (have H2_ := (Option.bind_some _ _).symm.trans H; with_reducible exact H2_) | with_reducible exact H | (rw [hy328]; exact H) | exact H
                 have Ny328 := Aside0.mk hy328
                 clear hy328
                 obtain ⟨y331, hy331⟩ : ∃ y_ : List (S36), y_ = (([(⟨a2_0, a2_1⟩ : S36)] : List (S36))) := ⟨_, rfl⟩
                 replace H : (if y328.length + y331.length < 5864062014805 then ((some (y328 ++ y331 : List (S36))).bind fun y334 => (if x16_3 = true then (observatorylaw23_MeritVariables.j3 k3 l0 l1 a3 t307 t311 t315 t316 x14_2 y334 false) else ((observatoryref23_Valid.f k3 y334).bind fun t337 => (if t337 = true then (observatorylaw23_MeritVariables.j3 k3 l0 l1 a3 t307 t311 t315 t316 x14_2 y334 (decide ((a2_0.size : Int) ≤ 40))) else (observatorylaw23_MeritVariables.j3 k3 l0 l1 a3 t307 t311 t315 t316 x14_2 y334 false))))) else (none)) = some r := by first | (rw [hy331]; with_reducible exact H) | (have H2_ := (Option.bind_some _ _).symm.trans H; rw [hy331]; with_reducible exact H2_) | (have H2_ := (Option.bind_some _ _).symm.trans H; with_reducible exact H2_) | with_reducible exact H | (rw [hy331]; exact H) | exact H
                 have Ny331 := Aside0.mk hy331
                 clear hy331
                 by_cases c37 : y328.length + y331.length < 5864062014805
                 · rw [if_pos c37] at H
                   have LMc37 := Aside0.mk c37
                   clear c37
                   obtain ⟨y334, hy334⟩ : ∃ y_ : List (S36), y_ = (y328 ++ y331) := ⟨_, rfl⟩
                   replace H : (if x16_3 = true then (observatorylaw23_MeritVariables.j3 k3 l0 l1 a3 t307 t311 t315 t316 x14_2 y334 false) else ((observatoryref23_Valid.f k3 y334).bind fun t337 => (if t337 = true then (observatorylaw23_MeritVariables.j3 k3 l0 l1 a3 t307 t311 t315 t316 x14_2 y334 (decide ((a2_0.size : Int) ≤ 40))) else (observatorylaw23_MeritVariables.j3 k3 l0 l1 a3 t307 t311 t315 t316 x14_2 y334 false)))) = some r := by first | (rw [hy334]; with_reducible exact H) | (have H2_ := (Option.bind_some _ _).symm.trans H; rw [hy334]; with_reducible exact H2_) | (have H2_ := (Option.bind_some _ _).symm.trans H; with_reducible exact H2_) | with_reducible exact H | (rw [hy334]; exact H) | exact H
                   have Ny334 := Aside0.mk hy334
                   clear hy334
                   have HC38 := Aside0.mk H
                   clear H
                   obtain ⟨Ao39, co39, eo39⟩ := Kd.R_slice HO_10.out
                   subst eo39
                   obtain ⟨Ao40, co40, eo40⟩ := Kd.R_slice HO_14.out
                   subst eo40
                   try go_wp2
                   have n0_ := Aside0.mk (Kd.R_drew HO_10.out)
                   have n1_ := Aside0.mk (Kd.R_drew HO_14.out)
                   have n2_ := Aside0.mk (blk_drew BK306.out)
                   have n3_ := Aside0.mk (below_drew1 HB.out)
                   clear HO_10
                   clear HO_14
                   clear BK306
                   clear HB
                   have HO_10 := n0_
                   have HO_14 := n1_
                   have BK306 := n2_
                   have HB := n3_
                   clear n0_ n1_ n2_ n3_
                   refine start_ (n := 7) (S := fun w' => w'.cell? ⟨gb306, 0, none⟩ = some (.string a2_0) ∧ w'.cell? ⟨gb306, 1, none⟩ = some (.int .i64 a2_1)) (ds := []) #[false, false, false, false, false, false, false] (by kernel_rfl) rfl rfl ⟨(blk_cell BK306.out 0).trans rfl, (blk_cell BK306.out 1).trans rfl⟩ (fun hHeld => ?_)
                   generalize wr.drew = w41 at HO_10 HO_14 BK306 HB hHeld ⊢
                   refine pure_ (i := 1) (N := some 86) (v := ?_) (a' := ?_) #[false, true, false, false, false, false, false] rfl rfl (by kernel_rfl) (fun _ _ _ h => h) (Or.inl ⟨by rfl, ?_⟩) ?_ ?_
                   rotate_left
                   · intro w'
                     go_simp
                     with_reducible rfl
                   rotate_left
                   · simp only [Act.put, List.setIfInBounds_toArray, List.set_cons_zero, List.set_cons_succ, i64_w, i32_w]
                     rfl
                   refine take_ (i := 3) (N := some 88) (v := ?_) (a' := ?_) #[false, true, false, true, false, false, false] rfl rfl (by kernel_rfl) (fun _ _ _ h => h) (Or.inl ⟨by rfl, ?_⟩) hHeld ?_ ?_
                   rotate_left
                   · rintro w' ⟨s0, s1⟩
                     go_simp
                     with_reducible rfl
                   rotate_left
                   · simp only [Act.put, List.setIfInBounds_toArray, List.set_cons_zero, List.set_cons_succ, i64_w, i32_w]
                     rfl
                   refine join_ (σ := Value × Value × Value) 2 #[true, true, true, true, true, false, false] (fun s_ => [(85, s_.1), (87, s_.2.1), (89, s_.2.2)]) (fun s_ w' => (w'.cell? ⟨gb306, 0, none⟩ = some (.string a2_0) ∧ w'.cell? ⟨gb306, 1, none⟩ = some (.int .i64 a2_1)) ∧ (Kd.R k36 36 w' w.heap.size (fun k_ => some k_ ≠ (s_.2.2 : Value).ownBlock ∧ some k_ ≠ (.slice Ao40 x14_2.length co40 : Value).ownBlock ∧ k_ ≠ gb306) s_.2.1 y328) ∧ (Kd.R k36 36 w' w.heap.size (fun k_ => some k_ ≠ (s_.2.1 : Value).ownBlock ∧ some k_ ≠ (.slice Ao40 x14_2.length co40 : Value).ownBlock ∧ k_ ≠ gb306) s_.2.2 y331) ∧ (Kd.R Kd.string 9 w' w.heap.size (fun _ => True) (.slice Ao39 t311.length co39) t311) ∧ (Kd.R k36 36 w' w.heap.size (fun k_ => some k_ ≠ (s_.2.1 : Value).ownBlock ∧ some k_ ≠ (s_.2.2 : Value).ownBlock ∧ k_ ≠ gb306) (.slice Ao40 x14_2.length co40) x14_2) ∧ (w'.heap[gb306]? = some (.cells #[.string a2_0, .int .i64 a2_1] 36 (0, 0))) ∧ (Below w.heap.size w w')) ?_ ?_
                   rotate_left
                   · intro hCont
                     refine two_ (i := 0) (j := 4) (Ni := some 85) (Nj := some 89) #[true, true, false, true, false, false, false] #[false, true, false, true, true, false, false] rfl rfl rfl rfl (by kernel_rfl) (by decide) (by decide) (fun K hK => ?_) (fun K hK => ?_)
                     · skip
                       refine Kd.R_lit_step k36 _ 36 ?hg (N := 85) ?hd (xs := ([] : List (S36))) (inner := []) (ok := fun _ => True) (okp := fun _ => True) ?hr ?hp (fun _ hk => hk) trivial (Below.refl _ _) (Nat.le_refl _) (by simp) ?_; (case hd => rfl); (case hg => rfl); (case hr => first | (go_simp; done) | (go_simp; rfl)); (case hp => exact (Reps.none _ _))
                       intro v326 w42 ho43 hb hg_ hnew_
                       clear hg_ hnew_
                       (first | rw [← Ny325.out] at ho43 | (simp only [Int.reduceToNat] at ho43; rw [← Ny325.out] at ho43))
                       have n0_ := Aside0.mk (Kd.R_below (by (with_reducible repeat (first | apply Kd.R_alloc | apply Kd.R_drewN | apply Kd.R_drew)); exact HO_10.out) hb)
                       have n1_ := Aside0.mk (Kd.R_elder' (by (with_reducible repeat (first | apply Kd.R_alloc | apply Kd.R_drewN | apply Kd.R_drew)); exact HO_14.out) (Kd.R_base ho43) hb)
                       have n2_ := Aside0.mk (Kd.R_lower (Kd.R_newB (Kd.R_new' ho43 (Kd.R_lt (by (with_reducible repeat (first | apply Kd.R_alloc | apply Kd.R_drewN | apply Kd.R_drew)); exact HO_14.out))) (g := gb306) (o := .cells #[.string a2_0, .int .i64 a2_1] 36 (0, 0)) (by (with_reducible repeat (first | refine blk_drewN ?_ _ | refine blk_drew ?_ | refine blk_alloc ?_ _)); exact BK306.out)) (below_size (by repeat (first | (with_reducible first | exact HB.out | apply below_alloc | apply pw_below_drewN | apply below_drew1 | refine below_set ?_ GE306.out) | exact HB.out))))
                       have n3_ := Aside0.mk (blk_below (g := gb306) (o := .cells #[.string a2_0, .int .i64 a2_1] 36 (0, 0)) (by (with_reducible repeat (first | refine blk_drewN ?_ _ | refine blk_drew ?_ | refine blk_alloc ?_ _)); exact BK306.out) hb)
                       have n4_ := Aside0.mk (below_step (by repeat (first | (with_reducible first | exact HB.out | apply below_alloc | apply pw_below_drewN | apply below_drew1 | refine below_set ?_ GE306.out) | exact HB.out)) hb)
                       clear HO_10
                       clear HO_14
                       clear BK306
                       clear HB
                       have HO_10 := n0_
                       have HO_14 := n1_
                       have HO327 := n2_
                       have BK306 := n3_
                       have HB := n4_
                       clear n0_ n1_ n2_ n3_ n4_
                       clear hb ho43
                       refine hK.out _ _ ⟨(blk_cell BK306.out 0).trans rfl, (blk_cell BK306.out 1).trans rfl⟩ (fun hHeld => ?_)
                       clear hK K
                       refine norm_ (a' := ?_) ?_ ?_
                       rotate_left
                       · show Act.put _ (some 85) _ = _
                         simp only [Act.put, List.setIfInBounds_toArray, List.set_cons_zero, List.set_cons_succ, i64_w, i32_w]
                         rfl
                       refine two_ (i := 2) (j := 4) (Ni := some 87) (Nj := some 89) #[true, true, true, true, false, false, false] #[true, true, false, true, true, false, false] rfl rfl rfl rfl (by kernel_rfl) (by decide) (by decide) (fun K hK => ?_) (fun K hK => ?_)
                       · skip
                         refine Kd.R_append_rows_step k36 (w0 := w) w.heap.size (by rfl) (.tmp 85) (.tmp 86) 24 36 (.agg #[(.string ⟨#[]⟩), (.int .i64 0)]) 24 rfl Tryz.underlying24 info36 rfl (by decide) (by omega) v326 y325 x14_2 _ _ _ (fun k_ => some k_ ≠ (.slice Ao40 x14_2.length co40 : Value).ownBlock ∧ k_ ≠ gb306) (fun _ => False) rfl rfl ?aO ?aR (fun _ _ h => h) (fun _ h => h.elim) ?aF ?aB ?aS ?aL ?_
                         (case aR => repeat (first | exact (Kd.R_reads' HO_14.out).2.2 | (with_reducible refine Kd.C_alloc ?_ _) | (with_reducible refine Kd.C_drewN ?_ _) | (with_reducible refine Kd.C_drew ?_)))
                         (case aB => exact (by repeat (first | (with_reducible first | exact HB.out | apply below_alloc | apply pw_below_drewN | apply below_drew1 | refine below_set ?_ GE306.out) | exact HB.out)))
                         (case aF => exact (fun k_ hk => ⟨Kd.fresh' (Kd.R_lt (by (with_reducible repeat (first | apply Kd.R_alloc | apply Kd.R_drewN | apply Kd.R_drew)); exact HO_14.out)) k_ hk, Kd.freshB (g := gb306) (o := .cells #[.string a2_0, .int .i64 a2_1] 36 (0, 0)) (by (with_reducible repeat (first | refine blk_drewN ?_ _ | refine blk_drew ?_ | refine blk_alloc ?_ _)); exact BK306.out) k_ hk⟩))
                         (case aO => exact (by (with_reducible repeat (first | apply Kd.R_alloc | apply Kd.R_drewN | apply Kd.R_drew)); exact Kd.R_mono HO327.out (fun _ hk => ⟨hk.1.2, hk.2⟩)))
                         (case aS => exact (below_size (by repeat (first | (with_reducible first | exact HB.out | apply below_alloc | apply pw_below_drewN | apply below_drew1 | refine below_set ?_ GE306.out) | exact HB.out))))
                         (case aL => have := LMc36.out; omega)
                         intro v329 w44 ho hb hg hat
                         rw [← Ny328.out] at ho
                         have n0_ := Aside0.mk (Kd.R_over' (by (with_reducible repeat (first | apply Kd.R_alloc | apply Kd.R_drewN | apply Kd.R_drew)); exact HO_10.out) (Kd.R_typed (by (with_reducible repeat (first | apply Kd.R_alloc | apply Kd.R_drewN | apply Kd.R_drew)); exact HO327.out)) (by decide) hg)
                         have n1_ := Aside0.mk (Kd.R_after (ok := (fun k_ => k_ ≠ gb306)) (by (with_reducible repeat (first | apply Kd.R_alloc | apply Kd.R_drewN | apply Kd.R_drew)); exact HO_14.out) hg hat)
                         have n2_ := Aside0.mk (blk_grown (g := gb306) (o := .cells #[.string a2_0, .int .i64 a2_1] 36 (0, 0)) (by (with_reducible repeat (first | refine blk_drewN ?_ _ | refine blk_drew ?_ | refine blk_alloc ?_ _)); exact BK306.out) hg (Kd.R_away HO327.out (fun _ hk => hk.2)))
                         have n3_ := Aside0.mk (hb)
                         have n4_ := Aside0.mk (ho)
                         clear HO_10
                         clear HO_14
                         clear BK306
                         clear HB
                         clear HO327
                         have HO_10 := n0_
                         have HO_14 := n1_
                         have BK306 := n2_
                         have HB := n3_
                         have HO330 := n4_
                         clear n0_ n1_ n2_ n3_ n4_
                         clear ho hb hg hat
                         refine hK.out _ _ ⟨(blk_cell BK306.out 0).trans rfl, (blk_cell BK306.out 1).trans rfl⟩ (fun hHeld => ?_)
                         clear hK K
                         refine norm_ (a' := ?_) ?_ ?_
                         rotate_left
                         · show Act.put _ (some 87) _ = _
                           simp only [Act.put, List.setIfInBounds_toArray, List.set_cons_zero, List.set_cons_succ, i64_w, i32_w]
                           rfl
                         refine one_ (i := 4) (N := some 89) #[true, true, true, true, true, false, false] rfl rfl (by kernel_rfl) (by decide) (fun K hK => ?_)
                         refine Kd.R_lit_step k36 _ 36 ?hg (N := 89) ?hd (xs := ([(⟨a2_0, a2_1⟩ : S36)] : List (S36))) (inner := [.string a2_0, .int .i64 a2_1]) (ok := fun _ => True) (okp := fun _ => True) ?hr ?hp (fun _ hk => hk) trivial (Below.refl _ _) (Nat.le_refl _) (by simp) ?_; (case hd => rfl); (case hg => rfl); (case hr => first | (go_simp; done) | (go_simp; rfl)); (case hp => exact (Reps.c2 (show Kd.M k36 _ _ _ (⟨a2_0, a2_1⟩ : S36) [.string a2_0, .int .i64 a2_1] from (k36_mkM _ _ _ (⟨a2_0, a2_1⟩ : S36) )) (Reps.none _ _)))
                         intro v332 w45 ho46 hb hg_ hnew_
                         clear hg_ hnew_
                         (first | rw [← Ny331.out] at ho46 | (simp only [Int.reduceToNat] at ho46; rw [← Ny331.out] at ho46))
                         have n0_ := Aside0.mk (Kd.R_below (by (with_reducible repeat (first | apply Kd.R_alloc | apply Kd.R_drewN | apply Kd.R_drew)); exact HO_10.out) hb)
                         have n1_ := Aside0.mk (Kd.R_elder' (by (with_reducible repeat (first | apply Kd.R_alloc | apply Kd.R_drewN | apply Kd.R_drew)); exact HO_14.out) (Kd.R_base ho46) hb)
                         have n2_ := Aside0.mk (Kd.R_elder' (by (with_reducible repeat (first | apply Kd.R_alloc | apply Kd.R_drewN | apply Kd.R_drew)); exact HO330.out) (Kd.R_base ho46) hb)
                         have n3_ := Aside0.mk (Kd.R_lower (Kd.R_newB (Kd.R_new' (Kd.R_new' ho46 (Kd.R_lt (by (with_reducible repeat (first | apply Kd.R_alloc | apply Kd.R_drewN | apply Kd.R_drew)); exact HO_14.out))) (Kd.R_lt (by (with_reducible repeat (first | apply Kd.R_alloc | apply Kd.R_drewN | apply Kd.R_drew)); exact HO330.out))) (g := gb306) (o := .cells #[.string a2_0, .int .i64 a2_1] 36 (0, 0)) (by (with_reducible repeat (first | refine blk_drewN ?_ _ | refine blk_drew ?_ | refine blk_alloc ?_ _)); exact BK306.out)) (below_size (by repeat (first | (with_reducible first | exact HB.out | apply below_alloc | apply pw_below_drewN | apply below_drew1 | refine below_set ?_ GE306.out) | exact HB.out))))
                         have n4_ := Aside0.mk (blk_below (g := gb306) (o := .cells #[.string a2_0, .int .i64 a2_1] 36 (0, 0)) (by (with_reducible repeat (first | refine blk_drewN ?_ _ | refine blk_drew ?_ | refine blk_alloc ?_ _)); exact BK306.out) hb)
                         have n5_ := Aside0.mk (below_step (by repeat (first | (with_reducible first | exact HB.out | apply below_alloc | apply pw_below_drewN | apply below_drew1 | refine below_set ?_ GE306.out) | exact HB.out)) hb)
                         clear HO_10
                         clear HO_14
                         clear HO330
                         clear BK306
                         clear HB
                         have HO_10 := n0_
                         have HO_14 := n1_
                         have HO330 := n2_
                         have HO333 := n3_
                         have BK306 := n4_
                         have HB := n5_
                         clear n0_ n1_ n2_ n3_ n4_ n5_
                         clear hb ho46
                         refine hK.out _ _ ⟨(blk_cell BK306.out 0).trans rfl, (blk_cell BK306.out 1).trans rfl⟩ (fun hHeld => ?_)
                         clear hK K
                         refine norm_ (a' := ?_) ?_ ?_
                         rotate_left
                         · show Act.put _ (some 89) _ = _
                           simp only [Act.put, List.setIfInBounds_toArray, List.set_cons_zero, List.set_cons_succ, i64_w, i32_w]
                           rfl
                         exact norm_ (by simp only [putAll, Act.put, List.setIfInBounds_toArray, List.set_cons_zero, List.set_cons_succ]) (hCont (v326, v329, v332) _ ⟨hHeld, (by (with_reducible repeat (first | apply Kd.R_alloc | apply Kd.R_drewN | apply Kd.R_drew)); exact Kd.R_mono HO330.out (fun _ hk => ⟨hk.2, ⟨hk.1.1, hk.1.2⟩⟩)), (by (with_reducible repeat (first | apply Kd.R_alloc | apply Kd.R_drewN | apply Kd.R_drew)); exact Kd.R_mono HO333.out (fun _ hk => ⟨hk.1.2, ⟨hk.1.1.2, hk.2⟩⟩)), (by (with_reducible repeat (first | apply Kd.R_alloc | apply Kd.R_drewN | apply Kd.R_drew)); exact HO_10.out), (by (with_reducible repeat (first | apply Kd.R_alloc | apply Kd.R_drewN | apply Kd.R_drew)); exact Kd.R_mono HO_14.out (fun _ hk => ⟨hk.1.2, ⟨hk.2, hk.1.1⟩⟩)), (by (with_reducible repeat (first | refine blk_drewN ?_ _ | refine blk_drew ?_ | refine blk_alloc ?_ _)); exact BK306.out), (by repeat (first | (with_reducible first | exact HB.out | apply below_alloc | apply pw_below_drewN | apply below_drew1 | refine below_set ?_ GE306.out) | exact HB.out))⟩)
                       · skip
                         refine Kd.R_lit_step k36 _ 36 ?hg (N := 89) ?hd (xs := ([(⟨a2_0, a2_1⟩ : S36)] : List (S36))) (inner := [.string a2_0, .int .i64 a2_1]) (ok := fun _ => True) (okp := fun _ => True) ?hr ?hp (fun _ hk => hk) trivial (Below.refl _ _) (Nat.le_refl _) (by simp) ?_; (case hd => rfl); (case hg => rfl); (case hr => first | (go_simp; done) | (go_simp; rfl)); (case hp => exact (Reps.c2 (show Kd.M k36 _ _ _ (⟨a2_0, a2_1⟩ : S36) [.string a2_0, .int .i64 a2_1] from (k36_mkM _ _ _ (⟨a2_0, a2_1⟩ : S36) )) (Reps.none _ _)))
                         intro v332 w44 ho45 hb hg_ hnew_
                         clear hg_ hnew_
                         (first | rw [← Ny331.out] at ho45 | (simp only [Int.reduceToNat] at ho45; rw [← Ny331.out] at ho45))
                         have n0_ := Aside0.mk (Kd.R_below (by (with_reducible repeat (first | apply Kd.R_alloc | apply Kd.R_drewN | apply Kd.R_drew)); exact HO_10.out) hb)
                         have n1_ := Aside0.mk (Kd.R_elder' (by (with_reducible repeat (first | apply Kd.R_alloc | apply Kd.R_drewN | apply Kd.R_drew)); exact HO_14.out) (Kd.R_base ho45) hb)
                         have n2_ := Aside0.mk (Kd.R_elder' (by (with_reducible repeat (first | apply Kd.R_alloc | apply Kd.R_drewN | apply Kd.R_drew)); exact HO327.out) (Kd.R_base ho45) hb)
                         have n3_ := Aside0.mk (Kd.R_lower (Kd.R_newB (Kd.R_new' (Kd.R_new' ho45 (Kd.R_lt (by (with_reducible repeat (first | apply Kd.R_alloc | apply Kd.R_drewN | apply Kd.R_drew)); exact HO_14.out))) (Kd.R_lt (by (with_reducible repeat (first | apply Kd.R_alloc | apply Kd.R_drewN | apply Kd.R_drew)); exact HO327.out))) (g := gb306) (o := .cells #[.string a2_0, .int .i64 a2_1] 36 (0, 0)) (by (with_reducible repeat (first | refine blk_drewN ?_ _ | refine blk_drew ?_ | refine blk_alloc ?_ _)); exact BK306.out)) (below_size (by repeat (first | (with_reducible first | exact HB.out | apply below_alloc | apply pw_below_drewN | apply below_drew1 | refine below_set ?_ GE306.out) | exact HB.out))))
                         have n4_ := Aside0.mk (blk_below (g := gb306) (o := .cells #[.string a2_0, .int .i64 a2_1] 36 (0, 0)) (by (with_reducible repeat (first | refine blk_drewN ?_ _ | refine blk_drew ?_ | refine blk_alloc ?_ _)); exact BK306.out) hb)
                         have n5_ := Aside0.mk (below_step (by repeat (first | (with_reducible first | exact HB.out | apply below_alloc | apply pw_below_drewN | apply below_drew1 | refine below_set ?_ GE306.out) | exact HB.out)) hb)
                         clear HO_10
                         clear HO_14
                         clear HO327
                         clear BK306
                         clear HB
                         have HO_10 := n0_
                         have HO_14 := n1_
                         have HO327 := n2_
                         have HO333 := n3_
                         have BK306 := n4_
                         have HB := n5_
                         clear n0_ n1_ n2_ n3_ n4_ n5_
                         clear hb ho45
                         refine hK.out _ _ ⟨(blk_cell BK306.out 0).trans rfl, (blk_cell BK306.out 1).trans rfl⟩ (fun hHeld => ?_)
                         clear hK K
                         refine norm_ (a' := ?_) ?_ ?_
                         rotate_left
                         · show Act.put _ (some 89) _ = _
                           simp only [Act.put, List.setIfInBounds_toArray, List.set_cons_zero, List.set_cons_succ, i64_w, i32_w]
                           rfl
                         refine one_ (i := 2) (N := some 87) #[true, true, true, true, true, false, false] rfl rfl (by kernel_rfl) (by decide) (fun K hK => ?_)
                         refine Kd.R_append_rows_step k36 (w0 := w) w.heap.size (by rfl) (.tmp 85) (.tmp 86) 24 36 (.agg #[(.string ⟨#[]⟩), (.int .i64 0)]) 24 rfl Tryz.underlying24 info36 rfl (by decide) (by omega) v326 y325 x14_2 _ _ _ (fun k_ => some k_ ≠ (.slice Ao40 x14_2.length co40 : Value).ownBlock ∧ some k_ ≠ (v332 : Value).ownBlock ∧ k_ ≠ gb306) (fun _ => False) rfl rfl ?aO ?aR (fun _ _ h => h) (fun _ h => h.elim) ?aF ?aB ?aS ?aL ?_
                         (case aR => repeat (first | exact (Kd.R_reads' HO_14.out).2.2 | (with_reducible refine Kd.C_alloc ?_ _) | (with_reducible refine Kd.C_drewN ?_ _) | (with_reducible refine Kd.C_drew ?_)))
                         (case aB => exact (by repeat (first | (with_reducible first | exact HB.out | apply below_alloc | apply pw_below_drewN | apply below_drew1 | refine below_set ?_ GE306.out) | exact HB.out)))
                         (case aF => exact (fun k_ hk => ⟨Kd.fresh' (Kd.R_lt (by (with_reducible repeat (first | apply Kd.R_alloc | apply Kd.R_drewN | apply Kd.R_drew)); exact HO_14.out)) k_ hk, Kd.fresh' (Kd.R_lt (by (with_reducible repeat (first | apply Kd.R_alloc | apply Kd.R_drewN | apply Kd.R_drew)); exact HO333.out)) k_ hk, Kd.freshB (g := gb306) (o := .cells #[.string a2_0, .int .i64 a2_1] 36 (0, 0)) (by (with_reducible repeat (first | refine blk_drewN ?_ _ | refine blk_drew ?_ | refine blk_alloc ?_ _)); exact BK306.out) k_ hk⟩))
                         (case aO => exact (by (with_reducible repeat (first | apply Kd.R_alloc | apply Kd.R_drewN | apply Kd.R_drew)); exact Kd.R_mono HO327.out (fun _ hk => ⟨hk.1.1.2, ⟨hk.2, hk.1.2⟩⟩)))
                         (case aS => exact (below_size (by repeat (first | (with_reducible first | exact HB.out | apply below_alloc | apply pw_below_drewN | apply below_drew1 | refine below_set ?_ GE306.out) | exact HB.out))))
                         (case aL => have := LMc36.out; omega)
                         intro v329 w46 ho hb hg hat
                         rw [← Ny328.out] at ho
                         have n0_ := Aside0.mk (Kd.R_over' (by (with_reducible repeat (first | apply Kd.R_alloc | apply Kd.R_drewN | apply Kd.R_drew)); exact HO_10.out) (Kd.R_typed (by (with_reducible repeat (first | apply Kd.R_alloc | apply Kd.R_drewN | apply Kd.R_drew)); exact HO327.out)) (by decide) hg)
                         have n1_ := Aside0.mk (Kd.R_after (ok := (fun k_ => some k_ ≠ (v332 : Value).ownBlock ∧ k_ ≠ gb306)) (by (with_reducible repeat (first | apply Kd.R_alloc | apply Kd.R_drewN | apply Kd.R_drew)); exact Kd.R_mono HO_14.out (fun _ hk => ⟨⟨hk.2, hk.1.1⟩, hk.1.2⟩)) hg hat)
                         have n2_ := Aside0.mk (blk_grown (g := gb306) (o := .cells #[.string a2_0, .int .i64 a2_1] 36 (0, 0)) (by (with_reducible repeat (first | refine blk_drewN ?_ _ | refine blk_drew ?_ | refine blk_alloc ?_ _)); exact BK306.out) hg (Kd.R_away HO327.out (fun _ hk => hk.1.2)))
                         have n3_ := Aside0.mk (Kd.R_after (ok := (fun k_ => some k_ ≠ (.slice Ao40 x14_2.length co40 : Value).ownBlock ∧ k_ ≠ gb306)) (by (with_reducible repeat (first | apply Kd.R_alloc | apply Kd.R_drewN | apply Kd.R_drew)); exact Kd.R_mono HO333.out (fun _ hk => ⟨⟨hk.1.1.2, hk.2⟩, hk.1.2⟩)) hg hat)
                         have n4_ := Aside0.mk (hb)
                         have n5_ := Aside0.mk (ho)
                         clear HO_10
                         clear HO_14
                         clear BK306
                         clear HO333
                         clear HB
                         clear HO327
                         have HO_10 := n0_
                         have HO_14 := n1_
                         have BK306 := n2_
                         have HO333 := n3_
                         have HB := n4_
                         have HO330 := n5_
                         clear n0_ n1_ n2_ n3_ n4_ n5_
                         clear ho hb hg hat
                         refine hK.out _ _ ⟨(blk_cell BK306.out 0).trans rfl, (blk_cell BK306.out 1).trans rfl⟩ (fun hHeld => ?_)
                         clear hK K
                         refine norm_ (a' := ?_) ?_ ?_
                         rotate_left
                         · show Act.put _ (some 87) _ = _
                           simp only [Act.put, List.setIfInBounds_toArray, List.set_cons_zero, List.set_cons_succ, i64_w, i32_w]
                           rfl
                         exact norm_ (by simp only [putAll, Act.put, List.setIfInBounds_toArray, List.set_cons_zero, List.set_cons_succ]) (hCont (v326, v329, v332) _ ⟨hHeld, (by (with_reducible repeat (first | apply Kd.R_alloc | apply Kd.R_drewN | apply Kd.R_drew)); exact Kd.R_mono HO330.out (fun _ hk => ⟨hk.2.1, ⟨hk.1, hk.2.2⟩⟩)), (by (with_reducible repeat (first | apply Kd.R_alloc | apply Kd.R_drewN | apply Kd.R_drew)); exact Kd.R_mono HO333.out (fun _ hk => ⟨hk.2, ⟨hk.1.1, hk.1.2⟩⟩)), (by (with_reducible repeat (first | apply Kd.R_alloc | apply Kd.R_drewN | apply Kd.R_drew)); exact HO_10.out), (by (with_reducible repeat (first | apply Kd.R_alloc | apply Kd.R_drewN | apply Kd.R_drew)); exact Kd.R_mono HO_14.out (fun _ hk => ⟨hk.2, ⟨hk.1.1, hk.1.2⟩⟩)), (by (with_reducible repeat (first | refine blk_drewN ?_ _ | refine blk_drew ?_ | refine blk_alloc ?_ _)); exact BK306.out), (by repeat (first | (with_reducible first | exact HB.out | apply below_alloc | apply pw_below_drewN | apply below_drew1 | refine below_set ?_ GE306.out) | exact HB.out))⟩)
                     · skip
                       refine Kd.R_lit_step k36 _ 36 ?hg (N := 89) ?hd (xs := ([(⟨a2_0, a2_1⟩ : S36)] : List (S36))) (inner := [.string a2_0, .int .i64 a2_1]) (ok := fun _ => True) (okp := fun _ => True) ?hr ?hp (fun _ hk => hk) trivial (Below.refl _ _) (Nat.le_refl _) (by simp) ?_; (case hd => rfl); (case hg => rfl); (case hr => first | (go_simp; done) | (go_simp; rfl)); (case hp => exact (Reps.c2 (show Kd.M k36 _ _ _ (⟨a2_0, a2_1⟩ : S36) [.string a2_0, .int .i64 a2_1] from (k36_mkM _ _ _ (⟨a2_0, a2_1⟩ : S36) )) (Reps.none _ _)))
                       intro v332 w42 ho43 hb hg_ hnew_
                       clear hg_ hnew_
                       (first | rw [← Ny331.out] at ho43 | (simp only [Int.reduceToNat] at ho43; rw [← Ny331.out] at ho43))
                       have n0_ := Aside0.mk (Kd.R_below (by (with_reducible repeat (first | apply Kd.R_alloc | apply Kd.R_drewN | apply Kd.R_drew)); exact HO_10.out) hb)
                       have n1_ := Aside0.mk (Kd.R_elder' (by (with_reducible repeat (first | apply Kd.R_alloc | apply Kd.R_drewN | apply Kd.R_drew)); exact HO_14.out) (Kd.R_base ho43) hb)
                       have n2_ := Aside0.mk (Kd.R_lower (Kd.R_newB (Kd.R_new' ho43 (Kd.R_lt (by (with_reducible repeat (first | apply Kd.R_alloc | apply Kd.R_drewN | apply Kd.R_drew)); exact HO_14.out))) (g := gb306) (o := .cells #[.string a2_0, .int .i64 a2_1] 36 (0, 0)) (by (with_reducible repeat (first | refine blk_drewN ?_ _ | refine blk_drew ?_ | refine blk_alloc ?_ _)); exact BK306.out)) (below_size (by repeat (first | (with_reducible first | exact HB.out | apply below_alloc | apply pw_below_drewN | apply below_drew1 | refine below_set ?_ GE306.out) | exact HB.out))))
                       have n3_ := Aside0.mk (blk_below (g := gb306) (o := .cells #[.string a2_0, .int .i64 a2_1] 36 (0, 0)) (by (with_reducible repeat (first | refine blk_drewN ?_ _ | refine blk_drew ?_ | refine blk_alloc ?_ _)); exact BK306.out) hb)
                       have n4_ := Aside0.mk (below_step (by repeat (first | (with_reducible first | exact HB.out | apply below_alloc | apply pw_below_drewN | apply below_drew1 | refine below_set ?_ GE306.out) | exact HB.out)) hb)
                       clear HO_10
                       clear HO_14
                       clear BK306
                       clear HB
                       have HO_10 := n0_
                       have HO_14 := n1_
                       have HO333 := n2_
                       have BK306 := n3_
                       have HB := n4_
                       clear n0_ n1_ n2_ n3_ n4_
                       clear hb ho43
                       refine hK.out _ _ ⟨(blk_cell BK306.out 0).trans rfl, (blk_cell BK306.out 1).trans rfl⟩ (fun hHeld => ?_)
                       clear hK K
                       refine norm_ (a' := ?_) ?_ ?_
                       rotate_left
                       · show Act.put _ (some 89) _ = _
                         simp only [Act.put, List.setIfInBounds_toArray, List.set_cons_zero, List.set_cons_succ, i64_w, i32_w]
                         rfl
                       refine one_ (i := 0) (N := some 85) #[true, true, false, true, true, false, false] rfl rfl (by kernel_rfl) (by decide) (fun K hK => ?_)
                       refine Kd.R_lit_step k36 _ 36 ?hg (N := 85) ?hd (xs := ([] : List (S36))) (inner := []) (ok := fun _ => True) (okp := fun _ => True) ?hr ?hp (fun _ hk => hk) trivial (Below.refl _ _) (Nat.le_refl _) (by simp) ?_; (case hd => rfl); (case hg => rfl); (case hr => first | (go_simp; done) | (go_simp; rfl)); (case hp => exact (Reps.none _ _))
                       intro v326 w44 ho45 hb hg_ hnew_
                       clear hg_ hnew_
                       (first | rw [← Ny325.out] at ho45 | (simp only [Int.reduceToNat] at ho45; rw [← Ny325.out] at ho45))
                       have n0_ := Aside0.mk (Kd.R_below (by (with_reducible repeat (first | apply Kd.R_alloc | apply Kd.R_drewN | apply Kd.R_drew)); exact HO_10.out) hb)
                       have n1_ := Aside0.mk (Kd.R_elder' (by (with_reducible repeat (first | apply Kd.R_alloc | apply Kd.R_drewN | apply Kd.R_drew)); exact HO_14.out) (Kd.R_base ho45) hb)
                       have n2_ := Aside0.mk (Kd.R_elder' (by (with_reducible repeat (first | apply Kd.R_alloc | apply Kd.R_drewN | apply Kd.R_drew)); exact HO333.out) (Kd.R_base ho45) hb)
                       have n3_ := Aside0.mk (Kd.R_lower (Kd.R_newB (Kd.R_new' (Kd.R_new' ho45 (Kd.R_lt (by (with_reducible repeat (first | apply Kd.R_alloc | apply Kd.R_drewN | apply Kd.R_drew)); exact HO_14.out))) (Kd.R_lt (by (with_reducible repeat (first | apply Kd.R_alloc | apply Kd.R_drewN | apply Kd.R_drew)); exact HO333.out))) (g := gb306) (o := .cells #[.string a2_0, .int .i64 a2_1] 36 (0, 0)) (by (with_reducible repeat (first | refine blk_drewN ?_ _ | refine blk_drew ?_ | refine blk_alloc ?_ _)); exact BK306.out)) (below_size (by repeat (first | (with_reducible first | exact HB.out | apply below_alloc | apply pw_below_drewN | apply below_drew1 | refine below_set ?_ GE306.out) | exact HB.out))))
                       have n4_ := Aside0.mk (blk_below (g := gb306) (o := .cells #[.string a2_0, .int .i64 a2_1] 36 (0, 0)) (by (with_reducible repeat (first | refine blk_drewN ?_ _ | refine blk_drew ?_ | refine blk_alloc ?_ _)); exact BK306.out) hb)
                       have n5_ := Aside0.mk (below_step (by repeat (first | (with_reducible first | exact HB.out | apply below_alloc | apply pw_below_drewN | apply below_drew1 | refine below_set ?_ GE306.out) | exact HB.out)) hb)
                       clear HO_10
                       clear HO_14
                       clear HO333
                       clear BK306
                       clear HB
                       have HO_10 := n0_
                       have HO_14 := n1_
                       have HO333 := n2_
                       have HO327 := n3_
                       have BK306 := n4_
                       have HB := n5_
                       clear n0_ n1_ n2_ n3_ n4_ n5_
                       clear hb ho45
                       refine hK.out _ _ ⟨(blk_cell BK306.out 0).trans rfl, (blk_cell BK306.out 1).trans rfl⟩ (fun hHeld => ?_)
                       clear hK K
                       refine norm_ (a' := ?_) ?_ ?_
                       rotate_left
                       · show Act.put _ (some 85) _ = _
                         simp only [Act.put, List.setIfInBounds_toArray, List.set_cons_zero, List.set_cons_succ, i64_w, i32_w]
                         rfl
                       refine one_ (i := 2) (N := some 87) #[true, true, true, true, true, false, false] rfl rfl (by kernel_rfl) (by decide) (fun K hK => ?_)
                       refine Kd.R_append_rows_step k36 (w0 := w) w.heap.size (by rfl) (.tmp 85) (.tmp 86) 24 36 (.agg #[(.string ⟨#[]⟩), (.int .i64 0)]) 24 rfl Tryz.underlying24 info36 rfl (by decide) (by omega) v326 y325 x14_2 _ _ _ (fun k_ => some k_ ≠ (.slice Ao40 x14_2.length co40 : Value).ownBlock ∧ some k_ ≠ (v332 : Value).ownBlock ∧ k_ ≠ gb306) (fun _ => False) rfl rfl ?aO ?aR (fun _ _ h => h) (fun _ h => h.elim) ?aF ?aB ?aS ?aL ?_
                       (case aR => repeat (first | exact (Kd.R_reads' HO_14.out).2.2 | (with_reducible refine Kd.C_alloc ?_ _) | (with_reducible refine Kd.C_drewN ?_ _) | (with_reducible refine Kd.C_drew ?_)))
                       (case aB => exact (by repeat (first | (with_reducible first | exact HB.out | apply below_alloc | apply pw_below_drewN | apply below_drew1 | refine below_set ?_ GE306.out) | exact HB.out)))
                       (case aF => exact (fun k_ hk => ⟨Kd.fresh' (Kd.R_lt (by (with_reducible repeat (first | apply Kd.R_alloc | apply Kd.R_drewN | apply Kd.R_drew)); exact HO_14.out)) k_ hk, Kd.fresh' (Kd.R_lt (by (with_reducible repeat (first | apply Kd.R_alloc | apply Kd.R_drewN | apply Kd.R_drew)); exact HO333.out)) k_ hk, Kd.freshB (g := gb306) (o := .cells #[.string a2_0, .int .i64 a2_1] 36 (0, 0)) (by (with_reducible repeat (first | refine blk_drewN ?_ _ | refine blk_drew ?_ | refine blk_alloc ?_ _)); exact BK306.out) k_ hk⟩))
                       (case aO => exact (by (with_reducible repeat (first | apply Kd.R_alloc | apply Kd.R_drewN | apply Kd.R_drew)); exact Kd.R_mono HO327.out (fun _ hk => ⟨hk.1.1.2, ⟨hk.1.2, hk.2⟩⟩)))
                       (case aS => exact (below_size (by repeat (first | (with_reducible first | exact HB.out | apply below_alloc | apply pw_below_drewN | apply below_drew1 | refine below_set ?_ GE306.out) | exact HB.out))))
                       (case aL => have := LMc36.out; omega)
                       intro v329 w46 ho hb hg hat
                       rw [← Ny328.out] at ho
                       have n0_ := Aside0.mk (Kd.R_over' (by (with_reducible repeat (first | apply Kd.R_alloc | apply Kd.R_drewN | apply Kd.R_drew)); exact HO_10.out) (Kd.R_typed (by (with_reducible repeat (first | apply Kd.R_alloc | apply Kd.R_drewN | apply Kd.R_drew)); exact HO327.out)) (by decide) hg)
                       have n1_ := Aside0.mk (Kd.R_after (ok := (fun k_ => some k_ ≠ (v332 : Value).ownBlock ∧ k_ ≠ gb306)) (by (with_reducible repeat (first | apply Kd.R_alloc | apply Kd.R_drewN | apply Kd.R_drew)); exact Kd.R_mono HO_14.out (fun _ hk => ⟨⟨hk.1.2, hk.1.1⟩, hk.2⟩)) hg hat)
                       have n2_ := Aside0.mk (blk_grown (g := gb306) (o := .cells #[.string a2_0, .int .i64 a2_1] 36 (0, 0)) (by (with_reducible repeat (first | refine blk_drewN ?_ _ | refine blk_drew ?_ | refine blk_alloc ?_ _)); exact BK306.out) hg (Kd.R_away HO327.out (fun _ hk => hk.2)))
                       have n3_ := Aside0.mk (Kd.R_after (ok := (fun k_ => some k_ ≠ (.slice Ao40 x14_2.length co40 : Value).ownBlock ∧ k_ ≠ gb306)) (by (with_reducible repeat (first | apply Kd.R_alloc | apply Kd.R_drewN | apply Kd.R_drew)); exact Kd.R_mono HO333.out (fun _ hk => ⟨⟨hk.1.1.2, hk.1.2⟩, hk.2⟩)) hg hat)
                       have n4_ := Aside0.mk (hb)
                       have n5_ := Aside0.mk (ho)
                       clear HO_10
                       clear HO_14
                       clear BK306
                       clear HO333
                       clear HB
                       clear HO327
                       have HO_10 := n0_
                       have HO_14 := n1_
                       have BK306 := n2_
                       have HO333 := n3_
                       have HB := n4_
                       have HO330 := n5_
                       clear n0_ n1_ n2_ n3_ n4_ n5_
                       clear ho hb hg hat
                       refine hK.out _ _ ⟨(blk_cell BK306.out 0).trans rfl, (blk_cell BK306.out 1).trans rfl⟩ (fun hHeld => ?_)
                       clear hK K
                       refine norm_ (a' := ?_) ?_ ?_
                       rotate_left
                       · show Act.put _ (some 87) _ = _
                         simp only [Act.put, List.setIfInBounds_toArray, List.set_cons_zero, List.set_cons_succ, i64_w, i32_w]
                         rfl
                       exact norm_ (by simp only [putAll, Act.put, List.setIfInBounds_toArray, List.set_cons_zero, List.set_cons_succ]) (hCont (v326, v329, v332) _ ⟨hHeld, (by (with_reducible repeat (first | apply Kd.R_alloc | apply Kd.R_drewN | apply Kd.R_drew)); exact Kd.R_mono HO330.out (fun _ hk => ⟨hk.2.1, ⟨hk.1, hk.2.2⟩⟩)), (by (with_reducible repeat (first | apply Kd.R_alloc | apply Kd.R_drewN | apply Kd.R_drew)); exact Kd.R_mono HO333.out (fun _ hk => ⟨hk.2, ⟨hk.1.1, hk.1.2⟩⟩)), (by (with_reducible repeat (first | apply Kd.R_alloc | apply Kd.R_drewN | apply Kd.R_drew)); exact HO_10.out), (by (with_reducible repeat (first | apply Kd.R_alloc | apply Kd.R_drewN | apply Kd.R_drew)); exact Kd.R_mono HO_14.out (fun _ hk => ⟨hk.2, ⟨hk.1.1, hk.1.2⟩⟩)), (by (with_reducible repeat (first | refine blk_drewN ?_ _ | refine blk_drew ?_ | refine blk_alloc ?_ _)); exact BK306.out), (by repeat (first | (with_reducible first | exact HB.out | apply below_alloc | apply pw_below_drewN | apply below_drew1 | refine below_set ?_ GE306.out) | exact HB.out))⟩)
                   rintro ⟨v326, v329, v332⟩ w47 ⟨hS_, h0_, h1_, h2_, h3_, h4_, h5_⟩
                   have n0_ : Aside0 (Kd.R k36 36 w47 w.heap.size (fun k_ => some k_ ≠ (v332 : Value).ownBlock ∧ some k_ ≠ (.slice Ao40 x14_2.length co40 : Value).ownBlock ∧ k_ ≠ gb306) v329 y328) := ⟨h0_⟩
                   have n1_ : Aside0 (Kd.R k36 36 w47 w.heap.size (fun k_ => some k_ ≠ (v329 : Value).ownBlock ∧ some k_ ≠ (.slice Ao40 x14_2.length co40 : Value).ownBlock ∧ k_ ≠ gb306) v332 y331) := ⟨h1_⟩
                   have n2_ : Aside0 (Kd.R Kd.string 9 w47 w.heap.size (fun _ => True) (.slice Ao39 t311.length co39) t311) := ⟨h2_⟩
                   have n3_ : Aside0 (Kd.R k36 36 w47 w.heap.size (fun k_ => some k_ ≠ (v329 : Value).ownBlock ∧ some k_ ≠ (v332 : Value).ownBlock ∧ k_ ≠ gb306) (.slice Ao40 x14_2.length co40) x14_2) := ⟨h3_⟩
                   have n4_ : Aside0 (w47.heap[gb306]? = some (.cells #[.string a2_0, .int .i64 a2_1] 36 (0, 0))) := ⟨h4_⟩
                   have n5_ : Aside0 (Below w.heap.size w w47) := ⟨h5_⟩
                   clear HO_10
                   clear HO_14
                   clear BK306
                   clear HB
                   clear h0_ h1_ h2_ h3_ h4_ h5_
                   have HO330 := n0_
                   have HO333 := n1_
                   have HO_10 := n2_
                   have HO_14 := n3_
                   have BK306 := n4_
                   have HB := n5_
                   clear n0_ n1_ n2_ n3_ n4_ n5_
                   have hHeld : w47.cell? ⟨gb306, 0, none⟩ = some (.string a2_0) ∧ w47.cell? ⟨gb306, 1, none⟩ = some (.int .i64 a2_1) := hS_
                   obtain ⟨Ao49, co49, eo49⟩ := Kd.R_slice HO333.out
                   (first | subst eo49 | (injection eo49 with f1_ f2_ f3_; have f4_ := f1_.symm; have f5_ := f3_.symm; clear f1_ f2_ f3_; subst f4_; subst f5_))
                   refine norm_ (a' := ?_) ?_ ?_
                   rotate_left
                   · simp only [putAll, Act.put, List.setIfInBounds_toArray, List.set_cons_zero, List.set_cons_succ]
                     rfl
                   refine one_ (i := 5) (N := some 90) #[true, true, true, true, true, true, false] rfl rfl (by kernel_rfl) (by decide) (fun K hK => ?_)
                   refine Kd.R_append_rows_step k36 (w0 := w) w.heap.size (by rfl) (.tmp 87) (.tmp 89) 24 36 (.agg #[(.string ⟨#[]⟩), (.int .i64 0)]) 24 rfl Tryz.underlying24 info36 rfl (by decide) (by omega) v329 y328 y331 _ _ _ (fun k_ => some k_ ≠ (.slice Ao40 x14_2.length co40 : Value).ownBlock ∧ some k_ ≠ (.slice Ao49 y331.length co49 : Value).ownBlock ∧ k_ ≠ gb306) (fun _ => False) rfl rfl ?aO ?aR (fun _ _ h => h) (fun _ h => h.elim) ?aF ?aB ?aS ?aL ?_
                   (case aR => repeat (first | exact (Kd.R_reads' HO333.out).2.2 | (with_reducible refine Kd.C_alloc ?_ _) | (with_reducible refine Kd.C_drewN ?_ _) | (with_reducible refine Kd.C_drew ?_)))
                   (case aB => exact (by repeat (first | (with_reducible first | exact HB.out | apply below_alloc | apply pw_below_drewN | apply below_drew1 | refine below_set ?_ GE306.out) | exact HB.out)))
                   (case aF => exact (fun k_ hk => ⟨Kd.fresh' (Kd.R_lt (by (with_reducible repeat (first | apply Kd.R_alloc | apply Kd.R_drewN | apply Kd.R_drew)); exact HO_14.out)) k_ hk, Kd.fresh' (Kd.R_lt (by (with_reducible repeat (first | apply Kd.R_alloc | apply Kd.R_drewN | apply Kd.R_drew)); exact HO333.out)) k_ hk, Kd.freshB (g := gb306) (o := .cells #[.string a2_0, .int .i64 a2_1] 36 (0, 0)) (by (with_reducible repeat (first | refine blk_drewN ?_ _ | refine blk_drew ?_ | refine blk_alloc ?_ _)); exact BK306.out) k_ hk⟩))
                   (case aO => exact (by (with_reducible repeat (first | apply Kd.R_alloc | apply Kd.R_drewN | apply Kd.R_drew)); exact Kd.R_mono HO330.out (fun _ hk => ⟨hk.2.1, ⟨hk.1, hk.2.2⟩⟩)))
                   (case aS => exact (below_size (by repeat (first | (with_reducible first | exact HB.out | apply below_alloc | apply pw_below_drewN | apply below_drew1 | refine below_set ?_ GE306.out) | exact HB.out))))
                   (case aL => have := LMc37.out; omega)
                   intro v335 w48 ho hb hg hat
                   rw [← Ny334.out] at ho
                   have n0_ := Aside0.mk (Kd.R_over' (by (with_reducible repeat (first | apply Kd.R_alloc | apply Kd.R_drewN | apply Kd.R_drew)); exact HO_10.out) (Kd.R_typed (by (with_reducible repeat (first | apply Kd.R_alloc | apply Kd.R_drewN | apply Kd.R_drew)); exact HO330.out)) (by decide) hg)
                   have n1_ := Aside0.mk (Kd.R_after (ok := (fun k_ => some k_ ≠ (.slice Ao49 y331.length co49 : Value).ownBlock ∧ k_ ≠ gb306)) (by (with_reducible repeat (first | apply Kd.R_alloc | apply Kd.R_drewN | apply Kd.R_drew)); exact Kd.R_mono HO_14.out (fun _ hk => ⟨⟨hk.2.1, hk.2.2⟩, hk.1⟩)) hg hat)
                   have n2_ := Aside0.mk (blk_grown (g := gb306) (o := .cells #[.string a2_0, .int .i64 a2_1] 36 (0, 0)) (by (with_reducible repeat (first | refine blk_drewN ?_ _ | refine blk_drew ?_ | refine blk_alloc ?_ _)); exact BK306.out) hg (Kd.R_away HO330.out (fun _ hk => hk.2.2)))
                   have n3_ := Aside0.mk (Kd.R_after (ok := (fun k_ => some k_ ≠ (.slice Ao40 x14_2.length co40 : Value).ownBlock ∧ k_ ≠ gb306)) (by (with_reducible repeat (first | apply Kd.R_alloc | apply Kd.R_drewN | apply Kd.R_drew)); exact Kd.R_mono HO333.out (fun _ hk => ⟨⟨hk.2.1, hk.2.2⟩, hk.1⟩)) hg hat)
                   have n4_ := Aside0.mk (hb)
                   have n5_ := Aside0.mk (ho)
                   clear HO_10
                   clear HO_14
                   clear BK306
                   clear HO333
                   clear HB
                   clear HO330
                   have HO_10 := n0_
                   have HO_14 := n1_
                   have BK306 := n2_
                   have HO333 := n3_
                   have HB := n4_
                   have HO336 := n5_
                   clear n0_ n1_ n2_ n3_ n4_ n5_
                   clear ho hb hg hat
                   refine hK.out _ _ ⟨(blk_cell BK306.out 0).trans rfl, (blk_cell BK306.out 1).trans rfl⟩ (fun hHeld => ?_)
                   clear hK K
                   refine norm_ (a' := ?_) ?_ ?_
                   rotate_left
                   · show Act.put _ (some 90) _ = _
                     simp only [Act.put, List.setIfInBounds_toArray, List.set_cons_zero, List.set_cons_succ, i64_w, i32_w]
                     rfl
                   refine pure_ (i := 6) (N := some 18) (v := ?_) (a' := ?_) #[true, true, true, true, true, true, true] rfl rfl (by kernel_rfl) (fun _ _ _ h => h) (Or.inl ⟨by rfl, ?_⟩) ?_ ?_
                   rotate_left
                   · intro w'
                     go_simp
                     with_reducible rfl
                   rotate_left
                   · simp only [Act.put, List.setIfInBounds_toArray, List.set_cons_zero, List.set_cons_succ, i64_w, i32_w]
                     rfl
                   refine done_ (by kernel_rfl) ?_
                   go_upto_region 19 with (fail)
                   go_cut [102] (fun v102 wc => ∃ (kq : Nat) (x102_37 : Bool), v102 = .bool x102_37 ∧ Aside0 (observatorylaw23_MeritVariables.j3 kq l0 l1 a3 t307 t311 t315 t316 x14_2 y334 x102_37 = some r) ∧ Aside0 (kq ≤ k3) ∧ Aside0 (Kd.R Kd.string 9 wc w.heap.size (fun _ => True) (.slice Ao39 t311.length co39) t311) ∧ Aside0 (Kd.R k36 36 wc w.heap.size (fun k_ => some k_ ≠ (v335 : Value).ownBlock ∧ k_ ≠ gb306) (.slice Ao40 x14_2.length co40) x14_2) ∧ Aside0 (Kd.R k36 36 wc w.heap.size (fun k_ => some k_ ≠ ((.slice Ao40 x14_2.length co40) : Value).ownBlock ∧ k_ ≠ gb306) v335 y334) ∧ Aside0 (wc.heap[gb306]? = some (.cells #[.string a2_0, .int .i64 a2_1] 36 (0, 0))) ∧ Aside0 (Below w.heap.size w wc))
                   case first =>
                    have H := HC38.out
                    clear HC38
                    by_cases c50 : x16_3 = true
                    · subst c50
                      have H1 : (observatorylaw23_MeritVariables.j3 k3 l0 l1 a3 t307 t311 t315 t316 x14_2 y334 false) = some r := by rw [if_pos rfl] at H; exact H
                      clear H
                      have H := H1
                      clear H1
                      have H' := Aside0.mk H
                      clear H
                      go_wp2
                      go_meet
                      case rel => exact ⟨_, (false), (by first | rfl | (simp; done) | (simp [*]; done)), H', ⟨by have := HJ5.out; have := HK2.out; have := HK3.out; first | omega | exact Nat.le_refl _⟩, ⟨by (with_reducible repeat (first | apply Kd.R_alloc | apply Kd.R_drewN | apply Kd.R_drew)); exact HO_10.out⟩, ⟨by (with_reducible repeat (first | apply Kd.R_alloc | apply Kd.R_drewN | apply Kd.R_drew)); exact Kd.R_mono HO_14.out (fun _ hk => ⟨hk.2, hk.1.2⟩)⟩, ⟨by (with_reducible repeat (first | apply Kd.R_alloc | apply Kd.R_drewN | apply Kd.R_drew)); exact Kd.R_mono HO336.out (fun _ hk => ⟨hk.1, hk.2.2⟩)⟩, ⟨by (with_reducible repeat (first | refine blk_drewN ?_ _ | refine blk_drew ?_ | refine blk_alloc ?_ _)); exact BK306.out⟩, ⟨by repeat (first | (with_reducible first | exact HB.out | apply below_alloc | apply pw_below_drewN | apply below_drew1 | refine below_set ?_ GE306.out) | exact HB.out)⟩⟩
                    · replace c50 := Bool.eq_false_iff.mpr c50
                      subst c50
                      have H1 : ((observatoryref23_Valid.f k3 y334).bind fun t337 => (if t337 = true then (observatorylaw23_MeritVariables.j3 k3 l0 l1 a3 t307 t311 t315 t316 x14_2 y334 (decide ((a2_0.size : Int) ≤ 40))) else (observatorylaw23_MeritVariables.j3 k3 l0 l1 a3 t307 t311 t315 t316 x14_2 y334 false))) = some r := by rw [if_neg (show ¬ (false = true) by decide)] at H; exact H
                      clear H
                      have H := H1
                      clear H1
                      replace H := Option.bind_eq_some_iff.mp H
                      obtain ⟨t337, A510, H⟩ := H
                      replace H : (if t337 = true then (observatorylaw23_MeritVariables.j3 k3 l0 l1 a3 t307 t311 t315 t316 x14_2 y334 (decide ((a2_0.size : Int) ≤ 40))) else (observatorylaw23_MeritVariables.j3 k3 l0 l1 a3 t307 t311 t315 t316 x14_2 y334 false)) = some r := H
                      have A51 := Aside0.mk A510
                      clear A510
                      by_cases c52 : t337 = true
                      · subst c52
                        have H1 : (observatorylaw23_MeritVariables.j3 k3 l0 l1 a3 t307 t311 t315 t316 x14_2 y334 (decide ((a2_0.size : Int) ≤ 40))) = some r := by rw [if_pos rfl] at H; exact H
                        clear H
                        have H := H1
                        clear H1
                        have H' := Aside0.mk H
                        clear H
                        obtain ⟨Ao53, co53, eo53⟩ := Kd.R_slice HO336.out
                        subst eo53
                        go_wp2_with (first | (go_at_call 13; (with_reducible refine (observatoryref23_Valid.calls k3 _ _ y334 true _ ?side1 ?side2 A51.out).mono ?_); (case side1 => repeat (first | exact (Kd.R_reads' HO336.out).2.2 | (with_reducible refine Kd.C_alloc ?_ _) | (with_reducible refine Kd.C_drewN ?_ _) | (with_reducible refine Kd.C_drew ?_))); (case side2 => exact (Kd.R_reads' HO336.out).2.1); rintro e w' ⟨rfl, ⟨nd, rfl⟩⟩; have hcz54_0 : w48.cell? ⟨gb306, 0, none⟩ = some (.string a2_0) := (blk_cell BK306.out 0).trans rfl; have hcz54_1 : w48.cell? ⟨gb306, 1, none⟩ = some (.int .i64 a2_1) := (blk_cell BK306.out 1).trans rfl; have hfz54_0 := blk_frozen BK306.out 0; have hfz54_1 := blk_frozen BK306.out 1))
                        go_meet
                        case rel => exact ⟨_, (decide ((a2_0.size : Int) ≤ 40)), (by first | rfl | (simp; done) | (simp [*]; done)), H', ⟨by have := HJ5.out; have := HK2.out; have := HK3.out; first | omega | exact Nat.le_refl _⟩, ⟨by (with_reducible repeat (first | apply Kd.R_alloc | apply Kd.R_drewN | apply Kd.R_drew)); exact HO_10.out⟩, ⟨by (with_reducible repeat (first | apply Kd.R_alloc | apply Kd.R_drewN | apply Kd.R_drew)); exact Kd.R_mono HO_14.out (fun _ hk => ⟨hk.2, hk.1.2⟩)⟩, ⟨by (with_reducible repeat (first | apply Kd.R_alloc | apply Kd.R_drewN | apply Kd.R_drew)); exact Kd.R_mono HO336.out (fun _ hk => ⟨hk.1, hk.2.2⟩)⟩, ⟨by (with_reducible repeat (first | refine blk_drewN ?_ _ | refine blk_drew ?_ | refine blk_alloc ?_ _)); exact BK306.out⟩, ⟨by repeat (first | (with_reducible first | exact HB.out | apply below_alloc | apply pw_below_drewN | apply below_drew1 | refine below_set ?_ GE306.out) | exact HB.out)⟩⟩
                      · replace c52 := Bool.eq_false_iff.mpr c52
                        subst c52
                        have H1 : (observatorylaw23_MeritVariables.j3 k3 l0 l1 a3 t307 t311 t315 t316 x14_2 y334 false) = some r := by rw [if_neg (show ¬ (false = true) by decide)] at H; exact H
                        clear H
                        have H := H1
                        clear H1
                        have H' := Aside0.mk H
                        clear H
                        obtain ⟨Ao55, co55, eo55⟩ := Kd.R_slice HO336.out
                        subst eo55
                        go_wp2_with (first | (go_at_call 13; (with_reducible refine (observatoryref23_Valid.calls k3 _ _ y334 false _ ?side1 ?side2 A51.out).mono ?_); (case side1 => repeat (first | exact (Kd.R_reads' HO336.out).2.2 | (with_reducible refine Kd.C_alloc ?_ _) | (with_reducible refine Kd.C_drewN ?_ _) | (with_reducible refine Kd.C_drew ?_))); (case side2 => exact (Kd.R_reads' HO336.out).2.1); rintro e w' ⟨rfl, ⟨nd, rfl⟩⟩))
                        go_meet
                        case rel => exact ⟨_, (false), (by first | rfl | (simp; done) | (simp [*]; done)), H', ⟨by have := HJ5.out; have := HK2.out; have := HK3.out; first | omega | exact Nat.le_refl _⟩, ⟨by (with_reducible repeat (first | apply Kd.R_alloc | apply Kd.R_drewN | apply Kd.R_drew)); exact HO_10.out⟩, ⟨by (with_reducible repeat (first | apply Kd.R_alloc | apply Kd.R_drewN | apply Kd.R_drew)); exact Kd.R_mono HO_14.out (fun _ hk => ⟨hk.2, hk.1.2⟩)⟩, ⟨by (with_reducible repeat (first | apply Kd.R_alloc | apply Kd.R_drewN | apply Kd.R_drew)); exact Kd.R_mono HO336.out (fun _ hk => ⟨hk.1, hk.2.2⟩)⟩, ⟨by (with_reducible repeat (first | refine blk_drewN ?_ _ | refine blk_drew ?_ | refine blk_alloc ?_ _)); exact BK306.out⟩, ⟨by repeat (first | (with_reducible first | exact HB.out | apply below_alloc | apply pw_below_drewN | apply below_drew1 | refine below_set ?_ GE306.out) | exact HB.out)⟩⟩
                   case rest =>
                    clear HC38
                    try clear c2
                    try clear p2
                    try clear c3
                    try clear p3
                    try clear q3
                    try clear hx3
                    try clear c5
                    try clear p6
                    try clear c29
                    try clear c29b0
                    try clear c30
                    try clear p32
                    try clear q32
                    try clear hx32
                    try clear c33
                    try clear c33b0
                    try clear c36
                    try clear c37
                    try clear c50
                    try clear c52
                    try clear hcz54_0
                    try clear hcz54_1
                    try clear hfz54_0
                    try clear hfz54_1
                    try clear hx324_0
                    try clear p324
                    try clear q324
                    obtain ⟨kq, x102_37, rfl, HA, HJ37, HO_10, HO_14, HO_18, BK306, HB⟩ := hcut
                    cases kq with
                    | zero => exact absurd HA.out (by simp [observatorylaw23_MeritVariables.j3])
                    | succ kj37 =>
                     have H := HA.out
                     clear HA
                     simp only [observatorylaw23_MeritVariables.j3] at H
                     have HC56 := Aside0.mk H
                     clear H
                     go_upto_if 102 with (fail)
                     go_cut [14] (fun v14 wc => ∃ (kq : Nat) (x14_55 : List (S36)), Aside0 (observatorylaw23_MeritVariables.j4 kq l0 l1 a3 t307 t311 t315 t316 x14_55 = some r) ∧ Aside0 (kq ≤ kj37) ∧ Aside0 (Kd.R Kd.string 9 wc w.heap.size (fun _ => True) (.slice Ao39 t311.length co39) t311) ∧ Aside0 (Kd.R k36 36 wc w.heap.size (fun k_ => k_ ≠ gb306) v14 x14_55) ∧ Aside0 (wc.heap[gb306]? = some (.cells #[.string a2_0, .int .i64 a2_1] 36 (0, 0))) ∧ Aside0 (Below w.heap.size w wc))
                     case first =>
                      have H := HC56.out
                      clear HC56
                      by_cases c57 : x102_37 = true
                      · subst c57
                        have H1 : (observatorylaw23_MeritVariables.j4 kj37 l0 l1 a3 t307 t311 t315 t316 y334) = some r := by rw [if_pos rfl] at H; exact H
                        clear H
                        have H := H1
                        clear H1
                        have H' := Aside0.mk H
                        clear H
                        go_wp2
                        go_meet
                        case rel => exact ⟨_, (y334), H', ⟨by have := HJ5.out; have := HK2.out; have := HK3.out; have := HJ37.out; first | omega | exact Nat.le_refl _⟩, ⟨by (with_reducible repeat (first | apply Kd.R_alloc | apply Kd.R_drewN | apply Kd.R_drew)); exact HO_10.out⟩, ⟨by (with_reducible repeat (first | apply Kd.R_alloc | apply Kd.R_drewN | apply Kd.R_drew)); exact Kd.R_mono HO_18.out (fun _ hk => hk.2)⟩, ⟨by (with_reducible repeat (first | refine blk_drewN ?_ _ | refine blk_drew ?_ | refine blk_alloc ?_ _)); exact BK306.out⟩, ⟨by repeat (first | (with_reducible first | exact HB.out | apply below_alloc | apply pw_below_drewN | apply below_drew1 | refine below_set ?_ GE306.out) | exact HB.out)⟩⟩
                      · replace c57 := Bool.eq_false_iff.mpr c57
                        subst c57
                        have H1 : (observatorylaw23_MeritVariables.j4 kj37 l0 l1 a3 t307 t311 t315 t316 x14_2) = some r := by rw [if_neg (show ¬ (false = true) by decide)] at H; exact H
                        clear H
                        have H := H1
                        clear H1
                        have H' := Aside0.mk H
                        clear H
                        go_wp2
                        go_meet
                        case rel => exact ⟨_, (x14_2), H', ⟨by have := HJ5.out; have := HK2.out; have := HK3.out; have := HJ37.out; first | omega | exact Nat.le_refl _⟩, ⟨by (with_reducible repeat (first | apply Kd.R_alloc | apply Kd.R_drewN | apply Kd.R_drew)); exact HO_10.out⟩, ⟨by (with_reducible repeat (first | apply Kd.R_alloc | apply Kd.R_drewN | apply Kd.R_drew)); exact Kd.R_mono HO_14.out (fun _ hk => hk.2)⟩, ⟨by (with_reducible repeat (first | refine blk_drewN ?_ _ | refine blk_drew ?_ | refine blk_alloc ?_ _)); exact BK306.out⟩, ⟨by repeat (first | (with_reducible first | exact HB.out | apply below_alloc | apply pw_below_drewN | apply below_drew1 | refine below_set ?_ GE306.out) | exact HB.out)⟩⟩
                     case rest =>
                      clear HC56
                      try clear c2
                      try clear p2
                      try clear c3
                      try clear p3
                      try clear q3
                      try clear hx3
                      try clear c5
                      try clear p6
                      try clear c29
                      try clear c29b0
                      try clear c30
                      try clear p32
                      try clear q32
                      try clear hx32
                      try clear c33
                      try clear c33b0
                      try clear c36
                      try clear c37
                      try clear c50
                      try clear c52
                      try clear c57
                      try clear hcz54_0
                      try clear hcz54_1
                      try clear hfz54_0
                      try clear hfz54_1
                      try clear hx324_0
                      try clear p2
                      try clear p3
                      try clear p32
                      try clear p324
                      try clear p6
                      try clear q3
                      try clear q32
                      try clear q324
                      obtain ⟨kq, x14_55, HA, HJ55, HO_10, HO_14, BK306, HB⟩ := hcut
                      cases kq with
                      | zero => exact absurd HA.out (by simp [observatorylaw23_MeritVariables.j4])
                      | succ kj55 =>
                       have H := HA.out
                       clear HA
                       simp only [observatorylaw23_MeritVariables.j4] at H
                       replace H := Option.bind_eq_some_iff.mp H
                       obtain ⟨⟨t338, t339⟩, A580, H⟩ := H
                       replace H : (if t338 = t315 then (observatorylaw23_MeritVariables.j5 kj55 l0 l1 a3 t307 t311 (t339 != t316)) else (observatorylaw23_MeritVariables.j5 kj55 l0 l1 a3 t307 t311 true)) = some r := H
                       have A58 := Aside0.mk A580
                       clear A580
                       have HC59 := Aside0.mk H
                       clear H
                       obtain ⟨Ao60, co60, eo60⟩ := Kd.R_slice HO_14.out
                       subst eo60
                       go_upto_region 22 with (first | ((with_reducible refine gate_callee (f := 8) rfl ?_); refine goesL_ (some 107) rfl rfl Tryz.func8 (by kernel_rfl) rfl #[.slice A0 l0.length c0, .slice Ao60 x14_55.length co60] rfl (by (try simp only [List.map_toArray, List.map_cons, List.map_nil]); first | done | rfl | (simp only [List.length_drop, List.length_take]; rfl)) ?_; (with_reducible refine (merit_Eval.calls _ _ l0 _ _ x14_55 t338 t339 _ ?side1 ?side2 ?side3 ?side4 A58.out).mono ?_); (case side1 => repeat (first | exact (Kd.C_below HR0.out HB.out) | (with_reducible refine Kd.C_alloc ?_ _) | (with_reducible refine Kd.C_drewN ?_ _) | (with_reducible refine Kd.C_drew ?_))); (case side2 => exact HC0.out); (case side3 => repeat (first | exact (Kd.R_reads' HO_14.out).2.2 | (with_reducible refine Kd.C_alloc ?_ _) | (with_reducible refine Kd.C_drewN ?_ _) | (with_reducible refine Kd.C_drew ?_))); (case side4 => exact (Kd.R_reads' HO_14.out).2.1); rintro e w61 ⟨rfl, hb⟩; refine ⟨_, rfl, ?_⟩; have n0_ := Aside0.mk (Kd.R_below (by (with_reducible repeat (first | apply Kd.R_alloc | apply Kd.R_drewN | apply Kd.R_drew)); exact HO_10.out) hb); have n1_ := Aside0.mk (Kd.R_below (by (with_reducible repeat (first | apply Kd.R_alloc | apply Kd.R_drewN | apply Kd.R_drew)); exact HO_14.out) hb); have n2_ := Aside0.mk (blk_below (g := gb306) (o := .cells #[.string a2_0, .int .i64 a2_1] 36 (0, 0)) (by (with_reducible repeat (first | refine blk_drewN ?_ _ | refine blk_drew ?_ | refine blk_alloc ?_ _)); exact BK306.out) hb); have n3_ := Aside0.mk (below_step (by repeat (first | (with_reducible first | exact HB.out | apply below_alloc | apply pw_below_drewN | apply below_drew1 | refine below_set ?_ GE306.out) | exact HB.out)) hb); clear HO_10; clear HO_14; clear BK306; clear HB; have HO_10 := n0_; have HO_14 := n1_; have BK306 := n2_; have HB := n3_; clear n0_ n1_ n2_ n3_; (try clear hb); (try clear hb2); (try clear hk); (try clear hi)))
                       (try simp only [Act.put, List.setIfInBounds_toArray, List.set_cons_zero, List.set_cons_succ])
                       go_cut [117] (fun v117 wc => ∃ (kq : Nat) (x117_58 : Bool), v117 = .bool x117_58 ∧ Aside0 (observatorylaw23_MeritVariables.j5 kq l0 l1 a3 t307 t311 x117_58 = some r) ∧ Aside0 (kq ≤ kj55) ∧ Aside0 (Kd.R Kd.string 9 wc w.heap.size (fun _ => True) (.slice Ao39 t311.length co39) t311) ∧ Aside0 (wc.heap[gb306]? = some (.cells #[.string a2_0, .int .i64 a2_1] 36 (0, 0))) ∧ Aside0 (Below w.heap.size w wc))
                       case first =>
                        have H := HC59.out
                        clear HC59
                        by_cases c62 : t338 = t315
                        · rw [if_pos c62] at H
                          have c62b0 : (t338 == t315) = true := beq_iff_eq.mpr c62
                          have c62b1 : (t338 != t315) = false := bne_eq_false_iff_eq.mpr c62
                          clear c62
                          (first | rw [c62b0] | (simp only [i64_w, i32_w]; rw [c62b0]) | skip)
                          have H' := Aside0.mk H
                          clear H
                          go_wp2
                          go_meet
                          case rel => exact ⟨_, ((t339 != t316)), (by first | rfl | (simp; done) | (simp [*]; done)), H', ⟨by have := HJ5.out; have := HK2.out; have := HK3.out; have := HJ37.out; have := HJ55.out; first | omega | exact Nat.le_refl _⟩, ⟨by (with_reducible repeat (first | apply Kd.R_alloc | apply Kd.R_drewN | apply Kd.R_drew)); exact HO_10.out⟩, ⟨by (with_reducible repeat (first | refine blk_drewN ?_ _ | refine blk_drew ?_ | refine blk_alloc ?_ _)); exact BK306.out⟩, ⟨by repeat (first | (with_reducible first | exact HB.out | apply below_alloc | apply pw_below_drewN | apply below_drew1 | refine below_set ?_ GE306.out) | exact HB.out)⟩⟩
                        · rw [if_neg c62] at H
                          have c62b0 : (t338 == t315) = false := beq_eq_false_iff_ne.mpr c62
                          have c62b1 : (t338 != t315) = true := bne_iff_ne.mpr c62
                          (first | rw [c62b0] | (simp only [i64_w, i32_w]; rw [c62b0]) | skip)
                          have H' := Aside0.mk H
                          clear H
                          go_wp2
                          go_meet
                          case rel => exact ⟨_, (true), (by first | rfl | (simp; done) | (simp [*]; done)), H', ⟨by have := HJ5.out; have := HK2.out; have := HK3.out; have := HJ37.out; have := HJ55.out; first | omega | exact Nat.le_refl _⟩, ⟨by (with_reducible repeat (first | apply Kd.R_alloc | apply Kd.R_drewN | apply Kd.R_drew)); exact HO_10.out⟩, ⟨by (with_reducible repeat (first | refine blk_drewN ?_ _ | refine blk_drew ?_ | refine blk_alloc ?_ _)); exact BK306.out⟩, ⟨by repeat (first | (with_reducible first | exact HB.out | apply below_alloc | apply pw_below_drewN | apply below_drew1 | refine below_set ?_ GE306.out) | exact HB.out)⟩⟩
                       case rest =>
                        clear HC59
                        try clear c2
                        try clear p2
                        try clear c3
                        try clear p3
                        try clear q3
                        try clear hx3
                        try clear c5
                        try clear c6
                        try clear p6
                        try clear c8
                        try clear c29
                        try clear c29b0
                        try clear c30
                        try clear p32
                        try clear q32
                        try clear hx32
                        try clear c33
                        try clear c33b0
                        try clear c36
                        try clear c37
                        try clear c50
                        try clear c52
                        try clear c57
                        try clear c62
                        try clear c62b0
                        try clear c62b1
                        try clear hcz54_0
                        try clear hcz54_1
                        try clear hfz54_0
                        try clear hfz54_1
                        try clear hx324_0
                        try clear p2
                        try clear p3
                        try clear p32
                        try clear p324
                        try clear p6
                        try clear q3
                        try clear q32
                        try clear q324
                        obtain ⟨kq, x117_58, rfl, HA, HJ58, HO_10, BK306, HB⟩ := hcut
                        cases kq with
                        | zero => exact absurd HA.out (by simp [observatorylaw23_MeritVariables.j5])
                        | succ kj58 =>
                         have H := HA.out
                         clear HA
                         simp only [observatorylaw23_MeritVariables.j5] at H
                         by_cases c63 : x117_58 = true
                         · subst c63
                           have H1 : (some false) = some r := by rw [if_pos rfl] at H; exact H
                           clear H
                           have H := H1
                           clear H1
                           obtain rfl := Option.some.inj H
                           go_wp2
                           go_ret
                           exact ⟨by first | rfl | (simp [errW_none, errW_some] <;> rfl) | (simp [*, errW_none, errW_some] <;> rfl), by repeat (first | (with_reducible first | exact HB.out | apply below_alloc | apply pw_below_drewN | apply below_drew1 | refine below_set ?_ GE306.out) | exact HB.out)⟩
                         · replace c63 := Bool.eq_false_iff.mpr c63
                           subst c63
                           have H1 : (if (t311.length : Int) = 0 then (some t307) else (observatorylaw23_MeritVariables.l2 kj58 l0 l1 t307 t311 (Int.tmod (wrap64 (a3)) (t311.length : Int)) ([] : List (S36)) 0)) = some r := by rw [if_neg (show ¬ (false = true) by decide)] at H; exact H
                           clear H
                           have H := H1
                           clear H1
                           by_cases c64 : (t311.length : Int) = 0
                           · rw [if_pos c64] at H
                             have c64b0 : ((t311.length : Int) == 0) = true := beq_iff_eq.mpr c64
                             have c64b1 : ((t311.length : Int) != 0) = false := bne_eq_false_iff_eq.mpr c64
                             clear c64
                             obtain rfl := Option.some.inj H
                             go_wp2
                             go_ret
                             exact ⟨by first | rfl | (simp [errW_none, errW_some] <;> rfl) | (simp [*, errW_none, errW_some] <;> rfl), by repeat (first | (with_reducible first | exact HB.out | apply below_alloc | apply pw_below_drewN | apply below_drew1 | refine below_set ?_ GE306.out) | exact HB.out)⟩
                           · rw [if_neg c64] at H
                             have c64b0 : ((t311.length : Int) == 0) = false := beq_eq_false_iff_ne.mpr c64
                             have c64b1 : ((t311.length : Int) != 0) = true := bne_iff_ne.mpr c64
                             have c64b2 : ¬ (t311 = []) := fun h_ => c64 (by rw [h_]; rfl)
                             have H' := Aside0.mk H
                             clear H
                             go_wp2
                             go_loopg [22, 23] kj58 (fun kq v22 v23 w' => ∃ (x22_7 : List (S36)) (x23_7 : Int), v23 = .int .i64 x23_7 ∧ Aside0 (observatorylaw23_MeritVariables.l2 kq l0 l1 t307 t311 (Int.tmod (wrap64 (a3)) (t311.length : Int)) x22_7 x23_7 = some r) ∧ Aside0 (kq ≤ kj58) ∧ Aside0 (Kd.R Kd.string 9 w' w.heap.size (fun _ => True) (.slice Ao39 t311.length co39) t311) ∧ Aside0 (Kd.R k36 36 w' w.heap.size (fun k_ => k_ ≠ gb306) v22 x22_7) ∧ Aside0 (w'.heap[gb306]? = some (.cells #[.string a2_0, .int .i64 a2_1] 36 (0, 0))) ∧ Aside0 (Below w.heap.size w w'))
                             case atStart => exact ⟨(([] : List (S36))), (0), (by first | rfl | (simp; done) | (simp [*]; done)), H', ⟨Nat.le_refl _⟩, ⟨by (with_reducible repeat (first | apply Kd.R_alloc | apply Kd.R_drewN | apply Kd.R_drew)); exact HO_10.out⟩, ⟨by first | exact Kd.R_nil _ _ _ _ _ | exact Kd.N_nil _ _ _ _ _ | exact Kd.V_nil _ _ _ _ _ | exact Kd.Q_nil _ _ _ _ _ | exact Kd.S_nil _ _ _ _ _⟩, ⟨by (with_reducible repeat (first | refine blk_drewN ?_ _ | refine blk_drew ?_ | refine blk_alloc ?_ _)); exact BK306.out⟩, ⟨by repeat (first | (with_reducible first | exact HB.out | apply below_alloc | apply pw_below_drewN | apply below_drew1 | refine below_set ?_ GE306.out) | exact HB.out)⟩⟩
                             case round =>
                              clear H'
                              try clear c2
                              try clear p2
                              try clear c3
                              try clear p3
                              try clear q3
                              try clear hx3
                              try clear c5
                              try clear c6
                              try clear p6
                              try clear c8
                              try clear c29
                              try clear c29b0
                              try clear c30
                              try clear p32
                              try clear q32
                              try clear hx32
                              try clear c33
                              try clear c33b0
                              try clear c36
                              try clear c37
                              try clear c50
                              try clear c52
                              try clear c57
                              try clear c62
                              try clear c62b0
                              try clear c62b1
                              try clear c63
                              try clear c64
                              try clear c64b0
                              try clear c64b1
                              try clear c64b2
                              try clear p64
                              try clear hcz54_0
                              try clear hcz54_1
                              try clear hfz54_0
                              try clear hfz54_1
                              try clear hx324_0
                              try clear p2
                              try clear p3
                              try clear p32
                              try clear p324
                              try clear p6
                              try clear q3
                              try clear q32
                              try clear q324
                              obtain ⟨x22_7, x23_7, rfl, HA, HK7, HO_10, HO_22, BK306, HB⟩ := hrel
                              cases gk with
                              | zero => exact absurd HA.out (by simp [observatorylaw23_MeritVariables.l2])
                              | succ k7 =>
                               have H := HA.out
                               clear HA
                               simp only [observatorylaw23_MeritVariables.l2] at H
                               by_cases c65 : x23_7 < (l1.length : Int)
                               · rw [if_pos c65] at H
                                 have c65b0 : decide (x23_7 < (l1.length : Int)) = true := decide_eq_true c65
                                 clear c65
                                 by_cases c66 : 0 ≤ x23_7
                                 · rw [if_pos c66] at H
                                   have c66b0 : decide (0 ≤ x23_7) = true := decide_eq_true c66
                                   clear c66
                                   obtain ⟨ji67, hji67⟩ : ∃ j_ : Int, (Int.tmod (wrap64 (a3)) (t311.length : Int)) = j_ := ⟨_, rfl⟩
                                   replace H : (if 0 ≤ (ji67) then (if (ji67) < (t311.length : Int) then (if ((rd_T36 l1 x23_7).f0).toList = (rdOf ByteArray.empty t311 (ji67)).toList then (observatorylaw23_MeritVariables.l2 k7 l0 l1 t307 t311 (ji67) x22_7 (wrap64 (x23_7 + 1))) else ((some (([(⟨(rd_T36 l1 x23_7).f0, (rd_T36 l1 x23_7).f1⟩ : S36)] : List (S36)) : List (S36))).bind fun y343 => (if x22_7.length + y343.length < 5864062014805 then (observatorylaw23_MeritVariables.l2 k7 l0 l1 t307 t311 (ji67) (x22_7 ++ y343) (wrap64 (x23_7 + 1))) else (none)))) else (none)) else (none)) = some r := by first | (rw [hji67] at H; exact H) | (simp only [hji67] at H ⊢; exact H)
                                   by_cases c68 : 0 ≤ (ji67)
                                   · rw [if_pos c68] at H
                                     have c68b0 : decide (0 ≤ (ji67)) = true := decide_eq_true c68
                                     clear c68
                                     by_cases c69 : (ji67) < (t311.length : Int)
                                     · rw [if_pos c69] at H
                                       have c69b0 : decide ((ji67) < (t311.length : Int)) = true := decide_eq_true c69
                                       clear c69
                                       by_cases c70 : ((rd_T36 l1 x23_7).f0).toList = (rdOf ByteArray.empty t311 (ji67)).toList
                                       · rw [if_pos c70] at H
                                         have c70b0 : (((rd_T36 l1 x23_7).f0).toList == (rdOf ByteArray.empty t311 (ji67)).toList) = true := beq_iff_eq.mpr c70
                                         have c70b1 : (((rd_T36 l1 x23_7).f0).toList != (rdOf ByteArray.empty t311 (ji67)).toList) = false := bne_eq_false_iff_eq.mpr c70
                                         clear c70
                                         have H' := Aside0.mk H
                                         clear H
                                         try go_wp2
                                         have n0_ := Aside0.mk (Kd.R_drew HO_10.out)
                                         have n1_ := Aside0.mk (Kd.R_drew HO_22.out)
                                         have n2_ := Aside0.mk (blk_drew BK306.out)
                                         have n3_ := Aside0.mk (below_drew1 HB.out)
                                         clear HO_10
                                         clear HO_22
                                         clear BK306
                                         clear HB
                                         have HO_10 := n0_
                                         have HO_22 := n1_
                                         have BK306 := n2_
                                         have HB := n3_
                                         clear n0_ n1_ n2_ n3_
                                         have p340 : 0 ≤ (x23_7 : Int) := of_decide_eq_true (by first | (with_reducible assumption) | assumption)
                                         have q340 : x23_7 < (l1.length : Int) := of_decide_eq_true (by first | (with_reducible assumption) | assumption)
                                         obtain ⟨ad340, e340, hx340_0, hx340_1⟩ := at_T36 HR1.out x23_7 p340 q340
                                         have hw340_1 := hx340_1
                                         have hw340_0 := hx340_0
                                         cases e340
                                         replace hx340_0 := (HB.out.cell (World.block_lt_of_cell? w _ hx340_0)).trans hx340_0
                                         replace hx340_1 := (HB.out.cell (World.block_lt_of_cell? w _ hx340_1)).trans hx340_1
                                         replace p340 := eq_true p340
                                         replace q340 := eq_true q340
                                         have p341 : 0 ≤ ((ji67) : Int) := of_decide_eq_true (by first | (with_reducible assumption) | assumption)
                                         have q341 : (ji67) < (t311.length : Int) := of_decide_eq_true (by first | (with_reducible assumption) | assumption)
                                         obtain ⟨ad341, e341, hx341_0⟩ := Kd.at_string (Kd.R_reads' HO_10.out).2.2 (ji67) p341 q341
                                         cases e341
                                         replace p341 := eq_true p341
                                         replace q341 := eq_true q341
                                         refine start_ (n := 10) (S := fun w' => w'.cell? (ad340.add ((x23_7).toNat * 2)) = some (.string ((rd_T36 l1 x23_7).f0)) ∧ w'.cell? ⟨(ad340.add ((x23_7).toNat * 2)).block, (ad340.add ((x23_7).toNat * 2)).off + 1, none⟩ = some (.int .i64 ((rd_T36 l1 x23_7).f1)) ∧ w'.cell? (ad341.add ((ji67)).toNat) = some (.string (rdOf ByteArray.empty t311 (ji67)))) (ds := []) #[false, false, false, false, false, false, false, false, false, false] (by kernel_rfl) rfl rfl ⟨((HB.out.cell (World.block_lt_of_cell? w _ hw340_0)).trans hw340_0), ((HB.out.cell (World.block_lt_of_cell? w _ hw340_1)).trans hw340_1), hx341_0⟩ (fun hHeld => ?_); refine with_tabW observatorylaw23_MeritVariables.tab31 observatorylaw23_MeritVariables.bits31 (fun HT_ HW_ => ?_)
                                         generalize wr.drew = w71 at HO_10 HO_22 BK306 HB hx340_0 hx340_1 hx341_0 hHeld ⊢
                                         refine pure_ (i := 0) (N := some 133) (v := ?_) (a' := ?_) #[true, false, false, false, false, false, false, false, false, false] rfl rfl (any_of HT_.out (by kernel_rfl)) (fun _ _ _ h => h) (Or.inl ⟨by rfl, ?_⟩) ?_ ?_
                                         rotate_left
                                         · intro w'
                                           go_simp
                                           with_reducible rfl
                                         rotate_left
                                         · simp only [Act.put, List.setIfInBounds_toArray, List.set_cons_zero, List.set_cons_succ, i64_w, i32_w]
                                           rfl
                                         refine pure_ (i := 1) (N := some 134) (v := ?_) (a' := ?_) #[true, true, false, false, false, false, false, false, false, false] rfl rfl (any_of HT_.out (by kernel_rfl)) (fun _ _ _ h => h) (Or.inl ⟨by rfl, ?_⟩) ?_ ?_
                                         rotate_left
                                         · intro w'
                                           go_simp
                                           with_reducible rfl
                                         rotate_left
                                         · simp only [Act.put, List.setIfInBounds_toArray, List.set_cons_zero, List.set_cons_succ, i64_w, i32_w]
                                           rfl
                                         refine pure_ (i := 2) (N := some 135) (v := ?_) (a' := ?_) #[true, true, true, false, false, false, false, false, false, false] rfl rfl (any_of HT_.out (by kernel_rfl)) (fun _ _ _ h => h) (Or.inl ⟨by rfl, ?_⟩) ?_ ?_
                                         rotate_left
                                         · intro w'
                                           go_simp
                                           with_reducible rfl
                                         rotate_left
                                         · simp only [Act.put, List.setIfInBounds_toArray, List.set_cons_zero, List.set_cons_succ, i64_w, i32_w]
                                           rfl
                                         refine pure_ (i := 3) (N := some 136) (v := ?_) (a' := ?_) #[true, true, true, true, false, false, false, false, false, false] rfl rfl (any_of HT_.out (by kernel_rfl)) (fun _ _ _ h => h) (Or.inl ⟨by rfl, ?_⟩) ?_ ?_
                                         rotate_left
                                         · intro w'
                                           go_simp
                                           with_reducible rfl
                                         rotate_left
                                         · simp only [Act.put, List.setIfInBounds_toArray, List.set_cons_zero, List.set_cons_succ, i64_w, i32_w]
                                           rfl
                                         refine pure_ (i := 5) (N := some 138) (v := ?_) (a' := ?_) #[true, true, true, true, false, true, false, false, false, false] rfl rfl (any_of HT_.out (by kernel_rfl)) (fun _ _ _ h => h) (Or.inl ⟨by rfl, ?_⟩) ?_ ?_
                                         rotate_left
                                         · intro w'
                                           go_simp
                                           with_reducible rfl
                                         rotate_left
                                         · simp only [Act.put, List.setIfInBounds_toArray, List.set_cons_zero, List.set_cons_succ, i64_w, i32_w]
                                           rfl
                                         refine pure_ (i := 6) (N := some 139) (v := ?_) (a' := ?_) #[true, true, true, true, false, true, true, false, false, false] rfl rfl (any_of HT_.out (by kernel_rfl)) (fun _ _ _ h => h) (Or.inl ⟨by rfl, ?_⟩) ?_ ?_
                                         rotate_left
                                         · intro w'
                                           go_simp
                                           with_reducible rfl
                                         rotate_left
                                         · simp only [Act.put, List.setIfInBounds_toArray, List.set_cons_zero, List.set_cons_succ, i64_w, i32_w]
                                           rfl
                                         refine pure_ (i := 7) (N := some 140) (v := ?_) (a' := ?_) #[true, true, true, true, false, true, true, true, false, false] rfl rfl (any_of HT_.out (by kernel_rfl)) (fun _ _ _ h => h) (Or.inl ⟨by rfl, ?_⟩) ?_ ?_
                                         rotate_left
                                         · intro w'
                                           go_simp
                                           with_reducible rfl
                                         rotate_left
                                         · simp only [Act.put, List.setIfInBounds_toArray, List.set_cons_zero, List.set_cons_succ, i64_w, i32_w]
                                           rfl
                                         refine take_ (i := 4) (N := some 137) (v := ?_) (a' := ?_) #[true, true, true, true, true, true, true, true, false, false] rfl rfl (take_ofW HT_.out HW_.out (by kernel_rfl)) (fun _ _ _ h => h) (Or.inl ⟨by rfl, ?_⟩) hHeld ?_ ?_
                                         rotate_left
                                         · rintro w' ⟨s0, s1, s2⟩
                                           go_simp
                                           with_reducible rfl
                                         rotate_left
                                         · simp only [Act.put, List.setIfInBounds_toArray, List.set_cons_zero, List.set_cons_succ, i64_w, i32_w]
                                           rfl
                                         refine take_ (i := 8) (N := some 141) (v := ?_) (a' := ?_) #[true, true, true, true, true, true, true, true, true, false] rfl rfl (take_ofW HT_.out HW_.out (by kernel_rfl)) (fun _ _ _ h => h) (Or.inl ⟨by rfl, ?_⟩) hHeld ?_ ?_
                                         rotate_left
                                         · rintro w' ⟨s0, s1, s2⟩
                                           go_simp
                                           with_reducible rfl
                                         rotate_left
                                         · simp only [Act.put, List.setIfInBounds_toArray, List.set_cons_zero, List.set_cons_succ, i64_w, i32_w]
                                           rfl
                                         refine pure_ (i := 9) (N := some 142) (v := ?_) (a' := ?_) #[true, true, true, true, true, true, true, true, true, true] rfl rfl (any_of HT_.out (by kernel_rfl)) (fun _ _ _ h => h) (Or.inl ⟨by rfl, ?_⟩) ?_ ?_
                                         rotate_left
                                         · intro w'
                                           go_simp
                                           with_reducible rfl
                                         rotate_left
                                         · simp only [Act.put, List.setIfInBounds_toArray, List.set_cons_zero, List.set_cons_succ, i64_w, i32_w]
                                           rfl
                                         refine done_ (done_of HT_.out (by kernel_rfl)) ?_
                                         try go_wp2
                                         try subst hji67
                                         go_roundg k7
                                         case measure => have := HJ5.out; have := HK2.out; have := HK3.out; have := HJ37.out; have := HJ55.out; have := HJ58.out; have := HK7.out; omega
                                         case rel => exact ⟨(x22_7), (wrap64 (x23_7 + 1)), (by first | rfl | (simp; done) | (simp [*]; done)), H', ⟨by have := HJ5.out; have := HK2.out; have := HK3.out; have := HJ37.out; have := HJ55.out; have := HJ58.out; have := HK7.out; omega⟩, ⟨by (with_reducible repeat (first | apply Kd.R_alloc | apply Kd.R_drewN | apply Kd.R_drew)); exact HO_10.out⟩, ⟨by (with_reducible repeat (first | apply Kd.R_alloc | apply Kd.R_drewN | apply Kd.R_drew)); exact HO_22.out⟩, ⟨by (with_reducible repeat (first | refine blk_drewN ?_ _ | refine blk_drew ?_ | refine blk_alloc ?_ _)); exact BK306.out⟩, ⟨by repeat (first | (with_reducible first | exact HB.out | apply below_alloc | apply pw_below_drewN | apply below_drew1 | refine below_set ?_ GE306.out) | exact HB.out)⟩⟩
                                       · rw [if_neg c70] at H
                                         have c70b0 : (((rd_T36 l1 x23_7).f0).toList == (rdOf ByteArray.empty t311 (ji67)).toList) = false := beq_eq_false_iff_ne.mpr c70
                                         have c70b1 : (((rd_T36 l1 x23_7).f0).toList != (rdOf ByteArray.empty t311 (ji67)).toList) = true := bne_iff_ne.mpr c70
                                         obtain ⟨y343, hy343⟩ : ∃ y_ : List (S36), y_ = (([(⟨(rd_T36 l1 x23_7).f0, (rd_T36 l1 x23_7).f1⟩ : S36)] : List (S36))) := ⟨_, rfl⟩
                                         replace H : (if x22_7.length + y343.length < 5864062014805 then (observatorylaw23_MeritVariables.l2 k7 l0 l1 t307 t311 (ji67) (x22_7 ++ y343) (wrap64 (x23_7 + 1))) else (none)) = some r := by first | (rw [hy343]; with_reducible exact H) | (have H2_ := (Option.bind_some _ _).symm.trans H; rw [hy343]; with_reducible exact H2_) | (have H2_ := (Option.bind_some _ _).symm.trans H; with_reducible exact H2_) | with_reducible exact H | (rw [hy343]; exact H) | exact H
                                         have Ny343 := Aside0.mk hy343
                                         clear hy343
                                         by_cases c72 : x22_7.length + y343.length < 5864062014805
                                         · rw [if_pos c72] at H
                                           have LMc72 := Aside0.mk c72
                                           clear c72
                                           obtain ⟨y346, hy346⟩ : ∃ y_ : List (S36), y_ = (x22_7 ++ y343) := ⟨_, rfl⟩
                                           replace H : (observatorylaw23_MeritVariables.l2 k7 l0 l1 t307 t311 (ji67) y346 (wrap64 (x23_7 + 1))) = some r := by first | (rw [hy346]; with_reducible exact H) | (have H2_ := (Option.bind_some _ _).symm.trans H; rw [hy346]; with_reducible exact H2_) | (have H2_ := (Option.bind_some _ _).symm.trans H; with_reducible exact H2_) | with_reducible exact H | (rw [hy346]; exact H) | exact H
                                           have Ny346 := Aside0.mk hy346
                                           clear hy346
                                           have H' := Aside0.mk H
                                           clear H
                                           try go_wp2
                                           have n0_ := Aside0.mk (Kd.R_drew HO_10.out)
                                           have n1_ := Aside0.mk (Kd.R_drew HO_22.out)
                                           have n2_ := Aside0.mk (blk_drew BK306.out)
                                           have n3_ := Aside0.mk (below_drew1 HB.out)
                                           clear HO_10
                                           clear HO_22
                                           clear BK306
                                           clear HB
                                           have HO_10 := n0_
                                           have HO_22 := n1_
                                           have BK306 := n2_
                                           have HB := n3_
                                           clear n0_ n1_ n2_ n3_
                                           have p340 : 0 ≤ (x23_7 : Int) := of_decide_eq_true (by first | (with_reducible assumption) | assumption)
                                           have q340 : x23_7 < (l1.length : Int) := of_decide_eq_true (by first | (with_reducible assumption) | assumption)
                                           obtain ⟨ad340, e340, hx340_0, hx340_1⟩ := at_T36 HR1.out x23_7 p340 q340
                                           have hw340_1 := hx340_1
                                           have hw340_0 := hx340_0
                                           cases e340
                                           replace hx340_0 := (HB.out.cell (World.block_lt_of_cell? w _ hx340_0)).trans hx340_0
                                           replace hx340_1 := (HB.out.cell (World.block_lt_of_cell? w _ hx340_1)).trans hx340_1
                                           replace p340 := eq_true p340
                                           replace q340 := eq_true q340
                                           have p341 : 0 ≤ ((ji67) : Int) := of_decide_eq_true (by first | (with_reducible assumption) | assumption)
                                           have q341 : (ji67) < (t311.length : Int) := of_decide_eq_true (by first | (with_reducible assumption) | assumption)
                                           obtain ⟨ad341, e341, hx341_0⟩ := Kd.at_string (Kd.R_reads' HO_10.out).2.2 (ji67) p341 q341
                                           cases e341
                                           replace p341 := eq_true p341
                                           replace q341 := eq_true q341
                                           refine start_ (n := 10) (S := fun w' => w'.cell? (ad340.add ((x23_7).toNat * 2)) = some (.string ((rd_T36 l1 x23_7).f0)) ∧ w'.cell? ⟨(ad340.add ((x23_7).toNat * 2)).block, (ad340.add ((x23_7).toNat * 2)).off + 1, none⟩ = some (.int .i64 ((rd_T36 l1 x23_7).f1)) ∧ w'.cell? (ad341.add ((ji67)).toNat) = some (.string (rdOf ByteArray.empty t311 (ji67)))) (ds := []) #[false, false, false, false, false, false, false, false, false, false] (by kernel_rfl) rfl rfl ⟨((HB.out.cell (World.block_lt_of_cell? w _ hw340_0)).trans hw340_0), ((HB.out.cell (World.block_lt_of_cell? w _ hw340_1)).trans hw340_1), hx341_0⟩ (fun hHeld => ?_); refine with_tabW observatorylaw23_MeritVariables.tab31 observatorylaw23_MeritVariables.bits31 (fun HT_ HW_ => ?_)
                                           generalize wr.drew = w73 at HO_10 HO_22 BK306 HB hx340_0 hx340_1 hx341_0 hHeld ⊢
                                           refine pure_ (i := 0) (N := some 133) (v := ?_) (a' := ?_) #[true, false, false, false, false, false, false, false, false, false] rfl rfl (any_of HT_.out (by kernel_rfl)) (fun _ _ _ h => h) (Or.inl ⟨by rfl, ?_⟩) ?_ ?_
                                           rotate_left
                                           · intro w'
                                             go_simp
                                             with_reducible rfl
                                           rotate_left
                                           · simp only [Act.put, List.setIfInBounds_toArray, List.set_cons_zero, List.set_cons_succ, i64_w, i32_w]
                                             rfl
                                           refine pure_ (i := 1) (N := some 134) (v := ?_) (a' := ?_) #[true, true, false, false, false, false, false, false, false, false] rfl rfl (any_of HT_.out (by kernel_rfl)) (fun _ _ _ h => h) (Or.inl ⟨by rfl, ?_⟩) ?_ ?_
                                           rotate_left
                                           · intro w'
                                             go_simp
                                             with_reducible rfl
                                           rotate_left
                                           · simp only [Act.put, List.setIfInBounds_toArray, List.set_cons_zero, List.set_cons_succ, i64_w, i32_w]
                                             rfl
                                           refine pure_ (i := 2) (N := some 135) (v := ?_) (a' := ?_) #[true, true, true, false, false, false, false, false, false, false] rfl rfl (any_of HT_.out (by kernel_rfl)) (fun _ _ _ h => h) (Or.inl ⟨by rfl, ?_⟩) ?_ ?_
                                           rotate_left
                                           · intro w'
                                             go_simp
                                             with_reducible rfl
                                           rotate_left
                                           · simp only [Act.put, List.setIfInBounds_toArray, List.set_cons_zero, List.set_cons_succ, i64_w, i32_w]
                                             rfl
                                           refine pure_ (i := 3) (N := some 136) (v := ?_) (a' := ?_) #[true, true, true, true, false, false, false, false, false, false] rfl rfl (any_of HT_.out (by kernel_rfl)) (fun _ _ _ h => h) (Or.inl ⟨by rfl, ?_⟩) ?_ ?_
                                           rotate_left
                                           · intro w'
                                             go_simp
                                             with_reducible rfl
                                           rotate_left
                                           · simp only [Act.put, List.setIfInBounds_toArray, List.set_cons_zero, List.set_cons_succ, i64_w, i32_w]
                                             rfl
                                           refine pure_ (i := 5) (N := some 138) (v := ?_) (a' := ?_) #[true, true, true, true, false, true, false, false, false, false] rfl rfl (any_of HT_.out (by kernel_rfl)) (fun _ _ _ h => h) (Or.inl ⟨by rfl, ?_⟩) ?_ ?_
                                           rotate_left
                                           · intro w'
                                             go_simp
                                             with_reducible rfl
                                           rotate_left
                                           · simp only [Act.put, List.setIfInBounds_toArray, List.set_cons_zero, List.set_cons_succ, i64_w, i32_w]
                                             rfl
                                           refine pure_ (i := 6) (N := some 139) (v := ?_) (a' := ?_) #[true, true, true, true, false, true, true, false, false, false] rfl rfl (any_of HT_.out (by kernel_rfl)) (fun _ _ _ h => h) (Or.inl ⟨by rfl, ?_⟩) ?_ ?_
                                           rotate_left
                                           · intro w'
                                             go_simp
                                             with_reducible rfl
                                           rotate_left
                                           · simp only [Act.put, List.setIfInBounds_toArray, List.set_cons_zero, List.set_cons_succ, i64_w, i32_w]
                                             rfl
                                           refine pure_ (i := 7) (N := some 140) (v := ?_) (a' := ?_) #[true, true, true, true, false, true, true, true, false, false] rfl rfl (any_of HT_.out (by kernel_rfl)) (fun _ _ _ h => h) (Or.inl ⟨by rfl, ?_⟩) ?_ ?_
                                           rotate_left
                                           · intro w'
                                             go_simp
                                             with_reducible rfl
                                           rotate_left
                                           · simp only [Act.put, List.setIfInBounds_toArray, List.set_cons_zero, List.set_cons_succ, i64_w, i32_w]
                                             rfl
                                           refine take_ (i := 4) (N := some 137) (v := ?_) (a' := ?_) #[true, true, true, true, true, true, true, true, false, false] rfl rfl (take_ofW HT_.out HW_.out (by kernel_rfl)) (fun _ _ _ h => h) (Or.inl ⟨by rfl, ?_⟩) hHeld ?_ ?_
                                           rotate_left
                                           · rintro w' ⟨s0, s1, s2⟩
                                             go_simp
                                             with_reducible rfl
                                           rotate_left
                                           · simp only [Act.put, List.setIfInBounds_toArray, List.set_cons_zero, List.set_cons_succ, i64_w, i32_w]
                                             rfl
                                           refine take_ (i := 8) (N := some 141) (v := ?_) (a' := ?_) #[true, true, true, true, true, true, true, true, true, false] rfl rfl (take_ofW HT_.out HW_.out (by kernel_rfl)) (fun _ _ _ h => h) (Or.inl ⟨by rfl, ?_⟩) hHeld ?_ ?_
                                           rotate_left
                                           · rintro w' ⟨s0, s1, s2⟩
                                             go_simp
                                             with_reducible rfl
                                           rotate_left
                                           · simp only [Act.put, List.setIfInBounds_toArray, List.set_cons_zero, List.set_cons_succ, i64_w, i32_w]
                                             rfl
                                           refine pure_ (i := 9) (N := some 142) (v := ?_) (a' := ?_) #[true, true, true, true, true, true, true, true, true, true] rfl rfl (any_of HT_.out (by kernel_rfl)) (fun _ _ _ h => h) (Or.inl ⟨by rfl, ?_⟩) ?_ ?_
                                           rotate_left
                                           · intro w'
                                             go_simp
                                             with_reducible rfl
                                           rotate_left
                                           · simp only [Act.put, List.setIfInBounds_toArray, List.set_cons_zero, List.set_cons_succ, i64_w, i32_w]
                                             rfl
                                           refine done_ (done_of HT_.out (by kernel_rfl)) ?_
                                           have p342 : 0 ≤ (x23_7 : Int) := of_decide_eq_true (by first | (with_reducible assumption) | assumption)
                                           have q342 : x23_7 < (l1.length : Int) := of_decide_eq_true (by first | (with_reducible assumption) | assumption)
                                           obtain ⟨ad342, e342, hx342_0, hx342_1⟩ := at_T36 HR1.out x23_7 p342 q342
                                           obtain rfl : ad340 = ad342 := (by injection e342)
                                           replace hx342_0 := (HB.out.cell (World.block_lt_of_cell? w _ hx342_0)).trans hx342_0
                                           replace hx342_1 := (HB.out.cell (World.block_lt_of_cell? w _ hx342_1)).trans hx342_1
                                           replace p342 := eq_true p342
                                           replace q342 := eq_true q342
                                           try go_wp2_with (first | ((with_reducible refine gate_dst (N := 148) rfl ?_); (try (refine gate_guard (by rfl) ?_; dsimp only)); refine Kd.R_lit k36 _ 36 ?hg (N := 148) ?hd (xs := ([(⟨(rd_T36 l1 x23_7).f0, (rd_T36 l1 x23_7).f1⟩ : S36)] : List (S36))) (inner := [.string ((rd_T36 l1 x23_7).f0), .int .i64 ((rd_T36 l1 x23_7).f1)]) (ok := fun _ => True) (okp := fun _ => True) ?hr ?hp (fun _ hk => hk) trivial (Below.refl _ _) (Nat.le_refl _) (by simp) ?_; (case hd => rfl); (case hg => rfl); (case hr => first | (go_simp; done) | (go_simp; rfl)); (case hp => exact (Reps.c2 (show Kd.M k36 _ _ _ (⟨(rd_T36 l1 x23_7).f0, (rd_T36 l1 x23_7).f1⟩ : S36) [.string ((rd_T36 l1 x23_7).f0), .int .i64 ((rd_T36 l1 x23_7).f1)] from (k36_mkM _ _ _ (⟨(rd_T36 l1 x23_7).f0, (rd_T36 l1 x23_7).f1⟩ : S36) )) (Reps.none _ _))); intro v344 w74 ho75 hb hg_ hnew_; clear hg_ hnew_; (first | rw [← Ny343.out] at ho75 | (simp only [Int.reduceToNat] at ho75; rw [← Ny343.out] at ho75)); have n0_ := Aside0.mk (Kd.R_below (by (with_reducible repeat (first | apply Kd.R_alloc | apply Kd.R_drewN | apply Kd.R_drew)); exact HO_10.out) hb); have n1_ := Aside0.mk (Kd.R_elder' (by (with_reducible repeat (first | apply Kd.R_alloc | apply Kd.R_drewN | apply Kd.R_drew)); exact HO_22.out) (Kd.R_base ho75) hb); have n2_ := Aside0.mk (Kd.R_lower (Kd.R_newB (Kd.R_new' ho75 (Kd.R_lt (by (with_reducible repeat (first | apply Kd.R_alloc | apply Kd.R_drewN | apply Kd.R_drew)); exact HO_22.out))) (g := gb306) (o := .cells #[.string a2_0, .int .i64 a2_1] 36 (0, 0)) (by (with_reducible repeat (first | refine blk_drewN ?_ _ | refine blk_drew ?_ | refine blk_alloc ?_ _)); exact BK306.out)) (below_size (by repeat (first | (with_reducible first | exact HB.out | apply below_alloc | apply pw_below_drewN | apply below_drew1 | refine below_set ?_ GE306.out) | exact HB.out)))); have n3_ := Aside0.mk (blk_below (g := gb306) (o := .cells #[.string a2_0, .int .i64 a2_1] 36 (0, 0)) (by (with_reducible repeat (first | refine blk_drewN ?_ _ | refine blk_drew ?_ | refine blk_alloc ?_ _)); exact BK306.out) hb); have n4_ := Aside0.mk (below_step (by repeat (first | (with_reducible first | exact HB.out | apply below_alloc | apply pw_below_drewN | apply below_drew1 | refine below_set ?_ GE306.out) | exact HB.out)) hb); clear HO_10; clear HO_22; clear BK306; clear HB; have HO_10 := n0_; have HO_22 := n1_; have HO345 := n2_; have BK306 := n3_; have HB := n4_; clear n0_ n1_ n2_ n3_ n4_; clear hb ho75; obtain ⟨Ao77, co77, eo77⟩ := Kd.R_slice HO345.out; subst eo77) | ((with_reducible refine gate_builtin (b := .append) (xs := #[.tmp 143, .tmp 148]) rfl ?_); (try (refine gate_guard (by rfl) ?_; dsimp only)); at_builtin; refine Kd.R_append_rows k36 (w0 := w) w.heap.size rfl (.tmp 143) (.tmp 148) 24 36 (.agg #[(.string ⟨#[]⟩), (.int .i64 0)]) 24 rfl Tryz.underlying24 info36 rfl (by decide) (by omega) u22 x22_7 y343 _ _ _ (fun k_ => some k_ ≠ (.slice Ao77 y343.length co77 : Value).ownBlock ∧ k_ ≠ gb306) (fun _ => False) rfl rfl ?aO ?aR (fun _ _ h => h) (fun _ h => h.elim) ?aF ?aB ?aS ?aL ?_; (case aR => repeat (first | exact (Kd.R_reads' HO345.out).2.2 | (with_reducible refine Kd.C_alloc ?_ _) | (with_reducible refine Kd.C_drewN ?_ _) | (with_reducible refine Kd.C_drew ?_))); (case aB => exact (by repeat (first | (with_reducible first | exact HB.out | apply below_alloc | apply pw_below_drewN | apply below_drew1 | refine below_set ?_ GE306.out) | exact HB.out))); (case aF => exact (fun k_ hk => ⟨Kd.fresh' (Kd.R_lt (by (with_reducible repeat (first | apply Kd.R_alloc | apply Kd.R_drewN | apply Kd.R_drew)); exact HO345.out)) k_ hk, Kd.freshB (g := gb306) (o := .cells #[.string a2_0, .int .i64 a2_1] 36 (0, 0)) (by (with_reducible repeat (first | refine blk_drewN ?_ _ | refine blk_drew ?_ | refine blk_alloc ?_ _)); exact BK306.out) k_ hk⟩)); (case aO => exact (by (with_reducible repeat (first | apply Kd.R_alloc | apply Kd.R_drewN | apply Kd.R_drew)); exact Kd.R_mono HO_22.out (fun _ hk => ⟨hk.2, hk.1⟩))); (case aS => exact (below_size (by repeat (first | (with_reducible first | exact HB.out | apply below_alloc | apply pw_below_drewN | apply below_drew1 | refine below_set ?_ GE306.out) | exact HB.out)))); (case aL => have := LMc72.out; omega); intro v347 w76 ho hb hg hat; rw [← Ny346.out] at ho; have n0_ := Aside0.mk (Kd.R_over' (by (with_reducible repeat (first | apply Kd.R_alloc | apply Kd.R_drewN | apply Kd.R_drew)); exact HO_10.out) (Kd.R_typed (by (with_reducible repeat (first | apply Kd.R_alloc | apply Kd.R_drewN | apply Kd.R_drew)); exact HO_22.out)) (by decide) hg); have n1_ := Aside0.mk (blk_grown (g := gb306) (o := .cells #[.string a2_0, .int .i64 a2_1] 36 (0, 0)) (by (with_reducible repeat (first | refine blk_drewN ?_ _ | refine blk_drew ?_ | refine blk_alloc ?_ _)); exact BK306.out) hg (Kd.R_away HO_22.out (fun _ hk => hk.1))); have n2_ := Aside0.mk (Kd.R_after (ok := (fun k_ => k_ ≠ gb306)) (by (with_reducible repeat (first | apply Kd.R_alloc | apply Kd.R_drewN | apply Kd.R_drew)); exact Kd.R_mono HO345.out (fun _ hk => ⟨hk.2, hk.1.2⟩)) hg hat); have n3_ := Aside0.mk (hb); have n4_ := Aside0.mk (ho); clear HO_10; clear BK306; clear HO345; clear HB; clear HO_22; have HO_10 := n0_; have BK306 := n1_; have HO345 := n2_; have HB := n3_; have HO348 := n4_; clear n0_ n1_ n2_ n3_ n4_; clear ho hb hg hat))
                                           try subst hji67
                                           go_roundg k7
                                           case measure => have := HJ5.out; have := HK2.out; have := HK3.out; have := HJ37.out; have := HJ55.out; have := HJ58.out; have := HK7.out; omega
                                           case rel => exact ⟨(y346), (wrap64 (x23_7 + 1)), (by first | rfl | (simp; done) | (simp [*]; done)), H', ⟨by have := HJ5.out; have := HK2.out; have := HK3.out; have := HJ37.out; have := HJ55.out; have := HJ58.out; have := HK7.out; omega⟩, ⟨by (with_reducible repeat (first | apply Kd.R_alloc | apply Kd.R_drewN | apply Kd.R_drew)); exact HO_10.out⟩, ⟨by (with_reducible repeat (first | apply Kd.R_alloc | apply Kd.R_drewN | apply Kd.R_drew)); exact Kd.R_mono HO348.out (fun _ hk => hk.2)⟩, ⟨by (with_reducible repeat (first | refine blk_drewN ?_ _ | refine blk_drew ?_ | refine blk_alloc ?_ _)); exact BK306.out⟩, ⟨by repeat (first | (with_reducible first | exact HB.out | apply below_alloc | apply pw_below_drewN | apply below_drew1 | refine below_set ?_ GE306.out) | exact HB.out)⟩⟩
                                         · rw [if_neg c72] at H
                                           exact absurd H (by simp)
                                     · rw [if_neg c69] at H
                                       exact absurd H (by simp)
                                   · rw [if_neg c68] at H
                                     exact absurd H (by simp)
                                 · rw [if_neg c66] at H
                                   exact absurd H (by simp)
                               · rw [if_neg c65] at H
                                 have c65b0 : decide (x23_7 < (l1.length : Int)) = false := decide_eq_false c65
                                 clear c65
                                 replace H := Option.bind_eq_some_iff.mp H
                                 obtain ⟨⟨t349, t350⟩, A780, H⟩ := H
                                 replace H : (if t307 = true then (if t349 = 0 then (if t350 = 7 then (some true) else (some (t350 == 9))) else (some false)) else (some false)) = some r := H
                                 have A78 := Aside0.mk A780
                                 clear A780
                                 by_cases c79 : t307 = true
                                 · subst c79
                                   have H1 : (if t349 = 0 then (if t350 = 7 then (some true) else (some (t350 == 9))) else (some false)) = some r := by rw [if_pos rfl] at H; exact H
                                   clear H
                                   have H := H1
                                   clear H1
                                   by_cases c80 : t349 = 0
                                   · rw [if_pos c80] at H
                                     have c80b0 : (t349 == 0) = true := beq_iff_eq.mpr c80
                                     have c80b1 : (t349 != 0) = false := bne_eq_false_iff_eq.mpr c80
                                     clear c80
                                     by_cases c81 : t350 = 7
                                     · rw [if_pos c81] at H
                                       have c81b0 : (t350 == 7) = true := beq_iff_eq.mpr c81
                                       have c81b1 : (t350 != 7) = false := bne_eq_false_iff_eq.mpr c81
                                       clear c81
                                       obtain rfl := Option.some.inj H
                                       obtain ⟨Ao82, co82, eo82⟩ := Kd.R_slice HO_22.out
                                       subst eo82
                                       go_wp2_with (first | ((with_reducible refine gate_callee (f := 8) rfl ?_); refine goesL_ (some 153) rfl rfl Tryz.func8 (by kernel_rfl) rfl #[.slice A0 l0.length c0, .slice Ao82 x22_7.length co82] rfl (by (try simp only [List.map_toArray, List.map_cons, List.map_nil]); first | done | rfl | (simp only [List.length_drop, List.length_take]; rfl)) ?_; (with_reducible refine (merit_Eval.calls _ _ l0 _ _ x22_7 t349 t350 _ ?side1 ?side2 ?side3 ?side4 A78.out).mono ?_); (case side1 => repeat (first | exact (Kd.C_below HR0.out HB.out) | (with_reducible refine Kd.C_alloc ?_ _) | (with_reducible refine Kd.C_drewN ?_ _) | (with_reducible refine Kd.C_drew ?_))); (case side2 => exact HC0.out); (case side3 => repeat (first | exact (Kd.R_reads' HO_22.out).2.2 | (with_reducible refine Kd.C_alloc ?_ _) | (with_reducible refine Kd.C_drewN ?_ _) | (with_reducible refine Kd.C_drew ?_))); (case side4 => exact (Kd.R_reads' HO_22.out).2.1); rintro e w83 ⟨rfl, hb⟩; refine ⟨_, rfl, ?_⟩; have n0_ := Aside0.mk (Kd.R_below (by (with_reducible repeat (first | apply Kd.R_alloc | apply Kd.R_drewN | apply Kd.R_drew)); exact HO_10.out) hb); have n1_ := Aside0.mk (Kd.R_below (by (with_reducible repeat (first | apply Kd.R_alloc | apply Kd.R_drewN | apply Kd.R_drew)); exact HO_22.out) hb); have n2_ := Aside0.mk (blk_below (g := gb306) (o := .cells #[.string a2_0, .int .i64 a2_1] 36 (0, 0)) (by (with_reducible repeat (first | refine blk_drewN ?_ _ | refine blk_drew ?_ | refine blk_alloc ?_ _)); exact BK306.out) hb); have n3_ := Aside0.mk (below_step (by repeat (first | (with_reducible first | exact HB.out | apply below_alloc | apply pw_below_drewN | apply below_drew1 | refine below_set ?_ GE306.out) | exact HB.out)) hb); clear HO_10; clear HO_22; clear BK306; clear HB; have HO_10 := n0_; have HO_22 := n1_; have BK306 := n2_; have HB := n3_; clear n0_ n1_ n2_ n3_; (try clear hb); (try clear hb2); (try clear hk); (try clear hi)))
                                       go_ret
                                       exact ⟨by first | rfl | (simp [errW_none, errW_some] <;> rfl) | (simp [*, errW_none, errW_some] <;> rfl), by repeat (first | (with_reducible first | exact HB.out | apply below_alloc | apply pw_below_drewN | apply below_drew1 | refine below_set ?_ GE306.out) | exact HB.out)⟩
                                     · rw [if_neg c81] at H
                                       have c81b0 : (t350 == 7) = false := beq_eq_false_iff_ne.mpr c81
                                       have c81b1 : (t350 != 7) = true := bne_iff_ne.mpr c81
                                       obtain rfl := Option.some.inj H
                                       obtain ⟨Ao84, co84, eo84⟩ := Kd.R_slice HO_22.out
                                       subst eo84
                                       go_wp2_with (first | ((with_reducible refine gate_callee (f := 8) rfl ?_); refine goesL_ (some 153) rfl rfl Tryz.func8 (by kernel_rfl) rfl #[.slice A0 l0.length c0, .slice Ao84 x22_7.length co84] rfl (by (try simp only [List.map_toArray, List.map_cons, List.map_nil]); first | done | rfl | (simp only [List.length_drop, List.length_take]; rfl)) ?_; (with_reducible refine (merit_Eval.calls _ _ l0 _ _ x22_7 t349 t350 _ ?side1 ?side2 ?side3 ?side4 A78.out).mono ?_); (case side1 => repeat (first | exact (Kd.C_below HR0.out HB.out) | (with_reducible refine Kd.C_alloc ?_ _) | (with_reducible refine Kd.C_drewN ?_ _) | (with_reducible refine Kd.C_drew ?_))); (case side2 => exact HC0.out); (case side3 => repeat (first | exact (Kd.R_reads' HO_22.out).2.2 | (with_reducible refine Kd.C_alloc ?_ _) | (with_reducible refine Kd.C_drewN ?_ _) | (with_reducible refine Kd.C_drew ?_))); (case side4 => exact (Kd.R_reads' HO_22.out).2.1); rintro e w85 ⟨rfl, hb⟩; refine ⟨_, rfl, ?_⟩; have n0_ := Aside0.mk (Kd.R_below (by (with_reducible repeat (first | apply Kd.R_alloc | apply Kd.R_drewN | apply Kd.R_drew)); exact HO_10.out) hb); have n1_ := Aside0.mk (Kd.R_below (by (with_reducible repeat (first | apply Kd.R_alloc | apply Kd.R_drewN | apply Kd.R_drew)); exact HO_22.out) hb); have n2_ := Aside0.mk (blk_below (g := gb306) (o := .cells #[.string a2_0, .int .i64 a2_1] 36 (0, 0)) (by (with_reducible repeat (first | refine blk_drewN ?_ _ | refine blk_drew ?_ | refine blk_alloc ?_ _)); exact BK306.out) hb); have n3_ := Aside0.mk (below_step (by repeat (first | (with_reducible first | exact HB.out | apply below_alloc | apply pw_below_drewN | apply below_drew1 | refine below_set ?_ GE306.out) | exact HB.out)) hb); clear HO_10; clear HO_22; clear BK306; clear HB; have HO_10 := n0_; have HO_22 := n1_; have BK306 := n2_; have HB := n3_; clear n0_ n1_ n2_ n3_; (try clear hb); (try clear hb2); (try clear hk); (try clear hi)))
                                       go_ret
                                       exact ⟨by first | rfl | (simp [errW_none, errW_some] <;> rfl) | (simp [*, errW_none, errW_some] <;> rfl), by repeat (first | (with_reducible first | exact HB.out | apply below_alloc | apply pw_below_drewN | apply below_drew1 | refine below_set ?_ GE306.out) | exact HB.out)⟩
                                   · rw [if_neg c80] at H
                                     have c80b0 : (t349 == 0) = false := beq_eq_false_iff_ne.mpr c80
                                     have c80b1 : (t349 != 0) = true := bne_iff_ne.mpr c80
                                     obtain rfl := Option.some.inj H
                                     obtain ⟨Ao86, co86, eo86⟩ := Kd.R_slice HO_22.out
                                     subst eo86
                                     go_wp2_with (first | ((with_reducible refine gate_callee (f := 8) rfl ?_); refine goesL_ (some 153) rfl rfl Tryz.func8 (by kernel_rfl) rfl #[.slice A0 l0.length c0, .slice Ao86 x22_7.length co86] rfl (by (try simp only [List.map_toArray, List.map_cons, List.map_nil]); first | done | rfl | (simp only [List.length_drop, List.length_take]; rfl)) ?_; (with_reducible refine (merit_Eval.calls _ _ l0 _ _ x22_7 t349 t350 _ ?side1 ?side2 ?side3 ?side4 A78.out).mono ?_); (case side1 => repeat (first | exact (Kd.C_below HR0.out HB.out) | (with_reducible refine Kd.C_alloc ?_ _) | (with_reducible refine Kd.C_drewN ?_ _) | (with_reducible refine Kd.C_drew ?_))); (case side2 => exact HC0.out); (case side3 => repeat (first | exact (Kd.R_reads' HO_22.out).2.2 | (with_reducible refine Kd.C_alloc ?_ _) | (with_reducible refine Kd.C_drewN ?_ _) | (with_reducible refine Kd.C_drew ?_))); (case side4 => exact (Kd.R_reads' HO_22.out).2.1); rintro e w87 ⟨rfl, hb⟩; refine ⟨_, rfl, ?_⟩; have n0_ := Aside0.mk (Kd.R_below (by (with_reducible repeat (first | apply Kd.R_alloc | apply Kd.R_drewN | apply Kd.R_drew)); exact HO_10.out) hb); have n1_ := Aside0.mk (Kd.R_below (by (with_reducible repeat (first | apply Kd.R_alloc | apply Kd.R_drewN | apply Kd.R_drew)); exact HO_22.out) hb); have n2_ := Aside0.mk (blk_below (g := gb306) (o := .cells #[.string a2_0, .int .i64 a2_1] 36 (0, 0)) (by (with_reducible repeat (first | refine blk_drewN ?_ _ | refine blk_drew ?_ | refine blk_alloc ?_ _)); exact BK306.out) hb); have n3_ := Aside0.mk (below_step (by repeat (first | (with_reducible first | exact HB.out | apply below_alloc | apply pw_below_drewN | apply below_drew1 | refine below_set ?_ GE306.out) | exact HB.out)) hb); clear HO_10; clear HO_22; clear BK306; clear HB; have HO_10 := n0_; have HO_22 := n1_; have BK306 := n2_; have HB := n3_; clear n0_ n1_ n2_ n3_; (try clear hb); (try clear hb2); (try clear hk); (try clear hi)))
                                     go_ret
                                     exact ⟨by first | rfl | (simp [errW_none, errW_some] <;> rfl) | (simp [*, errW_none, errW_some] <;> rfl), by repeat (first | (with_reducible first | exact HB.out | apply below_alloc | apply pw_below_drewN | apply below_drew1 | refine below_set ?_ GE306.out) | exact HB.out)⟩
                                 · replace c79 := Bool.eq_false_iff.mpr c79
                                   subst c79
                                   have H1 : (some false) = some r := by rw [if_neg (show ¬ (false = true) by decide)] at H; exact H
                                   clear H
                                   have H := H1
                                   clear H1
                                   obtain rfl := Option.some.inj H
                                   obtain ⟨Ao88, co88, eo88⟩ := Kd.R_slice HO_22.out
                                   subst eo88
                                   go_wp2_with (first | ((with_reducible refine gate_callee (f := 8) rfl ?_); refine goesL_ (some 153) rfl rfl Tryz.func8 (by kernel_rfl) rfl #[.slice A0 l0.length c0, .slice Ao88 x22_7.length co88] rfl (by (try simp only [List.map_toArray, List.map_cons, List.map_nil]); first | done | rfl | (simp only [List.length_drop, List.length_take]; rfl)) ?_; (with_reducible refine (merit_Eval.calls _ _ l0 _ _ x22_7 t349 t350 _ ?side1 ?side2 ?side3 ?side4 A78.out).mono ?_); (case side1 => repeat (first | exact (Kd.C_below HR0.out HB.out) | (with_reducible refine Kd.C_alloc ?_ _) | (with_reducible refine Kd.C_drewN ?_ _) | (with_reducible refine Kd.C_drew ?_))); (case side2 => exact HC0.out); (case side3 => repeat (first | exact (Kd.R_reads' HO_22.out).2.2 | (with_reducible refine Kd.C_alloc ?_ _) | (with_reducible refine Kd.C_drewN ?_ _) | (with_reducible refine Kd.C_drew ?_))); (case side4 => exact (Kd.R_reads' HO_22.out).2.1); rintro e w89 ⟨rfl, hb⟩; refine ⟨_, rfl, ?_⟩; have n0_ := Aside0.mk (Kd.R_below (by (with_reducible repeat (first | apply Kd.R_alloc | apply Kd.R_drewN | apply Kd.R_drew)); exact HO_10.out) hb); have n1_ := Aside0.mk (Kd.R_below (by (with_reducible repeat (first | apply Kd.R_alloc | apply Kd.R_drewN | apply Kd.R_drew)); exact HO_22.out) hb); have n2_ := Aside0.mk (blk_below (g := gb306) (o := .cells #[.string a2_0, .int .i64 a2_1] 36 (0, 0)) (by (with_reducible repeat (first | refine blk_drewN ?_ _ | refine blk_drew ?_ | refine blk_alloc ?_ _)); exact BK306.out) hb); have n3_ := Aside0.mk (below_step (by repeat (first | (with_reducible first | exact HB.out | apply below_alloc | apply pw_below_drewN | apply below_drew1 | refine below_set ?_ GE306.out) | exact HB.out)) hb); clear HO_10; clear HO_22; clear BK306; clear HB; have HO_10 := n0_; have HO_22 := n1_; have BK306 := n2_; have HB := n3_; clear n0_ n1_ n2_ n3_; (try clear hb); (try clear hb2); (try clear hk); (try clear hi)))
                                   go_ret
                                   exact ⟨by first | rfl | (simp [errW_none, errW_some] <;> rfl) | (simp [*, errW_none, errW_some] <;> rfl), by repeat (first | (with_reducible first | exact HB.out | apply below_alloc | apply pw_below_drewN | apply below_drew1 | refine below_set ?_ GE306.out) | exact HB.out)⟩
                 · rw [if_neg c37] at H
                   exact absurd H (by simp)
               · rw [if_neg c36] at H
                 exact absurd H (by simp)
     · rw [if_neg c18] at H
       have c18b0 : (t312 == 0) = false := beq_eq_false_iff_ne.mpr c18
       have c18b1 : (t312 != 0) = true := bne_iff_ne.mpr c18
       obtain rfl := Option.some.inj H
       go_wp2_with (first | ((with_reducible refine gate_callee (f := 15) rfl ?_); refine goesL_ (some 44) rfl rfl Tryz.func15 (by kernel_rfl) rfl #[.slice A0 l0.length c0] rfl (by (try simp only [List.map_toArray, List.map_cons, List.map_nil]); first | done | rfl | (simp only [List.length_drop, List.length_take]; rfl)) ?_; (with_reducible refine (expr_Names.calls _ _ l0 t311 t312 _ ?side1 ?side2 A16.out).mono ?_); (case side1 => repeat (first | exact (Kd.C_below HR0.out HB.out) | (with_reducible refine Kd.C_alloc ?_ _) | (with_reducible refine Kd.C_drewN ?_ _) | (with_reducible refine Kd.C_drew ?_))); (case side2 => exact HC0.out); rintro e w90 ⟨v313, rfl, ho0, hb⟩; refine ⟨_, rfl, ?_⟩; have n0_ := Aside0.mk (Kd.R_lower ho0 (below_size (by repeat (first | (with_reducible first | exact HB.out | apply below_alloc | apply pw_below_drewN | apply below_drew1 | refine below_set ?_ GE306.out) | exact HB.out)))); have n1_ := Aside0.mk (blk_below (g := gb306) (o := .cells #[.string a2_0, .int .i64 a2_1] 36 (0, 0)) (by (with_reducible repeat (first | refine blk_drewN ?_ _ | refine blk_drew ?_ | refine blk_alloc ?_ _)); exact BK306.out) hb); have n2_ := Aside0.mk (below_step (by repeat (first | (with_reducible first | exact HB.out | apply below_alloc | apply pw_below_drewN | apply below_drew1 | refine below_set ?_ GE306.out) | exact HB.out)) hb); clear BK306; clear HB; have HO314 := n0_; have BK306 := n1_; have HB := n2_; clear n0_ n1_ n2_; (try clear hb); (try clear hb2); (try clear hk); (try clear hi); (try clear ho0)) | ((with_reducible refine gate_callee (f := 8) rfl ?_); refine goesL_ (some 50) rfl rfl Tryz.func8 (by kernel_rfl) rfl #[.slice A0 l0.length c0, .slice A1 l1.length c1] rfl (by (try simp only [List.map_toArray, List.map_cons, List.map_nil]); first | done | rfl | (simp only [List.length_drop, List.length_take]; rfl)) ?_; (with_reducible refine (merit_Eval.calls _ _ l0 _ _ l1 t315 t316 _ ?side1 ?side2 ?side3 ?side4 A17.out).mono ?_); (case side1 => repeat (first | exact (Kd.C_below HR0.out HB.out) | (with_reducible refine Kd.C_alloc ?_ _) | (with_reducible refine Kd.C_drewN ?_ _) | (with_reducible refine Kd.C_drew ?_))); (case side2 => exact HC0.out); (case side3 => repeat (first | exact (Kd.C_below HR1.out HB.out) | (with_reducible refine Kd.C_alloc ?_ _) | (with_reducible refine Kd.C_drewN ?_ _) | (with_reducible refine Kd.C_drew ?_))); (case side4 => exact HC1.out); rintro e w91 ⟨rfl, hb⟩; refine ⟨_, rfl, ?_⟩; have n0_ := Aside0.mk (Kd.R_below (by (with_reducible repeat (first | apply Kd.R_alloc | apply Kd.R_drewN | apply Kd.R_drew)); exact HO314.out) hb); have n1_ := Aside0.mk (blk_below (g := gb306) (o := .cells #[.string a2_0, .int .i64 a2_1] 36 (0, 0)) (by (with_reducible repeat (first | refine blk_drewN ?_ _ | refine blk_drew ?_ | refine blk_alloc ?_ _)); exact BK306.out) hb); have n2_ := Aside0.mk (below_step (by repeat (first | (with_reducible first | exact HB.out | apply below_alloc | apply pw_below_drewN | apply below_drew1 | refine below_set ?_ GE306.out) | exact HB.out)) hb); clear HO314; clear BK306; clear HB; have HO314 := n0_; have BK306 := n1_; have HB := n2_; clear n0_ n1_ n2_; (try clear hb); (try clear hb2); (try clear hk); (try clear hi)))
       go_ret
       exact ⟨by first | rfl | (simp [errW_none, errW_some] <;> rfl) | (simp [*, errW_none, errW_some] <;> rfl), by repeat (first | (with_reducible first | exact HB.out | apply below_alloc | apply pw_below_drewN | apply below_drew1 | refine below_set ?_ GE306.out) | exact HB.out)⟩

end Go.Proofs.YtenecpmonodjaaaGreatDoor.PAll
