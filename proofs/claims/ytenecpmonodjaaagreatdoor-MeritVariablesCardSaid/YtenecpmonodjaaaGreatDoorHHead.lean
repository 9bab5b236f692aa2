/- has, fails (of the laws of layer 23), walked by hand. -/
import Derived.Test.YtenecpmonodjaaaGreatDoorHEval
import Derived.Test.YtenecpmonodjaaaGreatDoorHParser
import Derived.WalkKit
import Derived.Test.YtenecpmonodjaaaGreatDoorPAllx1
namespace Go.Proofs.YtenecpmonodjaaaGreatDoor.PAll
open Go.RowKit Go.Proofs.YtenecpmonodjaaaGreatDoorW.PrintWords Go.Proofs.YtenecpmonodjaaaGreatDoorW.PrintLast Go.Proofs.YtenecpmonodjaaaGreatDoorW.PrintMore
open Go.Proofs.YtenecpmonodjaaaGreatDoor.Obs
set_option linter.unusedVariables false
set_option linter.unusedSimpArgs false

def hasX (s : List UInt8) (l : List S36) (n : Int) : Bool := ((parseX s).2.1 == 0) && ((evalX (parseX s).1 l).2 == 0 && ((evalX (parseX s).1 l).1 == n))
def failsX (s : List UInt8) (l : List S36) (n : Int) : Bool := ((parseX s).2.1 == 0) && ((evalX (parseX s).1 l).2 == n)
def BoolB (r : Bool) (w : World) (e : Ending) (w' : World) : Prop := e = .returned (.bool r) ∧ Below w.heap.size w w'

set_option maxHeartbeats 1000000 in
theorem has_calls (s : ByteArray) (A1 : Option Addr) (c1 : Nat) (l : List S36) (n : Int) (w : World) (hr1 : Kd.C k36 w A1 l.length l) (hc1 : l.length ≤ c1) (hl : l.length ≤ 100000) :
    Calls Tryz.prog 17 #[.string s, .slice A1 l.length c1, .int .i64 n] w (BoolB (hasX s.data.toList l n) w) := by
  have HX := Lib.hid (show hasX s.data.toList l n = (((parseX s.data.toList).2.1 == 0) && ((evalX (parseX s.data.toList).1 l).2 == 0 && ((evalX (parseX s.data.toList).1 l).1 == n))) from rfl)
  go_enter Tryz.func17, Tryz.ntmps17
  go_wp2_with fail
  refine (expr_Parse.calls s _ _ _ _ (show expr_Parse.f s = some ((parseX s.data.toList).1, (parseX s.data.toList).2.1, (parseX s.data.toList).2.2) from rfl)).mono ?_
  generalize parseX s.data.toList = p at HX
  obtain ⟨p0, p1, p2⟩ := p
  simp only at HX
  rintro e w1 ⟨v0, rfl, hr, hb1⟩
  obtain ⟨A, c, rfl, hc, hC⟩ := Kd.R_reads hr
  go_wp2_with fail
  refine (eval_calls A c p0 A1 c1 l w1 hC hc (Kd.C_below hr1 hb1) hc1 hl).mono ?_
  generalize evalX p0 l = q at HX
  obtain ⟨q0, q1⟩ := q
  simp only at HX
  rintro e w2 ⟨rfl, hb2⟩
  have HB := Lib.hid (below_step hb1 hb2)
  clear hb1 hb2 hr hC
  by_cases h1 : p1 = 0
  · have b1 : (p1 == 0) = true := beq_iff_eq.2 h1
    by_cases h2 : q1 = 0
    · have b2 : (q1 == 0) = true := beq_iff_eq.2 h2
      rw [b1, b2] at HX
      clear h1 h2
      go_wp2
      go_ret
      exact ⟨by rw [HX.out]; rfl, HB.out⟩
    · have b2 : (q1 == 0) = false := beq_eq_false_iff_ne.2 h2
      rw [b1, b2] at HX
      clear h1 h2
      go_wp2
      go_ret
      exact ⟨by rw [HX.out]; rfl, HB.out⟩
  · have b1 : (p1 == 0) = false := beq_eq_false_iff_ne.2 h1
    rw [b1] at HX
    clear h1
    go_wp2
    go_ret
    exact ⟨by rw [HX.out]; rfl, HB.out⟩
set_option maxHeartbeats 1000000 in
theorem fails_calls (s : ByteArray) (A1 : Option Addr) (c1 : Nat) (l : List S36) (n : Int) (w : World) (hr1 : Kd.C k36 w A1 l.length l) (hc1 : l.length ≤ c1) (hl : l.length ≤ 100000) :
    Calls Tryz.prog 18 #[.string s, .slice A1 l.length c1, .int .i64 n] w (BoolB (failsX s.data.toList l n) w) := by
  have HX := Lib.hid (show failsX s.data.toList l n = (((parseX s.data.toList).2.1 == 0) && ((evalX (parseX s.data.toList).1 l).2 == n)) from rfl)
  go_enter Tryz.func18, Tryz.ntmps18
  go_wp2_with fail
  refine (expr_Parse.calls s _ _ _ _ (show expr_Parse.f s = some ((parseX s.data.toList).1, (parseX s.data.toList).2.1, (parseX s.data.toList).2.2) from rfl)).mono ?_
  generalize parseX s.data.toList = p at HX
  obtain ⟨p0, p1, p2⟩ := p
  simp only at HX
  rintro e w1 ⟨v0, rfl, hr, hb1⟩
  obtain ⟨A, c, rfl, hc, hC⟩ := Kd.R_reads hr
  go_wp2_with fail
  refine (eval_calls A c p0 A1 c1 l w1 hC hc (Kd.C_below hr1 hb1) hc1 hl).mono ?_
  generalize evalX p0 l = q at HX
  obtain ⟨q0, q1⟩ := q
  simp only at HX
  rintro e w2 ⟨rfl, hb2⟩
  have HB := Lib.hid (below_step hb1 hb2)
  clear hb1 hb2 hr hC
  by_cases h1 : p1 = 0
  · have b1 : (p1 == 0) = true := beq_iff_eq.2 h1
    rw [b1] at HX
    clear h1
    go_wp2
    go_ret
    exact ⟨by rw [HX.out]; rfl, HB.out⟩
  · have b1 : (p1 == 0) = false := beq_eq_false_iff_ne.2 h1
    rw [b1] at HX
    clear h1
    go_wp2
    go_ret
    exact ⟨by rw [HX.out]; rfl, HB.out⟩
theorem has_true (s : ByteArray) (A1 : Option Addr) (c1 : Nat) (l : List S36) (n : Int) (w : World) (h : hasX s.data.toList l n = true) (hr1 : Kd.C k36 w A1 l.length l) (hc1 : l.length ≤ c1) (hl : l.length ≤ 100000) :
    Calls Tryz.prog 17 #[.string s, .slice A1 l.length c1, .int .i64 n] w (BoolB true w) := by
  have := has_calls s A1 c1 l n w hr1 hc1 hl
  rw [h] at this
  exact this
theorem fails_true (s : ByteArray) (A1 : Option Addr) (c1 : Nat) (l : List S36) (n : Int) (w : World) (h : failsX s.data.toList l n = true) (hr1 : Kd.C k36 w A1 l.length l) (hc1 : l.length ≤ c1) (hl : l.length ≤ 100000) :
    Calls Tryz.prog 18 #[.string s, .slice A1 l.length c1, .int .i64 n] w (BoolB true w) := by
  have := fails_calls s A1 c1 l n w hr1 hc1 hl
  rw [h] at this
  exact this
end Go.Proofs.YtenecpmonodjaaaGreatDoor.PAll

/- The chapter's examples (head of the laws of layer 23), walked by hand. -/
namespace Go.Proofs.YtenecpmonodjaaaGreatDoor.PAll
open Go.RowKit Go.Proofs.YtenecpmonodjaaaGreatDoorW.PrintWords Go.Proofs.YtenecpmonodjaaaGreatDoorW.PrintLast Go.Proofs.YtenecpmonodjaaaGreatDoorW.PrintMore
open Go.Proofs.YtenecpmonodjaaaGreatDoor.Obs
set_option linter.unusedVariables false
set_option linter.unusedSimpArgs false

theorem head_h1 : hasX #[97, 103, 101, 32, 42, 32, 49, 48, 32, 45, 32, 97, 105, 114, 109, 97, 115, 115, 32, 47, 32, 51].toList [⟨⟨#[97, 103, 101]⟩, 7⟩, ⟨⟨#[97, 105, 114, 109, 97, 115, 115]⟩, 1000⟩] (-263) = true := by decide +kernel
theorem head_h2 : hasX #[105, 102, 40, 120, 32, 60, 32, 51, 44, 32, 109, 105, 110, 40, 120, 44, 32, 57, 41, 44, 32, 45, 120, 41].toList [⟨⟨#[120]⟩, 2⟩] 2 = true := by decide +kernel
theorem head_h3 : hasX #[105, 102, 40, 120, 32, 60, 32, 51, 44, 32, 109, 105, 110, 40, 120, 44, 32, 57, 41, 44, 32, 45, 120, 41].toList [⟨⟨#[120]⟩, 5⟩] (-5) = true := by decide +kernel
theorem head_h4 : hasX #[45, 55, 32, 47, 32, 50, 32, 43, 32, 55, 32, 47, 32, 48].toList [] (-4) = true := by decide +kernel
theorem head_f1 : failsX #[49, 48, 48, 48, 48, 48, 48, 32, 42, 32, 49, 48, 48, 48, 48, 48, 48, 32, 42, 32, 50].toList [] 9 = true := by decide +kernel
theorem head_f2 : failsX #[120, 32, 43, 32, 121].toList [⟨⟨#[120]⟩, 1⟩] 7 = true := by decide +kernel

/-- A list of variables that the text writes down. -/
theorem vars_lit (W : World) (l : List S36) (cs : List Value) (hl : l.length ≤ 100) (hr : Reps (k36.K (W.alloc (.cells cs.toArray 36))) 2 l cs) : Kd.C k36 (W.alloc (.cells cs.toArray 36)) (some ⟨W.heap.size, 0, none⟩) l.length l := by
  refine ⟨rfl, by omega, fun _ => ⟨_, rfl, fun j p hj => ?_⟩⟩
  have hjl : j < l.length := (List.getElem?_eq_some_iff.1 hj).1
  refine ⟨(cs.drop (j * 2)).take 2, ?_, hr.2 j p hj, fun i u hu => ?_⟩
  · show _ = 2
    rw [List.length_take, List.length_drop, hr.1]; omega
  · rw [show (k36).sz = 2 from rfl]
    rw [add_at, Nat.zero_add, blk_cell (blk_new W _), List.getElem?_toArray]
    rw [List.getElem?_take] at hu
    split at hu
    · rw [List.getElem?_drop] at hu; exact hu
    · cases hu
theorem vars_one (W : World) (x : ByteArray) (n : Int) : Kd.C k36 (W.alloc (.cells #[.string x, .int .i64 n] 36)) (some ⟨W.heap.size, 0, none⟩) 1 [⟨x, n⟩] :=
  vars_lit W [⟨x, n⟩] [.string x, .int .i64 n] (by show 1 ≤ 100; omega) ⟨rfl, fun j p hj => by
    match j, hj with
    | 0, hj => injection hj with hj; subst hj; exact k36_mk _ _⟩
theorem vars_two (W : World) (x y : ByteArray) (n m : Int) : Kd.C k36 (W.alloc (.cells #[.string x, .int .i64 n, .string y, .int .i64 m] 36)) (some ⟨W.heap.size, 0, none⟩) 2 [⟨x, n⟩, ⟨y, m⟩] :=
  vars_lit W [⟨x, n⟩, ⟨y, m⟩] [.string x, .int .i64 n, .string y, .int .i64 m] (by show 2 ≤ 100; omega) ⟨rfl, fun j p hj => by
    match j, hj with
    | 0, hj => injection hj with hj; subst hj; exact k36_mk _ _
    | 1, hj => injection hj with hj; subst hj; exact k36_mk _ _⟩
theorem vars_none (W : World) : Kd.C k36 W none 0 [] := ⟨rfl, by decide, fun h => absurd h (by decide)⟩
def VarsP (x : ByteArray) (n : Int) (w : World) (e : Ending) (w' : World) : Prop := e = .returned (.slice (some ⟨w.heap.size, 0, none⟩) 1 1) ∧ w' = w.alloc (.cells #[.string x, .int .i64 n] 36)
theorem headx_calls (n : Int) (w : World) : Calls Tryz.prog 16 #[.int .i64 n] w (VarsP ⟨#[120]⟩ n w) := by
  go_enter Tryz.func16, Tryz.ntmps16
  go_wp2
  go_ret
  exact ⟨rfl, rfl⟩

def observatorylaw23_head.f : Option Bool := some true
def HeadP (w : World) (e : Ending) (w' : World) : Prop := e = .returned (.bool true) ∧ Below w.heap.size w w'
set_option maxHeartbeats 2000000 in
set_option maxRecDepth 100000 in
theorem head_calls (w : World) : Calls Tryz.prog 6 #[] w (HeadP w) := by
  go_enter Tryz.func6, Tryz.ntmps6
  go_wp2_with fail
  refine (has_true _ _ _ _ _ _ head_h1 (vars_two w _ _ _ _) (Nat.le_refl _) (by decide)).mono ?_
  rintro e w1 ⟨rfl, hb1⟩
  replace hb1 := below_step (below_alloc (Below.refl w.heap.size w) _) hb1
  go_wp2_with fail
  refine (headx_calls 2 _).mono ?_
  rintro e w2 ⟨rfl, rfl⟩
  go_wp2_with fail
  refine (has_true _ _ _ _ _ _ head_h2 (vars_one w1 _ _) (Nat.le_refl _) (by decide)).mono ?_
  rintro e w3 ⟨rfl, hb3⟩
  replace hb3 := below_step (below_alloc hb1 _) hb3
  clear hb1
  go_wp2_with fail
  refine (headx_calls 5 _).mono ?_
  rintro e w2 ⟨rfl, rfl⟩
  go_wp2_with fail
  refine (has_true _ _ _ _ _ _ head_h3 (vars_one w3 _ _) (Nat.le_refl _) (by decide)).mono ?_
  rintro e w5 ⟨rfl, hb5⟩
  replace hb5 := below_step (below_alloc hb3 _) hb5
  clear hb3
  go_wp2_with fail
  refine (has_true _ _ _ [] _ _ head_h4 (vars_none w5) (Nat.le_refl _) (by decide)).mono ?_
  rintro e w6 ⟨rfl, hb6⟩
  replace hb6 := below_step hb5 hb6
  clear hb5
  go_wp2_with fail
  refine (fails_true _ _ _ [] _ _ head_f1 (vars_none w6) (Nat.le_refl _) (by decide)).mono ?_
  rintro e w7 ⟨rfl, hb7⟩
  replace hb7 := below_step hb6 hb7
  clear hb6
  go_wp2_with fail
  refine (headx_calls 1 _).mono ?_
  rintro e w2 ⟨rfl, rfl⟩
  go_wp2_with fail
  refine (fails_true _ _ _ _ _ _ head_f2 (vars_one w7 _ _) (Nat.le_refl _) (by decide)).mono ?_
  rintro e w8 ⟨rfl, hb8⟩
  replace hb8 := below_step (below_alloc hb7 _) hb8
  clear hb7
  go_wp2_with fail
  refine (merit_Clamp.calls 0 1 _ (by decide +kernel)).mono ?_
  rintro e w9 ⟨rfl, hb9⟩
  replace hb8 := below_step hb8 hb9
  clear hb9
  go_wp2_with fail
  refine (merit_Clamp.calls 10001 10000 _ (by decide +kernel)).mono ?_
  rintro e w10 ⟨rfl, hb9⟩
  replace hb8 := below_step hb8 hb9
  clear hb9
  go_wp2_with fail
  refine (merit_Clamp.calls 77 77 _ (by decide +kernel)).mono ?_
  rintro e w11 ⟨rfl, hb9⟩
  replace hb8 := below_step hb8 hb9
  clear hb9
  go_wp2_with fail
  go_ret
  exact ⟨rfl, hb8⟩
theorem observatorylaw23_head.calls (r : Bool) (w : World) (h : observatorylaw23_head.f = some r) :
    Calls Tryz.prog 6 #[] w fun e w' => e = .returned (.bool r) ∧ Below w.heap.size w w' := by
  obtain rfl : true = r := by injection h
  exact head_calls w
end Go.Proofs.YtenecpmonodjaaaGreatDoor.PAll
