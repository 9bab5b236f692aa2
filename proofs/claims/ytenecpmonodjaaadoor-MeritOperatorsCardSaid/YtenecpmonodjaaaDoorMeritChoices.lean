/- MeritChoices (of the laws of layer 23), walked by hand: it answers true. -/
import Derived.Test.YtenecpmonodjaaaDoorHHead
import Derived.Test.YtenecpmonodjaaaDoorEvalT
import Derived.Test.YtenecpmonodjaaaDoorFew
import Derived.WalkKit
namespace Go.Proofs.YtenecpmonodjaaaDoor.PAll
open Go.RowKit Go.Proofs.YtenecpmonodjaaaDoorW.PrintWords Go.Proofs.YtenecpmonodjaaaDoorW.PrintLast Go.Proofs.YtenecpmonodjaaaDoorW.PrintMore
open Go.Proofs.YtenecpmonodjaaaDoor.Obs
set_option linter.unusedVariables false
set_option linter.unusedSimpArgs false

theorem evalX_same {l : List S44} {m m' : List (List UInt8 × Int)} (h : valsM l [] = some m) (h' : valsM l [] = some m') : m = m' := by rw [h] at h'; injection h'
theorem applyZ_ite (x y z : Int) : applyZ 9 [x, y, z] = if x > 0 then y else z := by
  unfold applyZ merit_apply.f
  rw [if_neg (by decide), if_neg (by decide), if_neg (by decide), if_neg (by decide), if_neg (by decide), if_neg (by decide), if_neg (by decide), if_neg (by decide), if_pos rfl, if_pos (show 0 < (([x, y, z].length : Nat) : Int) by show (0 : Int) < 3; decide)]
  have h1 : rd [x, y, z] 0 = x := rfl
  rw [h1]
  by_cases h : x > 0
  · rw [if_pos h, if_pos h]; rfl
  · rw [if_neg h, if_neg h]; rfl
theorem choices_pure (a b c : List S53) (l : List S44) (x y z : Int) (ha : a.length ≤ 310) (hb : b.length ≤ 310) (hc : c.length ≤ 310)
    (ea : evalX a l = (x, 0)) (eb : evalX b l = (y, 0)) (ec : evalX c l = (z, 0)) (hv : validX (aboveL 9 [a, b, c] [] []) = true) :
    evalX (aboveL 9 [a, b, c] [] []) l = (if x > 0 then y else z, 0) := by
  obtain ⟨m, ta, hm, ga, rfl, ia, va⟩ := evalX_ok a l x ea
  obtain ⟨m2, tb, hm2, gb, rfl, ib, vb⟩ := evalX_ok b l y eb
  obtain ⟨m3, tc, hm3, gc, rfl, ic, vc⟩ := evalX_ok c l z ec
  obtain rfl := evalX_same hm hm2
  obtain rfl := evalX_same hm hm3
  rw [T.flat_len] at ha hb hc
  rw [above_ite ta tb tc (by omega) (by omega) (by omega)] at hv ⊢
  rw [evalX_tree (.ite ta tb tc) l m hm ⟨ga.1, gb.1, gc.1⟩ hv]
  have hval : vT m (.ite ta tb tc) = if x > 0 then y else z := by
    rw [← va, ← vb, ← vc]
    exact applyZ_ite _ _ _
  have herr : eT m (.ite ta tb tc) = 0 := by
    simp only [eT]
    rw [if_pos ia, if_pos ib, if_pos ic, hval]
    unfold outE
    have h1 := vT_in m tb ib
    have h2 := vT_in m tc ic
    rw [vb] at h1
    rw [vc] at h2
    split
    · rw [h1]; rfl
    · rw [h2]; rfl
  rw [if_pos herr, hval]

/-- Three lists in a list that the call writes down. -/
theorem rows_lit (W : World) (ps : List (List S53)) (cs : List Value) (hl : ps.length ≤ 100) (hr : Reps ((Kd.slice 53 k53).K (W.alloc (.cells cs.toArray 23))) 1 ps cs) : Kd.C (Kd.slice 53 k53) (W.alloc (.cells cs.toArray 23)) (some ⟨W.heap.size, 0, none⟩) ps.length ps := by
  refine ⟨rfl, by omega, fun _ => ⟨_, rfl, fun j p hj => ?_⟩⟩
  have hjl : j < ps.length := (List.getElem?_eq_some_iff.1 hj).1
  refine ⟨(cs.drop (j * 1)).take 1, ?_, hr.2 j p hj, fun i u hu => ?_⟩
  · show _ = 1
    rw [List.length_take, List.length_drop, hr.1]; omega
  · rw [show (Kd.slice 53 k53).sz = 1 from rfl]
    rw [add_at, Nat.zero_add, blk_cell (blk_new W _), List.getElem?_toArray]
    rw [List.getElem?_take] at hu
    split at hu
    · rw [List.getElem?_drop] at hu; exact hu
    · cases hu
theorem rows_cell (W : World) (o : Obj) (A : Option Addr) (c : Nat) (xs : List S53) (hC : Kd.C k53 W A xs.length xs) (hc : xs.length ≤ c) : (Kd.slice 53 k53).K (W.alloc o) xs [.slice A xs.length c] :=
  ⟨A, c, rfl, hc, Kd.C_below hC (below_alloc (Below.refl _ _) o)⟩
theorem rows_three (W : World) (A B C : Option Addr) (ca cb cc : Nat) (a b c : List S53) (ha : Kd.C k53 W A a.length a) (hb : Kd.C k53 W B b.length b) (hc : Kd.C k53 W C c.length c) (hca : a.length ≤ ca) (hcb : b.length ≤ cb) (hcc : c.length ≤ cc) :
    Kd.C (Kd.slice 53 k53) (W.alloc (.cells #[.slice A a.length ca, .slice B b.length cb, .slice C c.length cc] 23)) (some ⟨W.heap.size, 0, none⟩) 3 [a, b, c] :=
  rows_lit W [a, b, c] [.slice A a.length ca, .slice B b.length cb, .slice C c.length cc] (by show 3 ≤ 100; omega) ⟨rfl, fun j p hj => by
    match j, hj with
    | 0, hj => injection hj with hj; subst hj; exact rows_cell W _ A ca _ ha hca
    | 1, hj => injection hj with hj; subst hj; exact rows_cell W _ B cb _ hb hcb
    | 2, hj => injection hj with hj; subst hj; exact rows_cell W _ C cc _ hc hcc⟩
theorem rows_two (W : World) (A B : Option Addr) (ca cb : Nat) (a b : List S53) (ha : Kd.C k53 W A a.length a) (hb : Kd.C k53 W B b.length b) (hca : a.length ≤ ca) (hcb : b.length ≤ cb) :
    Kd.C (Kd.slice 53 k53) (W.alloc (.cells #[.slice A a.length ca, .slice B b.length cb] 23)) (some ⟨W.heap.size, 0, none⟩) 2 [a, b] :=
  rows_lit W [a, b] [.slice A a.length ca, .slice B b.length cb] (by show 2 ≤ 100; omega) ⟨rfl, fun j p hj => by
    match j, hj with
    | 0, hj => injection hj with hj; subst hj; exact rows_cell W _ A ca _ ha hca
    | 1, hj => injection hj with hj; subst hj; exact rows_cell W _ B cb _ hb hcb⟩
def AboveP (r : List S53) (w : World) (e : Ending) (w' : World) : Prop := ∃ A c, e = .returned (.slice A r.length c) ∧ r.length ≤ c ∧ Kd.C k53 w' A r.length r ∧ Below w.heap.size w w'
theorem above_calls (op : Int) (ps : List (List S53)) (hn : ps.length ≤ 10) (hp : ∀ p ∈ ps, p.length ≤ 1000) (hk : ∀ p ∈ ps, ∀ x ∈ p, x.f3.length ≤ 1000) (A1 : Option Addr) (c1 : Nat) (w : World) (hr1 : Kd.C (Kd.slice 53 k53) w A1 ps.length ps) (hc1 : ps.length ≤ c1) :
    Calls Tryd.prog 12 #[.int .i64 op, .slice A1 ps.length c1] w (AboveP (aboveL op ps [] []) w) := by
  obtain ⟨k, h⟩ := above_some op ps hn hp hk
  refine (observatorylaw23_above.calls k op A1 c1 ps _ w hr1 hc1 h).mono ?_
  rintro e w' ⟨v, rfl, hs, hb⟩
  obtain ⟨A, c, rfl, hc, hC⟩ := Kd.S_reads hs
  exact ⟨A, c, rfl, hc, hC, hb⟩

set_option maxHeartbeats 2000000 in
set_option maxRecDepth 100000 in
theorem choices_calls (A0 : Option Addr) (c0 : Nat) (a : List S53) (A1 : Option Addr) (c1 : Nat) (b : List S53) (A2 : Option Addr) (c2 : Nat) (c : List S53) (A3 : Option Addr) (c3 : Nat) (l : List S44) (w : World)
    (h0 : Kd.C k53 w A0 a.length a) (hc0 : a.length ≤ c0) (h1 : Kd.C k53 w A1 b.length b) (hc1 : b.length ≤ c1) (h2 : Kd.C k53 w A2 c.length c) (hc2 : c.length ≤ c2) (h3 : Kd.C k44 w A3 l.length l) (hc3 : l.length ≤ c3) :
    Calls Tryd.prog 4 #[.slice A0 a.length c0, .slice A1 b.length c1, .slice A2 c.length c2, .slice A3 l.length c3] w (HeadP w) := by
  go_enter Tryd.func4, Tryd.ntmps4
  go_wp2_with fail
  refine (head_calls w).mono ?_
  rintro e w1 ⟨rfl, hb⟩
  go_wp2_with fail
  refine (few_calls A0 c0 a A3 c3 l w1 (Kd.C_below h0 hb) hc0 (Kd.C_below h3 hb) hc3).mono ?_
  rintro e w2 ⟨r1, rfl, hf1, hb2⟩
  replace hb := below_step hb hb2
  clear hb2
  cases r1 with
  | false =>
    go_wp2
    go_ret
    exact ⟨rfl, hb⟩
  | true =>
    obtain ⟨hl, la, ka⟩ := hf1 rfl
    clear hf1
    go_wp2_with fail
    refine (few_none A1 c1 b w2 (Kd.C_below h1 hb) hc1).mono ?_
    rintro e w3 ⟨r2, rfl, hf2, hb2⟩
    replace hb := below_step hb hb2
    clear hb2
    cases r2 with
    | false =>
      go_wp2
      go_ret
      exact ⟨rfl, hb⟩
    | true =>
      obtain ⟨_, lb, kb⟩ := hf2 rfl
      clear hf2
      go_wp2_with fail
      refine (few_none A2 c2 c w3 (Kd.C_below h2 hb) hc2).mono ?_
      rintro e w4 ⟨r3, rfl, hf3, hb2⟩
      replace hb := below_step hb hb2
      clear hb2
      cases r3 with
      | false =>
        go_wp2
        go_ret
        exact ⟨rfl, hb⟩
      | true =>
        obtain ⟨_, lc, kc⟩ := hf3 rfl
        clear hf3
        go_wp2_with fail
        · go_ret
          exact ⟨rfl, hb⟩
        · refine (eval_calls A0 c0 a A3 c3 l w4 (Kd.C_below h0 hb) hc0 (Kd.C_below h3 hb) hc3 (by omega)).mono ?_
          obtain ⟨⟨x, e1⟩, hx⟩ : ∃ p, evalX a l = p := ⟨_, rfl⟩
          rw [hx]
          rintro e w5 ⟨rfl, hb2⟩
          replace hb := below_step hb hb2
          clear hb2
          go_wp2_with fail
          refine (eval_calls A1 c1 b A3 c3 l w5 (Kd.C_below h1 hb) hc1 (Kd.C_below h3 hb) hc3 (by omega)).mono ?_
          obtain ⟨⟨y, e2⟩, hy⟩ : ∃ p, evalX b l = p := ⟨_, rfl⟩
          rw [hy]
          rintro e w6 ⟨rfl, hb2⟩
          replace hb := below_step hb hb2
          clear hb2
          go_wp2_with fail
          refine (eval_calls A2 c2 c A3 c3 l w6 (Kd.C_below h2 hb) hc2 (Kd.C_below h3 hb) hc3 (by omega)).mono ?_
          obtain ⟨⟨z, e3⟩, hz⟩ : ∃ p, evalX c l = p := ⟨_, rfl⟩
          rw [hz]
          rintro e w7 ⟨rfl, hb2⟩
          replace hb := below_step hb hb2
          clear hb2
          go_wp2_with fail
          refine (above_calls 9 [a, b, c] (by show 3 ≤ 10; omega) (by simp only [List.forall_mem_cons]; exact ⟨by omega, by omega, by omega, fun _ h => by cases h⟩) (by simp only [List.forall_mem_cons]; exact ⟨fun x hx => by have := ka x hx; omega, fun x hx => by have := kb x hx; omega, fun x hx => by have := kc x hx; omega, fun _ h => by cases h⟩) _ 3 _ (rows_three w7 A0 A1 A2 c0 c1 c2 a b c (Kd.C_below h0 hb) (Kd.C_below h1 hb) (Kd.C_below h2 hb) hc0 hc1 hc2) (Nat.le_refl _)).mono ?_
          have hpure := fun (h1 : e1 = 0) (h2 : e2 = 0) (h3 : e3 = 0) => choices_pure a b c l x y z la lb lc (by rw [hx, h1]) (by rw [hy, h2]) (by rw [hz, h3])
          generalize aboveL 9 [a, b, c] [] [] = R at hpure
          rintro e w8 ⟨A, cR, rfl, hcR, hR, hb2⟩
          replace hb := below_step (below_alloc hb _) hb2
          clear hb2
          clear hx hy hz
          have hpp : (e1 = 0 ∧ e2 = 0 ∧ e3 = 0) → validX R = true → evalX R l = (if x > 0 then y else z, 0) := fun h => hpure h.1 h.2.1 h.2.2
          clear hpure
          have HPP := Lib.hid hpp
          clear hpp
          go_wp2_with fail
          · have hpp := HPP.out ⟨by first | assumption | rfl, by first | assumption | rfl, by first | assumption | rfl⟩
            clear HPP
            refine (valid_calls A cR R w8 hR hcR).mono ?_
            rintro e w9 ⟨rfl, hb2⟩
            have hR2 := Kd.C_below hR hb2
            replace hb := below_step hb hb2
            clear hb2
            cases hv : validX R with
            | false =>
              clear hpp
              go_wp2
              go_ret
              exact ⟨rfl, hb⟩
            | true =>
              have hn := hpp hv
              clear hpp hv
              go_wp2_with fail
              refine (eval_calls A cR R A3 c3 l w9 hR2 hcR (Kd.C_below h3 hb) hc3 (by omega)).mono ?_
              rw [hn]
              clear hn
              rintro e w10 ⟨rfl, hb2⟩
              replace hb := below_step hb hb2
              clear hb2
              by_cases hx0 : x > 0
              · rw [if_pos hx0]
                go_wp2_with fail
                all_goals (go_ret; exact ⟨rfl, hb⟩)
              · rw [if_neg hx0]
                go_wp2_with fail
                all_goals (go_ret; exact ⟨rfl, hb⟩)
          all_goals (go_ret; exact ⟨rfl, hb⟩)
end Go.Proofs.YtenecpmonodjaaaDoor.PAll
