/- MeritOperators (of the laws of layer 23), walked by hand: it answers true. -/
import Derived.Test.YtenecpmonodjaaaDoorMeritChoices
import Derived.Test.YtenecpmonodjaaaDoorPAllx4
import Derived.Test.YtenecpmonodjaaaDoorPAllx5
namespace Go.Proofs.YtenecpmonodjaaaDoor.PAll
open Go.RowKit Go.Proofs.YtenecpmonodjaaaDoorW.PrintWords Go.Proofs.YtenecpmonodjaaaDoorW.PrintLast Go.Proofs.YtenecpmonodjaaaDoorW.PrintMore
open Go.Proofs.YtenecpmonodjaaaDoor.Obs
set_option linter.unusedVariables false
set_option linter.unusedSimpArgs false

def opsV : List Int := [3, 4, 5, 6, 7, 8, 10, 11]
def floorV (x y : Int) : Int := (observatorylaw23_floor.f x y).getD 0
def oneV (b : Bool) : Int := if b = true then 1 else 0
def wantV (x y : Int) : List Int := [x + y, x - y, x * y, floorV x y, mn x y, mx x y, oneV (decide (x < y)), oneV (x == y)]
theorem floor_some (x y : Int) : observatorylaw23_floor.f x y = some (floorV x y) := by
  have h : ∃ v, observatorylaw23_floor.f x y = some v := by unfold observatorylaw23_floor.f; (repeat' split) <;> exact ⟨_, rfl⟩
  obtain ⟨v, hv⟩ := h
  unfold floorV
  rw [hv]
  rfl
theorem one_some (b : Bool) : observatorylaw23_one.f b = some (oneV b) := by cases b <;> rfl
theorem one_calls (b : Bool) (w : World) : Calls Tryd.prog 11 #[.bool b] w fun e w' => e = .returned (.int .i64 (oneV b)) ∧ Below w.heap.size w w' := by
  refine (observatorylaw23_one.calls b _ w (one_some b)).mono ?_
  rintro e w' ⟨rfl, ⟨nd, rfl⟩⟩
  exact ⟨rfl, pw_below_drewN (Below.refl _ _) nd⟩
theorem floor_calls (x y : Int) (w : World) : Calls Tryd.prog 10 #[.int .i64 x, .int .i64 y] w fun e w' => e = .returned (.int .i64 (floorV x y)) ∧ Below w.heap.size w w' := by
  refine (observatorylaw23_floor.calls x y _ w (floor_some x y)).mono ?_
  rintro e w' ⟨rfl, ⟨nd, rfl⟩⟩
  exact ⟨rfl, pw_below_drewN (Below.refl _ _) nd⟩
theorem mul_bound (x y : Int) (hx : -1000000000 ≤ x) (hx2 : x ≤ 1000000000) (hy : -1000000000 ≤ y) (hy2 : y ≤ 1000000000) : -1000000000000000000 ≤ x * y ∧ x * y ≤ 1000000000000000000 := by
  have h : (x * y).natAbs ≤ 1000000000 * 1000000000 := by
    rw [Int.natAbs_mul]
    exact Nat.mul_le_mul (by omega) (by omega)
  omega
theorem mul_value (x y : Int) (hx : -1000000000 ≤ x) (hx2 : x ≤ 1000000000) (hy : -1000000000 ≤ y) (hy2 : y ≤ 1000000000) : merit_mul.f x y = some (if (x * y).natAbs ≤ 1000000000000 then x * y else 1000000000001) := by
  have hb := mul_bound x y hx hx2 hy hy2
  have ha : ∀ z : Int, -1000000000 ≤ z → z ≤ 1000000000 → IntKind.u64.wrap (mx z (wrap64 (-z))) = (z.natAbs : Int) := fun z h1 h2 => by
    rw [IntKind.wrap_u64]
    unfold mx wrap64
    split <;> omega
  have hp : ((x.natAbs : Int) * (y.natAbs : Int)) = ((x * y).natAbs : Int) := by rw [Int.natAbs_mul]; rfl
  unfold merit_mul.f merit_abs.f bits_Mul64.f
  simp only [Option.bind_some]
  rw [ha x hx hx2, ha y hy hy2, hp, if_pos (by omega)]
  simp only [Option.bind_some]
  rw [if_neg (by omega)]
  by_cases h : (x * y).natAbs ≤ 1000000000000
  · rw [if_neg (by omega), if_pos h, show wrap64 (x * y) = x * y by unfold wrap64; omega]
  · rw [if_pos (by omega), if_neg h]
theorem len_two (x y : Int) : (([x, y].length : Nat) : Int) = 2 := rfl
theorem want_value (x y : Int) (hx : -1000000000 ≤ x) (hx2 : x ≤ 1000000000) (hy : -1000000000 ≤ y) (hy2 : y ≤ 1000000000) :
    ∀ i : Nat, i < 8 → opsZ (opsV.getD i 0) = 2 ∧ outB (applyZ (opsV.getD i 0) [x, y]) = outB ((wantV x y).getD i 0) ∧ (outB ((wantV x y).getD i 0) = false → applyZ (opsV.getD i 0) [x, y] = (wantV x y).getD i 0) := by
  have r0 : rd [x, y] 0 = x := rfl
  have r1 : rd [x, y] 1 = y := rfl
  have base : ∀ op v, opsZ op = 2 → applyZ op [x, y] = v → opsZ op = 2 ∧ outB (applyZ op [x, y]) = outB v ∧ (outB v = false → applyZ op [x, y] = v) := fun op v h1 h2 => ⟨h1, by rw [h2], fun _ => h2⟩
  have l2 : (0 : Int) < (([x, y].length : Nat) : Int) := by rw [len_two]; decide
  have l3 : (1 : Int) < (([x, y].length : Nat) : Int) := by rw [len_two]; decide
  intro i hi
  match i, hi with
  | 0, _ =>
    refine base 3 (x + y) rfl ?_
    unfold applyZ merit_apply.f
    rw [if_pos rfl, if_pos l2, if_pos l3, r0, r1]
    show wrap64 (x + y) = x + y
    unfold wrap64; omega
  | 1, _ =>
    refine base 4 (x - y) rfl ?_
    unfold applyZ merit_apply.f
    rw [if_neg (by decide), if_pos rfl, if_pos l2, if_pos l3, r0, r1]
    show wrap64 (x - y) = x - y
    unfold wrap64; omega
  | 2, _ =>
    have hv : applyZ 5 [x, y] = if (x * y).natAbs ≤ 1000000000000 then x * y else 1000000000001 := by
      unfold applyZ merit_apply.f
      rw [if_neg (by decide), if_neg (by decide), if_pos rfl, if_pos l2, if_pos l3, r0, r1, mul_value x y hx hx2 hy hy2]
      rfl
    show opsZ 5 = 2 ∧ outB (applyZ 5 [x, y]) = outB (x * y) ∧ (outB (x * y) = false → applyZ 5 [x, y] = x * y)
    rw [hv]
    unfold outB
    by_cases h : (x * y).natAbs ≤ 1000000000000
    · rw [if_pos h]
      exact ⟨rfl, rfl, fun _ => rfl⟩
    · rw [if_neg h]
      have : (decide (x * y < -1000000000000) || decide (1000000000000 < x * y)) = true := by
        rw [Bool.or_eq_true, decide_eq_true_eq, decide_eq_true_eq]; omega
      rw [this]
      exact ⟨rfl, rfl, fun h => by cases h⟩
  | 3, _ =>
    refine base 6 (floorV x y) rfl ?_
    unfold applyZ merit_apply.f
    rw [if_neg (by decide), if_neg (by decide), if_neg (by decide), if_pos rfl, if_pos l2, if_pos l3, r0, r1]
    have : merit_div.f x y = observatorylaw23_floor.f x y := rfl
    rw [this, floor_some]
    rfl
  | 4, _ =>
    refine base 7 (mn x y) rfl ?_
    unfold applyZ merit_apply.f
    rw [if_neg (by decide), if_neg (by decide), if_neg (by decide), if_neg (by decide), if_pos rfl, if_pos l2, if_pos l3, r0, r1]
    rfl
  | 5, _ =>
    refine base 8 (mx x y) rfl ?_
    unfold applyZ merit_apply.f
    rw [if_neg (by decide), if_neg (by decide), if_neg (by decide), if_neg (by decide), if_neg (by decide), if_pos rfl, if_pos l2, if_pos l3, r0, r1]
    rfl
  | 6, _ =>
    refine base 10 (oneV (decide (x < y))) rfl ?_
    unfold applyZ merit_apply.f
    rw [if_neg (by decide), if_neg (by decide), if_neg (by decide), if_neg (by decide), if_neg (by decide), if_neg (by decide), if_pos rfl, if_pos l2, if_pos l3, r0, r1]
    cases decide (x < y) <;> rfl
  | 7, _ =>
    refine base 11 (oneV (x == y)) rfl ?_
    unfold applyZ merit_apply.f
    rw [if_neg (by decide), if_neg (by decide), if_neg (by decide), if_neg (by decide), if_neg (by decide), if_neg (by decide), if_neg (by decide), if_pos rfl, if_pos l2, if_pos l3, r0, r1]
    cases (x == y) <;> rfl
theorem operators_pure (a b : List S53) (l : List S44) (x y : Int) (ha : a.length ≤ 310) (hb : b.length ≤ 310) (ea : evalX a l = (x, 0)) (eb : evalX b l = (y, 0))
    (hx : -1000000000 ≤ x) (hx2 : x ≤ 1000000000) (hy : -1000000000 ≤ y) (hy2 : y ≤ 1000000000) (i : Nat) (hi : i < 8) (hv : validX (aboveL (opsV.getD i 0) [a, b] [] []) = true) :
    evalX (aboveL (opsV.getD i 0) [a, b] [] []) l = if outB ((wantV x y).getD i 0) = true then (0, 9) else ((wantV x y).getD i 0, 0) := by
  obtain ⟨m, ta, hm, ga, rfl, ia, va⟩ := evalX_ok a l x ea
  obtain ⟨m2, tb, hm2, gb, rfl, ib, vb⟩ := evalX_ok b l y eb
  obtain rfl := evalX_same hm hm2
  obtain ⟨h1, h2, h3⟩ := want_value x y hx hx2 hy hy2 i hi
  rw [T.flat_len] at ha hb
  generalize opsV.getD i 0 = op at *
  generalize (wantV x y).getD i 0 = v at *
  rw [above_bin op ta tb (by omega) (by omega)] at hv ⊢
  rw [evalX_tree (.bin op ta tb) l m hm ⟨h1, ga.1, gb.1⟩ hv]
  have hval : vT m (.bin op ta tb) = applyZ op [x, y] := by rw [← va, ← vb]; rfl
  have herr : eT m (.bin op ta tb) = outE (applyZ op [x, y]) := by
    simp only [eT]
    rw [if_pos ia, if_pos ib, hval]
  rw [herr, hval]
  unfold outE
  rw [h2]
  cases ho : outB v with
  | true => rfl
  | false => rw [h3 ho]; rfl

def opsC : Array Value := #[.int .i64 3, .int .i64 4, .int .i64 5, .int .i64 6, .int .i64 7, .int .i64 8, .int .i64 10, .int .i64 11]
def wantC (x y : Int) : Array Value := #[.int .i64 (x + y), .int .i64 (x - y), .int .i64 (wrap64 (x * y)), .int .i64 (floorV x y), .int .i64 (min x y), .int .i64 (max x y), .int .i64 (oneV (decide (x < y))), .int .i64 (oneV (x == y))]
theorem opsC_at (k : Nat) (hk : k < 8) : opsC[k]? = some (.int .i64 (opsV.getD k 0)) := by
  match k, hk with
  | 0, _ => rfl
  | 1, _ => rfl
  | 2, _ => rfl
  | 3, _ => rfl
  | 4, _ => rfl
  | 5, _ => rfl
  | 6, _ => rfl
  | 7, _ => rfl
theorem wantC_at (x y : Int) (hx : -1000000000 ≤ x) (hx2 : x ≤ 1000000000) (hy : -1000000000 ≤ y) (hy2 : y ≤ 1000000000) (k : Nat) (hk : k < 8) : (wantC x y)[k]? = some (.int .i64 ((wantV x y).getD k 0)) := by
  have hm := mul_bound x y hx hx2 hy hy2
  have e1 : wrap64 (x * y) = x * y := by unfold wrap64; omega
  have e2 : mn x y = min x y := by unfold mn; split <;> omega
  have e3 : mx x y = max x y := by unfold mx; split <;> omega
  unfold wantC wantV
  rw [e1, e2, e3]
  match k, hk with
  | 0, _ => rfl
  | 1, _ => rfl
  | 2, _ => rfl
  | 3, _ => rfl
  | 4, _ => rfl
  | 5, _ => rfl
  | 6, _ => rfl
  | 7, _ => rfl
set_option maxHeartbeats 2000000 in
set_option maxRecDepth 100000 in
theorem operators_calls (A0 : Option Addr) (c0 : Nat) (a : List S53) (A1 : Option Addr) (c1 : Nat) (b : List S53) (A3 : Option Addr) (c3 : Nat) (l : List S44) (w : World)
    (h0 : Kd.C k53 w A0 a.length a) (hc0 : a.length ≤ c0) (h1 : Kd.C k53 w A1 b.length b) (hc1 : b.length ≤ c1) (h3 : Kd.C k44 w A3 l.length l) (hc3 : l.length ≤ c3) :
    Calls Tryd.prog 3 #[.slice A0 a.length c0, .slice A1 b.length c1, .slice A3 l.length c3] w (HeadP w) := by
  go_enter Tryd.func3, Tryd.ntmps3
  go_wp2_with fail
  refine (head_calls w).mono ?_
  rintro e w1 ⟨rfl, hb⟩
  go_wp2_with fail
  refine (few_calls A0 c0 a A3 c3 l w1 (Kd.C_below h0 hb) hc0 (Kd.C_below h3 hb) hc3).mono ?_
  rintro e w2 ⟨r1, rfl, hf1, hb2⟩
  replace hb := below_step hb hb2
  clear hb2
  cases r1 with
  | false =>
    go_wp2
    go_ret
    exact ⟨rfl, hb⟩
  | true =>
    obtain ⟨hl, la, ka⟩ := hf1 rfl
    clear hf1
    go_wp2_with fail
    refine (few_none A1 c1 b w2 (Kd.C_below h1 hb) hc1).mono ?_
    rintro e w3 ⟨r2, rfl, hf2, hb2⟩
    replace hb := below_step hb hb2
    clear hb2
    cases r2 with
    | false =>
      go_wp2
      go_ret
      exact ⟨rfl, hb⟩
    | true =>
      obtain ⟨_, lb, kb⟩ := hf2 rfl
      clear hf2
      go_wp2_with fail
      · go_ret
        exact ⟨rfl, hb⟩
      · refine (eval_calls A0 c0 a A3 c3 l w3 (Kd.C_below h0 hb) hc0 (Kd.C_below h3 hb) hc3 (by omega)).mono ?_
        obtain ⟨⟨x, e1⟩, hx⟩ : ∃ p, evalX a l = p := ⟨_, rfl⟩
        rw [hx]
        rintro e w5 ⟨rfl, hb2⟩
        replace hb := below_step hb hb2
        clear hb2
        go_wp2_with fail
        refine (eval_calls A1 c1 b A3 c3 l w5 (Kd.C_below h1 hb) hc1 (Kd.C_below h3 hb) hc3 (by omega)).mono ?_
        obtain ⟨⟨y, e2⟩, hy⟩ : ∃ p, evalX b l = p := ⟨_, rfl⟩
        rw [hy]
        rintro e w6 ⟨rfl, hb2⟩
        replace hb := below_step hb hb2
        clear hb2
        have HPP := Lib.hid (show ∀ (_ : e1 = 0) (_ : e2 = 0), evalX a l = (x, 0) ∧ evalX b l = (y, 0) from fun h1 h2 => ⟨by rw [hx, h1], by rw [hy, h2]⟩)
        clear hx hy
        go_wp2_with fail
        · go_ret
          exact ⟨rfl, hb⟩
        · have hpp := HPP.out (by first | assumption | rfl) (by first | assumption | rfl)
          clear HPP
          refine (floor_calls x y _).mono ?_
          rintro e w7 ⟨rfl, hb2⟩
          obtain ⟨g1, hg1⟩ : ∃ g1, w6.heap.size = g1 := ⟨_, rfl⟩
          have HG1 : w7.heap[g1]? = some (.cells #[.int .i64 3, .int .i64 4, .int .i64 5, .int .i64 6, .int .i64 7, .int .i64 8, .int .i64 10, .int .i64 11] 3 (0, 0)) := by
            rw [hb2.block g1 (by rw [alloc_size]; omega), ← hg1]
            exact blk_new w6 _
          replace hb := below_step (below_alloc hb _) hb2
          clear hb2
          rw [hg1]
          clear hg1
          go_wp2_with fail
          refine (one_calls (decide (x < y)) w7).mono ?_
          rintro e w8 ⟨rfl, hb2⟩
          replace HG1 := (hb2.block g1 (by exact (Array.getElem?_eq_some_iff.1 HG1).1)).trans HG1
          replace hb := below_step hb hb2
          clear hb2
          go_wp2_with fail
          refine (one_calls (x == y) w8).mono ?_
          rintro e w9 ⟨rfl, hb2⟩
          replace HG1 := (hb2.block g1 (by exact (Array.getElem?_eq_some_iff.1 HG1).1)).trans HG1
          replace hb := below_step hb hb2
          clear hb2
          go_wp2_with fail
          obtain ⟨wv, hwv⟩ : ∃ wv : World, w9.alloc (.cells #[.int .i64 (x + y), .int .i64 (x - y), .int .i64 (wrap64 (x * y)), .int .i64 (floorV x y), .int .i64 (min x y), .int .i64 (max x y), .int .i64 (oneV (decide (x < y))), .int .i64 (oneV (x == y))] 3) = wv := ⟨_, rfl⟩
          have HG2 : wv.heap[w9.heap.size]? = some (.cells (wantC x y) 3 (0, 0)) := by rw [← hwv]; exact blk_new w9 _
          replace HG1 : wv.heap[g1]? = some (.cells opsC 3 (0, 0)) := by rw [← hwv]; exact blk_alloc HG1 _
          replace hb : Below w.heap.size w wv := by rw [← hwv]; exact below_alloc hb _
          rw [hwv]
          clear hwv
          generalize w9.heap.size = g2 at HG2 ⊢
          have hxy : -1000000000 ≤ x ∧ x ≤ 1000000000 ∧ -1000000000 ≤ y ∧ y ≤ 1000000000 := by omega
          have HP := Lib.hid (fun k hk hv => operators_pure a b l x y la lb hpp.1 hpp.2 hxy.1 hxy.2.1 hxy.2.2.1 hxy.2.2.2 k hk hv)
          have HW := Lib.hid (fun k hk => wantC_at x y hxy.1 hxy.2.1 hxy.2.2.1 hxy.2.2.2 k hk)
          clear hpp
          have HG1' := Lib.hid HG1
          have HG2' := Lib.hid HG2
          have HB := Lib.hid hb
          clear HG1 HG2 hb
          go_loopw [14, 15, 16, 17] (fun v14 _ _ _ wr => ∃ k : Nat, k ≤ 8 ∧ v14 = .int .i64 k ∧ Aside0 (Below wv.heap.size wv wr)) (fun v14 _ _ _ _ => 8 - (intOf v14).toNat)
          case atStart => exact ⟨0, by omega, rfl, ⟨Below.refl _ _⟩⟩
          case round =>
            obtain ⟨k, hk, rfl, HR⟩ := hrel
            by_cases h8 : k < 8
            · have f1 := (blk_cell (blk_below HG1'.out HR.out) k).trans (opsC_at k h8)
              have f2 := (blk_cell (blk_below HG2'.out HR.out) k).trans (HW.out k h8)
              have hb := below_step HB.out HR.out
              have hpk := HP.out k h8
              obtain ⟨op, hop⟩ : ∃ op, opsV.getD k 0 = op := ⟨_, rfl⟩
              obtain ⟨t, ht⟩ : ∃ t, (wantV x y).getD k 0 = t := ⟨_, rfl⟩
              rw [hop] at f1 hpk
              rw [ht] at f2 hpk
              have HTT := Lib.hid ht
              clear hop ht
              go_wp2_with fail
              refine (above_calls op [a, b] (by show 2 ≤ 10; omega) (by simp only [List.forall_mem_cons]; exact ⟨by omega, by omega, fun _ h => by cases h⟩) (by simp only [List.forall_mem_cons]; exact ⟨fun x hx => by have := ka x hx; omega, fun x hx => by have := kb x hx; omega, fun _ h => by cases h⟩) _ 2 _ (rows_two wr A0 A1 c0 c1 a b (Kd.C_below h0 hb) (Kd.C_below h1 hb) hc0 hc1) (Nat.le_refl _)).mono ?_
              generalize aboveL op [a, b] [] [] = R at hpk
              rintro e w10 ⟨A, cR, rfl, hcR, hR, hb2⟩
              have HR2 := Lib.hid (below_step (below_alloc HR.out _) hb2)
              clear HR hb hb2 f1 f2
              go_wp2_with fail
              refine (valid_calls A cR R w10 hR hcR).mono ?_
              rintro e w11 ⟨rfl, hb2⟩
              have hR2 := Kd.C_below hR hb2
              have HR3 := Lib.hid (below_step HR2.out hb2)
              clear hb2 HR2
              cases hv : validX R with
              | false =>
                clear hpk hv
                go_wp2_with fail
                go_roundw
                case rel => exact ⟨k + 1, by omega, by go_num, ⟨HR3.out⟩⟩
                case measure => simp [intOf]; omega
              | true =>
                have hn := hpk hv
                clear hpk hv
                go_wp2_with fail
                refine (eval_calls A cR R A3 c3 l w11 hR2 hcR (Kd.C_below h3 (below_step HB.out HR3.out)) hc3 (by omega)).mono ?_
                rw [hn]
                clear hn
                have HT := Lib.hid (show outB t = true ↔ (t < -1000000000000 ∨ 1000000000000 < t) by unfold outB; rw [Bool.or_eq_true, decide_eq_true_eq, decide_eq_true_eq])
                cases ho : outB t with
                | true =>
                  rw [if_pos rfl]
                  rintro e w12 ⟨rfl, hb2⟩
                  have hr := below_step HR3.out hb2
                  have f2 := (blk_cell (blk_below HG2'.out hr) k).trans (HW.out k h8)
                  rw [HTT.out] at f2
                  have HR4 := Lib.hid hr
                  have htt := HT.out.1 ho
                  clear hr hb2 HT ho
                  rcases htt with htt | htt
                  · go_wp2_with fail
                    go_roundw
                    case rel => exact ⟨k + 1, by omega, by go_num, ⟨HR4.out⟩⟩
                    case measure => simp [intOf]; omega
                  · go_wp2_with fail
                    go_roundw
                    case rel => exact ⟨k + 1, by omega, by go_num, ⟨HR4.out⟩⟩
                    case measure => simp [intOf]; omega
                | false =>
                  rw [if_neg (by decide)]
                  rintro e w12 ⟨rfl, hb2⟩
                  have hr := below_step HR3.out hb2
                  have f2 := (blk_cell (blk_below HG2'.out hr) k).trans (HW.out k h8)
                  rw [HTT.out] at f2
                  have HR4 := Lib.hid hr
                  have htt : ¬ (t < -1000000000000 ∨ 1000000000000 < t) := fun h => by rw [HT.out.2 h] at ho; cases ho
                  have hlo : -1000000000000 ≤ t := by omega
                  have hhi : t ≤ 1000000000000 := by omega
                  clear hr hb2 HT ho htt
                  go_wp2_with fail
                  go_roundw
                  case rel => exact ⟨k + 1, by omega, by go_num, ⟨HR4.out⟩⟩
                  case measure => simp [intOf]; omega
            · obtain rfl : k = 8 := by omega
              have hb := below_step HB.out HR.out
              go_wp2_with fail
              go_ret
              exact ⟨rfl, hb⟩
        all_goals (go_ret; exact ⟨rfl, hb⟩)
end Go.Proofs.YtenecpmonodjaaaDoor.PAll
